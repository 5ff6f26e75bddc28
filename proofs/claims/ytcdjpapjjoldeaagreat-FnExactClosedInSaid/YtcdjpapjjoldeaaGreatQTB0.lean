/-
  Walks, one after the other (part 1).
-/
import Derived.Test.YtcdjpapjjoldeaaGreatQTL2
import Derived.Test.YtcdjpapjjoldeaaGreatProg
import Derived.KernelRfl
set_option linter.unusedSimpArgs false
set_option linter.unusedVariables false
namespace Go.Proofs.YtcdjpapjjoldeaaGreat
open Go X M Tryz
theorem qa : type_of% @X.region := @X.region
theorem qb : type_of% @XL.nil := @XL.nil
theorem qc : type_of% @X.seq := @X.seq
theorem qd : type_of% @runUnderlying22 := @runUnderlying22
theorem qf : type_of% @XL.mv := @XL.mv
theorem qg : type_of% @XL.as := @XL.as
theorem qh : type_of% @XG.op := @XG.op
theorem qi : type_of% @XOp.load1 := @XOp.load1
theorem qj : type_of% @XOp.move := @XOp.move
theorem qk : type_of% @thenQ_ret := @thenQ_ret
theorem ql : type_of% @XOp.indexS := @XOp.indexS
theorem qm : type_of% @FLe.trans := @FLe.trans
theorem qn : type_of% @XOp.fieldP := @XOp.fieldP
theorem qo : type_of% @sizeOf2 := @sizeOf2
theorem qp : type_of% @XL.no := @XL.no
theorem qq : type_of% @XL.yes := @XL.yes
theorem qr : type_of% @sizeOf22 := @sizeOf22
theorem qs : type_of% @retEnd := @retEnd
theorem qt : type_of% @XOp.call := @XOp.call
theorem qu : type_of% @thenQ_exit := @thenQ_exit
theorem qv : type_of% @ones_cons := @ones_cons
theorem qw : type_of% @X.skip := @X.skip
theorem qx : type_of% @X.condD := @X.condD
theorem qy : type_of% @X.ret := @X.ret
theorem qz : type_of% @blockQ_ret := @blockQ_ret
theorem qA : type_of% @runUnderlying75 := @runUnderlying75
theorem qB : type_of% @XOp.loadN := @XOp.loadN
theorem qC : type_of% @XOp.lenS := @XOp.lenS
theorem qD : type_of% @Does.of_X := @Does.of_X
theorem qE : type_of% @Sub.front := @Sub.front
theorem qF : type_of% @X.block := @X.block
theorem qG : type_of% @IntsF.isSl := @IntsF.isSl
theorem qH : type_of% @runUnderlying66 := @runUnderlying66
theorem qI : type_of% @XOp.addR := @XOp.addR
theorem qJ : type_of% @blockQ_exit := @blockQ_exit
theorem qK : type_of% @isAgg2 := @isAgg2
theorem qL : type_of% @XOp.lss := @XOp.lss
theorem qM : type_of% @XOp.buildSlice := @XOp.buildSlice
theorem qN : type_of% @sizeOf31 := @sizeOf31
theorem qO : type_of% @Sub.trans := @Sub.trans
theorem qP : type_of% @isAgg22 := @isAgg22
theorem qQ : type_of% @runUnderlying136 := @runUnderlying136
theorem qR : type_of% @XOp.pickT := @XOp.pickT
theorem qS : type_of% @XOp.pickF := @XOp.pickF
theorem qT : type_of% @XOp.extract := @XOp.extract
theorem qU : type_of% @runUnderlying47 := @runUnderlying47
theorem qV : type_of% @XOp.box := @XOp.box
theorem qW : type_of% @XG.yes := @XG.yes
theorem qX : type_of% @runUnderlying86 := @runUnderlying86
theorem qY : type_of% @XOp.subR := @XOp.subR
theorem qZ : type_of% @one_sl := @one_sl
theorem ja : type_of% @X.exit := @X.exit
theorem jb : type_of% @XOp.storeN := @XOp.storeN
theorem jc : type_of% @XOp.nilCheck := @XOp.nilCheck
theorem jd : type_of% @XG.no := @XG.no
theorem je : type_of% @isAgg31 := @isAgg31
theorem jf : type_of% @ones_nil := @ones_nil
theorem jg : type_of% @sizeOf75 := @sizeOf75
theorem jh : type_of% @sizeOf136 := @sizeOf136
theorem ji : type_of% @XL.weaken := @XL.weaken
theorem jj : type_of% @X.loop := @X.loop
theorem jk : type_of% @zeroValue2 := @zeroValue2
theorem jl : type_of% @sizeOf128 := @sizeOf128
theorem jm : type_of% @XIL.cons := @XIL.cons
theorem jn : type_of% @X.draw := @X.draw
theorem jo : type_of% @XOp.alloc := @XOp.alloc
theorem jp : type_of% @XOp.notB := @XOp.notB
theorem jq : type_of% @XOp.store1 := @XOp.store1
theorem jr : type_of% @zeroValue128 := @zeroValue128
theorem js : type_of% @sizeOf86 := @sizeOf86
theorem jt : type_of% @sizeOf66 := @sizeOf66
theorem ju : type_of% @runUnderlying144 := @runUnderlying144
theorem jv : type_of% @runUnderlying128 := @runUnderlying128
theorem jw : type_of% @XOp.build := @XOp.build
theorem jx : type_of% @sizeOf47 := @sizeOf47
theorem jy : type_of% @runUnderlying123 := @runUnderlying123
theorem jz : type_of% @X.condF := @X.condF
theorem jA : type_of% @X.freezeF := @X.freezeF
theorem jB : type_of% @X.condT := @X.condT
theorem jC : type_of% @runUnderlying31 := @runUnderlying31
theorem jD : type_of% @runUnderlying216 := @runUnderlying216
theorem jE : type_of% @isAgg75 := @isAgg75
theorem jF : type_of% @isAgg66 := @isAgg66
theorem jG : type_of% @isAgg47 := @isAgg47
theorem jH : type_of% @XOp.gtr := @XOp.gtr
theorem jI : type_of% @XOp.eql := @XOp.eql
theorem jJ : type_of% @isSl_lit := @isSl_lit
theorem jK : type_of% @XOp.frzF := @XOp.frzF
theorem jL : type_of% @zeroValue86 := @zeroValue86
theorem jM : type_of% @zeroValue22 := @zeroValue22
theorem jN : type_of% @XOp.notD := @XOp.notD
theorem jO : type_of% @notNil_of_pos := @notNil_of_pos
theorem jP : type_of% @loadNV := @loadNV
theorem jQ : type_of% @runUnderlying142 := @runUnderlying142
theorem jR : type_of% @runUnderlying202 := @runUnderlying202
theorem jS : type_of% @runUnderlying282 := @runUnderlying282
theorem jT : type_of% @XOp.geq := @XOp.geq
theorem jU : type_of% @XOp.indexA := @XOp.indexA
theorem jV : type_of% @runUnderlying195 := @runUnderlying195
theorem jW : type_of% @XOp.append1 := @XOp.append1
theorem jX : type_of% @XOp.sliceI := @XOp.sliceI
theorem jY : type_of% @XL.freezeF := @XL.freezeF
theorem jZ : type_of% @XOp.fieldE := @XOp.fieldE
theorem ya : type_of% @sizeOf3 := @sizeOf3

theorem mixed : prog.follows .mixedOrders = true := by kernel_rfl

/- impl.arityAt -/
theorem arityAt_spec {F : FH} {L : List HP} {arv : Value} {ar : List Int} (har : IntsF F arv ar) {n : Int} (hn : n < (ar.length : Int)) :
    Does prog 202 [.agg #[arv], ii (n)] F (L) (fun v F' L' => (ii (arity ar n) : Value) = v ∧ F = F' ∧ L = L') := by
 refine qD func202 rfl rfl rfl (qc (qa (cX (qV [arv] rfl rfl ?_))))
 intro b1
 refine qg (ii (0)) rfl (qb (qc (qc (qa (qf (ii (n)) rfl (cX (qL rfl rfl (qb ?_))))))))
 refine qx (p := (n : Int) < 0) rfl (fun h1 => ?_) (fun h1 => ?_)
 ·refine qc (qa (qg (ii (0)) rfl (qb (qy (qk (qs (L' := L) [ii (0)] (ii (0)) (.tmp rfl .nil) rfl rF rF (sD sR) ?_))))))
  exact ⟨(vI (by simp [arity, *])), rfl, rfl⟩
 refine qw (qc (qa (cX (qn (0) jC rfl qr (by decide) rfl rfl (cX (qi qP rfl (Rd.own [] rfl rfl) (qf (ii (n)) rfl (cX (ql ((n).toNat) qd qo rfl rfl (by omega) har.slv (by omega) (Nat.mul_one _) (cX (qi qK rfl (har.rd (by omega)) (qg (ii (ar.getD ((n).toNat) 0)) rfl (qb (qy (qs (L' := L) [ii (ar.getD ((n).toNat) 0)] (ii (ar.getD ((n).toNat) 0)) (.tmp rfl .nil) rfl rF rF (sD sR) ?_)))))))))))))))
 exact ⟨(vI (by simp [arity, *])), rfl, rfl⟩

/- impl.SigOk -/
theorem SigOk_spec {F : FH} {L : List HP} {arv : Value} {ar : List Int} (har : IntsF F arv ar) :
    Does prog 91 [.agg #[arv]] F (L) (fun v F' L' => (.bool (sigOk ar) : Value) = v ∧ F = F' ∧ L = L') := by
 refine qD func91 rfl rfl rfl (qc (qa (cX (qV [arv] rfl rfl ?_))))
 intro b1
 refine qg (.bool (false)) rfl (qb (qc (qc (qa (cX (qn (0) jC rfl qr (by decide) rfl rfl (cX (qi qP rfl (Rd.own [] rfl rfl) (cX (qC qd rfl har.slv (cX (qL rfl rfl (qf (.bool (decide (((ar.length : Int) : Int) < 1))) rfl ?_)))))))))))))
 by_cases h1 : ((ar.length : Int) : Int) < 1
 ·refine qp (t := 9) rfl (vT h1) (qp (t := 9) rfl (vT h1) (qp (t := 9) rfl (vT h1) (qp (t := 9) rfl (vT h1) (cX (qR (.bool (true)) (vT h1) rfl (qb (jB rfl (qc (qa (qg (.bool (false)) rfl (qb ?_)))))))))))
  refine qy (qk (qs (L' := L) [.bool (false)] (.bool (false)) (.tmp rfl .nil) rfl rF rF (sD sR) ?_))
  exact ⟨(vB (sigOk_short (by omega))), rfl, rfl⟩
 refine qq (t := 9) rfl (vF h1) (qn (0) jC rfl qr (by decide) rfl rfl (qq (t := 9) rfl (vF h1) (qi qP rfl (Rd.own [] rfl rfl) (qq (t := 9) rfl (vF h1) (qC qd rfl har.slv (qq (t := 9) rfl (vF h1) (jH rfl rfl (cX (qS (.bool (decide (((ar.length : Int) : Int) > 8))) (vF h1) rfl (qb ?_))))))))))
 refine qx (p := ((ar.length : Int) : Int) > 8) rfl (fun h2 => ?_) (fun h2 => ?_)
 ·refine qc (qa (qg (.bool (false)) rfl (qb (qy (qk (qs (L' := L) [.bool (false)] (.bool (false)) (.tmp rfl .nil) rfl rF rF (sD sR) ?_))))))
  exact ⟨(vB (sigOk_short (by omega))), rfl, rfl⟩
 refine qw (qc (qc (qa (cX (qn (0) jC rfl qr (by decide) rfl rfl (cX (qi qP rfl (Rd.own [] rfl rfl) (cX (qC qd rfl har.slv (qf (ii (0)) rfl (qb (qF (jj (α := Nat) (fun k => [(16, arv), (17, ii ((ar.length : Int))), (18, ii ((k : Int)))]) (fun k => cellsH b1 [arv] 31 :: L) (fun k F' => F = F' ∧ (k ≤ ar.length) ∧ (∀ i, i < k → 0 ≤ ar.getD i 0 ∧ ar.getD i 0 ≤ 3)) (fun k => ar.length - k) 0 ⟨rfl, rfl, rfl, ⟨⟩⟩ (sC sR) ⟨rfl, (by omega), (fun i hi => absurd hi (by omega))⟩ ?_)))))))))))))
 rintro k rE _ _ ⟨rfl, hk, hall⟩
 show X _ _ _ _ (envs [(16, arv), (17, ii ((ar.length : Int))), (18, ii ((k : Int)))] rE) _ (cellsH b1 [arv] 31 :: L)
 refine qc (qa (cX (qL rfl rfl (qb (qc ?_)))))
 refine qx (p := (k : Int) < (ar.length : Int)) rfl (fun h3 => ?_) (fun h3 => ?_)
 ·refine qw (qc (qF (qc (qa (cX (ql k qd qo rfl rfl rfl har.slv (by omega) (Nat.mul_one _) (cX (qi qK rfl (har.rd (by omega)) (qg (ii (ar.getD k 0)) rfl (qb (qc (qa (qf (ii (ar.getD k 0)) rfl (cX (qL rfl rfl (qf (.bool (decide ((ar.getD k 0 : Int) < 0))) rfl ?_))))))))))))))))
  by_cases h4 : (ar.getD k 0 : Int) < 0
  ·refine qp (t := 24) rfl (vT h4) (qp (t := 24) rfl (vT h4) (cX (qR (.bool (true)) (vT h4) rfl (qb (jB rfl (qc (qa (qg (.bool (false)) rfl (qb (qy (qz (qk (qk (qz (qk (qs (L' := L) [.bool (false)] (.bool (false)) (.tmp rfl .nil) rfl rF rF (sD sR) ?_))))))))))))))))
   exact ⟨(vB (sigOk_bad (i := k) (by omega) (by omega))), rfl, rfl⟩
  refine qq (t := 24) rfl (vF h4) (qj (ii (ar.getD k 0)) rfl (qq (t := 24) rfl (vF h4) (jH rfl rfl (cX (qS (.bool (decide ((ar.getD k 0 : Int) > 3))) (vF h4) rfl (qb ?_))))))
  refine qx (p := (ar.getD k 0 : Int) > 3) rfl (fun h5 => ?_) (fun h5 => ?_)
  ·refine qc (qa (qg (.bool (false)) rfl (qb (qy (qz (qk (qk (qz (qk (qs (L' := L) [.bool (false)] (.bool (false)) (.tmp rfl .nil) rfl rF rF (sD sR) ?_))))))))))
   exact ⟨(vB (sigOk_bad (i := k) (by omega) (by omega))), rfl, rfl⟩
  refine qw (qa (cX (qI (((k + 1 : Nat) : Int)) rfl rfl (by omega) (by omega) (qf (ii (((k + 1 : Nat) : Int))) rfl (qb ?_)))))
  exact ⟨k + 1, _, FLe.refl _, rF, ⟨rfl, rfl, rfl, ⟨⟩⟩, (sC sR), ⟨rfl, (by omega), (fun i hi => (Nat.lt_or_ge i k).elim (fun h => hall i h) (fun h => by obtain rfl : i = k := (by omega); omega))⟩, (by omega)⟩
 refine ja (qu (qu (qJ (qc (qa (qg (.bool (true)) rfl (qb (qy (qs (L' := L) [.bool (true)] (.bool (true)) (.tmp rfl .nil) rfl rF rF (sD sR) ?_)))))))))
 exact ⟨(vB (sigOk_of (by omega) (by omega) (fun i hi => hall i (by omega)))), rfl, rfl⟩

/- (*impl.cursor).next -/
theorem next_spec {F : FH} {L : List HP} {c p : Nat} {arv : Value} {ar : List Int} (har : IntsF F arv ar) {tv : Value} {t : List Int} (ht : IntsF F tv t) (hb : t.length ≤ 4000000) :
    Does prog 217 [ptr c 0] F (cellsH c [arv, tv, ii ((p : Int))] 216 :: L) (fun v F' L' => F = F' ∧ ((p < t.length ∧ t.getD p 0 < (ar.length : Int) ∧ (ii (arity ar (t.getD p 0)) : Value) = v ∧ cellsH c [arv, tv, ii ((p + 1 : Nat) : Int)] 216 :: L = L') ∨ (¬ (p < t.length ∧ t.getD p 0 < (ar.length : Int)) ∧ (ii (-1) : Value) = v ∧ cellsH c [arv, tv, ii (p : Int)] 216 :: L = L'))) := by
 refine qD func217 rfl rfl rfl (qc (qa (qg (ii (0)) rfl (qb (qc (qc ?_))))))
 by_cases h1 : (p : Int) ≥ (t.length : Int)
 ·refine jn [cellsH c [arv, tv, ii ((p : Int))] 216] L 27 [] [[], [0], [1], [2], [], [4], [5], [6], [7], [3, 8], [9], [10], [10, 11], [10, 12], [10, 13], [10], [10, 15], [10, 16], [10, 17], [10, 14, 18], [10, 19], [10], [10, 21], [10, 22], [10, 23], [10, 24], [10, 25]] (phiL [qe (ptr c 0), qe (ptr c 0), qe (ptr c 2), qe (ii ((p : Int)) : Value), qe (ptr c 0), qe (ptr c 0), qe (ptr c 1), qe tv, qe (ii ((t.length : Int)) : Value), qe (.bool (decide ((p : Int) ≥ (t.length : Int))) : Value), qe (.bool (decide ((p : Int) ≥ (t.length : Int))) : Value), qe undef, qe undef, qe undef, qe undef, qe undef, qe undef, qe undef, qe undef, qe undef, qe undef, qe undef, qe undef, qe undef, qe undef, qe undef, qe undef]) (ownL []) mixed rfl rfl (by kernel_rfl) ?_ ?_
  ·refine pD (fun W R z9 => ?_) ?_
   ·refine qh (qj (ptr c 0) rfl ?_)
    exact ⟨rfl, rfl, rfl⟩
   refine pD (fun W R z9 => ?_) ?_
   ·rw [eS (l := [(0, _)]) ⟨z9 0 rfl, ⟨⟩⟩]
    refine qh (jc rfl ?_)
    exact ⟨rfl, rfl, rfl⟩
   refine pD (fun W R z9 => ?_) ?_
   ·rw [eS (l := [(1, _)]) ⟨z9 1 rfl, ⟨⟩⟩]
    refine qh (qn (2) jD rfl ya (by decide) rfl rfl ?_)
    exact ⟨rfl, rfl, rfl⟩
   refine pD (fun W R z9 => ?_) ?_
   ·rw [eS (l := [(2, _)]) ⟨z9 2 rfl, ⟨⟩⟩]
    refine qh (qi isAgg3 rfl (Rd.own [] rfl rfl) ?_)
    exact ⟨rfl, rfl, rfl⟩
   refine pD (fun W R z9 => ?_) ?_
   ·refine qh (qj (ptr c 0) rfl ?_)
    exact ⟨rfl, rfl, rfl⟩
   refine pD (fun W R z9 => ?_) ?_
   ·rw [eS (l := [(4, _)]) ⟨z9 4 rfl, ⟨⟩⟩]
    refine qh (jc rfl ?_)
    exact ⟨rfl, rfl, rfl⟩
   refine pD (fun W R z9 => ?_) ?_
   ·rw [eS (l := [(5, _)]) ⟨z9 5 rfl, ⟨⟩⟩]
    refine qh (qn (1) jD rfl qr (by decide) rfl rfl ?_)
    exact ⟨rfl, rfl, rfl⟩
   refine pD (fun W R z9 => ?_) ?_
   ·rw [eS (l := [(6, _)]) ⟨z9 6 rfl, ⟨⟩⟩]
    refine qh (qi qP rfl (Rd.own [] rfl rfl) ?_)
    exact ⟨rfl, rfl, rfl⟩
   refine pD (fun W R z9 => ?_) ?_
   ·rw [eS (l := [(7, _)]) ⟨z9 7 rfl, ⟨⟩⟩]
    refine qh (qC qd rfl ht.slv ?_)
    exact ⟨rfl, rfl, rfl⟩
   refine pD (fun W R z9 => ?_) ?_
   ·rw [eS (l := [(3, _), (8, _)]) ⟨z9 3 rfl, z9 8 rfl, ⟨⟩⟩]
    refine qh (jT rfl rfl ?_)
    exact ⟨rfl, rfl, rfl⟩
   refine pD (fun W R z9 => ?_) ?_
   ·rw [eS (l := [(9, _)]) ⟨z9 9 rfl, ⟨⟩⟩]
    refine qh (qj (.bool (decide ((p : Int) ≥ (t.length : Int)))) rfl ?_)
    exact ⟨rfl, rfl, rfl⟩
   refine pD (fun W R z9 => ?_) ?_
   ·rw [eS (l := [(10, _)]) ⟨z9 10 rfl, ⟨⟩⟩]
    exact jd (t := 13) rfl (vT h1) ⟨rfl, rfl, rfl⟩
   refine pD (fun W R z9 => ?_) ?_
   ·rw [eS (l := [(10, _), (11, undef)]) ⟨z9 10 rfl, z9 11 rfl, ⟨⟩⟩]
    exact jd (t := 13) rfl (vT h1) ⟨rfl, rfl, rfl⟩
   refine pD (fun W R z9 => ?_) ?_
   ·rw [eS (l := [(10, _), (12, undef)]) ⟨z9 10 rfl, z9 12 rfl, ⟨⟩⟩]
    exact jd (t := 13) rfl (vT h1) ⟨rfl, rfl, rfl⟩
   refine pD (fun W R z9 => ?_) ?_
   ·rw [eS (l := [(10, _), (13, undef)]) ⟨z9 10 rfl, z9 13 rfl, ⟨⟩⟩]
    exact jd (t := 13) rfl (vT h1) ⟨rfl, rfl, rfl⟩
   refine pD (fun W R z9 => ?_) ?_
   ·rw [eS (l := [(10, _)]) ⟨z9 10 rfl, ⟨⟩⟩]
    exact jd (t := 13) rfl (vT h1) ⟨rfl, rfl, rfl⟩
   refine pD (fun W R z9 => ?_) ?_
   ·rw [eS (l := [(10, _), (15, undef)]) ⟨z9 10 rfl, z9 15 rfl, ⟨⟩⟩]
    exact jd (t := 13) rfl (vT h1) ⟨rfl, rfl, rfl⟩
   refine pD (fun W R z9 => ?_) ?_
   ·rw [eS (l := [(10, _), (16, undef)]) ⟨z9 10 rfl, z9 16 rfl, ⟨⟩⟩]
    exact jd (t := 13) rfl (vT h1) ⟨rfl, rfl, rfl⟩
   refine pD (fun W R z9 => ?_) ?_
   ·rw [eS (l := [(10, _), (17, undef)]) ⟨z9 10 rfl, z9 17 rfl, ⟨⟩⟩]
    exact jd (t := 13) rfl (vT h1) ⟨rfl, rfl, rfl⟩
   refine pD (fun W R z9 => ?_) ?_
   ·rw [eS (l := [(10, _), (14, undef), (18, undef)]) ⟨z9 10 rfl, z9 14 rfl, z9 18 rfl, ⟨⟩⟩]
    exact jd (t := 13) rfl (vT h1) ⟨rfl, rfl, rfl⟩
   refine pD (fun W R z9 => ?_) ?_
   ·rw [eS (l := [(10, _), (19, undef)]) ⟨z9 10 rfl, z9 19 rfl, ⟨⟩⟩]
    exact jd (t := 13) rfl (vT h1) ⟨rfl, rfl, rfl⟩
   refine pD (fun W R z9 => ?_) ?_
   ·rw [eS (l := [(10, _)]) ⟨z9 10 rfl, ⟨⟩⟩]
    exact jd (t := 13) rfl (vT h1) ⟨rfl, rfl, rfl⟩
   refine pD (fun W R z9 => ?_) ?_
   ·rw [eS (l := [(10, _), (21, undef)]) ⟨z9 10 rfl, z9 21 rfl, ⟨⟩⟩]
    exact jd (t := 13) rfl (vT h1) ⟨rfl, rfl, rfl⟩
   refine pD (fun W R z9 => ?_) ?_
   ·rw [eS (l := [(10, _), (22, undef)]) ⟨z9 10 rfl, z9 22 rfl, ⟨⟩⟩]
    exact jd (t := 13) rfl (vT h1) ⟨rfl, rfl, rfl⟩
   refine pD (fun W R z9 => ?_) ?_
   ·rw [eS (l := [(10, _), (23, undef)]) ⟨z9 10 rfl, z9 23 rfl, ⟨⟩⟩]
    exact jd (t := 13) rfl (vT h1) ⟨rfl, rfl, rfl⟩
   refine pD (fun W R z9 => ?_) ?_
   ·rw [eS (l := [(10, _), (24, undef)]) ⟨z9 10 rfl, z9 24 rfl, ⟨⟩⟩]
    exact jd (t := 13) rfl (vT h1) ⟨rfl, rfl, rfl⟩
   refine pD (fun W R z9 => ?_) ?_
   ·rw [eS (l := [(10, _), (25, undef)]) ⟨z9 10 rfl, z9 25 rfl, ⟨⟩⟩]
    exact jd (t := 13) rfl (vT h1) ⟨rfl, rfl, rfl⟩
   exact stepsP.nil
  intro W hphi
  rw [eS (l := [(10, _), (20, undef), (26, undef)]) ⟨(hphi 10 (by decide)), (hphi 20 (by decide)), (hphi 26 (by decide)), ⟨⟩⟩]
  show XL _ _ _ _ _ _ _ (cellsH c [arv, tv, ii ((p : Int))] 216 :: L)
  refine qp (t := 13) rfl (vT h1) (cX (qR (.bool (true)) (vT h1) rfl (qb (jB rfl (qc (qa (qg (ii (-1)) rfl (qb (qy (qk (qs (L' := cellsH c [arv, tv, ii ((p : Int))] 216 :: L) [ii (-1)] (ii (-1)) (.tmp rfl .nil) rfl rF rF (sC sR) ?_)))))))))))
  exact ⟨rfl, .inr ⟨by omega, rfl, rfl⟩⟩
 refine jn [cellsH c [arv, tv, ii ((p : Int))] 216] L 27 [] [[], [0], [1], [2], [], [4], [5], [6], [7], [3, 8], [9], [10], [10, 11], [10, 12], [10, 13], [10], [10, 15], [10, 16], [10, 17], [10, 14, 18], [10, 19], [10], [10, 21], [10, 22], [10, 23], [10, 24], [10, 25]] (phiL [qe (ptr c 0), qe (ptr c 0), qe (ptr c 2), qe (ii ((p : Int)) : Value), qe (ptr c 0), qe (ptr c 0), qe (ptr c 1), qe tv, qe (ii ((t.length : Int)) : Value), qe (.bool (decide ((p : Int) ≥ (t.length : Int))) : Value), qe (.bool (decide ((p : Int) ≥ (t.length : Int))) : Value), qe (ptr c 0), qe (ptr c 0), qe (ptr c 1), qe tv, qe (ptr c 0), qe (ptr c 0), qe (ptr c 2), qe (ii ((p : Int)) : Value), qe (.pointer (some (elemA tv (p)))), qe (ii (t.getD p 0)), qe (ptr c 0), qe (ptr c 0), qe (ptr c 0), qe (ptr c 0), qe arv, qe (ii ((ar.length : Int)) : Value)]) (ownL []) mixed rfl rfl (by kernel_rfl) ?_ ?_
 ·refine pD (fun W R z9 => ?_) ?_
  ·refine qh (qj (ptr c 0) rfl ?_)
   exact ⟨rfl, rfl, rfl⟩
  refine pD (fun W R z9 => ?_) ?_
  ·rw [eS (l := [(0, _)]) ⟨z9 0 rfl, ⟨⟩⟩]
   refine qh (jc rfl ?_)
   exact ⟨rfl, rfl, rfl⟩
  refine pD (fun W R z9 => ?_) ?_
  ·rw [eS (l := [(1, _)]) ⟨z9 1 rfl, ⟨⟩⟩]
   refine qh (qn (2) jD rfl ya (by decide) rfl rfl ?_)
   exact ⟨rfl, rfl, rfl⟩
  refine pD (fun W R z9 => ?_) ?_
  ·rw [eS (l := [(2, _)]) ⟨z9 2 rfl, ⟨⟩⟩]
   refine qh (qi isAgg3 rfl (Rd.own [] rfl rfl) ?_)
   exact ⟨rfl, rfl, rfl⟩
  refine pD (fun W R z9 => ?_) ?_
  ·refine qh (qj (ptr c 0) rfl ?_)
   exact ⟨rfl, rfl, rfl⟩
  refine pD (fun W R z9 => ?_) ?_
  ·rw [eS (l := [(4, _)]) ⟨z9 4 rfl, ⟨⟩⟩]
   refine qh (jc rfl ?_)
   exact ⟨rfl, rfl, rfl⟩
  refine pD (fun W R z9 => ?_) ?_
  ·rw [eS (l := [(5, _)]) ⟨z9 5 rfl, ⟨⟩⟩]
   refine qh (qn (1) jD rfl qr (by decide) rfl rfl ?_)
   exact ⟨rfl, rfl, rfl⟩
  refine pD (fun W R z9 => ?_) ?_
  ·rw [eS (l := [(6, _)]) ⟨z9 6 rfl, ⟨⟩⟩]
   refine qh (qi qP rfl (Rd.own [] rfl rfl) ?_)
   exact ⟨rfl, rfl, rfl⟩
  refine pD (fun W R z9 => ?_) ?_
  ·rw [eS (l := [(7, _)]) ⟨z9 7 rfl, ⟨⟩⟩]
   refine qh (qC qd rfl ht.slv ?_)
   exact ⟨rfl, rfl, rfl⟩
  refine pD (fun W R z9 => ?_) ?_
  ·rw [eS (l := [(3, _), (8, _)]) ⟨z9 3 rfl, z9 8 rfl, ⟨⟩⟩]
   refine qh (jT rfl rfl ?_)
   exact ⟨rfl, rfl, rfl⟩
  refine pD (fun W R z9 => ?_) ?_
  ·rw [eS (l := [(9, _)]) ⟨z9 9 rfl, ⟨⟩⟩]
   refine qh (qj (.bool (decide ((p : Int) ≥ (t.length : Int)))) rfl ?_)
   exact ⟨rfl, rfl, rfl⟩
  refine pD (fun W R z9 => ?_) ?_
  ·rw [eS (l := [(10, _)]) ⟨z9 10 rfl, ⟨⟩⟩]
   refine qW (t := 13) rfl (vF h1) (qj (ptr c 0) rfl ?_)
   exact ⟨rfl, rfl, rfl⟩
  refine pD (fun W R z9 => ?_) ?_
  ·rw [eS (l := [(10, _), (11, _)]) ⟨z9 10 rfl, z9 11 rfl, ⟨⟩⟩]
   refine qW (t := 13) rfl (vF h1) (jc rfl ?_)
   exact ⟨rfl, rfl, rfl⟩
  refine pD (fun W R z9 => ?_) ?_
  ·rw [eS (l := [(10, _), (12, _)]) ⟨z9 10 rfl, z9 12 rfl, ⟨⟩⟩]
   refine qW (t := 13) rfl (vF h1) (qn (1) jD rfl qr (by decide) rfl rfl ?_)
   exact ⟨rfl, rfl, rfl⟩
  refine pD (fun W R z9 => ?_) ?_
  ·rw [eS (l := [(10, _), (13, _)]) ⟨z9 10 rfl, z9 13 rfl, ⟨⟩⟩]
   refine qW (t := 13) rfl (vF h1) (qi qP rfl (Rd.own [] rfl rfl) ?_)
   exact ⟨rfl, rfl, rfl⟩
  refine pD (fun W R z9 => ?_) ?_
  ·rw [eS (l := [(10, _)]) ⟨z9 10 rfl, ⟨⟩⟩]
   refine qW (t := 13) rfl (vF h1) (qj (ptr c 0) rfl ?_)
   exact ⟨rfl, rfl, rfl⟩
  refine pD (fun W R z9 => ?_) ?_
  ·rw [eS (l := [(10, _), (15, _)]) ⟨z9 10 rfl, z9 15 rfl, ⟨⟩⟩]
   refine qW (t := 13) rfl (vF h1) (jc rfl ?_)
   exact ⟨rfl, rfl, rfl⟩
  refine pD (fun W R z9 => ?_) ?_
  ·rw [eS (l := [(10, _), (16, _)]) ⟨z9 10 rfl, z9 16 rfl, ⟨⟩⟩]
   refine qW (t := 13) rfl (vF h1) (qn (2) jD rfl ya (by decide) rfl rfl ?_)
   exact ⟨rfl, rfl, rfl⟩
  refine pD (fun W R z9 => ?_) ?_
  ·rw [eS (l := [(10, _), (17, _)]) ⟨z9 10 rfl, z9 17 rfl, ⟨⟩⟩]
   refine qW (t := 13) rfl (vF h1) (qi isAgg3 rfl (Rd.own [] rfl rfl) ?_)
   exact ⟨rfl, rfl, rfl⟩
  refine pD (fun W R z9 => ?_) ?_
  ·rw [eS (l := [(10, _), (14, _), (18, _)]) ⟨z9 10 rfl, z9 14 rfl, z9 18 rfl, ⟨⟩⟩]
   refine qW (t := 13) rfl (vF h1) (ql p qd qo rfl rfl rfl ht.slv (by omega) (Nat.mul_one _) ?_)
   exact ⟨rfl, rfl, rfl⟩
  refine pD (fun W R z9 => ?_) ?_
  ·rw [eS (l := [(10, _), (19, _)]) ⟨z9 10 rfl, z9 19 rfl, ⟨⟩⟩]
   refine qW (t := 13) rfl (vF h1) (qi qK rfl (ht.rd (by omega)) ?_)
   exact ⟨rfl, rfl, rfl⟩
  refine pD (fun W R z9 => ?_) ?_
  ·rw [eS (l := [(10, _)]) ⟨z9 10 rfl, ⟨⟩⟩]
   refine qW (t := 13) rfl (vF h1) (qj (ptr c 0) rfl ?_)
   exact ⟨rfl, rfl, rfl⟩
  refine pD (fun W R z9 => ?_) ?_
  ·rw [eS (l := [(10, _), (21, _)]) ⟨z9 10 rfl, z9 21 rfl, ⟨⟩⟩]
   refine qW (t := 13) rfl (vF h1) (jc rfl ?_)
   exact ⟨rfl, rfl, rfl⟩
  refine pD (fun W R z9 => ?_) ?_
  ·rw [eS (l := [(10, _), (22, _)]) ⟨z9 10 rfl, z9 22 rfl, ⟨⟩⟩]
   refine qW (t := 13) rfl (vF h1) (qn (0) jD rfl qN (by decide) rfl rfl ?_)
   exact ⟨rfl, rfl, rfl⟩
  refine pD (fun W R z9 => ?_) ?_
  ·rw [eS (l := [(10, _), (23, _)]) ⟨z9 10 rfl, z9 23 rfl, ⟨⟩⟩]
   refine qW (t := 13) rfl (vF h1) (qn (0) jC rfl qr (by decide) rfl rfl ?_)
   exact ⟨rfl, rfl, rfl⟩
  refine pD (fun W R z9 => ?_) ?_
  ·rw [eS (l := [(10, _), (24, _)]) ⟨z9 10 rfl, z9 24 rfl, ⟨⟩⟩]
   refine qW (t := 13) rfl (vF h1) (qi qP rfl (Rd.own [] rfl rfl) ?_)
   exact ⟨rfl, rfl, rfl⟩
  refine pD (fun W R z9 => ?_) ?_
  ·rw [eS (l := [(10, _), (25, _)]) ⟨z9 10 rfl, z9 25 rfl, ⟨⟩⟩]
   refine qW (t := 13) rfl (vF h1) (qC qd rfl har.slv ?_)
   exact ⟨rfl, rfl, rfl⟩
  exact stepsP.nil
 intro W hphi
 rw [eS (l := [(10, _), (20, _), (26, _)]) ⟨(hphi 10 (by decide)), (hphi 20 (by decide)), (hphi 26 (by decide)), ⟨⟩⟩]
 show XL _ _ _ _ _ _ _ (cellsH c [arv, tv, ii ((p : Int))] 216 :: L)
 refine qq (t := 13) rfl (vF h1) (jT rfl rfl (cX (qS (.bool (decide ((t.getD p 0 : Int) ≥ (ar.length : Int)))) (vF h1) rfl (qb ?_))))
 refine qx (p := (t.getD p 0 : Int) ≥ (ar.length : Int)) rfl (fun h2 => ?_) (fun h2 => ?_)
 ·refine qc (qa (qg (ii (-1)) rfl (qb (qy (qk (qs (L' := cellsH c [arv, tv, ii ((p : Int))] 216 :: L) [ii (-1)] (ii (-1)) (.tmp rfl .nil) rfl rF rF (sC sR) ?_))))))
  exact ⟨rfl, .inr ⟨by omega, rfl, rfl⟩⟩
 refine qw (qc (qa (qf (ptr c 0) rfl (cX (jc rfl (cX (qn (2) jD rfl ya (by decide) rfl rfl (cX (qi isAgg3 rfl (Rd.own [] rfl rfl) (cX (qI (((p + 1 : Nat) : Int)) rfl rfl (by omega) (by omega) (cX (jc rfl (cX (qn (2) jD rfl ya (by decide) rfl rfl (cX (jq [] _ [arv, tv, ii (((p + 1 : Nat) : Int))] ya rfl rfl rfl rfl rfl rfl (qb (qc ?_)))))))))))))))))))
 refine jn [cellsH c [arv, tv, ii (((p + 1 : Nat) : Int))] 216] L 15 [] [[], [0], [1], [2], [], [4], [5], [6], [], [8], [9], [10], [11], [7, 12], [13]] (phiL [qe (ptr c 0), qe (ptr c 0), qe (ptr c 0), qe (.agg #[arv]), qe (ptr c 0), qe (ptr c 0), qe (ptr c 1), qe tv, qe (ptr c 0), qe (ptr c 0), qe (ptr c 2), qe (ii (((p + 1 : Nat) : Int)) : Value), qe (ii ((p : Int)) : Value), qe (.pointer (some (elemA tv (p)))), qe (ii (t.getD p 0))]) (ownL []) mixed rfl rfl (by kernel_rfl) ?_ ?_
 ·refine pD (fun W R z9 => ?_) ?_
  ·refine qh (qj (ptr c 0) rfl ?_)
   exact ⟨rfl, rfl, rfl⟩
  refine pD (fun W R z9 => ?_) ?_
  ·rw [eS (l := [(0, _)]) ⟨z9 0 rfl, ⟨⟩⟩]
   refine qh (jc rfl ?_)
   exact ⟨rfl, rfl, rfl⟩
  refine pD (fun W R z9 => ?_) ?_
  ·rw [eS (l := [(1, _)]) ⟨z9 1 rfl, ⟨⟩⟩]
   refine qh (qn (0) jD rfl qN (by decide) rfl rfl ?_)
   exact ⟨rfl, rfl, rfl⟩
  refine pD (fun W R z9 => ?_) ?_
  ·rw [eS (l := [(2, _)]) ⟨z9 2 rfl, ⟨⟩⟩]
   refine qh (qB [arv] je qN rfl rfl (Rd.ownN [] rfl rfl) ?_)
   exact ⟨rfl, rfl, rfl⟩
  refine pD (fun W R z9 => ?_) ?_
  ·refine qh (qj (ptr c 0) rfl ?_)
   exact ⟨rfl, rfl, rfl⟩
  refine pD (fun W R z9 => ?_) ?_
  ·rw [eS (l := [(4, _)]) ⟨z9 4 rfl, ⟨⟩⟩]
   refine qh (jc rfl ?_)
   exact ⟨rfl, rfl, rfl⟩
  refine pD (fun W R z9 => ?_) ?_
  ·rw [eS (l := [(5, _)]) ⟨z9 5 rfl, ⟨⟩⟩]
   refine qh (qn (1) jD rfl qr (by decide) rfl rfl ?_)
   exact ⟨rfl, rfl, rfl⟩
  refine pD (fun W R z9 => ?_) ?_
  ·rw [eS (l := [(6, _)]) ⟨z9 6 rfl, ⟨⟩⟩]
   refine qh (qi qP rfl (Rd.own [] rfl rfl) ?_)
   exact ⟨rfl, rfl, rfl⟩
  refine pD (fun W R z9 => ?_) ?_
  ·refine qh (qj (ptr c 0) rfl ?_)
   exact ⟨rfl, rfl, rfl⟩
  refine pD (fun W R z9 => ?_) ?_
  ·rw [eS (l := [(8, _)]) ⟨z9 8 rfl, ⟨⟩⟩]
   refine qh (jc rfl ?_)
   exact ⟨rfl, rfl, rfl⟩
  refine pD (fun W R z9 => ?_) ?_
  ·rw [eS (l := [(9, _)]) ⟨z9 9 rfl, ⟨⟩⟩]
   refine qh (qn (2) jD rfl ya (by decide) rfl rfl ?_)
   exact ⟨rfl, rfl, rfl⟩
  refine pD (fun W R z9 => ?_) ?_
  ·rw [eS (l := [(10, _)]) ⟨z9 10 rfl, ⟨⟩⟩]
   refine qh (qi isAgg3 rfl (Rd.own [] rfl rfl) ?_)
   exact ⟨rfl, rfl, rfl⟩
  refine pD (fun W R z9 => ?_) ?_
  ·rw [eS (l := [(11, _)]) ⟨z9 11 rfl, ⟨⟩⟩]
   refine qh (qY ((p : Int)) rfl rfl (by omega) (by omega) ?_)
   exact ⟨rfl, rfl, rfl⟩
  refine pD (fun W R z9 => ?_) ?_
  ·rw [eS (l := [(7, _), (12, _)]) ⟨z9 7 rfl, z9 12 rfl, ⟨⟩⟩]
   refine qh (ql p qd qo rfl rfl rfl ht.slv (by omega) (Nat.mul_one _) ?_)
   exact ⟨rfl, rfl, rfl⟩
  refine pD (fun W R z9 => ?_) ?_
  ·rw [eS (l := [(13, _)]) ⟨z9 13 rfl, ⟨⟩⟩]
   refine qh (qi qK rfl (ht.rd (by omega)) ?_)
   exact ⟨rfl, rfl, rfl⟩
  exact stepsP.nil
 intro W hphi
 rw [eS (l := [(3, _), (14, _)]) ⟨(hphi 3 (by decide)), (hphi 14 (by decide)), ⟨⟩⟩]
 show XL _ _ _ _ _ _ _ (cellsH c [arv, tv, ii (((p + 1 : Nat) : Int))] 216 :: L)
 refine cX (qt (args := [.agg #[arv], ii (t.getD p 0)]) call202 rfl (arityAt_spec (n := t.getD p 0) har (hn := (by first | assumption | rfl | omega | simp))) ?_)
 rintro _ _ _ _ ⟨rfl, rfl, rfl⟩
 refine qg (ii (arity ar (t.getD p 0))) rfl (qb (qy (qs (L' := cellsH c [arv, tv, ii (((p + 1 : Nat) : Int))] 216 :: L) [ii (arity ar (t.getD p 0))] (ii (arity ar (t.getD p 0))) (.tmp rfl .nil) rfl rF rF (sC sR) ?_)))
 exact ⟨rfl, .inl ⟨by omega, by omega, rfl, rfl⟩⟩

/- (*impl.cursor).skip -/
theorem skip_spec {F : FH} {L : List HP} {c p0 : Nat} {arv : Value} {ar : List Int} (har : IntsF F arv ar) {tv : Value} {t : List Int} (ht : IntsF F tv t) (hb : t.length ≤ 4000000) (hs : sigOk ar = true) (hp : p0 ≤ t.length) :
    Does prog 179 [ptr c 0] F (cellsH c [arv, tv, ii ((p0 : Int))] 216 :: L) (fun v F' L' => F = F' ∧ ∃ q : Nat, (.bool (endGo ar (t.drop p0) 1).isSome : Value) = v ∧ (∀ e, endGo ar (t.drop p0) 1 = some e → q = p0 + e) ∧ cellsH c [arv, tv, ii (q : Int)] 216 :: L = L') := by
 refine qD func179 rfl rfl rfl (qc (qa (qg (.bool (false)) rfl (qb (qc (qc (qa (qg (ii (1)) rfl (qb (qF (jj (α := Nat × Nat) (fun xQ => [(0, ptr c 0), (3, ii (((xQ.1 : Nat) : Int)))]) (fun xQ => cellsH c [arv, tv, ii (((xQ.2 : Nat) : Int))] 216 :: L) (fun xQ F' => F = F' ∧ (endGo ar (t.drop p0) 1 = (endGo ar (t.drop xQ.2) xQ.1).map (· + (xQ.2 - p0))) ∧ (p0 ≤ xQ.2 ∧ xQ.2 ≤ t.length) ∧ (xQ.1 ≤ 1 + 3 * xQ.2)) (fun xQ => t.length - xQ.2) (1, p0) ⟨rfl, rfl, ⟨⟩⟩ (sC sR) ⟨rfl, (by simp), (by omega), (by omega)⟩ ?_)))))))))))
 rintro ⟨k, p⟩ rE _ _ ⟨rfl, hi, h1, h2⟩
 show X _ _ _ _ (envs [(0, ptr c 0), (3, ii ((k : Int)))] rE) _ (cellsH c [arv, tv, ii ((p : Int))] 216 :: L)
 dsimp only at hi h1 h2
 refine qc (qc (qa (qf (ii ((k : Int))) rfl (cX (jH rfl rfl (qb ?_))))))
 refine qx (p := (k : Int) > 0) rfl (fun h1 => ?_) (fun h1 => ?_)
 ·refine qw (qc (qF (qc (qa (qf (ptr c 0) rfl (cX (qt (args := [ptr c 0]) call217 rfl (next_spec (p := p) har ht (by omega)) ?_)))))))
  rintro _ _ _ _ ⟨rfl, ⟨hn1a, hn1b, rfl, rfl⟩ | ⟨hn1c, rfl, rfl⟩⟩
  ·have hA := arity_le hs hn1b
   refine qg (ii (arity ar ((t).getD p 0))) rfl (qb (qc (qc (qa (qf (ii (arity ar ((t).getD p 0))) rfl (cX (qL rfl rfl (qb ?_))))))))
   refine qx (p := (arity ar ((t).getD p 0) : Int) < 0) rfl (fun h2 => ?_) (fun h2 => ?_)
   ·omega
   refine qw (qa (qf (ii ((k : Int))) rfl (qf (ii (arity ar ((t).getD p 0))) rfl (cX (qI (((k + (arity ar (t.getD p 0)).toNat : Nat) : Int)) rfl rfl (by omega) (by omega) (qg (ii (((k + (arity ar (t.getD p 0)).toNat : Nat) : Int))) rfl (qb (qa (qf (ii (((k + (arity ar (t.getD p 0)).toNat : Nat) : Int))) rfl (cX (qY (((k - 1 + (arity ar (t.getD p 0)).toNat : Nat) : Int)) rfl rfl (by omega) (by omega) (qg (ii (((k - 1 + (arity ar (t.getD p 0)).toNat : Nat) : Int))) rfl (qb ?_)))))))))))))
   exact ⟨(k - 1 + (arity ar (t.getD p 0)).toNat, p + 1), _, FLe.refl _, rF, ⟨rfl, rfl, ⟨⟩⟩, (sC sR), ⟨rfl, (by rw [hi, endGo_step (by omega) (by omega) (by omega), Option.map_map]; congr 1; funext e; simp; omega), (by omega), (by omega)⟩, (by omega)⟩
  refine qg (ii (-1)) rfl (qb (qc (qc (qa (qf (ii (-1)) rfl (cX (qL rfl rfl (qb (jB rfl (qc (qa (qg (.bool (false)) rfl (qb (qy (qk (qz (qk (qk (qz (qk (qs (L' := cellsH c [arv, tv, ii ((p : Int))] 216 :: L) [.bool (false)] (.bool (false)) (.tmp rfl .nil) rfl rF rF (sC sR) ?_)))))))))))))))))))))
  have hz : endGo ar (t.drop p0) 1 = none := by rw [hi, endGo_none (by omega) (by omega)]; rfl
  refine ⟨rfl, p, ?_, ?_, rfl⟩
  · rw [hz]; rfl
  · intro e he; rw [hz] at he; cases he
 refine ja (qu (qu (qJ (qc (qa (qg (.bool (true)) rfl (qb (qy (qs (L' := cellsH c [arv, tv, ii ((p : Int))] 216 :: L) [.bool (true)] (.bool (true)) (.tmp rfl .nil) rfl rF rF (sC sR) ?_)))))))))
 obtain rfl : k = 0 := by omega
 have hz : endGo ar (t.drop p0) 1 = some (p - p0) := by rw [hi]; simp [endGo]
 refine ⟨rfl, p, ?_, ?_, rfl⟩
 · rw [hz]; rfl
 · intro e he; rw [hz] at he; cases he; omega

/- impl.endAt -/
theorem endAt_spec {F : FH} {L : List HP} {arv : Value} {ar : List Int} (har : IntsF F arv ar) {tv : Value} {t : List Int} (ht : IntsF F tv t) {p : Nat} (hs : sigOk ar = true) (hb : t.length ≤ 4000000) (hp : p ≤ t.length) :
    Does prog 112 [.agg #[arv], tv, ii ((p : Int))] F (L) (fun v F' L' => (ii (endZ ar t p) : Value) = v ∧ F = F' ∧ L = L') := by
 refine qD func112 rfl rfl rfl (qc (qa (cX (qV [arv] rfl rfl ?_))))
 intro b1
 refine qg (ii (0)) rfl (qb (qc (qa (cX (qB [arv] je qN rfl rfl (Rd.ownN [] rfl rfl) (qf (tv) rfl (qf (ii ((p : Int))) rfl (cX (jw [arv, tv, ii ((p : Int))] [sN, sN, ii (0)] [(0, 1), (1, 1), (2, 1)] [(0, [arv]), (1, [tv]), (2, [ii ((p : Int))])] jD zeroValue216 rfl (.cons rfl qN (.cons rfl qr (.cons rfl ya PlacesAre.nil))) rfl (.cons rfl (.cons (cells_one (qG ht)) (.cons rfl CellsAre.nil))) (cX (jo [sN, sN, ii (0)] zeroValue216 rfl ?_)))))))))))
 intro b2
 refine cX (jb [] _ [arv, tv, ii ((p : Int))] sizeOf216 rfl rfl rfl (qv (qZ (qG har)) (qv (qZ (qG ht)) (qv rfl jf))) rfl rfl rfl (qb (qc (qc (qa (cX (qt (args := [ptr b2 0]) call179 rfl (skip_spec (p0 := p) har ht (by omega) hs (by omega)) ?_)))))))
 rintro _ _ _ _ ⟨rfl, q1, rfl, hq1, rfl⟩
 refine cX (jp rfl (qb ?_))
 refine X.cond (t := !((endGo ar (t.drop p) 1).isSome)) rfl (fun h1 => ?_) (fun h1 => ?_)
 ·refine qc (qa (qg (ii (-1)) rfl (qb (qy (qk (qs (L' := L) [ii (-1)] (ii (-1)) (.tmp rfl .nil) rfl rF rF (sD (sD sR)) ?_))))))
  exact ⟨(vI (endZ_none (by rw [Bool.eq_false_iff] at *; simpa using h1))), rfl, rfl⟩
 refine qw (qc (qa (cX (qn (2) jD rfl ya (by decide) rfl rfl (cX (qi isAgg3 rfl (Rd.own [] rfl rfl) (qg (ii ((q1 : Int))) rfl (qb (qy (qs (L' := L) [ii ((q1 : Int))] (ii ((q1 : Int))) (.tmp rfl .nil) rfl rF rF (sD (sD sR)) ?_))))))))))
 exact ⟨(vI (endZ_some hq1 (by simpa using h1))), rfl, rfl⟩

/- slices.Min[[]int64,int64] -/
theorem Min_spec {F : FH} {L : List HP} {xsv : Value} {xs : List Int} (hxs : IntsF F xsv xs) (h1 : 1 ≤ xs.length) (hbd : xs.length ≤ 4000000) :
    Does prog 178 [xsv] F (L) (fun v F' L' => (ii (minL xs) : Value) = v ∧ F = F' ∧ L = L') := by
 refine qD func178 rfl rfl rfl (qc (qa (qg (ii (0)) rfl (qb (qc (qc (qa (qf (xsv) rfl (cX (qC qd rfl hxs.slv (cX (qL rfl rfl (qb ?_)))))))))))))
 refine qx (p := ((xs.length : Int) : Int) < 1) rfl (fun h1 => ?_) (fun h1 => ?_)
 ·omega
 refine qw (qc (qa (qf (xsv) rfl (cX (ql 0 qd qo rfl rfl rfl hxs.slv (by omega) (Nat.mul_one _) (cX (qi qK rfl (hxs.rd (by omega)) (qg (ii (xs.getD 0 0)) rfl (qb (qc (qc (qa (qg (ii (1)) rfl (qb (qF (jj (α := Nat) (fun k => [(0, xsv), (3, ii (minL (xs.take k))), (4, ii ((k : Int)))]) (fun k => L) (fun k F' => F = F' ∧ (1 ≤ k ∧ k ≤ xs.length)) (fun k => xs.length - k) 1 ⟨rfl, (vI (minL_take1 (xs := xs) (by omega)).symm), rfl, ⟨⟩⟩ sR ⟨rfl, (by omega)⟩ ?_))))))))))))))))
 rintro k rE _ _ ⟨rfl, hk⟩
 show X _ _ _ _ (envs [(0, xsv), (3, ii (minL (xs.take k))), (4, ii ((k : Int)))] rE) _ (L)
 refine qc (qc (qa (qf (ii ((k : Int))) rfl (qf (xsv) rfl (cX (qC qd rfl hxs.slv (cX (qL rfl rfl (qb ?_)))))))))
 refine qx (p := (k : Int) < (xs.length : Int)) rfl (fun h2 => ?_) (fun h2 => ?_)
 ·refine qw (qc (qF (qa (qf (ii (minL (xs.take k))) rfl (qf (xsv) rfl (qf (ii ((k : Int))) rfl (cX (ql k qd qo rfl rfl rfl hxs.slv (by omega) (Nat.mul_one _) (cX (qi qK rfl (hxs.rd (by omega)) (cX (XOp.min2R (a := minL (xs.take k)) (b := xs.getD k 0) (minL (xs.take (k + 1))) rfl rfl ((minL_step (by omega) (by omega)).symm) (qg (ii (minL (xs.take (k + 1)))) rfl (qb (qa (qf (ii ((k : Int))) rfl ?_))))))))))))))))
  refine cX (qI (((k + 1 : Nat) : Int)) rfl rfl (by omega) (by omega) (qg (ii (((k + 1 : Nat) : Int))) rfl (qb ?_)))
  exact ⟨k + 1, _, FLe.refl _, rF, ⟨rfl, rfl, rfl, ⟨⟩⟩, sR, ⟨rfl, (by omega)⟩, (by omega)⟩
 refine ja (qu (qu (qJ (qc (qa (qf (ii (minL (xs.take k))) rfl (qg (ii (minL (xs.take k))) rfl (qb (qy (qs (L' := L) [ii (minL (xs.take k))] (ii (minL (xs.take k))) (.tmp rfl .nil) rfl rF rF sR ?_))))))))))
 exact ⟨(vI (by rw [minL_take_all (by omega)])), rfl, rfl⟩

/- slices.Equal[[]int64,int64] -/
theorem Equal_spec {F : FH} {L : List HP} {av : Value} {a : List Int} (ha : IntsF F av a) {bv : Value} {b : List Int} (hb : IntsF F bv b) (hbd : a.length ≤ 9223372036854775807 ∨ b.length ≤ 9223372036854775807) :
    Does prog 141 [av, bv] F (L) (fun v F' L' => (.bool (decide (a = b)) : Value) = v ∧ F = F' ∧ L = L') := by
 refine qD func141 rfl rfl rfl (qc (qa (qg (.bool (false)) rfl (qb (qc (qc (qa (qf (av) rfl (cX (qC qd rfl ha.slv (qf (bv) rfl (cX (qC qd rfl hb.slv (cX (XOp.neq rfl rfl (qb ?_))))))))))))))))
 refine qx (p := ((a.length : Int) : Int) ≠ (b.length : Int)) rfl (fun h1 => ?_) (fun h1 => ?_)
 ·refine qc (qa (qg (.bool (false)) rfl (qb (qy (qk (qs (L' := L) [.bool (false)] (.bool (false)) (.tmp rfl .nil) rfl rF rF sR ?_))))))
  exact ⟨(vB (decide_eq_false (fun e => by rw [e] at h1; omega))), rfl, rfl⟩
 refine qw (qc (qc (qa (qf (av) rfl (cX (qC qd rfl ha.slv (qf (ii (0)) rfl (qb (qF (jj (α := Nat) (fun k => [(0, av), (1, bv), (12, ii ((a.length : Int))), (13, ii ((k : Int)))]) (fun k => L) (fun k F' => F = F' ∧ (k ≤ a.length) ∧ (∀ i, i < k → a.getD i 0 = b.getD i 0)) (fun k => a.length - k) 0 ⟨rfl, rfl, rfl, rfl, ⟨⟩⟩ sR ⟨rfl, (by omega), (fun i hi => absurd hi (by omega))⟩ ?_))))))))))
 rintro k rE _ _ ⟨rfl, hk, hall⟩
 show X _ _ _ _ (envs [(0, av), (1, bv), (12, ii ((a.length : Int))), (13, ii ((k : Int)))] rE) _ (L)
 refine qc (qa (cX (qL rfl rfl (qb (qc ?_)))))
 refine qx (p := (k : Int) < (a.length : Int)) rfl (fun h2 => ?_) (fun h2 => ?_)
 ·refine qw (qc (qF (qc (qa (qf (ii ((k : Int))) rfl (qg (ii ((k : Int))) rfl (qb (qc ?_))))))))
  refine jn [] L 8 [] [[], [], [0, 1], [2], [], [], [4, 5], [6]] (phiL [qe av, qe (ii ((k : Int)) : Value), qe (.pointer (some (elemA av (k)))), qe (ii (a.getD k 0)), qe bv, qe (ii ((k : Int)) : Value), qe (.pointer (some (elemA bv (k)))), qe (ii (b.getD k 0))]) (ownL []) mixed rfl rfl (by kernel_rfl) ?_ ?_
  ·refine pD (fun W R z9 => ?_) ?_
   ·refine qh (qj (av) rfl ?_)
    exact ⟨rfl, rfl, rfl⟩
   refine pD (fun W R z9 => ?_) ?_
   ·refine qh (qj (ii ((k : Int))) rfl ?_)
    exact ⟨rfl, rfl, rfl⟩
   refine pD (fun W R z9 => ?_) ?_
   ·rw [eS (l := [(0, _), (1, _)]) ⟨z9 0 rfl, z9 1 rfl, ⟨⟩⟩]
    refine qh (ql k qd qo rfl rfl rfl ha.slv (by omega) (Nat.mul_one _) ?_)
    exact ⟨rfl, rfl, rfl⟩
   refine pD (fun W R z9 => ?_) ?_
   ·rw [eS (l := [(2, _)]) ⟨z9 2 rfl, ⟨⟩⟩]
    refine qh (qi qK rfl (ha.rd (by omega)) ?_)
    exact ⟨rfl, rfl, rfl⟩
   refine pD (fun W R z9 => ?_) ?_
   ·refine qh (qj (bv) rfl ?_)
    exact ⟨rfl, rfl, rfl⟩
   refine pD (fun W R z9 => ?_) ?_
   ·refine qh (qj (ii ((k : Int))) rfl ?_)
    exact ⟨rfl, rfl, rfl⟩
   refine pD (fun W R z9 => ?_) ?_
   ·rw [eS (l := [(4, _), (5, _)]) ⟨z9 4 rfl, z9 5 rfl, ⟨⟩⟩]
    refine qh (ql k qd qo rfl rfl rfl hb.slv (by omega) (Nat.mul_one _) ?_)
    exact ⟨rfl, rfl, rfl⟩
   refine pD (fun W R z9 => ?_) ?_
   ·rw [eS (l := [(6, _)]) ⟨z9 6 rfl, ⟨⟩⟩]
    refine qh (qi qK rfl (hb.rd (by omega)) ?_)
    exact ⟨rfl, rfl, rfl⟩
   exact stepsP.nil
  intro W hphi
  rw [eS (l := [(3, _), (7, _)]) ⟨(hphi 3 (by decide)), (hphi 7 (by decide)), ⟨⟩⟩]
  show XL _ _ _ _ _ _ _ (L)
  refine cX (XOp.neq rfl rfl (qb ?_))
  refine qx (p := (a.getD k 0 : Int) ≠ b.getD k 0) rfl (fun h3 => ?_) (fun h3 => ?_)
  ·refine qc (qa (qg (.bool (false)) rfl (qb (qy (qz (qk (qk (qz (qk (qs (L' := L) [.bool (false)] (.bool (false)) (.tmp rfl .nil) rfl rF rF sR ?_))))))))))
   exact ⟨(vB (decide_eq_false (ne_of_getD (i := k) (by omega)))), rfl, rfl⟩
  refine qw (qa (cX (qI (((k + 1 : Nat) : Int)) rfl rfl (by omega) (by omega) (qf (ii (((k + 1 : Nat) : Int))) rfl (qb ?_)))))
  exact ⟨k + 1, _, FLe.refl _, rF, ⟨rfl, rfl, rfl, rfl, ⟨⟩⟩, sR, ⟨rfl, (by omega), (fun i hi => (Nat.lt_or_ge i k).elim (fun h => hall i h) (fun h => by obtain rfl : i = k := (by omega); omega))⟩, (by omega)⟩
 refine ja (qu (qu (qJ (qc (qa (qg (.bool (true)) rfl (qb (qy (qs (L' := L) [.bool (true)] (.bool (true)) (.tmp rfl .nil) rfl rF rF sR ?_)))))))))
 exact ⟨(vB (decide_eq_true (ext_getD (by omega) (fun i hi => hall i (by omega))))), rfl, rfl⟩

/- spec.SameTerm -/
theorem SameTerm_spec {F : FH} {L : List HP} {av : Value} {a : List Int} (ha : IntsF F av a) {bv : Value} {b : List Int} (hb : IntsF F bv b) (hbd : a.length ≤ 9223372036854775807 ∨ b.length ≤ 9223372036854775807) :
    Does prog 32 [av, bv] F (L) (fun v F' L' => (.bool (decide (a = b)) : Value) = v ∧ F = F' ∧ L = L') := by
 refine qD func32 rfl rfl rfl (qc (qa (qg (.bool (false)) rfl (qb (qc (qc (qa (qf (av) rfl (cX (qC qd rfl ha.slv (qf (bv) rfl (cX (qC qd rfl hb.slv (cX (XOp.neq rfl rfl (qb ?_))))))))))))))))
 refine qx (p := ((a.length : Int) : Int) ≠ (b.length : Int)) rfl (fun h1 => ?_) (fun h1 => ?_)
 ·refine qc (qa (qg (.bool (false)) rfl (qb (qy (qk (qs (L' := L) [.bool (false)] (.bool (false)) (.tmp rfl .nil) rfl rF rF sR ?_))))))
  exact ⟨(vB (decide_eq_false (fun e => by rw [e] at h1; omega))), rfl, rfl⟩
 refine qw (qc (qc (qa (qg (ii (0)) rfl (qb (qF (jj (α := Nat) (fun k => [(0, av), (1, bv), (5, ii ((k : Int)))]) (fun k => L) (fun k F' => F = F' ∧ (k ≤ a.length) ∧ (∀ i, i < k → a.getD i 0 = b.getD i 0)) (fun k => a.length - k) 0 ⟨rfl, rfl, rfl, ⟨⟩⟩ sR ⟨rfl, (by omega), (fun i hi => absurd hi (by omega))⟩ ?_)))))))
 rintro k rE _ _ ⟨rfl, hk, hall⟩
 show X _ _ _ _ (envs [(0, av), (1, bv), (5, ii ((k : Int)))] rE) _ (L)
 refine qc (qc (qa (qf (ii ((k : Int))) rfl (qf (av) rfl (cX (qC qd rfl ha.slv (cX (qL rfl rfl (qb ?_)))))))))
 refine qx (p := (k : Int) < (a.length : Int)) rfl (fun h2 => ?_) (fun h2 => ?_)
 ·refine qw (qc (qF (qc ?_)))
  refine jn [] L 8 [] [[], [], [0, 1], [2], [], [], [4, 5], [6]] (phiL [qe av, qe (ii ((k : Int)) : Value), qe (.pointer (some (elemA av (k)))), qe (ii (a.getD k 0)), qe bv, qe (ii ((k : Int)) : Value), qe (.pointer (some (elemA bv (k)))), qe (ii (b.getD k 0))]) (ownL []) mixed rfl rfl (by kernel_rfl) ?_ ?_
  ·refine pD (fun W R z9 => ?_) ?_
   ·refine qh (qj (av) rfl ?_)
    exact ⟨rfl, rfl, rfl⟩
   refine pD (fun W R z9 => ?_) ?_
   ·refine qh (qj (ii ((k : Int))) rfl ?_)
    exact ⟨rfl, rfl, rfl⟩
   refine pD (fun W R z9 => ?_) ?_
   ·rw [eS (l := [(0, _), (1, _)]) ⟨z9 0 rfl, z9 1 rfl, ⟨⟩⟩]
    refine qh (ql k qd qo rfl rfl rfl ha.slv (by omega) (Nat.mul_one _) ?_)
    exact ⟨rfl, rfl, rfl⟩
   refine pD (fun W R z9 => ?_) ?_
   ·rw [eS (l := [(2, _)]) ⟨z9 2 rfl, ⟨⟩⟩]
    refine qh (qi qK rfl (ha.rd (by omega)) ?_)
    exact ⟨rfl, rfl, rfl⟩
   refine pD (fun W R z9 => ?_) ?_
   ·refine qh (qj (bv) rfl ?_)
    exact ⟨rfl, rfl, rfl⟩
   refine pD (fun W R z9 => ?_) ?_
   ·refine qh (qj (ii ((k : Int))) rfl ?_)
    exact ⟨rfl, rfl, rfl⟩
   refine pD (fun W R z9 => ?_) ?_
   ·rw [eS (l := [(4, _), (5, _)]) ⟨z9 4 rfl, z9 5 rfl, ⟨⟩⟩]
    refine qh (ql k qd qo rfl rfl rfl hb.slv (by omega) (Nat.mul_one _) ?_)
    exact ⟨rfl, rfl, rfl⟩
   refine pD (fun W R z9 => ?_) ?_
   ·rw [eS (l := [(6, _)]) ⟨z9 6 rfl, ⟨⟩⟩]
    refine qh (qi qK rfl (hb.rd (by omega)) ?_)
    exact ⟨rfl, rfl, rfl⟩
   exact stepsP.nil
  intro W hphi
  rw [eS (l := [(3, _), (7, _)]) ⟨(hphi 3 (by decide)), (hphi 7 (by decide)), ⟨⟩⟩]
  show XL _ _ _ _ _ _ _ (L)
  refine cX (XOp.neq rfl rfl (qb ?_))
  refine qx (p := (a.getD k 0 : Int) ≠ b.getD k 0) rfl (fun h3 => ?_) (fun h3 => ?_)
  ·refine qc (qa (qg (.bool (false)) rfl (qb (qy (qz (qk (qk (qz (qk (qs (L' := L) [.bool (false)] (.bool (false)) (.tmp rfl .nil) rfl rF rF sR ?_))))))))))
   exact ⟨(vB (decide_eq_false (ne_of_getD (i := k) (by omega)))), rfl, rfl⟩
  refine qw (qa (qf (ii ((k : Int))) rfl (cX (qI (((k + 1 : Nat) : Int)) rfl rfl (by omega) (by omega) (qg (ii (((k + 1 : Nat) : Int))) rfl (qb ?_))))))
  exact ⟨k + 1, _, FLe.refl _, rF, ⟨rfl, rfl, rfl, ⟨⟩⟩, sR, ⟨rfl, (by omega), (fun i hi => (Nat.lt_or_ge i k).elim (fun h => hall i h) (fun h => by obtain rfl : i = k := (by omega); omega))⟩, (by omega)⟩
 refine ja (qu (qu (qJ (qc (qa (qg (.bool (true)) rfl (qb (qy (qs (L' := L) [.bool (true)] (.bool (true)) (.tmp rfl .nil) rfl rF rF sR ?_)))))))))
 exact ⟨(vB (decide_eq_true (ext_getD (by omega) (fun i hi => hall i (by omega))))), rfl, rfl⟩

/- laws.eqInt64S -/
theorem eqInt64S_spec {F : FH} {L : List HP} {av : Value} {a : List Int} (ha : IntsF F av a) {bv : Value} {b : List Int} (hb : IntsF F bv b) (hbd : a.length ≤ 9223372036854775807 ∨ b.length ≤ 9223372036854775807) :
    Does prog 12 [av, bv] F (L) (fun v F' L' => (.bool (decide (a = b)) : Value) = v ∧ F = F' ∧ L = L') := by
 refine qD func12 rfl rfl rfl (qc (qa (qg (.bool (false)) rfl (qb (qc (qc (qa (qf (av) rfl (cX (qC qd rfl ha.slv (qf (bv) rfl (cX (qC qd rfl hb.slv (cX (XOp.neq rfl rfl (qb ?_))))))))))))))))
 refine qx (p := ((a.length : Int) : Int) ≠ (b.length : Int)) rfl (fun h1 => ?_) (fun h1 => ?_)
 ·refine qc (qa (qg (.bool (false)) rfl (qb (qy (qk (qs (L' := L) [.bool (false)] (.bool (false)) (.tmp rfl .nil) rfl rF rF sR ?_))))))
  exact ⟨(vB (decide_eq_false (fun e => by rw [e] at h1; omega))), rfl, rfl⟩
 refine qw (qc (qc (qa (qg (ii (0)) rfl (qb (qF (jj (α := Nat) (fun k => [(0, av), (1, bv), (5, ii ((k : Int)))]) (fun k => L) (fun k F' => F = F' ∧ (k ≤ a.length) ∧ (∀ i, i < k → a.getD i 0 = b.getD i 0)) (fun k => a.length - k) 0 ⟨rfl, rfl, rfl, ⟨⟩⟩ sR ⟨rfl, (by omega), (fun i hi => absurd hi (by omega))⟩ ?_)))))))
 rintro k rE _ _ ⟨rfl, hk, hall⟩
 show X _ _ _ _ (envs [(0, av), (1, bv), (5, ii ((k : Int)))] rE) _ (L)
 refine qc (qc (qa (qf (ii ((k : Int))) rfl (qf (av) rfl (cX (qC qd rfl ha.slv (cX (qL rfl rfl (qb ?_)))))))))
 refine qx (p := (k : Int) < (a.length : Int)) rfl (fun h2 => ?_) (fun h2 => ?_)
 ·refine qw (qc (qF (qc ?_)))
  refine jn [] L 8 [] [[], [], [0, 1], [2], [], [], [4, 5], [6]] (phiL [qe av, qe (ii ((k : Int)) : Value), qe (.pointer (some (elemA av (k)))), qe (ii (a.getD k 0)), qe bv, qe (ii ((k : Int)) : Value), qe (.pointer (some (elemA bv (k)))), qe (ii (b.getD k 0))]) (ownL []) mixed rfl rfl (by kernel_rfl) ?_ ?_
  ·refine pD (fun W R z9 => ?_) ?_
   ·refine qh (qj (av) rfl ?_)
    exact ⟨rfl, rfl, rfl⟩
   refine pD (fun W R z9 => ?_) ?_
   ·refine qh (qj (ii ((k : Int))) rfl ?_)
    exact ⟨rfl, rfl, rfl⟩
   refine pD (fun W R z9 => ?_) ?_
   ·rw [eS (l := [(0, _), (1, _)]) ⟨z9 0 rfl, z9 1 rfl, ⟨⟩⟩]
    refine qh (ql k qd qo rfl rfl rfl ha.slv (by omega) (Nat.mul_one _) ?_)
    exact ⟨rfl, rfl, rfl⟩
   refine pD (fun W R z9 => ?_) ?_
   ·rw [eS (l := [(2, _)]) ⟨z9 2 rfl, ⟨⟩⟩]
    refine qh (qi qK rfl (ha.rd (by omega)) ?_)
    exact ⟨rfl, rfl, rfl⟩
   refine pD (fun W R z9 => ?_) ?_
   ·refine qh (qj (bv) rfl ?_)
    exact ⟨rfl, rfl, rfl⟩
   refine pD (fun W R z9 => ?_) ?_
   ·refine qh (qj (ii ((k : Int))) rfl ?_)
    exact ⟨rfl, rfl, rfl⟩
   refine pD (fun W R z9 => ?_) ?_
   ·rw [eS (l := [(4, _), (5, _)]) ⟨z9 4 rfl, z9 5 rfl, ⟨⟩⟩]
    refine qh (ql k qd qo rfl rfl rfl hb.slv (by omega) (Nat.mul_one _) ?_)
    exact ⟨rfl, rfl, rfl⟩
   refine pD (fun W R z9 => ?_) ?_
   ·rw [eS (l := [(6, _)]) ⟨z9 6 rfl, ⟨⟩⟩]
    refine qh (qi qK rfl (hb.rd (by omega)) ?_)
    exact ⟨rfl, rfl, rfl⟩
   exact stepsP.nil
  intro W hphi
  rw [eS (l := [(3, _), (7, _)]) ⟨(hphi 3 (by decide)), (hphi 7 (by decide)), ⟨⟩⟩]
  show XL _ _ _ _ _ _ _ (L)
  refine cX (XOp.neq rfl rfl (qb ?_))
  refine qx (p := (a.getD k 0 : Int) ≠ b.getD k 0) rfl (fun h3 => ?_) (fun h3 => ?_)
  ·refine qc (qa (qg (.bool (false)) rfl (qb (qy (qz (qk (qk (qz (qk (qs (L' := L) [.bool (false)] (.bool (false)) (.tmp rfl .nil) rfl rF rF sR ?_))))))))))
   exact ⟨(vB (decide_eq_false (ne_of_getD (i := k) (by omega)))), rfl, rfl⟩
  refine qw (qa (qf (ii ((k : Int))) rfl (cX (qI (((k + 1 : Nat) : Int)) rfl rfl (by omega) (by omega) (qg (ii (((k + 1 : Nat) : Int))) rfl (qb ?_))))))
  exact ⟨k + 1, _, FLe.refl _, rF, ⟨rfl, rfl, rfl, ⟨⟩⟩, sR, ⟨rfl, (by omega), (fun i hi => (Nat.lt_or_ge i k).elim (fun h => hall i h) (fun h => by obtain rfl : i = k := (by omega); omega))⟩, (by omega)⟩
 refine ja (qu (qu (qJ (qc (qa (qg (.bool (true)) rfl (qb (qy (qs (L' := L) [.bool (true)] (.bool (true)) (.tmp rfl .nil) rfl rF rF sR ?_)))))))))
 exact ⟨(vB (decide_eq_true (ext_getD (by omega) (fun i hi => hall i (by omega))))), rfl, rfl⟩

/- slices.Index[[]int64,int64] -/
theorem Index_spec {F : FH} {L : List HP} {xsv : Value} {xs : List Int} (hxs : IntsF F xsv xs) {n : Int} (hbd : xs.length ≤ 9223372036854775807) :
    Does prog 186 [xsv, ii (n)] F (L) (fun v F' L' => (ii (indexZ xs n) : Value) = v ∧ F = F' ∧ L = L') := by
 refine qD func186 rfl rfl rfl (qc (qa (qg (ii (0)) rfl (qb (qc (qc (qa (qf (xsv) rfl (cX (qC qd rfl hxs.slv (qf (ii (0)) rfl (qb (qF (jj (α := Nat) (fun k => [(0, xsv), (1, ii (n)), (7, ii ((xs.length : Int))), (8, ii ((k : Int)))]) (fun k => L) (fun k F' => F = F' ∧ (k ≤ xs.length) ∧ (∀ i, i < k → xs.getD i 0 ≠ n)) (fun k => xs.length - k) 0 ⟨rfl, rfl, rfl, rfl, ⟨⟩⟩ sR ⟨rfl, (by omega), (fun i hi => absurd hi (by omega))⟩ ?_))))))))))))))
 rintro k rE _ _ ⟨rfl, hk, hall⟩
 show X _ _ _ _ (envs [(0, xsv), (1, ii (n)), (7, ii ((xs.length : Int))), (8, ii ((k : Int)))] rE) _ (L)
 refine qc (qa (cX (qL rfl rfl (qb (qc ?_)))))
 refine qx (p := (k : Int) < (xs.length : Int)) rfl (fun h1 => ?_) (fun h1 => ?_)
 ·refine qw (qc (qF (qc (qa (qf (ii ((k : Int))) rfl (qg (ii ((k : Int))) rfl (qb (qc (qa (qf (ii (n)) rfl (qf (xsv) rfl (qf (ii ((k : Int))) rfl (cX (ql k qd qo rfl rfl rfl hxs.slv (by omega) (Nat.mul_one _) (cX (qi qK rfl (hxs.rd (by omega)) (cX (jI rfl rfl ?_))))))))))))))))))
  refine qb ?_
  refine qx (p := (n : Int) = xs.getD k 0) rfl (fun h2 => ?_) (fun h2 => ?_)
  ·refine qc (qa (qf (ii ((k : Int))) rfl (qg (ii ((k : Int))) rfl (qb (qy (qz (qk (qk (qz (qk (qs (L' := L) [ii ((k : Int))] (ii ((k : Int))) (.tmp rfl .nil) rfl rF rF sR ?_)))))))))))
   exact ⟨(vI (indexZ_some (by omega) (by omega) hall)), rfl, rfl⟩
  refine qw (qa (cX (qI (((k + 1 : Nat) : Int)) rfl rfl (by omega) (by omega) (qf (ii (((k + 1 : Nat) : Int))) rfl (qb ?_)))))
  exact ⟨k + 1, _, FLe.refl _, rF, ⟨rfl, rfl, rfl, rfl, ⟨⟩⟩, sR, ⟨rfl, (by omega), (fun i hi => (Nat.lt_or_ge i k).elim (fun h => hall i h) (fun h => by obtain rfl : i = k := (by omega); omega))⟩, (by omega)⟩
 refine ja (qu (qu (qJ (qc (qa (qg (ii (-1)) rfl (qb (qy (qs (L' := L) [ii (-1)] (ii (-1)) (.tmp rfl .nil) rfl rF rF sR ?_)))))))))
 exact ⟨(vI (indexZ_none (fun i hi => hall i (by omega)))), rfl, rfl⟩

/- slices.Contains[[]int64,int64] -/
theorem Contains_spec {F : FH} {L : List HP} {xsv : Value} {xs : List Int} (hxs : IntsF F xsv xs) {n : Int} (hbd : xs.length ≤ 9223372036854775807) :
    Does prog 131 [xsv, ii (n)] F (L) (fun v F' L' => (.bool (decide (n ∈ xs)) : Value) = v ∧ F = F' ∧ L = L') := by
 refine qD func131 rfl rfl rfl (qc (qa (qg (.bool (false)) rfl (qb (qc (qa (qf (xsv) rfl (qf (ii (n)) rfl (cX (qt (args := [xsv, ii (n)]) call186 rfl (Index_spec (n := n) hxs (hbd := (by first | assumption | rfl | omega | simp))) ?_))))))))))
 rintro _ _ _ _ ⟨rfl, rfl, rfl⟩
 refine cX (jT rfl rfl (qg (.bool (decide ((indexZ xs n : Int) ≥ 0))) rfl (qb (qy (qs (L' := L) [.bool (decide ((indexZ xs n : Int) ≥ 0))] (.bool (decide ((indexZ xs n : Int) ≥ 0))) (.tmp rfl .nil) rfl rF rF sR ?_)))))
 exact ⟨(vB (decide_eq_decide.2 indexZ_mem.symm)), rfl, rfl⟩

/- spec.l1Has -/
theorem l1Has_spec {F : FH} {L : List HP} {xsv : Value} {xs : List Int} (hxs : IntsF F xsv xs) {n : Int} (hbd : xs.length ≤ 9223372036854775807) :
    Does prog 103 [xsv, ii (n)] F (L) (fun v F' L' => (.bool (decide (n ∈ xs)) : Value) = v ∧ F = F' ∧ L = L') := by
 refine qD func103 rfl rfl rfl (qc (qa (qg (.bool (false)) rfl (qb (qc (qc (qa (qg (ii (0)) rfl (qb (qF (jj (α := Nat) (fun k => [(0, xsv), (1, ii (n)), (5, ii ((k : Int)))]) (fun k => L) (fun k F' => F = F' ∧ (k ≤ xs.length) ∧ (∀ i, i < k → xs.getD i 0 ≠ n)) (fun k => xs.length - k) 0 ⟨rfl, rfl, rfl, ⟨⟩⟩ sR ⟨rfl, (by omega), (fun i hi => absurd hi (by omega))⟩ ?_)))))))))))
 rintro k rE _ _ ⟨rfl, hk, hall⟩
 show X _ _ _ _ (envs [(0, xsv), (1, ii (n)), (5, ii ((k : Int)))] rE) _ (L)
 refine qc (qc (qa (qf (ii ((k : Int))) rfl (qf (xsv) rfl (cX (qC qd rfl hxs.slv (cX (qL rfl rfl (qb ?_)))))))))
 refine qx (p := (k : Int) < (xs.length : Int)) rfl (fun h1 => ?_) (fun h1 => ?_)
 ·refine qw (qc (qF (qc (qa (qf (xsv) rfl (qf (ii ((k : Int))) rfl (cX (ql k qd qo rfl rfl rfl hxs.slv (by omega) (Nat.mul_one _) (cX (qi qK rfl (hxs.rd (by omega)) (qf (ii (n)) rfl (cX (jI rfl rfl (qb ?_))))))))))))))
  refine qx (p := (xs.getD k 0 : Int) = n) rfl (fun h2 => ?_) (fun h2 => ?_)
  ·refine qc (qa (qg (.bool (true)) rfl (qb (qy (qz (qk (qk (qz (qk (qs (L' := L) [.bool (true)] (.bool (true)) (.tmp rfl .nil) rfl rF rF sR ?_))))))))))
   exact ⟨(vB (decide_eq_true (mem_of_getD (k := k) (by omega) (by omega)))), rfl, rfl⟩
  refine qw (qa (qf (ii ((k : Int))) rfl (cX (qI (((k + 1 : Nat) : Int)) rfl rfl (by omega) (by omega) (qg (ii (((k + 1 : Nat) : Int))) rfl (qb ?_))))))
  exact ⟨k + 1, _, FLe.refl _, rF, ⟨rfl, rfl, rfl, ⟨⟩⟩, sR, ⟨rfl, (by omega), (fun i hi => (Nat.lt_or_ge i k).elim (fun h => hall i h) (fun h => by obtain rfl : i = k := (by omega); omega))⟩, (by omega)⟩
 refine ja (qu (qu (qJ (qc (qa (qg (.bool (false)) rfl (qb (qy (qs (L' := L) [.bool (false)] (.bool (false)) (.tmp rfl .nil) rfl rF rF sR ?_)))))))))
 exact ⟨(vB (decide_eq_false (not_mem_of_getD (fun i hi => hall i (by omega))))), rfl, rfl⟩

/- spec.l1In -/
theorem l1In_spec {F : FH} {L : List HP} {n : Int} {a : Int} {b : Int} :
    Does prog 41 [ii (n), ii (a), ii (b)] F (L) (fun v F' L' => (.bool (decide (a ≤ n ∧ n ≤ b)) : Value) = v ∧ F = F' ∧ L = L') := by
 refine qD func41 rfl rfl rfl (qc (qa (qg (.bool (false)) rfl (qb (qc (qa (qf (ii (n)) rfl (qf (ii (a)) rfl (cX (jT rfl rfl (qf (.bool (decide ((n : Int) ≥ a))) rfl ?_)))))))))))
 by_cases h1 : (n : Int) ≥ a
 ·refine qq (t := 10) rfl (vT h1) (qj (ii (n)) rfl (qq (t := 10) rfl (vT h1) (qj (ii (b)) rfl (qq (t := 10) rfl (vT h1) (XOp.leq rfl rfl (cX (qR (.bool (decide ((n : Int) ≤ b))) (vT h1) rfl (qg (.bool (decide ((n : Int) ≤ b))) rfl (qb (qy (qs (L' := L) [.bool (decide ((n : Int) ≤ b))] (.bool (decide ((n : Int) ≤ b))) (.tmp rfl .nil) rfl rF rF sR ?_)))))))))))
  exact ⟨(vB (decide_eq_decide.2 (by omega))), rfl, rfl⟩
 refine qp (t := 10) rfl (vF h1) (qp (t := 10) rfl (vF h1) (qp (t := 10) rfl (vF h1) (cX (qS (.bool (false)) (vF h1) rfl (qg (.bool (false)) rfl (qb (qy (qs (L' := L) [.bool (false)] (.bool (false)) (.tmp rfl .nil) rfl rF rF sR ?_))))))))
 exact ⟨(vB (decide_eq_false (by omega))), rfl, rfl⟩

/- spec.l1There -/
theorem l1There_spec {F : FH} {L : List HP} {tv : Value} {t : List Int} (ht : IntsF F tv t) {n : Int} (hbd : t.length ≤ 9223372036854775807) :
    Does prog 226 [tv, ii (n)] F (L) (fun v F' L' => (.bool (decide (0 ≤ n ∧ n < (t.length : Int))) : Value) = v ∧ F = F' ∧ L = L') := by
 refine qD func226 rfl rfl rfl (qc (qa (qg (.bool (false)) rfl (qb (qc (qa (qf (ii (n)) rfl (qf (tv) rfl (cX (qC qd rfl ht.slv (cX (qY (((t.length : Int)) - 1) rfl rfl (by omega) (by omega) (cX (qt (args := [ii (n), ii (0), ii (((t.length : Int)) - 1)]) call41 rfl (l1In_spec (n := n) (a := 0) (b := ((t.length : Int)) - 1)) ?_))))))))))))))
 rintro _ _ _ _ ⟨rfl, rfl, rfl⟩
 refine qg (.bool (decide (0 ≤ n ∧ n ≤ (((t.length : Int)) - 1)))) rfl (qb (qy (qs (L' := L) [.bool (decide (0 ≤ n ∧ n ≤ (((t.length : Int)) - 1)))] (.bool (decide (0 ≤ n ∧ n ≤ (((t.length : Int)) - 1)))) (.tmp rfl .nil) rfl rF rF sR ?_)))
 exact ⟨(vB (decide_eq_decide.2 (by omega))), rfl, rfl⟩

/- spec.l1Arity -/
theorem l1Arity_spec {F : FH} {L : List HP} {arv : Value} {ar : List Int} (har : IntsF F arv ar) {n : Int} (hla : ar.length ≤ 4000000) :
    Does prog 175 [.agg #[arv], ii (n)] F (L) (fun v F' L' => (ii (sArity ar n) : Value) = v ∧ F = F' ∧ L = L') := by
 refine qD func175 rfl rfl rfl (qc (qa (cX (qV [arv] rfl rfl ?_))))
 intro b1
 refine qg (ii (0)) rfl (qb (qc (qF (qc (qa (qf (ii (n)) rfl (cX (qt (args := [ii (n), ii (-24), ii (-1)]) call41 rfl (l1In_spec (n := n) (a := -24) (b := -1)) ?_))))))))
 rintro _ _ _ _ ⟨rfl, rfl, rfl⟩
 refine qg (.bool (decide ((-24) ≤ n ∧ n ≤ (-1)))) rfl (qb ?_)
 refine qx (p := (-24) ≤ n ∧ n ≤ (-1)) rfl (fun h1 => ?_) (fun h1 => ?_)
 ·refine qc (qa (qg (ii (0)) rfl (qb (qy (qz (qk (qs (L' := L) [ii (0)] (ii (0)) (.tmp rfl .nil) rfl rF rF (sD sR) ?_)))))))
  exact ⟨(vI (by unfold sArity; split <;> (try split) <;> first | rfl | omega)), rfl, rfl⟩
 refine qc (qa (qf (ii (n)) rfl (cX (qn (0) jC rfl qr (by decide) rfl rfl (cX (qi qP rfl (Rd.own [] rfl rfl) (cX (qC qd rfl har.slv (cX (qY (((ar.length : Int)) - 1) rfl rfl (by omega) (by omega) (cX (qt (args := [ii (n), ii (0), ii (((ar.length : Int)) - 1)]) call41 rfl (l1In_spec (n := n) (a := 0) (b := ((ar.length : Int)) - 1)) ?_))))))))))))
 rintro _ _ _ _ ⟨rfl, rfl, rfl⟩
 refine qg (.bool (decide (0 ≤ n ∧ n ≤ (((ar.length : Int)) - 1)))) rfl (qb ?_)
 refine qx (p := 0 ≤ n ∧ n ≤ (((ar.length : Int)) - 1)) rfl (fun h2 => ?_) (fun h2 => ?_)
 ·refine qc (qa (cX (qn (0) jC rfl qr (by decide) rfl rfl (cX (qi qP rfl (Rd.own [] rfl rfl) (qf (ii (n)) rfl (cX (ql ((n).toNat) qd qo rfl rfl (by omega) har.slv (by omega) (Nat.mul_one _) (cX (qi qK rfl (har.rd (by omega)) (qg (ii (ar.getD ((n).toNat) 0)) rfl (qb (qy (qz (qk (qs (L' := L) [ii (ar.getD ((n).toNat) 0)] (ii (ar.getD ((n).toNat) 0)) (.tmp rfl .nil) rfl rF rF (sD sR) ?_))))))))))))))))
  exact ⟨(vI (by unfold sArity; split <;> (try split) <;> first | rfl | omega)), rfl, rfl⟩
 refine qw (qc (qa (qg (ii (-1)) rfl (qb (qy (qs (L' := L) [ii (-1)] (ii (-1)) (.tmp rfl .nil) rfl rF rF (sD sR) ?_))))))
 exact ⟨(vI (by unfold sArity; split <;> (try split) <;> first | rfl | omega)), rfl, rfl⟩

/- spec.SigOk -/
theorem sSigOk_spec {F : FH} {L : List HP} {arv : Value} {ar : List Int} (har : IntsF F arv ar) (hla : ar.length ≤ 4000000) :
    Does prog 72 [.agg #[arv]] F (L) (fun v F' L' => (.bool (sigOk ar) : Value) = v ∧ F = F' ∧ L = L') := by
 refine qD func72 rfl rfl rfl (qc (qa (cX (qV [arv] rfl rfl ?_))))
 intro b1
 refine qg (.bool (false)) rfl (qb (qc (qc (qa (cX (qn (0) jC rfl qr (by decide) rfl rfl (cX (qi qP rfl (Rd.own [] rfl rfl) (cX (qC qd rfl har.slv (cX (qt (args := [ii ((ar.length : Int)), ii (1), ii (8)]) call41 rfl (l1In_spec (n := (ar.length : Int)) (a := 1) (b := 8)) ?_))))))))))))
 rintro _ _ _ _ ⟨rfl, rfl, rfl⟩
 refine cX (jN rfl (qb ?_))
 refine qx (p := ¬(1 ≤ ((ar.length : Int)) ∧ ((ar.length : Int)) ≤ 8)) rfl (fun h1 => ?_) (fun h1 => ?_)
 ·refine qc (qa (qg (.bool (false)) rfl (qb (qy (qk (qs (L' := L) [.bool (false)] (.bool (false)) (.tmp rfl .nil) rfl rF rF (sD sR) ?_))))))
  exact ⟨(vB (sigOk_short (by omega))), rfl, rfl⟩
 refine qw (qc (qc (qa (qg (ii (0)) rfl (qb (qF (jj (α := Nat) (fun k => [(1, ptr b1 0), (3, ii ((k : Int)))]) (fun k => cellsH b1 [arv] 31 :: L) (fun k F' => F = F' ∧ (k ≤ ar.length) ∧ (∀ i, i < k → 0 ≤ ar.getD i 0 ∧ ar.getD i 0 ≤ 3)) (fun k => ar.length - k) 0 ⟨rfl, rfl, ⟨⟩⟩ (sC sR) ⟨rfl, (by omega), (fun i hi => absurd hi (by omega))⟩ ?_)))))))
 rintro k rE _ _ ⟨rfl, hk, hall⟩
 show X _ _ _ _ (envs [(1, ptr b1 0), (3, ii ((k : Int)))] rE) _ (cellsH b1 [arv] 31 :: L)
 refine qc (qc (qa (qf (ii ((k : Int))) rfl (cX (qn (0) jC rfl qr (by decide) rfl rfl (cX (qi qP rfl (Rd.own [] rfl rfl) (cX (qC qd rfl har.slv (cX (qL rfl rfl (qb ?_))))))))))))
 refine qx (p := (k : Int) < (ar.length : Int)) rfl (fun h2 => ?_) (fun h2 => ?_)
 ·refine qw (qc (qF (qc (qa (cX (qn (0) jC rfl qr (by decide) rfl rfl (cX (qi qP rfl (Rd.own [] rfl rfl) (qf (ii ((k : Int))) rfl (cX (ql k qd qo rfl rfl rfl har.slv (by omega) (Nat.mul_one _) (cX (qi qK rfl (har.rd (by omega)) (cX (qt (args := [ii (ar.getD k 0), ii (0), ii (3)]) call41 rfl (l1In_spec (n := ar.getD k 0) (a := 0) (b := 3)) ?_)))))))))))))))
  rintro _ _ _ _ ⟨rfl, rfl, rfl⟩
  refine cX (jN rfl (qb ?_))
  refine qx (p := ¬(0 ≤ (ar.getD k 0) ∧ (ar.getD k 0) ≤ 3)) rfl (fun h3 => ?_) (fun h3 => ?_)
  ·refine qc (qa (qg (.bool (false)) rfl (qb (qy (qz (qk (qk (qz (qk (qs (L' := L) [.bool (false)] (.bool (false)) (.tmp rfl .nil) rfl rF rF (sD sR) ?_))))))))))
   exact ⟨(vB (sigOk_bad (i := k) (by omega) (by omega))), rfl, rfl⟩
  refine qw (qa (qf (ii ((k : Int))) rfl (cX (qI (((k + 1 : Nat) : Int)) rfl rfl (by omega) (by omega) (qg (ii (((k + 1 : Nat) : Int))) rfl (qb ?_))))))
  exact ⟨k + 1, _, FLe.refl _, rF, ⟨rfl, rfl, ⟨⟩⟩, (sC sR), ⟨rfl, (by omega), (fun i hi => (Nat.lt_or_ge i k).elim (fun h => hall i h) (fun h => by obtain rfl : i = k := (by omega); omega))⟩, (by omega)⟩
 refine ja (qu (qu (qJ (qc (qa (qg (.bool (true)) rfl (qb (qy (qs (L' := L) [.bool (true)] (.bool (true)) (.tmp rfl .nil) rfl rF rF (sD sR) ?_)))))))))
 exact ⟨(vB (sigOk_of (by omega) (by omega) (fun i hi => hall i (by omega)))), rfl, rfl⟩

/- spec.l1End -/
theorem l1End_spec {F : FH} {L : List HP} {arv : Value} {ar : List Int} (har : IntsF F arv ar) {tv : Value} {t : List Int} (ht : IntsF F tv t) {p0 : Nat} (hs : sigOk ar = true) (hlt : t.length ≤ 4000000) (hp : p0 ≤ t.length) :
    Does prog 102 [.agg #[arv], tv, ii ((p0 : Int))] F (L) (fun v F' L' => (ii (sEndZ ar t p0) : Value) = v ∧ F = F' ∧ L = L') := by
 refine qD func102 rfl rfl rfl ?_
 have hsl := sigOk_spec hs
 refine qc (qa (cX (qV [arv] rfl rfl ?_)))
 intro b1
 refine qg (ii (0)) rfl (qb (qc (qa (qg (ii (1)) rfl (qb (qc (qc (qa (qf (ii ((p0 : Int))) rfl (qg (ii ((p0 : Int))) rfl (qb (qF (jj (α := Nat × Nat) (fun xQ => [(1, tv), (3, ptr b1 0), (7, ii (((xQ.1 : Nat) : Int))), (8, ii (((xQ.2 : Nat) : Int)))]) (fun xQ => cellsH b1 [arv] 31 :: L) (fun xQ F' => F = F' ∧ (sEndGo ar (t.drop p0) 1 = (sEndGo ar (t.drop xQ.2) xQ.1).map (· + (xQ.2 - p0))) ∧ (p0 ≤ xQ.2 ∧ xQ.2 ≤ t.length) ∧ (1 ≤ xQ.1 ∧ xQ.1 ≤ 1 + 3 * xQ.2)) (fun xQ => t.length - xQ.2) (1, p0) ⟨rfl, rfl, rfl, rfl, ⟨⟩⟩ (sC sR) ⟨rfl, (by simp), (by omega), (by omega)⟩ ?_)))))))))))))
 rintro ⟨k, p⟩ rE _ _ ⟨rfl, hi, h1, h2⟩
 show X _ _ _ _ (envs [(1, tv), (3, ptr b1 0), (7, ii ((k : Int))), (8, ii ((p : Int)))] rE) _ (cellsH b1 [arv] 31 :: L)
 dsimp only at hi h1 h2
 refine qc (qc (qa (qf (ii ((p : Int))) rfl (qf (tv) rfl (cX (qC qd rfl ht.slv (cX (qL rfl rfl (qb ?_)))))))))
 refine qx (p := (p : Int) < (t.length : Int)) rfl (fun h1 => ?_) (fun h1 => ?_)
 ·refine qw (qc (qF (qc ?_)))
  refine jn [cellsH b1 [arv] 31] L 5 [] [[], [], [], [1, 2], [3]] (phiL [qe (.agg #[arv]), qe tv, qe (ii ((p : Int)) : Value), qe (.pointer (some (elemA tv (p)))), qe (ii (t.getD p 0))]) (ownL []) mixed rfl rfl (by kernel_rfl) ?_ ?_
  ·refine pD (fun W R z9 => ?_) ?_
   ·refine qh (qB [arv] je qN rfl rfl (Rd.ownN [] rfl rfl) ?_)
    exact ⟨rfl, rfl, rfl⟩
   refine pD (fun W R z9 => ?_) ?_
   ·refine qh (qj (tv) rfl ?_)
    exact ⟨rfl, rfl, rfl⟩
   refine pD (fun W R z9 => ?_) ?_
   ·refine qh (qj (ii ((p : Int))) rfl ?_)
    exact ⟨rfl, rfl, rfl⟩
   refine pD (fun W R z9 => ?_) ?_
   ·rw [eS (l := [(1, _), (2, _)]) ⟨z9 1 rfl, z9 2 rfl, ⟨⟩⟩]
    refine qh (ql p qd qo rfl rfl rfl ht.slv (by omega) (Nat.mul_one _) ?_)
    exact ⟨rfl, rfl, rfl⟩
   refine pD (fun W R z9 => ?_) ?_
   ·rw [eS (l := [(3, _)]) ⟨z9 3 rfl, ⟨⟩⟩]
    refine qh (qi qK rfl (ht.rd (by omega)) ?_)
    exact ⟨rfl, rfl, rfl⟩
   exact stepsP.nil
  intro W hphi
  rw [eS (l := [(0, _), (4, _)]) ⟨(hphi 0 (by decide)), (hphi 4 (by decide)), ⟨⟩⟩]
  show XL _ _ _ _ _ _ _ (cellsH b1 [arv] 31 :: L)
  refine cX (qt (args := [.agg #[arv], ii (t.getD p 0)]) call175 rfl (l1Arity_spec (n := t.getD p 0) har (hla := (by first | assumption | rfl | omega | simp))) ?_)
  rintro _ _ _ _ ⟨rfl, rfl, rfl⟩
  refine qg (ii (sArity ar (t.getD p 0))) rfl (qb (qc (qc (qa (qf (ii (sArity ar (t.getD p 0))) rfl (cX (qL rfl rfl (qb ?_))))))))
  refine qx (p := (sArity ar (t.getD p 0) : Int) < 0) rfl (fun h2 => ?_) (fun h2 => ?_)
  ·rw [sArity_neg hs] at h2
   refine qc (qa (qg (ii (-1)) rfl (qb (qy (qk (qz (qk (qk (qz (qk (qs (L' := L) [ii (-1)] (ii (-1)) (.tmp rfl .nil) rfl rF rF (sD sR) ?_)))))))))))
   exact ⟨(vI (by unfold sEndZ; rw [hi, sEndGo_none (by omega) (by omega)]; rfl)), rfl, rfl⟩
  have hA : -24 ≤ t.getD p 0 ∧ t.getD p 0 < ar.length := by rw [sArity_neg hs] at h2; omega
  have hB := arity_le hs hA.2
  have hC := sArity_eq hA
  refine qw (qc (qa (qf (ii ((k : Int))) rfl (qf (ii (sArity ar (t.getD p 0))) rfl (cX (qI (((k + (arity ar (t.getD p 0)).toNat : Nat) : Int)) rfl rfl (by omega) (by omega) (cX (qY (((k - 1 + (arity ar (t.getD p 0)).toNat : Nat) : Int)) rfl rfl (by omega) (by omega) (qg (ii (((k - 1 + (arity ar (t.getD p 0)).toNat : Nat) : Int))) rfl (qb (qc (qa (qf (ii (((k - 1 + (arity ar (t.getD p 0)).toNat : Nat) : Int))) rfl (cX (jI rfl rfl (qb ?_))))))))))))))))
  refine qx (p := (((k - 1 + (arity ar (t.getD p 0)).toNat : Nat) : Int) : Int) = 0) rfl (fun h3 => ?_) (fun h3 => ?_)
  ·refine qc (qa (qf (ii ((p : Int))) rfl (cX (qI (((p + 1 : Nat) : Int)) rfl rfl (by omega) (by omega) (qg (ii (((p + 1 : Nat) : Int))) rfl (qb (qy (qz (qk (qk (qz (qk (qs (L' := L) [ii (((p + 1 : Nat) : Int))] (ii (((p + 1 : Nat) : Int))) (.tmp rfl .nil) rfl rF rF (sD sR) ?_)))))))))))))
   exact ⟨(vI (by have hz := sEndGo_step (ar := ar) (t := t) (p := p) (k := k) (by omega) (by omega) hA; rw [show k - 1 + (arity ar (t.getD p 0)).toNat = 0 from by omega] at hz; unfold sEndZ; rw [hi, hz]; simp [sEndGo]; omega)), rfl, rfl⟩
  refine qw (qa (qf (ii ((p : Int))) rfl (cX (qI (((p + 1 : Nat) : Int)) rfl rfl (by omega) (by omega) (qg (ii (((p + 1 : Nat) : Int))) rfl (qb ?_))))))
  exact ⟨(k - 1 + (arity ar (t.getD p 0)).toNat, p + 1), _, FLe.refl _, rF, ⟨rfl, rfl, rfl, rfl, ⟨⟩⟩, (sC sR), ⟨rfl, (by rw [hi, sEndGo_step (by omega) (by omega) (by omega), Option.map_map]; congr 1; funext e; simp; omega), (by omega), (by omega)⟩, (by omega)⟩
 refine ja (qu (qu (qJ (qc (qa (qg (ii (-1)) rfl (qb (qy (qs (L' := L) [ii (-1)] (ii (-1)) (.tmp rfl .nil) rfl rF rF (sD sR) ?_)))))))))
 exact ⟨(vI (by unfold sEndZ; rw [hi, sEndGo_none (by omega) (by omega)]; rfl)), rfl, rfl⟩

/- impl.TermOk -/
theorem TermOk_spec {F : FH} {L : List HP} {arv : Value} {ar : List Int} (har : IntsF F arv ar) {tv : Value} {t : List Int} (ht : IntsF F tv t) :
    Does prog 109 [.agg #[arv], tv] F (L) (fun v F' L' => (.bool (termOk ar t) : Value) = v ∧ F = F' ∧ L = L') := by
 refine qD func109 rfl rfl rfl (qc (qa (cX (qV [arv] rfl rfl ?_))))
 intro b1
 refine qg (.bool (false)) rfl (qb (qc (qa (cX (qB [arv] je qN rfl rfl (Rd.ownN [] rfl rfl) (cX (qt (args := [.agg #[arv]]) call91 rfl (SigOk_spec har) ?_)))))))
 rintro _ _ _ _ ⟨rfl, rfl, rfl⟩
 refine qf (.bool (sigOk ar)) rfl ?_
 by_cases h1 : (sigOk ar) = true
 ·refine qq (t := 7) rfl (vB h1) (qj (tv) rfl (qq (t := 7) rfl (vB h1) (qC qd rfl ht.slv (qq (t := 7) rfl (vB h1) (jH rfl rfl (cX (qR (.bool (decide (((t.length : Int) : Int) > 0))) (vB h1) rfl (qf (.bool (decide (((t.length : Int) : Int) > 0))) rfl ?_))))))))
  by_cases h2 : ((t.length : Int) : Int) > 0
  ·refine qq (t := 12) rfl (vT h2) (qj (tv) rfl (qq (t := 12) rfl (vT h2) (qC qd rfl ht.slv (qq (t := 12) rfl (vT h2) (XOp.leq rfl rfl (cX (qR (.bool (decide (((t.length : Int) : Int) ≤ 60))) (vT h2) rfl (qf (.bool (decide (((t.length : Int) : Int) ≤ 60))) rfl ?_))))))))
   by_cases h3 : ((t.length : Int) : Int) ≤ 60
   ·refine qq (t := 17) rfl (vT h3) (qj (tv) rfl (qq (t := 17) rfl (vT h3) (qt (args := [tv]) call178 rfl (Min_spec ht (h1 := (by first | assumption | rfl | omega | simp)) (hbd := (by first | assumption | rfl | omega | simp))) ?_)))
    rintro _ _ _ _ ⟨rfl, rfl, rfl⟩
    refine qq (t := 17) rfl (vT h3) (jT rfl rfl (cX (qR (.bool (decide ((minL t : Int) ≥ -24))) (vT h3) rfl (qf (.bool (decide ((minL t : Int) ≥ -24))) rfl ?_))))
    by_cases h4 : (minL t : Int) ≥ -24
    ·refine qq (t := 22) rfl (vT h4) (qB [arv] je qN rfl rfl (Rd.ownN [] rfl rfl) (qq (t := 22) rfl (vT h4) (qj (tv) rfl (qq (t := 22) rfl (vT h4) (qt (args := [.agg #[arv], tv, ii ((0 : Nat) : Int)]) call112 rfl (endAt_spec (p := 0) har ht (hs := (by first | assumption | rfl | omega | simp)) (hb := (by first | assumption | rfl | omega | simp)) (hp := (by first | assumption | rfl | omega | simp))) ?_)))))
     rintro _ _ _ _ ⟨rfl, rfl, rfl⟩
     refine qq (t := 22) rfl (vT h4) (qj (tv) rfl (qq (t := 22) rfl (vT h4) (qC qd rfl ht.slv (qq (t := 22) rfl (vT h4) (jI rfl rfl (cX (qR (.bool (decide ((endZ ar t 0 : Int) = (t.length : Int)))) (vT h4) rfl (qg (.bool (decide ((endZ ar t 0 : Int) = (t.length : Int)))) rfl (qb (qy (qs (L' := L) [.bool (decide ((endZ ar t 0 : Int) = (t.length : Int)))] (.bool (decide ((endZ ar t 0 : Int) = (t.length : Int)))) (.tmp rfl .nil) rfl rF rF (sD sR) ?_)))))))))))
     exact ⟨(vB (termOk_of (by assumption) (by omega) (by omega) (by omega))), rfl, rfl⟩
    refine qp (t := 22) rfl (vF h4) (qp (t := 22) rfl (vF h4) (qp (t := 22) rfl (vF h4) (qp (t := 22) rfl (vF h4) (qp (t := 22) rfl (vF h4) (qp (t := 22) rfl (vF h4) (cX (qS (.bool (false)) (vF h4) rfl (qg (.bool (false)) rfl (qb (qy (qs (L' := L) [.bool (false)] (.bool (false)) (.tmp rfl .nil) rfl rF rF (sD sR) ?_)))))))))))
    exact ⟨(vB (by first | (refine termOk_nosig ?_; assumption) | (refine termOk_short ?_; omega) | (refine termOk_min ?_ ?_ <;> omega))), rfl, rfl⟩
   refine qp (t := 17) rfl (vF h3) (qp (t := 17) rfl (vF h3) (qp (t := 17) rfl (vF h3) (cX (qS (.bool (false)) (vF h3) rfl (qf (.bool (false)) rfl (qp (t := 22) rfl rfl (qp (t := 22) rfl rfl (qp (t := 22) rfl rfl (qp (t := 22) rfl rfl (qp (t := 22) rfl rfl ?_))))))))))
   refine qp (t := 22) rfl rfl (cX (qS (.bool (false)) rfl rfl (qg (.bool (false)) rfl (qb (qy (qs (L' := L) [.bool (false)] (.bool (false)) (.tmp rfl .nil) rfl rF rF (sD sR) ?_))))))
   exact ⟨(vB (by first | (refine termOk_nosig ?_; assumption) | (refine termOk_short ?_; omega) | (refine termOk_min ?_ ?_ <;> omega))), rfl, rfl⟩
  refine qp (t := 12) rfl (vF h2) (qp (t := 12) rfl (vF h2) (qp (t := 12) rfl (vF h2) (cX (qS (.bool (false)) (vF h2) rfl (qf (.bool (false)) rfl (qp (t := 17) rfl rfl (qp (t := 17) rfl rfl (qp (t := 17) rfl rfl (cX (qS (.bool (false)) rfl rfl (qf (.bool (false)) rfl ?_)))))))))))
  refine qp (t := 22) rfl rfl (qp (t := 22) rfl rfl (qp (t := 22) rfl rfl (qp (t := 22) rfl rfl (qp (t := 22) rfl rfl (qp (t := 22) rfl rfl (cX (qS (.bool (false)) rfl rfl (qg (.bool (false)) rfl (qb (qy (qs (L' := L) [.bool (false)] (.bool (false)) (.tmp rfl .nil) rfl rF rF (sD sR) ?_)))))))))))
  exact ⟨(vB (by first | (refine termOk_nosig ?_; assumption) | (refine termOk_short ?_; omega) | (refine termOk_min ?_ ?_ <;> omega))), rfl, rfl⟩
 rw [Bool.not_eq_true] at h1
 refine qp (t := 7) rfl (vB h1) (qp (t := 7) rfl (vB h1) (qp (t := 7) rfl (vB h1) (cX (qS (.bool (false)) (vB h1) rfl (qf (.bool (false)) rfl (qp (t := 12) rfl rfl (qp (t := 12) rfl rfl (qp (t := 12) rfl rfl (cX (qS (.bool (false)) rfl rfl (qf (.bool (false)) rfl ?_)))))))))))
 refine qp (t := 17) rfl rfl (qp (t := 17) rfl rfl (qp (t := 17) rfl rfl (cX (qS (.bool (false)) rfl rfl (qf (.bool (false)) rfl (qp (t := 22) rfl rfl (qp (t := 22) rfl rfl (qp (t := 22) rfl rfl (qp (t := 22) rfl rfl (qp (t := 22) rfl rfl ?_))))))))))
 refine qp (t := 22) rfl rfl (cX (qS (.bool (false)) rfl rfl (qg (.bool (false)) rfl (qb (qy (qs (L' := L) [.bool (false)] (.bool (false)) (.tmp rfl .nil) rfl rF rF (sD sR) ?_))))))
 exact ⟨(vB (by first | (refine termOk_nosig ?_; assumption) | (refine termOk_short ?_; omega) | (refine termOk_min ?_ ?_ <;> omega))), rfl, rfl⟩

/- spec.TermOk -/
theorem sTermOk_spec {F : FH} {L : List HP} {arv : Value} {ar : List Int} (har : IntsF F arv ar) {tv : Value} {t : List Int} (ht : IntsF F tv t) (hla : ar.length ≤ 4000000) (hlt : t.length ≤ 4000000) :
    Does prog 100 [.agg #[arv], tv] F (L) (fun v F' L' => (.bool (termOk ar t) : Value) = v ∧ F = F' ∧ L = L') := by
 refine qD func100 rfl rfl rfl (qc (qa (cX (qV [arv] rfl rfl ?_))))
 intro b1
 refine qg (.bool (false)) rfl (qb (qc (qa (cX (qB [arv] je qN rfl rfl (Rd.ownN [] rfl rfl) (cX (qt (args := [.agg #[arv]]) call72 rfl (sSigOk_spec har (hla := (by first | assumption | rfl | omega | simp))) ?_)))))))
 rintro _ _ _ _ ⟨rfl, rfl, rfl⟩
 refine qf (.bool (sigOk ar)) rfl ?_
 by_cases h1 : (sigOk ar) = true
 ·refine qq (t := 7) rfl (vB h1) (qj (tv) rfl (qq (t := 7) rfl (vB h1) (qC qd rfl ht.slv (qq (t := 7) rfl (vB h1) (qt (args := [ii ((t.length : Int)), ii (1), ii (60)]) call41 rfl (l1In_spec (n := (t.length : Int)) (a := 1) (b := 60)) ?_)))))
  rintro _ _ _ _ ⟨rfl, rfl, rfl⟩
  refine cX (qR (.bool (decide (1 ≤ ((t.length : Int)) ∧ ((t.length : Int)) ≤ 60))) (vB h1) rfl (qf (.bool (decide (1 ≤ ((t.length : Int)) ∧ ((t.length : Int)) ≤ 60))) rfl ?_))
  by_cases h2 : 1 ≤ ((t.length : Int)) ∧ ((t.length : Int)) ≤ 60
  ·refine qq (t := 12) rfl (vT h2) (qB [arv] je qN rfl rfl (Rd.ownN [] rfl rfl) (qq (t := 12) rfl (vT h2) (qj (tv) rfl (qq (t := 12) rfl (vT h2) (qt (args := [.agg #[arv], tv, ii ((0 : Nat) : Int)]) call102 rfl (l1End_spec (p0 := 0) har ht (hs := (by first | assumption | rfl | omega | simp)) (hlt := (by first | assumption | rfl | omega | simp)) (hp := (by first | assumption | rfl | omega | simp))) ?_)))))
   rintro _ _ _ _ ⟨rfl, rfl, rfl⟩
   refine qq (t := 12) rfl (vT h2) (qj (tv) rfl (qq (t := 12) rfl (vT h2) (qC qd rfl ht.slv (qq (t := 12) rfl (vT h2) (jI rfl rfl (cX (qR (.bool (decide ((sEndZ ar t 0 : Int) = (t.length : Int)))) (vT h2) rfl (qg (.bool (decide ((sEndZ ar t 0 : Int) = (t.length : Int)))) rfl (qb (qy (qs (L' := L) [.bool (decide ((sEndZ ar t 0 : Int) = (t.length : Int)))] (.bool (decide ((sEndZ ar t 0 : Int) = (t.length : Int)))) (.tmp rfl .nil) rfl rF rF (sD sR) ?_)))))))))))
   exact ⟨(vB (termOk_s (by assumption) (by omega))), rfl, rfl⟩
  refine qp (t := 12) rfl (vF h2) (qp (t := 12) rfl (vF h2) (qp (t := 12) rfl (vF h2) (qp (t := 12) rfl (vF h2) (qp (t := 12) rfl (vF h2) (qp (t := 12) rfl (vF h2) (cX (qS (.bool (false)) (vF h2) rfl (qg (.bool (false)) rfl (qb (qy (qs (L' := L) [.bool (false)] (.bool (false)) (.tmp rfl .nil) rfl rF rF (sD sR) ?_)))))))))))
  exact ⟨(vB (by first | (refine termOk_nosig ?_; assumption) | (refine termOk_short ?_; omega))), rfl, rfl⟩
 rw [Bool.not_eq_true] at h1
 refine qp (t := 7) rfl (vB h1) (qp (t := 7) rfl (vB h1) (qp (t := 7) rfl (vB h1) (cX (qS (.bool (false)) (vB h1) rfl (qf (.bool (false)) rfl (qp (t := 12) rfl rfl (qp (t := 12) rfl rfl (qp (t := 12) rfl rfl (qp (t := 12) rfl rfl (qp (t := 12) rfl rfl ?_))))))))))
 refine qp (t := 12) rfl rfl (cX (qS (.bool (false)) rfl rfl (qg (.bool (false)) rfl (qb (qy (qs (L' := L) [.bool (false)] (.bool (false)) (.tmp rfl .nil) rfl rF rF (sD sR) ?_))))))
 exact ⟨(vB (by first | (refine termOk_nosig ?_; assumption) | (refine termOk_short ?_; omega))), rfl, rfl⟩

theorem endAt_ok {F : FH} {L : List HP} {p : Nat} {arv : Value} {ar : List Int} (har : IntsF F arv ar) {tv : Value} {t : List Int} (ht : IntsF F tv t) (ho : termOk ar t = true) (hp : p < t.length) :
    Does prog 112 [.agg #[arv], tv, ii (p : Int)] F L (fun v F' L' => (ii ((endN ar t p : Nat) : Int) : Value) = v ∧ F = F' ∧ L = L') := by
  have hl := termOk_len ho
  have h := endAt_spec (F := F) (L := L) (p := p) har ht (termOk_sig ho) (by omega) (by omega)
  rw [endZ_endN ho hp] at h
  exact h

theorem l1End_ok {F : FH} {L : List HP} {p : Nat} {arv : Value} {ar : List Int} (har : IntsF F arv ar) {tv : Value} {t : List Int} (ht : IntsF F tv t) (ho : termOk ar t = true) (hp : p < t.length) :
    Does prog 102 [.agg #[arv], tv, ii (p : Int)] F L (fun v F' L' => (ii ((endN ar t p : Nat) : Int) : Value) = v ∧ F = F' ∧ L = L') := by
  have hl := termOk_len ho
  have h := l1End_spec (F := F) (L := L) (p0 := p) har ht (termOk_sig ho) (by omega) (by omega)
  rw [sEndZ_endN ho hp] at h
  exact h


/- impl.subAt -/
theorem subAt_spec {F : FH} {L : List HP} {arv : Value} {ar : List Int} (har : IntsF F arv ar) {tv : Value} {t : List Int} (ht : IntsF F tv t) {p : Nat} (ho : termOk ar t = true) (hp : p < t.length) (hnn : isNil tv = false) :
    Does prog 55 [.agg #[arv], tv, ii ((p : Int))] F (L) (fun v F' L' => F = F' ∧ L = L' ∧ IntsF F v (sub ar t p) ∧ isNil v = false) := by
 refine qD func55 rfl rfl rfl ?_
 have hsl := sigOk_spec (termOk_sig ho)
 have htl := termOk_len ho
 have hsig := termOk_sig ho
 have hee := endN_spec ho hp
 refine qc (qa (cX (qV [arv] rfl rfl ?_)))
 intro b1
 refine qg (sN) rfl (qb (qc (qa (qf (tv) rfl (qf (ii ((p : Int))) rfl (cX (qB [arv] je qN rfl rfl (Rd.ownN [] rfl rfl) (qf (tv) rfl (qf (ii ((p : Int))) rfl (cX (qt (args := [.agg #[arv], tv, ii (p : Int)]) call112 rfl (endAt_ok (p := p) har ht (ho := (by first | assumption | rfl | omega | (left; simp; done) | (right; simp; done))) (hp := (by first | assumption | rfl | omega | (left; simp; done) | (right; simp; done)))) ?_)))))))))))
 rintro _ _ _ _ ⟨rfl, rfl, rfl⟩
 refine cX (jX p (endN ar t p) qd qo rfl ht ⟨_, rfl⟩ ⟨_, rfl⟩ (by omega) (by omega) ?_)
 intro v1 hv1 hn1
 refine qg (v1) rfl (qb (qy (qs (L' := L) [v1] (v1) (.tmp rfl .nil) rfl rF rF (sD sR) ?_)))
 exact ⟨rfl, rfl, hv1, by rw [hn1]; exact hnn⟩

/- spec.l1Copy -/
theorem l1Copy_spec {F : FH} {L : List HP} {tv : Value} {t : List Int} (ht : IntsF F tv t) (hlt : t.length ≤ 4000000) :
    Does prog 42 [tv] F (L) (fun v F' L' => F = F' ∧ IsSl v ∧ intsH 2 v t :: L = L') := by
 refine qD func42 rfl rfl rfl (qc (qa (qg (sN) rfl (qb (qc (qa (cX (qM (s := 1) [] [ii (0)] [] qd qo jk rfl (by decide) rfl CellsAre.nil rfl ?_))))))))
 intro v1 hv1
 refine qf (tv) rfl ?_
 show XL _ _ _ _ _ _ _ (intsH 2 v1 ([] : List Int) :: L)
 refine cX (XOp.appendI [] _ qd typeInfo2 rfl rfl rfl rfl rfl rfl ht (by (try simp only [List.length_append, List.length_nil, List.length_cons, List.length_singleton, List.length_take, List.length_drop]); omega) ?_)
 intro v2 hs1 hn1 hm1
 refine qg (v2) rfl (qb (qy (qs (L' := intsH 2 v2 (([] : List Int) ++ t) :: L) [v2] (v2) (.tmp rfl .nil) rfl rF rF (sC sR) ?_)))
 refine ⟨rfl, hs1, ?_⟩
 have hxs : (t : List Int) = ([] : List Int) ++ t := by simp
 exact congrArg (fun z => intsH 2 _ z :: L) hxs

/- slices.Clone[[]int64,int64] -/
theorem Clone_spec {F : FH} {L : List HP} {tv : Value} {t : List Int} (ht : IntsF F tv t) (hlt : t.length ≤ 4000000) :
    Does prog 53 [tv] F (L) (fun v F' L' => F = F' ∧ IsSl v ∧ intsH 2 v t :: L = L') := by
 refine qD func53 rfl rfl rfl (qc (qa (qg (sN) rfl (qb (qc (qc (qa (qf (tv) rfl (cX (XOp.eqNil qd rfl rfl (qG ht) (qb ?_)))))))))))
 refine X.cond (t := isNil tv) rfl (fun h1 => ?_) (fun h1 => ?_)
 ·refine qc (qa (qg (sN) rfl (qb (qy (qk (qs (L' := intsH 2 (sN) ([]) :: L) [sN] (sN) (.tmp rfl .nil) rfl rF rF (qO (intsH.addNil 2 none _) (sC sR)) ?_))))))
  refine ⟨rfl, ⟨_, _, _, rfl⟩, ?_⟩
  have hxs : (t : List Int) = [] := by exact nil_of_isNil ht h1
  exact congrArg (fun z => intsH 2 _ z :: L) hxs
 refine qw (qc (qa (cX (qM (s := 1) [] [ii (0)] [] qd qo jk rfl (by decide) rfl CellsAre.nil rfl ?_))))
 intro v1 hv1
 refine qf (tv) rfl ?_
 show XL _ _ _ _ _ _ _ (intsH 2 v1 ([] : List Int) :: L)
 refine cX (XOp.appendI [] _ qd typeInfo2 rfl rfl rfl rfl rfl rfl ht (by (try simp only [List.length_append, List.length_nil, List.length_cons, List.length_singleton, List.length_take, List.length_drop]); omega) ?_)
 intro v2 hs1 hn1 hm1
 refine qg (v2) rfl (qb (qy (qs (L' := intsH 2 v2 (([] : List Int) ++ t) :: L) [v2] (v2) (.tmp rfl .nil) rfl rF rF (sC sR) ?_)))
 refine ⟨rfl, hs1, ?_⟩
 have hxs : (t : List Int) = ([] : List Int) ++ t := by simp
 exact congrArg (fun z => intsH 2 _ z :: L) hxs

/- spec.l1Sub -/
theorem l1Sub_spec {F : FH} {L : List HP} {arv : Value} {ar : List Int} (har : IntsF F arv ar) {tv : Value} {t : List Int} (ht : IntsF F tv t) {p : Nat} (ho : termOk ar t = true) (hp : p < t.length) :
    Does prog 44 [.agg #[arv], tv, ii ((p : Int))] F (L) (fun v F' L' => F = F' ∧ IsSl v ∧ intsH 2 v (sub ar t p) :: L = L') := by
 refine qD func44 rfl rfl rfl ?_
 have hsl := sigOk_spec (termOk_sig ho)
 have htl := termOk_len ho
 have hsig := termOk_sig ho
 have hee := endN_spec ho hp
 refine qc (qa (cX (qV [arv] rfl rfl ?_)))
 intro b1
 refine qg (sN) rfl (qb (qc (qa (qf (tv) rfl (qf (ii ((p : Int))) rfl (cX (qB [arv] je qN rfl rfl (Rd.ownN [] rfl rfl) (qf (tv) rfl (qf (ii ((p : Int))) rfl (cX (qt (args := [.agg #[arv], tv, ii (p : Int)]) call102 rfl (l1End_ok (p := p) har ht (ho := (by first | assumption | rfl | omega | (left; simp; done) | (right; simp; done))) (hp := (by first | assumption | rfl | omega | (left; simp; done) | (right; simp; done)))) ?_)))))))))))
 rintro _ _ _ _ ⟨rfl, rfl, rfl⟩
 refine cX (jX p (endN ar t p) qd qo rfl ht ⟨_, rfl⟩ ⟨_, rfl⟩ (by omega) (by omega) ?_)
 intro v1 hv1 hn1
 refine cX (qt (args := [v1]) call42 rfl (l1Copy_spec hv1 (hlt := (by rw [List.length_take, List.length_drop]; omega))) ?_)
 rintro v2 _ _ _ ⟨rfl, hs1, rfl⟩
 refine qg (v2) rfl (qb (qy (qs (L' := intsH 2 v2 (((((t.drop p).take ((endN ar t p) - p))))) :: L) [v2] (v2) (.tmp rfl .nil) rfl rF rF (sC (sD sR)) ?_)))
 refine ⟨rfl, hs1, ?_⟩
 have hxs : (sub ar t p : List Int) = ((((t.drop p).take ((endN ar t p) - p)))) := rfl
 exact congrArg (fun z => intsH 2 _ z :: L) hxs

/- impl.RuleOk -/
theorem RuleOk_spec {F : FH} {L : List HP} {arv : Value} {ar : List Int} (har : IntsF F arv ar) {lv : Value} {l : List Int} (hl : IntsF F lv l) {rv : Value} {r : List Int} (hr : IntsF F rv r) :
    Does prog 165 [.agg #[arv], .agg #[lv, rv]] F (L) (fun v F' L' => (.bool (ruleOk ar l r) : Value) = v ∧ F = F' ∧ L = L') := by
 refine qD func165 rfl rfl rfl (qc (qa (cX (qV [arv] rfl rfl ?_))))
 intro b1
 refine cX (qV [lv, rv] rfl rfl ?_)
 intro b2
 refine qg (.bool (false)) rfl (qb (qc (qc (qa (cX (qB [arv] je qN rfl rfl (Rd.ownN [_] rfl rfl) (cX (qn (0) qQ rfl qr (by decide) rfl rfl (cX (qi qP rfl (Rd.own [] rfl rfl) (cX (qt (args := [.agg #[arv], lv]) call109 rfl (TermOk_spec har hl) ?_))))))))))))
 rintro _ _ _ _ ⟨rfl, rfl, rfl⟩
 refine cX (jp rfl (qf (.bool (!(termOk ar l))) rfl ?_))
 by_cases h1 : (!(termOk ar l)) = true
 ·refine qp (t := 12) rfl (vB h1) (qp (t := 12) rfl (vB h1) (qp (t := 12) rfl (vB h1) (qp (t := 12) rfl (vB h1) (qp (t := 12) rfl (vB h1) (cX (qR (.bool (true)) (vB h1) rfl (qf (.bool (true)) rfl (qp (t := 19) rfl rfl (qp (t := 19) rfl rfl (qp (t := 19) rfl rfl ?_))))))))))
  refine qp (t := 19) rfl rfl (qp (t := 19) rfl rfl (cX (qR (.bool (true)) rfl rfl (qb (jB rfl (qc (qa (qg (.bool (false)) rfl (qb (qy (qk (qs (L' := L) [.bool (false)] (.bool (false)) (.tmp rfl .nil) rfl rF rF (sD (sD sR)) ?_))))))))))))
  exact ⟨(vB (ruleOk_false (fun h => by have := h.left; have := h.right; have := h.head; simp_all <;> omega))), rfl, rfl⟩
 rw [Bool.not_eq_true] at h1
 have hlo : termOk ar l = true := by simpa using h1
 have hl60 := termOk_len hlo
 refine qq (t := 12) rfl (vB h1) (qB [arv] je qN rfl rfl (Rd.ownN [_] rfl rfl) (qq (t := 12) rfl (vB h1) (qn (1) qQ rfl qr (by decide) rfl rfl (qq (t := 12) rfl (vB h1) (qi qP rfl (Rd.own [] rfl rfl) (qq (t := 12) rfl (vB h1) (qt (args := [.agg #[arv], rv]) call109 rfl (TermOk_spec har hr) ?_)))))))
 rintro _ _ _ _ ⟨rfl, rfl, rfl⟩
 refine qq (t := 12) rfl (vB h1) (jp rfl (cX (qS (.bool (!(termOk ar r))) (vB h1) rfl (qf (.bool (!(termOk ar r))) rfl ?_))))
 by_cases h2 : (!(termOk ar r)) = true
 ·refine qp (t := 19) rfl (vB h2) (qp (t := 19) rfl (vB h2) (qp (t := 19) rfl (vB h2) (qp (t := 19) rfl (vB h2) (qp (t := 19) rfl (vB h2) (cX (qR (.bool (true)) (vB h2) rfl (qb (jB rfl (qc (qa (qg (.bool (false)) rfl ?_)))))))))))
  refine qb (qy (qk (qs (L' := L) [.bool (false)] (.bool (false)) (.tmp rfl .nil) rfl rF rF (sD (sD sR)) ?_)))
  exact ⟨(vB (ruleOk_false (fun h => by have := h.left; have := h.right; have := h.head; simp_all <;> omega))), rfl, rfl⟩
 rw [Bool.not_eq_true] at h2
 have hro : termOk ar r = true := by simpa using h2
 have hr60 := termOk_len hro
 refine qq (t := 19) rfl (vB h2) (qn (0) qQ rfl qr (by decide) rfl rfl (qq (t := 19) rfl (vB h2) (qi qP rfl (Rd.own [] rfl rfl) (qq (t := 19) rfl (vB h2) (ql 0 qd qo rfl rfl rfl hl.slv (by omega) (Nat.mul_one _) (qq (t := 19) rfl (vB h2) (qi qK rfl (hl.rd (by omega)) (qq (t := 19) rfl (vB h2) (qL rfl rfl (cX (qS (.bool (decide ((l.getD 0 0 : Int) < 0))) (vB h2) rfl (qb ?_))))))))))))
 refine qx (p := (l.getD 0 0 : Int) < 0) rfl (fun h3 => ?_) (fun h3 => ?_)
 ·refine qc (qa (qg (.bool (false)) rfl (qb (qy (qk (qs (L' := L) [.bool (false)] (.bool (false)) (.tmp rfl .nil) rfl rF rF (sD (sD sR)) ?_))))))
  exact ⟨(vB (ruleOk_false (fun h => by have := h.left; have := h.right; have := h.head; simp_all <;> omega))), rfl, rfl⟩
 refine qw (qc (qc (qa (cX (qn (1) qQ rfl qr (by decide) rfl rfl (cX (qi qP rfl (Rd.own [] rfl rfl) (cX (qC qd rfl hr.slv (qf (ii (0)) rfl (qb (qF (jj (α := Nat) (fun k => [(3, ptr b2 0), (27, rv), (28, ii ((r.length : Int))), (29, ii ((k : Int)))]) (fun k => cellsH b2 [lv, rv] 136 :: cellsH b1 [arv] 31 :: L) (fun k F' => F = F' ∧ (k ≤ r.length) ∧ (∀ i, i < k → r.getD i 0 < 0 → r.getD i 0 ∈ l)) (fun k => r.length - k) 0 ⟨rfl, rfl, rfl, rfl, ⟨⟩⟩ (sC (sC sR)) ⟨rfl, (by omega), (fun i hi => absurd hi (by omega))⟩ ?_)))))))))))))
 rintro k rE _ _ ⟨rfl, hk, hall⟩
 show X _ _ _ _ (envs [(3, ptr b2 0), (27, rv), (28, ii ((r.length : Int))), (29, ii ((k : Int)))] rE) _ (cellsH b2 [lv, rv] 136 :: cellsH b1 [arv] 31 :: L)
 refine qc (qa (cX (qL rfl rfl (qb (qc ?_)))))
 refine qx (p := (k : Int) < (r.length : Int)) rfl (fun h4 => ?_) (fun h4 => ?_)
 ·refine qw (qc (qF (qc (qa (cX (ql k qd qo rfl rfl rfl hr.slv (by omega) (Nat.mul_one _) (cX (qi qK rfl (hr.rd (by omega)) (qg (ii (r.getD k 0)) rfl (qb (qc (qa (qf (ii (r.getD k 0)) rfl (cX (qL rfl rfl (qf (.bool (decide ((r.getD k 0 : Int) < 0))) rfl ?_))))))))))))))))
  by_cases h5 : (r.getD k 0 : Int) < 0
  ·refine qq (t := 35) rfl (vT h5) (qn (0) qQ rfl qr (by decide) rfl rfl (qq (t := 35) rfl (vT h5) (qi qP rfl (Rd.own [] rfl rfl) (qq (t := 35) rfl (vT h5) (qj (ii (r.getD k 0)) rfl (qq (t := 35) rfl (vT h5) (qt (args := [lv, ii (r.getD k 0)]) call131 rfl (Contains_spec (n := r.getD k 0) hl (hbd := (by first | assumption | rfl | omega | simp))) ?_)))))))
   rintro _ _ _ _ ⟨rfl, rfl, rfl⟩
   refine qq (t := 35) rfl (vT h5) (jN rfl (cX (qR (.bool (decide (¬((r.getD k 0) ∈ l)))) (vT h5) rfl (qb ?_))))
   refine qx (p := ¬((r.getD k 0) ∈ l)) rfl (fun h6 => ?_) (fun h6 => ?_)
   ·refine qc (qa (qg (.bool (false)) rfl (qb (qy (qz (qk (qk (qz (qk (qs (L' := L) [.bool (false)] (.bool (false)) (.tmp rfl .nil) rfl rF rF (sD (sD sR)) ?_))))))))))
    exact ⟨(vB (ruleOk_false (fun h => by have := h.vars (r.getD k 0) (mem_of_getD (k := k) (by omega) rfl); simp_all))), rfl, rfl⟩
   refine qw (qa (cX (qI (((k + 1 : Nat) : Int)) rfl rfl (by omega) (by omega) (qf (ii (((k + 1 : Nat) : Int))) rfl (qb ?_)))))
   exact ⟨k + 1, _, FLe.refl _, rF, ⟨rfl, rfl, rfl, rfl, ⟨⟩⟩, (sC (sC sR)), ⟨rfl, (by omega), (fun i hi h0 => (Nat.lt_or_ge i k).elim (fun h => hall i h h0) (fun h => by obtain rfl : i = k := (by omega); first | assumption | (exfalso; omega) | simp_all))⟩, (by omega)⟩
  refine qp (t := 35) rfl (vF h5) (qp (t := 35) rfl (vF h5) (qp (t := 35) rfl (vF h5) (qp (t := 35) rfl (vF h5) (qp (t := 35) rfl (vF h5) (cX (qS (.bool (false)) (vF h5) rfl (qb (jz rfl (qw (qa (cX (qI (((k + 1 : Nat) : Int)) rfl rfl (by omega) (by omega) ?_))))))))))))
  refine qf (ii (((k + 1 : Nat) : Int))) rfl (qb ?_)
  exact ⟨k + 1, _, FLe.refl _, rF, ⟨rfl, rfl, rfl, rfl, ⟨⟩⟩, (sC (sC sR)), ⟨rfl, (by omega), (fun i hi h0 => (Nat.lt_or_ge i k).elim (fun h => hall i h h0) (fun h => by obtain rfl : i = k := (by omega); first | assumption | (exfalso; omega) | simp_all))⟩, (by omega)⟩
 refine ja (qu (qu (qJ (qc (qa (qg (.bool (true)) rfl (qb (qy (qs (L' := L) [.bool (true)] (.bool (true)) (.tmp rfl .nil) rfl rF rF (sD (sD sR)) ?_)))))))))
 exact ⟨(vB (ruleOk_iff.2 ⟨hlo, hro, by omega, fun n hn h0 => by obtain ⟨i, hi, rfl⟩ := List.getElem_of_mem hn; have := hall i (by omega); simp [List.getD, hi] at this; exact this h0⟩)), rfl, rfl⟩

/- impl.SystemOk -/
theorem SystemOk_spec {F : FH} {L : List HP} {arv : Value} {ar : List Int} (har : IntsF F arv ar) {rsv : Value} {rs : List (List Int × List Int)} (hrs : PairsF F rsv rs) :
    Does prog 134 [.agg #[arv, rsv]] F (L) (fun v F' L' => (.bool (sysOk ar rs) : Value) = v ∧ F = F' ∧ L = L') := by
 refine qD func134 rfl rfl rfl (qc (qa (cX (qV [arv, rsv] rfl rfl ?_))))
 intro b1
 refine qg (.bool (false)) rfl (qb (qc (qc (qa (cX (qn (0) qH rfl qN (by decide) rfl rfl (cX (qB [arv] je qN rfl rfl (Rd.ownN [] rfl rfl) (cX (qt (args := [.agg #[arv]]) call91 rfl (SigOk_spec har) ?_))))))))))
 rintro _ _ _ _ ⟨rfl, rfl, rfl⟩
 refine cX (jp rfl (qf (.bool (!(sigOk ar))) rfl ?_))
 by_cases h1 : (!(sigOk ar)) = true
 ·refine qp (t := 9) rfl (vB h1) (qp (t := 9) rfl (vB h1) (qp (t := 9) rfl (vB h1) (qp (t := 9) rfl (vB h1) (cX (qR (.bool (true)) (vB h1) rfl (qb (jB rfl (qc (qa (qg (.bool (false)) rfl (qb ?_)))))))))))
  refine qy (qk (qs (L' := L) [.bool (false)] (.bool (false)) (.tmp rfl .nil) rfl rF rF (sD sR) ?_))
  exact ⟨(vB (sysOk_false (fun h => by have := h.1; have := h.2.1; simp_all <;> omega))), rfl, rfl⟩
 rw [Bool.not_eq_true] at h1
 refine qq (t := 9) rfl (vB h1) (qn (1) qH rfl jx (by decide) rfl rfl (qq (t := 9) rfl (vB h1) (qi jG rfl (Rd.own [] rfl rfl) (qq (t := 9) rfl (vB h1) (qC qU rfl hrs.slv (qq (t := 9) rfl (vB h1) (jH rfl rfl (cX (qS (.bool (decide (((rs.length : Int) : Int) > 12))) (vB h1) rfl (qb ?_))))))))))
 refine qx (p := ((rs.length : Int) : Int) > 12) rfl (fun h2 => ?_) (fun h2 => ?_)
 ·refine qc (qa (qg (.bool (false)) rfl (qb (qy (qk (qs (L' := L) [.bool (false)] (.bool (false)) (.tmp rfl .nil) rfl rF rF (sD sR) ?_))))))
  exact ⟨(vB (sysOk_false (fun h => by have := h.1; have := h.2.1; simp_all <;> omega))), rfl, rfl⟩
 refine qw (qc (qc (qa (cX (qn (1) qH rfl jx (by decide) rfl rfl (cX (qi jG rfl (Rd.own [] rfl rfl) (cX (qC qU rfl hrs.slv (qf (ii (0)) rfl (qb (qF (jj (α := Nat) (fun k => [(1, ptr b1 0), (16, rsv), (17, ii ((rs.length : Int))), (18, ii ((k : Int)))]) (fun k => cellsH b1 [arv, rsv] 66 :: L) (fun k F' => F = F' ∧ (k ≤ rs.length) ∧ (∀ i, i < k → ruleOk ar (rs.getD i ([], [])).1 (rs.getD i ([], [])).2 = true)) (fun k => rs.length - k) 0 ⟨rfl, rfl, rfl, rfl, ⟨⟩⟩ (sC sR) ⟨rfl, (by omega), (fun i hi => absurd hi (by omega))⟩ ?_)))))))))))))
 rintro k rE _ _ ⟨rfl, hk, hall⟩
 show X _ _ _ _ (envs [(1, ptr b1 0), (16, rsv), (17, ii ((rs.length : Int))), (18, ii ((k : Int)))] rE) _ (cellsH b1 [arv, rsv] 66 :: L)
 refine qc (qa (cX (qL rfl rfl (qb (qc ?_)))))
 refine qx (p := (k : Int) < (rs.length : Int)) rfl (fun h3 => ?_) (fun h3 => ?_)
 ·refine qw (qc (qF (qc (qa (cX (ql k qU jh rfl rfl rfl hrs.slv (by omega) rfl ?_))))))
  obtain ⟨a1, a2, ha1, ha2, hr1, hr2⟩ := hrs.rd (i := k) (by omega)
  refine cX (qB [a1, a2] isAgg136 jh rfl rfl (Rd.two (hr1 _) (hr2 _)) (cX (jo [sN, sN] zeroValue136 rfl ?_)))
  intro b2
  refine cX (jb [] _ [a1, a2] jh rfl rfl rfl (qv (qZ (qG ha1)) (qv (qZ (qG ha2)) jf)) rfl rfl rfl (qb (qc (qa (cX (qn (0) qH rfl qN (by decide) rfl rfl (cX (qB [arv] je qN rfl rfl (Rd.ownN [_] rfl rfl) (cX (qB [a1, a2] isAgg136 jh rfl rfl (Rd.ownN [] rfl rfl) (cX (qt (args := [.agg #[arv], .agg #[a1, a2]]) call165 rfl (RuleOk_spec har ha1 ha2) ?_))))))))))))
  rintro _ _ _ _ ⟨rfl, rfl, rfl⟩
  refine cX (jp rfl (qb ?_))
  refine X.cond (t := !(ruleOk ar ((rs.getD k ([], [])).1) ((rs.getD k ([], [])).2))) rfl (fun h4 => ?_) (fun h4 => ?_)
  ·refine qc (qa (qg (.bool (false)) rfl (qb (qy (qz (qk (qk (qz (qk (qs (L' := L) [.bool (false)] (.bool (false)) (.tmp rfl .nil) rfl rF rF (sD (sD sR)) ?_))))))))))
   exact ⟨(vB (sysOk_false (fun h => by have := h.2.2 k (by omega); simp_all))), rfl, rfl⟩
  refine qw (qa (cX (qI (((k + 1 : Nat) : Int)) rfl rfl (by omega) (by omega) (qf (ii (((k + 1 : Nat) : Int))) rfl (qb ?_)))))
  exact ⟨k + 1, _, FLe.refl _, rF, ⟨rfl, rfl, rfl, rfl, ⟨⟩⟩, (sD (sC sR)), ⟨rfl, (by omega), (fun i hi => (Nat.lt_or_ge i k).elim (fun h => hall i h) (fun h => by obtain rfl : i = k := (by omega); first | assumption | simp_all))⟩, (by omega)⟩
 refine ja (qu (qu (qJ (qc (qa (qg (.bool (true)) rfl (qb (qy (qs (L' := L) [.bool (true)] (.bool (true)) (.tmp rfl .nil) rfl rF rF (sD sR) ?_)))))))))
 exact ⟨(vB (sysOk_iff.2 ⟨by first | assumption | simp_all, by omega, fun i hi => hall i (by omega)⟩)), rfl, rfl⟩

/- spec.RuleOk -/
theorem sRuleOk_spec {F : FH} {L : List HP} {arv : Value} {ar : List Int} (har : IntsF F arv ar) {lv : Value} {l : List Int} (hl : IntsF F lv l) {rv : Value} {r : List Int} (hr : IntsF F rv r) (hla : ar.length ≤ 4000000) (hlb : l.length ≤ 4000000) (hlc : r.length ≤ 4000000) :
    Does prog 163 [.agg #[arv], .agg #[lv, rv]] F (L) (fun v F' L' => (.bool (ruleOk ar l r) : Value) = v ∧ F = F' ∧ L = L') := by
 refine qD func163 rfl rfl rfl (qc (qa (cX (qV [arv] rfl rfl ?_))))
 intro b1
 refine cX (qV [lv, rv] rfl rfl ?_)
 intro b2
 refine qg (.bool (false)) rfl (qb (qc (qc (qa (cX (qB [arv] je qN rfl rfl (Rd.ownN [_] rfl rfl) (cX (qn (0) qQ rfl qr (by decide) rfl rfl (cX (qi qP rfl (Rd.own [] rfl rfl) (cX (qt (args := [.agg #[arv], lv]) call100 rfl (sTermOk_spec har hl (hla := (by first | assumption | rfl | omega | simp)) (hlt := (by first | assumption | rfl | omega | simp))) ?_))))))))))))
 rintro _ _ _ _ ⟨rfl, rfl, rfl⟩
 refine cX (jp rfl (qf (.bool (!(termOk ar l))) rfl ?_))
 by_cases h1 : (!(termOk ar l)) = true
 ·refine qp (t := 11) rfl (vB h1) (qp (t := 11) rfl (vB h1) (qp (t := 11) rfl (vB h1) (qp (t := 11) rfl (vB h1) (qp (t := 11) rfl (vB h1) (cX (qR (.bool (true)) (vB h1) rfl (qf (.bool (true)) rfl (qp (t := 18) rfl rfl (qp (t := 18) rfl rfl (qp (t := 18) rfl rfl ?_))))))))))
  refine qp (t := 18) rfl rfl (qp (t := 18) rfl rfl (cX (qR (.bool (true)) rfl rfl (qb (jB rfl (qc (qa (qg (.bool (false)) rfl (qb (qy (qk (qs (L' := L) [.bool (false)] (.bool (false)) (.tmp rfl .nil) rfl rF rF (sD (sD sR)) ?_))))))))))))
  exact ⟨(vB (ruleOk_false (fun h => by have := h.left; have := h.right; have := h.head; simp_all <;> omega))), rfl, rfl⟩
 rw [Bool.not_eq_true] at h1
 have hlo : termOk ar l = true := by simpa using h1
 have hl60 := termOk_len hlo
 refine qq (t := 11) rfl (vB h1) (qB [arv] je qN rfl rfl (Rd.ownN [_] rfl rfl) (qq (t := 11) rfl (vB h1) (qn (1) qQ rfl qr (by decide) rfl rfl (qq (t := 11) rfl (vB h1) (qi qP rfl (Rd.own [] rfl rfl) (qq (t := 11) rfl (vB h1) (qt (args := [.agg #[arv], rv]) call100 rfl (sTermOk_spec har hr (hla := (by first | assumption | rfl | omega | simp)) (hlt := (by first | assumption | rfl | omega | simp))) ?_)))))))
 rintro _ _ _ _ ⟨rfl, rfl, rfl⟩
 refine qq (t := 11) rfl (vB h1) (jp rfl (cX (qS (.bool (!(termOk ar r))) (vB h1) rfl (qf (.bool (!(termOk ar r))) rfl ?_))))
 by_cases h2 : (!(termOk ar r)) = true
 ·refine qp (t := 18) rfl (vB h2) (qp (t := 18) rfl (vB h2) (qp (t := 18) rfl (vB h2) (qp (t := 18) rfl (vB h2) (qp (t := 18) rfl (vB h2) (cX (qR (.bool (true)) (vB h2) rfl (qb (jB rfl (qc (qa (qg (.bool (false)) rfl ?_)))))))))))
  refine qb (qy (qk (qs (L' := L) [.bool (false)] (.bool (false)) (.tmp rfl .nil) rfl rF rF (sD (sD sR)) ?_)))
  exact ⟨(vB (ruleOk_false (fun h => by have := h.left; have := h.right; have := h.head; simp_all <;> omega))), rfl, rfl⟩
 rw [Bool.not_eq_true] at h2
 have hro : termOk ar r = true := by simpa using h2
 have hr60 := termOk_len hro
 refine qq (t := 18) rfl (vB h2) (qn (0) qQ rfl qr (by decide) rfl rfl (qq (t := 18) rfl (vB h2) (qi qP rfl (Rd.own [] rfl rfl) (qq (t := 18) rfl (vB h2) (ql 0 qd qo rfl rfl rfl hl.slv (by omega) (Nat.mul_one _) (qq (t := 18) rfl (vB h2) (qi qK rfl (hl.rd (by omega)) (qq (t := 18) rfl (vB h2) (qL rfl rfl (cX (qS (.bool (decide ((l.getD 0 0 : Int) < 0))) (vB h2) rfl (qb ?_))))))))))))
 refine qx (p := (l.getD 0 0 : Int) < 0) rfl (fun h3 => ?_) (fun h3 => ?_)
 ·refine qc (qa (qg (.bool (false)) rfl (qb (qy (qk (qs (L' := L) [.bool (false)] (.bool (false)) (.tmp rfl .nil) rfl rF rF (sD (sD sR)) ?_))))))
  exact ⟨(vB (ruleOk_false (fun h => by have := h.left; have := h.right; have := h.head; simp_all <;> omega))), rfl, rfl⟩
 refine qw (qc (qc (qa (qg (ii (0)) rfl (qb (qF (jj (α := Nat) (fun k => [(3, ptr b2 0), (5, ii ((k : Int)))]) (fun k => cellsH b2 [lv, rv] 136 :: cellsH b1 [arv] 31 :: L) (fun k F' => F = F' ∧ (k ≤ r.length) ∧ (∀ i, i < k → r.getD i 0 < 0 → r.getD i 0 ∈ l)) (fun k => r.length - k) 0 ⟨rfl, rfl, ⟨⟩⟩ (sC (sC sR)) ⟨rfl, (by omega), (fun i hi => absurd hi (by omega))⟩ ?_)))))))
 rintro k rE _ _ ⟨rfl, hk, hall⟩
 show X _ _ _ _ (envs [(3, ptr b2 0), (5, ii ((k : Int)))] rE) _ (cellsH b2 [lv, rv] 136 :: cellsH b1 [arv] 31 :: L)
 refine qc (qc (qa (qf (ii ((k : Int))) rfl (cX (qn (1) qQ rfl qr (by decide) rfl rfl (cX (qi qP rfl (Rd.own [] rfl rfl) (cX (qC qd rfl hr.slv (cX (qL rfl rfl (qb ?_))))))))))))
 refine qx (p := (k : Int) < (r.length : Int)) rfl (fun h4 => ?_) (fun h4 => ?_)
 ·refine qw (qc (qF (qc ?_)))
  by_cases h5 : (r.getD k 0 : Int) < 0
  ·refine jn [cellsH b2 [lv, rv] 136, cellsH b1 [arv] 31] L 14 [] [[], [0], [], [1, 2], [3], [4], [5], [6], [6, 7], [6], [6, 9], [6], [6, 10, 11], [6, 12]] (phiL [qe (ptr b2 1), qe rv, qe (ii ((k : Int)) : Value), qe (.pointer (some (elemA rv (k)))), qe (ii (r.getD k 0)), qe (.bool (decide ((r.getD k 0 : Int) < 0)) : Value), qe (.bool (decide ((r.getD k 0 : Int) < 0)) : Value), qe (ptr b2 0), qe lv, qe (ptr b2 1), qe rv, qe (ii ((k : Int)) : Value), qe (.pointer (some (elemA rv (k)))), qe (ii (r.getD k 0))]) (ownL []) mixed rfl rfl (by kernel_rfl) ?_ ?_
   ·refine pD (fun W R z9 => ?_) ?_
    ·refine qh (qn (1) qQ rfl qr (by decide) rfl rfl ?_)
     exact ⟨rfl, rfl, rfl⟩
    refine pD (fun W R z9 => ?_) ?_
    ·rw [eS (l := [(0, _)]) ⟨z9 0 rfl, ⟨⟩⟩]
     refine qh (qi qP rfl (Rd.own [] rfl rfl) ?_)
     exact ⟨rfl, rfl, rfl⟩
    refine pD (fun W R z9 => ?_) ?_
    ·refine qh (qj (ii ((k : Int))) rfl ?_)
     exact ⟨rfl, rfl, rfl⟩
    refine pD (fun W R z9 => ?_) ?_
    ·rw [eS (l := [(1, _), (2, _)]) ⟨z9 1 rfl, z9 2 rfl, ⟨⟩⟩]
     refine qh (ql k qd qo rfl rfl rfl hr.slv (by omega) (Nat.mul_one _) ?_)
     exact ⟨rfl, rfl, rfl⟩
    refine pD (fun W R z9 => ?_) ?_
    ·rw [eS (l := [(3, _)]) ⟨z9 3 rfl, ⟨⟩⟩]
     refine qh (qi qK rfl (hr.rd (by omega)) ?_)
     exact ⟨rfl, rfl, rfl⟩
    refine pD (fun W R z9 => ?_) ?_
    ·rw [eS (l := [(4, _)]) ⟨z9 4 rfl, ⟨⟩⟩]
     refine qh (qL rfl rfl ?_)
     exact ⟨rfl, rfl, rfl⟩
    refine pD (fun W R z9 => ?_) ?_
    ·rw [eS (l := [(5, _)]) ⟨z9 5 rfl, ⟨⟩⟩]
     refine qh (qj (.bool (decide ((r.getD k 0 : Int) < 0))) rfl ?_)
     exact ⟨rfl, rfl, rfl⟩
    refine pD (fun W R z9 => ?_) ?_
    ·rw [eS (l := [(6, _)]) ⟨z9 6 rfl, ⟨⟩⟩]
     refine qW (t := 38) rfl (vT h5) (qn (0) qQ rfl qr (by decide) rfl rfl ?_)
     exact ⟨rfl, rfl, rfl⟩
    refine pD (fun W R z9 => ?_) ?_
    ·rw [eS (l := [(6, _), (7, _)]) ⟨z9 6 rfl, z9 7 rfl, ⟨⟩⟩]
     refine qW (t := 38) rfl (vT h5) (qi qP rfl (Rd.own [] rfl rfl) ?_)
     exact ⟨rfl, rfl, rfl⟩
    refine pD (fun W R z9 => ?_) ?_
    ·rw [eS (l := [(6, _)]) ⟨z9 6 rfl, ⟨⟩⟩]
     refine qW (t := 38) rfl (vT h5) (qn (1) qQ rfl qr (by decide) rfl rfl ?_)
     exact ⟨rfl, rfl, rfl⟩
    refine pD (fun W R z9 => ?_) ?_
    ·rw [eS (l := [(6, _), (9, _)]) ⟨z9 6 rfl, z9 9 rfl, ⟨⟩⟩]
     refine qW (t := 38) rfl (vT h5) (qi qP rfl (Rd.own [] rfl rfl) ?_)
     exact ⟨rfl, rfl, rfl⟩
    refine pD (fun W R z9 => ?_) ?_
    ·rw [eS (l := [(6, _)]) ⟨z9 6 rfl, ⟨⟩⟩]
     refine qW (t := 38) rfl (vT h5) (qj (ii ((k : Int))) rfl ?_)
     exact ⟨rfl, rfl, rfl⟩
    refine pD (fun W R z9 => ?_) ?_
    ·rw [eS (l := [(6, _), (10, _), (11, _)]) ⟨z9 6 rfl, z9 10 rfl, z9 11 rfl, ⟨⟩⟩]
     refine qW (t := 38) rfl (vT h5) (ql k qd qo rfl rfl rfl hr.slv (by omega) (Nat.mul_one _) ?_)
     exact ⟨rfl, rfl, rfl⟩
    refine pD (fun W R z9 => ?_) ?_
    ·rw [eS (l := [(6, _), (12, _)]) ⟨z9 6 rfl, z9 12 rfl, ⟨⟩⟩]
     refine qW (t := 38) rfl (vT h5) (qi qK rfl (hr.rd (by omega)) ?_)
     exact ⟨rfl, rfl, rfl⟩
    exact stepsP.nil
   intro W hphi
   rw [eS (l := [(6, _), (8, _), (13, _)]) ⟨(hphi 6 (by decide)), (hphi 8 (by decide)), (hphi 13 (by decide)), ⟨⟩⟩]
   show XL _ _ _ _ _ _ _ (cellsH b2 [lv, rv] 136 :: cellsH b1 [arv] 31 :: L)
   refine qq (t := 38) rfl (vT h5) (qt (args := [lv, ii (r.getD k 0)]) call103 rfl (l1Has_spec (n := r.getD k 0) hl (hbd := (by first | assumption | rfl | omega | simp))) ?_)
   rintro _ _ _ _ ⟨rfl, rfl, rfl⟩
   refine qq (t := 38) rfl (vT h5) (jN rfl (cX (qR (.bool (decide (¬((r.getD k 0) ∈ l)))) (vT h5) rfl (qb ?_))))
   refine qx (p := ¬((r.getD k 0) ∈ l)) rfl (fun h6 => ?_) (fun h6 => ?_)
   ·refine qc (qa (qg (.bool (false)) rfl (qb (qy (qz (qk (qk (qz (qk (qs (L' := L) [.bool (false)] (.bool (false)) (.tmp rfl .nil) rfl rF rF (sD (sD sR)) ?_))))))))))
    exact ⟨(vB (ruleOk_false (fun h => by have := h.vars (r.getD k 0) (mem_of_getD (k := k) (by omega) rfl); simp_all))), rfl, rfl⟩
   refine qw (qa (qf (ii ((k : Int))) rfl (cX (qI (((k + 1 : Nat) : Int)) rfl rfl (by omega) (by omega) (qg (ii (((k + 1 : Nat) : Int))) rfl (qb ?_))))))
   exact ⟨k + 1, _, FLe.refl _, rF, ⟨rfl, rfl, ⟨⟩⟩, (sC (sC sR)), ⟨rfl, (by omega), (fun i hi h0 => (Nat.lt_or_ge i k).elim (fun h => hall i h h0) (fun h => by obtain rfl : i = k := (by omega); first | assumption | (exfalso; omega) | simp_all))⟩, (by omega)⟩
  refine jn [cellsH b2 [lv, rv] 136, cellsH b1 [arv] 31] L 14 [] [[], [0], [], [1, 2], [3], [4], [5], [6], [6, 7], [6], [6, 9], [6], [6, 10, 11], [6, 12]] (phiL [qe (ptr b2 1), qe rv, qe (ii ((k : Int)) : Value), qe (.pointer (some (elemA rv (k)))), qe (ii (r.getD k 0)), qe (.bool (decide ((r.getD k 0 : Int) < 0)) : Value), qe (.bool (decide ((r.getD k 0 : Int) < 0)) : Value), qe undef, qe undef, qe undef, qe undef, qe undef, qe undef, qe undef]) (ownL []) mixed rfl rfl (by kernel_rfl) ?_ ?_
  ·refine pD (fun W R z9 => ?_) ?_
   ·refine qh (qn (1) qQ rfl qr (by decide) rfl rfl ?_)
    exact ⟨rfl, rfl, rfl⟩
   refine pD (fun W R z9 => ?_) ?_
   ·rw [eS (l := [(0, _)]) ⟨z9 0 rfl, ⟨⟩⟩]
    refine qh (qi qP rfl (Rd.own [] rfl rfl) ?_)
    exact ⟨rfl, rfl, rfl⟩
   refine pD (fun W R z9 => ?_) ?_
   ·refine qh (qj (ii ((k : Int))) rfl ?_)
    exact ⟨rfl, rfl, rfl⟩
   refine pD (fun W R z9 => ?_) ?_
   ·rw [eS (l := [(1, _), (2, _)]) ⟨z9 1 rfl, z9 2 rfl, ⟨⟩⟩]
    refine qh (ql k qd qo rfl rfl rfl hr.slv (by omega) (Nat.mul_one _) ?_)
    exact ⟨rfl, rfl, rfl⟩
   refine pD (fun W R z9 => ?_) ?_
   ·rw [eS (l := [(3, _)]) ⟨z9 3 rfl, ⟨⟩⟩]
    refine qh (qi qK rfl (hr.rd (by omega)) ?_)
    exact ⟨rfl, rfl, rfl⟩
   refine pD (fun W R z9 => ?_) ?_
   ·rw [eS (l := [(4, _)]) ⟨z9 4 rfl, ⟨⟩⟩]
    refine qh (qL rfl rfl ?_)
    exact ⟨rfl, rfl, rfl⟩
   refine pD (fun W R z9 => ?_) ?_
   ·rw [eS (l := [(5, _)]) ⟨z9 5 rfl, ⟨⟩⟩]
    refine qh (qj (.bool (decide ((r.getD k 0 : Int) < 0))) rfl ?_)
    exact ⟨rfl, rfl, rfl⟩
   refine pD (fun W R z9 => ?_) ?_
   ·rw [eS (l := [(6, _)]) ⟨z9 6 rfl, ⟨⟩⟩]
    exact jd (t := 38) rfl (vF h5) ⟨rfl, rfl, rfl⟩
   refine pD (fun W R z9 => ?_) ?_
   ·rw [eS (l := [(6, _), (7, undef)]) ⟨z9 6 rfl, z9 7 rfl, ⟨⟩⟩]
    exact jd (t := 38) rfl (vF h5) ⟨rfl, rfl, rfl⟩
   refine pD (fun W R z9 => ?_) ?_
   ·rw [eS (l := [(6, _)]) ⟨z9 6 rfl, ⟨⟩⟩]
    exact jd (t := 38) rfl (vF h5) ⟨rfl, rfl, rfl⟩
   refine pD (fun W R z9 => ?_) ?_
   ·rw [eS (l := [(6, _), (9, undef)]) ⟨z9 6 rfl, z9 9 rfl, ⟨⟩⟩]
    exact jd (t := 38) rfl (vF h5) ⟨rfl, rfl, rfl⟩
   refine pD (fun W R z9 => ?_) ?_
   ·rw [eS (l := [(6, _)]) ⟨z9 6 rfl, ⟨⟩⟩]
    exact jd (t := 38) rfl (vF h5) ⟨rfl, rfl, rfl⟩
   refine pD (fun W R z9 => ?_) ?_
   ·rw [eS (l := [(6, _), (10, undef), (11, undef)]) ⟨z9 6 rfl, z9 10 rfl, z9 11 rfl, ⟨⟩⟩]
    exact jd (t := 38) rfl (vF h5) ⟨rfl, rfl, rfl⟩
   refine pD (fun W R z9 => ?_) ?_
   ·rw [eS (l := [(6, _), (12, undef)]) ⟨z9 6 rfl, z9 12 rfl, ⟨⟩⟩]
    exact jd (t := 38) rfl (vF h5) ⟨rfl, rfl, rfl⟩
   exact stepsP.nil
  intro W hphi
  rw [eS (l := [(6, _), (8, undef), (13, undef)]) ⟨(hphi 6 (by decide)), (hphi 8 (by decide)), (hphi 13 (by decide)), ⟨⟩⟩]
  show XL _ _ _ _ _ _ _ (cellsH b2 [lv, rv] 136 :: cellsH b1 [arv] 31 :: L)
  refine qp (t := 38) rfl (vF h5) (qp (t := 38) rfl (vF h5) (cX (qS (.bool (false)) (vF h5) rfl (qb (jz rfl (qw (qa (qf (ii ((k : Int))) rfl (cX (qI (((k + 1 : Nat) : Int)) rfl rfl (by omega) (by omega) (qg (ii (((k + 1 : Nat) : Int))) rfl (qb ?_))))))))))))
  exact ⟨k + 1, _, FLe.refl _, rF, ⟨rfl, rfl, ⟨⟩⟩, (sC (sC sR)), ⟨rfl, (by omega), (fun i hi h0 => (Nat.lt_or_ge i k).elim (fun h => hall i h h0) (fun h => by obtain rfl : i = k := (by omega); first | assumption | (exfalso; omega) | simp_all))⟩, (by omega)⟩
 refine ja (qu (qu (qJ (qc (qa (qg (.bool (true)) rfl (qb (qy (qs (L' := L) [.bool (true)] (.bool (true)) (.tmp rfl .nil) rfl rF rF (sD (sD sR)) ?_)))))))))
 exact ⟨(vB (ruleOk_iff.2 ⟨hlo, hro, by omega, fun n hn h0 => by obtain ⟨i, hi, rfl⟩ := List.getElem_of_mem hn; have := hall i (by omega); simp [List.getD, hi] at this; exact this h0⟩)), rfl, rfl⟩

/- spec.SystemOk -/
theorem sSystemOk_spec {F : FH} {L : List HP} {arv : Value} {ar : List Int} (har : IntsF F arv ar) {rsv : Value} {rs : List (List Int × List Int)} (hrs : PairsF F rsv rs) (hla : ar.length ≤ 4000000) (hlr : rs.length ≤ 4000000) (hrb : ∀ i, i < rs.length → (rs.getD i ([], [])).1.length ≤ 4000000 ∧ (rs.getD i ([], [])).2.length ≤ 4000000) :
    Does prog 145 [.agg #[arv, rsv]] F (L) (fun v F' L' => (.bool (sysOk ar rs) : Value) = v ∧ F = F' ∧ L = L') := by
 refine qD func145 rfl rfl rfl (qc (qa (cX (qV [arv, rsv] rfl rfl ?_))))
 intro b1
 refine qg (.bool (false)) rfl (qb (qc (qc (qa (cX (qn (0) qH rfl qN (by decide) rfl rfl (cX (qB [arv] je qN rfl rfl (Rd.ownN [] rfl rfl) (cX (qt (args := [.agg #[arv]]) call72 rfl (sSigOk_spec har (hla := (by first | assumption | rfl | omega | simp))) ?_))))))))))
 rintro _ _ _ _ ⟨rfl, rfl, rfl⟩
 refine cX (jp rfl (qf (.bool (!(sigOk ar))) rfl ?_))
 by_cases h1 : (!(sigOk ar)) = true
 ·refine qp (t := 8) rfl (vB h1) (qp (t := 8) rfl (vB h1) (qp (t := 8) rfl (vB h1) (qp (t := 8) rfl (vB h1) (cX (qR (.bool (true)) (vB h1) rfl (qb (jB rfl (qc (qa (qg (.bool (false)) rfl (qb ?_)))))))))))
  refine qy (qk (qs (L' := L) [.bool (false)] (.bool (false)) (.tmp rfl .nil) rfl rF rF (sD sR) ?_))
  exact ⟨(vB (sysOk_false (fun h => by have := h.1; have := h.2.1; simp_all <;> omega))), rfl, rfl⟩
 rw [Bool.not_eq_true] at h1
 refine qq (t := 8) rfl (vB h1) (qn (1) qH rfl jx (by decide) rfl rfl (qq (t := 8) rfl (vB h1) (qi jG rfl (Rd.own [] rfl rfl) (qq (t := 8) rfl (vB h1) (qC qU rfl hrs.slv (qq (t := 8) rfl (vB h1) (jH rfl rfl (cX (qS (.bool (decide (((rs.length : Int) : Int) > 12))) (vB h1) rfl (qb ?_))))))))))
 refine qx (p := ((rs.length : Int) : Int) > 12) rfl (fun h2 => ?_) (fun h2 => ?_)
 ·refine qc (qa (qg (.bool (false)) rfl (qb (qy (qk (qs (L' := L) [.bool (false)] (.bool (false)) (.tmp rfl .nil) rfl rF rF (sD sR) ?_))))))
  exact ⟨(vB (sysOk_false (fun h => by have := h.1; have := h.2.1; simp_all <;> omega))), rfl, rfl⟩
 refine qw (qc (qc (qa (qg (ii (0)) rfl (qb (qF (jj (α := Nat) (fun k => [(1, ptr b1 0), (3, ii ((k : Int)))]) (fun k => cellsH b1 [arv, rsv] 66 :: L) (fun k F' => F = F' ∧ (k ≤ rs.length) ∧ (∀ i, i < k → ruleOk ar (rs.getD i ([], [])).1 (rs.getD i ([], [])).2 = true)) (fun k => rs.length - k) 0 ⟨rfl, rfl, ⟨⟩⟩ (sC sR) ⟨rfl, (by omega), (fun i hi => absurd hi (by omega))⟩ ?_)))))))
 rintro k rE _ _ ⟨rfl, hk, hall⟩
 show X _ _ _ _ (envs [(1, ptr b1 0), (3, ii ((k : Int)))] rE) _ (cellsH b1 [arv, rsv] 66 :: L)
 refine qc (qc (qa (qf (ii ((k : Int))) rfl (cX (qn (1) qH rfl jx (by decide) rfl rfl (cX (qi jG rfl (Rd.own [] rfl rfl) (cX (qC qU rfl hrs.slv (cX (qL rfl rfl (qb ?_))))))))))))
 refine qx (p := (k : Int) < (rs.length : Int)) rfl (fun h3 => ?_) (fun h3 => ?_)
 ·refine qw (qc (qF (qc ?_)))
  obtain ⟨a1, a2, ha1, ha2, hr1, hr2⟩ := hrs.rd (i := k) (by omega)
  refine jn [cellsH b1 [arv, rsv] 66] L 7 [] [[], [0], [], [2], [], [3, 4], [5]] (phiL [qe (ptr b1 0), qe (.agg #[arv]), qe (ptr b1 1), qe rsv, qe (ii ((k : Int)) : Value), qe (.pointer (some (elemA rsv (k * 2)))), qe (.agg #[a1, a2])]) (ownL []) mixed rfl rfl (by kernel_rfl) ?_ ?_
  ·refine pD (fun W R z9 => ?_) ?_
   ·refine qh (qn (0) qH rfl qN (by decide) rfl rfl ?_)
    exact ⟨rfl, rfl, rfl⟩
   refine pD (fun W R z9 => ?_) ?_
   ·rw [eS (l := [(0, _)]) ⟨z9 0 rfl, ⟨⟩⟩]
    refine qh (qB [arv] je qN rfl rfl (Rd.ownN [] rfl rfl) ?_)
    exact ⟨rfl, rfl, rfl⟩
   refine pD (fun W R z9 => ?_) ?_
   ·refine qh (qn (1) qH rfl jx (by decide) rfl rfl ?_)
    exact ⟨rfl, rfl, rfl⟩
   refine pD (fun W R z9 => ?_) ?_
   ·rw [eS (l := [(2, _)]) ⟨z9 2 rfl, ⟨⟩⟩]
    refine qh (qi jG rfl (Rd.own [] rfl rfl) ?_)
    exact ⟨rfl, rfl, rfl⟩
   refine pD (fun W R z9 => ?_) ?_
   ·refine qh (qj (ii ((k : Int))) rfl ?_)
    exact ⟨rfl, rfl, rfl⟩
   refine pD (fun W R z9 => ?_) ?_
   ·rw [eS (l := [(3, _), (4, _)]) ⟨z9 3 rfl, z9 4 rfl, ⟨⟩⟩]
    refine qh (ql k qU jh rfl rfl rfl hrs.slv (by omega) rfl ?_)
    exact ⟨rfl, rfl, rfl⟩
   refine pD (fun W R z9 => ?_) ?_
   ·rw [eS (l := [(5, _)]) ⟨z9 5 rfl, ⟨⟩⟩]
    refine qh (qB [a1, a2] isAgg136 jh rfl rfl (Rd.two (hr1 _) (hr2 _)) ?_)
    exact ⟨rfl, rfl, rfl⟩
   exact stepsP.nil
  intro W hphi
  rw [eS (l := [(1, _), (6, _)]) ⟨(hphi 1 (by decide)), (hphi 6 (by decide)), ⟨⟩⟩]
  show XL _ _ _ _ _ _ _ (cellsH b1 [arv, rsv] 66 :: L)
  refine cX (qt (args := [.agg #[arv], .agg #[a1, a2]]) call163 rfl (sRuleOk_spec har ha1 ha2 (hla := (by first | assumption | rfl | omega | simp)) (hlb := ((hrb k (by omega)).1)) (hlc := ((hrb k (by omega)).2))) ?_)
  rintro _ _ _ _ ⟨rfl, rfl, rfl⟩
  refine cX (jp rfl (qb ?_))
  refine X.cond (t := !(ruleOk ar ((rs.getD k ([], [])).1) ((rs.getD k ([], [])).2))) rfl (fun h4 => ?_) (fun h4 => ?_)
  ·refine qc (qa (qg (.bool (false)) rfl (qb (qy (qz (qk (qk (qz (qk (qs (L' := L) [.bool (false)] (.bool (false)) (.tmp rfl .nil) rfl rF rF (sD sR) ?_))))))))))
   exact ⟨(vB (sysOk_false (fun h => by have := h.2.2 k (by omega); simp_all))), rfl, rfl⟩
  refine qw (qa (qf (ii ((k : Int))) rfl (cX (qI (((k + 1 : Nat) : Int)) rfl rfl (by omega) (by omega) (qg (ii (((k + 1 : Nat) : Int))) rfl (qb ?_))))))
  exact ⟨k + 1, _, FLe.refl _, rF, ⟨rfl, rfl, ⟨⟩⟩, (sC sR), ⟨rfl, (by omega), (fun i hi => (Nat.lt_or_ge i k).elim (fun h => hall i h) (fun h => by obtain rfl : i = k := (by omega); first | assumption | simp_all))⟩, (by omega)⟩
 refine ja (qu (qu (qJ (qc (qa (qg (.bool (true)) rfl (qb (qy (qs (L' := L) [.bool (true)] (.bool (true)) (.tmp rfl .nil) rfl rF rF (sD sR) ?_)))))))))
 exact ⟨(vB (sysOk_iff.2 ⟨by first | assumption | simp_all, by omega, fun i hi => hall i (by omega)⟩)), rfl, rfl⟩

/- impl.matchInto -/
theorem matchInto_spec {F : FH} {L : List HP} {arv : Value} {ar : List Int} (har : IntsF F arv ar) {pv : Value} {p : List Int} (hp : IntsF F pv p) {tv : Value} {t : List Int} (ht : IntsF F tv t) {bs : List Value} {b : RowL} (hb : BindC F bs b) (hbl : b.length = 24) (ho : termOk ar t = true) (hpl : p.length ≤ 4000000) (hpg : ∀ k, k < p.length → -24 ≤ p.getD k 0) :
    Does prog 116 [.agg #[arv], pv, tv, .agg (bs).toArray] F (L) (fun v F' L' => F = F' ∧ ∃ (bs : List Value), ∃ (bl : RowL), (.tuple #[.agg (bs).toArray, .bool ((mGo ar t p 0 b).isSome)] : Value) = v ∧ (BindC F' bs bl) ∧ (bl.length = 24) ∧ (∀ r, mGo ar t p 0 b = some r → bl = r) ∧ L = L') := by
 refine qD func116 rfl rfl rfl ?_
 have hsl := sigOk_spec (termOk_sig ho)
 have htl := termOk_len ho
 have hnn := jO ht (by omega)
 refine qc (qa (cX (qV [arv] rfl rfl ?_)))
 intro b1
 refine cX (qV bs rfl rfl ?_)
 intro b2
 refine cX (jo (List.replicate 24 (sN)) zeroValue161 rfl ?_)
 intro b3
 have hc1 : BindC F _ _ := BindC.nils 24
 refine qg (.bool (false)) rfl (qb (qc (qa (qg (ii (0)) rfl (qb (qc (qc (qa (qf (pv) rfl (cX (qC qd rfl hp.slv (qf (ii (0)) rfl (qb (qF (jj (α := Nat × Nat × List Value × RowL) (fun xQ => [(2, tv), (4, ptr b1 0), (7, ptr b2 0), (8, ptr b3 0), (10, ii (((xQ.2.1 : Nat) : Int))), (14, pv), (15, ii ((p.length : Int))), (16, ii (((xQ.1 : Nat) : Int)))]) (fun xQ => cellsH b3 (List.replicate 24 (sN)) 161 :: cellsH b2 xQ.2.2.1 161 :: cellsH b1 [arv] 31 :: L) (fun xQ F' => F = F' ∧ (BindC F xQ.2.2.1 xQ.2.2.2) ∧ (xQ.2.2.2.length = 24) ∧ (xQ.1 ≤ p.length) ∧ (xQ.2.1 ≤ t.length) ∧ (mGo ar t p 0 b = mGo ar t (p.drop xQ.1) xQ.2.1 xQ.2.2.2)) (fun xQ => p.length - xQ.1) (0, 0, bs, b) ⟨rfl, rfl, rfl, rfl, rfl, rfl, rfl, rfl, ⟨⟩⟩ (sC (sC (sC sR))) ⟨rfl, (hb), (hbl), (by (try dsimp only) <;> omega), (by (try dsimp only) <;> omega), (rfl)⟩ ?_)))))))))))))))
 rintro ⟨k, i, bs, bl⟩ rE _ _ ⟨rfl, hbc, hbl2, hk, hi, hm⟩
 show X _ _ _ _ (envs [(2, tv), (4, ptr b1 0), (7, ptr b2 0), (8, ptr b3 0), (10, ii ((i : Int))), (14, pv), (15, ii ((p.length : Int))), (16, ii ((k : Int)))] rE) _ (cellsH b3 (List.replicate 24 (sN)) 161 :: cellsH b2 bs 161 :: cellsH b1 [arv] 31 :: L)
 dsimp only at hbc hbl2 hk hi hm
 have hpk := hpg k
 have hsl2 := fun h => sub_length (p := i) ho h
 have hee := fun h => endN_spec (p := i) ho h
 refine qc (qa (cX (qL rfl rfl (qb (qc ?_)))))
 refine qx (p := (k : Int) < (p.length : Int)) rfl (fun h1 => ?_) (fun h1 => ?_)
 ·refine qw (qc (qF (qc (qa (cX (ql k qd qo rfl rfl rfl hp.slv (by omega) (Nat.mul_one _) (cX (qi qK rfl (hp.rd (by omega)) (qg (ii (p.getD k 0)) rfl (qb (qc (qc (qa (qf (ii ((i : Int))) rfl (qf (tv) rfl (cX (qC qd rfl ht.slv (cX (jT rfl rfl (qb ?_))))))))))))))))))))
  refine qx (p := (i : Int) ≥ (t.length : Int)) rfl (fun h2 => ?_) (fun h2 => ?_)
  ·refine qc (qa (cX (qB bs isAgg161 sizeOf161 (by have := CO.len hbc; (try simp only [List.length_set, List.length_replicate] at this ⊢) <;> omega) rfl (Rd.ownN [_] rfl take_all) (cX (jb [] _ bs sizeOf161 rfl rfl (by have := CO.len hbc; (try simp only [List.length_set, List.length_replicate] at this ⊢) <;> omega) hbc.ones rfl (Nat.ble_eq_true_of_le (Nat.le_of_eq (by have := CO.len hc1; (try simp only [List.length_set, List.length_replicate] at this ⊢) <;> omega))) (arr_over (by have := CO.len hc1; (try simp only [List.length_set, List.length_replicate] at this ⊢) <;> omega)) (qg (.bool (false)) rfl (qb (qy (qk (qz (qk (qk (qz (qk (qs (L' := L) [.agg (bs).toArray, .bool (false)] (.tuple #[.agg (bs).toArray, .bool (false)]) (.cell rfl (jP bs isAgg161 sizeOf161 (by have := CO.len hbc; (try simp only [List.length_set, List.length_replicate] at this ⊢) <;> omega) (Rd.ownN [] rfl take_all)) (.tmp rfl .nil)) rfl rF rF (sD (sD (sD sR))) ?_)))))))))))))))
   have hz : mGo ar t p 0 b = none := hm.trans (mGo_short (by omega) (by omega))
   refine ⟨rfl, _, _, by rw [hz]; rfl, hbc, by (try simp only [List.length_set]) <;> omega, fun r hr => ?_, rfl⟩
   rw [hz] at hr; cases hr
  refine qw (qc (qc (qa (qf (ii (p.getD k 0)) rfl (cX (jT rfl rfl (qb ?_)))))))
  refine qx (p := (p.getD k 0 : Int) ≥ 0) rfl (fun h3 => ?_) (fun h3 => ?_)
  ·refine qc (qc (qa (qf (tv) rfl (qf (ii ((i : Int))) rfl (cX (ql i qd qo rfl rfl rfl ht.slv (by omega) (Nat.mul_one _) (cX (qi qK rfl (ht.rd (by omega)) (qf (ii (p.getD k 0)) rfl (cX (XOp.neq rfl rfl (qb ?_))))))))))))
   refine qx (p := (t.getD i 0 : Int) ≠ p.getD k 0) rfl (fun h4 => ?_) (fun h4 => ?_)
   ·refine qc (qa (cX (qB bs isAgg161 sizeOf161 (by have := CO.len hbc; (try simp only [List.length_set, List.length_replicate] at this ⊢) <;> omega) rfl (Rd.ownN [_] rfl take_all) (cX (jb [] _ bs sizeOf161 rfl rfl (by have := CO.len hbc; (try simp only [List.length_set, List.length_replicate] at this ⊢) <;> omega) hbc.ones rfl (Nat.ble_eq_true_of_le (Nat.le_of_eq (by have := CO.len hc1; (try simp only [List.length_set, List.length_replicate] at this ⊢) <;> omega))) (arr_over (by have := CO.len hc1; (try simp only [List.length_set, List.length_replicate] at this ⊢) <;> omega)) (qg (.bool (false)) rfl (qb (qy (qk (qk (qz (qk (qk (qz (qk (qs (L' := L) [.agg (bs).toArray, .bool (false)] (.tuple #[.agg (bs).toArray, .bool (false)]) (.cell rfl (jP bs isAgg161 sizeOf161 (by have := CO.len hbc; (try simp only [List.length_set, List.length_replicate] at this ⊢) <;> omega) (Rd.ownN [] rfl take_all)) (.tmp rfl .nil)) rfl rF rF (sD (sD (sD sR))) ?_))))))))))))))))
    have hz : mGo ar t p 0 b = none := hm.trans (mGo_ne (by omega) (by omega) (by omega) (by assumption))
    refine ⟨rfl, _, _, by rw [hz]; rfl, hbc, by (try simp only [List.length_set]) <;> omega, fun r hr => ?_, rfl⟩
    rw [hz] at hr; cases hr
   refine qw (qc (qa (qf (ii ((i : Int))) rfl (cX (qI (((i + 1 : Nat) : Int)) rfl rfl (by omega) (by omega) (qg (ii (((i + 1 : Nat) : Int))) rfl (qb (ja (qu (qJ (qa (cX (qI (((k + 1 : Nat) : Int)) rfl rfl (by omega) (by omega) (qf (ii (((k + 1 : Nat) : Int))) rfl (qb ?_)))))))))))))))
   exact ⟨(k + 1, i + 1, bs, bl), _, FLe.refl _, rF, ⟨rfl, rfl, rfl, rfl, rfl, rfl, rfl, rfl, ⟨⟩⟩, (sC (sC (sC sR))), ⟨rfl, (hbc), (by (try simp only [List.length_set]) <;> omega), (by (try dsimp only) <;> omega), (by (try dsimp only) <;> omega), (hm.trans (mGo_sym (by omega) (by omega) (by omega) (by omega)))⟩, (by omega)⟩
  refine qw (qc (qa (cX (qB [arv] je qN rfl rfl (Rd.ownN [_, _] rfl rfl) (qf (tv) rfl (qf (ii ((i : Int))) rfl (cX (qt (args := [.agg #[arv], tv, ii (i : Int)]) call55 rfl (subAt_spec (p := i) har ht (ho := (by first | assumption | rfl | omega | simp)) (hp := (by first | assumption | rfl | omega | simp)) (hnn := (by first | assumption | rfl | omega | simp))) ?_))))))))
  rintro v1 _ _ _ ⟨rfl, rfl, hv1, hn1⟩
  refine qg (v1) rfl (qb (qc (qc (qa (qf (ii (p.getD k 0)) rfl (cX (qY ((-1) - (p.getD k 0)) rfl rfl (by omega) (by omega) (cX (jU (i := (-1) - (p.getD k 0)) (((-1) - (p.getD k 0)).toNat) (((-1) - (p.getD k 0)).toNat) runUnderlying161 qr rfl rfl (by omega) (by omega) (by omega) ?_)))))))))
  obtain ⟨a1, ha1, hn2, he1⟩ := hbc.get (i := ((-1) - (p.getD k 0)).toNat) (by omega)
  refine cX (qi qP rfl (Rd.own [_] rfl he1) (cX (XOp.eqNil qd rfl rfl (qG ha1) (qb ?_))))
  refine X.cond (t := isNil a1) rfl (fun h5 => ?_) (fun h5 => ?_)
  ·refine qa (qf (ii (p.getD k 0)) rfl (cX (qY ((-1) - (p.getD k 0)) rfl rfl (by omega) (by omega) (qf (v1) rfl (cX (jU (i := (-1) - (p.getD k 0)) (((-1) - (p.getD k 0)).toNat) (((-1) - (p.getD k 0)).toNat) runUnderlying161 qr rfl rfl (by omega) (by omega) (by omega) (cX (jq [_] _ (bs.set (((-1) - (p.getD k 0)).toNat) v1) qr rfl rfl (qZ (qG hv1)) rfl (blt_of (by have := CO.len hbc; (try simp only [List.length_set, List.length_replicate] at this ⊢) <;> omega)) rfl ?_))))))))
   have hc2 := hbc.set (((-1) - (p.getD k 0)).toNat) hv1 (by simp [*, sub_ne ho (show i < t.length by omega)])
   refine qb (qa (qf (ii ((i : Int))) rfl (qf (v1) rfl (cX (qC qd rfl hv1.slv (cX (qI (((i + (((sub ar t i)).length) : Nat) : Int)) rfl rfl (by omega) (by omega) (qg (ii (((i + (((sub ar t i)).length) : Nat) : Int))) rfl (qb (qa (cX (qI (((k + 1 : Nat) : Int)) rfl rfl (by omega) (by omega) (qf (ii (((k + 1 : Nat) : Int))) rfl (qb ?_))))))))))))))
   exact ⟨(k + 1, i + (((sub ar t i)).length), (bs.set (((-1) - (p.getD k 0)).toNat) v1), (bl.set (((-1) - (p.getD k 0)).toNat) ((sub ar t i)))), _, FLe.refl _, rF, ⟨rfl, rfl, rfl, rfl, rfl, rfl, rfl, rfl, ⟨⟩⟩, (sC (sC (sC sR))), ⟨rfl, (hc2), (by (try simp only [List.length_set]) <;> omega), (by (try dsimp only) <;> omega), (by (try dsimp only) <;> omega), (hm.trans (mGo_new (by omega) (by omega) (by omega) (of_decide_eq_true (hn2.symm.trans (by assumption)))))⟩, (by omega)⟩
  refine qc (qa (qf (ii (p.getD k 0)) rfl (cX (qY ((-1) - (p.getD k 0)) rfl rfl (by omega) (by omega) (cX (jU (i := (-1) - (p.getD k 0)) (((-1) - (p.getD k 0)).toNat) (((-1) - (p.getD k 0)).toNat) runUnderlying161 qr rfl rfl (by omega) (by omega) (by omega) (cX (qi qP rfl (Rd.own [_] rfl he1) (qf (v1) rfl (cX (qt (args := [a1, v1]) call141 rfl (Equal_spec ha1 hv1 (hbd := (by first | assumption | rfl | omega | (left; simp; done) | (right; simp; done)))) ?_)))))))))))
  rintro _ _ _ _ ⟨rfl, rfl, rfl⟩
  refine cX (jN rfl (qb ?_))
  refine qx (p := ¬(((bl.getD (((-1) - (p.getD k 0)).toNat) [])) = ((sub ar t i)))) rfl (fun h6 => ?_) (fun h6 => ?_)
  ·refine qc (qa (cX (qB bs isAgg161 sizeOf161 (by have := CO.len hbc; (try simp only [List.length_set, List.length_replicate] at this ⊢) <;> omega) rfl (Rd.ownN [_] rfl take_all) (cX (jb [] _ bs sizeOf161 rfl rfl (by have := CO.len hbc; (try simp only [List.length_set, List.length_replicate] at this ⊢) <;> omega) hbc.ones rfl (Nat.ble_eq_true_of_le (Nat.le_of_eq (by have := CO.len hc1; (try simp only [List.length_set, List.length_replicate] at this ⊢) <;> omega))) (arr_over (by have := CO.len hc1; (try simp only [List.length_set, List.length_replicate] at this ⊢) <;> omega)) (qg (.bool (false)) rfl (qb (qy (qk (qz (qk (qk (qz (qk (qs (L' := L) [.agg (bs).toArray, .bool (false)] (.tuple #[.agg (bs).toArray, .bool (false)]) (.cell rfl (jP bs isAgg161 sizeOf161 (by have := CO.len hbc; (try simp only [List.length_set, List.length_replicate] at this ⊢) <;> omega) (Rd.ownN [] rfl take_all)) (.tmp rfl .nil)) rfl rF rF (sD (sD (sD sR))) ?_)))))))))))))))
   have hz : mGo ar t p 0 b = none := hm.trans (mGo_clash (by omega) (by omega) (by omega) (of_decide_eq_false (hn2.symm.trans (by assumption))) (by assumption))
   refine ⟨rfl, _, _, by rw [hz]; rfl, hbc, by (try simp only [List.length_set]) <;> omega, fun r hr => ?_, rfl⟩
   rw [hz] at hr; cases hr
  refine qw (qa (qf (ii ((i : Int))) rfl (qf (v1) rfl (cX (qC qd rfl hv1.slv (cX (qI (((i + (((sub ar t i)).length) : Nat) : Int)) rfl rfl (by omega) (by omega) (qg (ii (((i + (((sub ar t i)).length) : Nat) : Int))) rfl (qb (qa (cX (qI (((k + 1 : Nat) : Int)) rfl rfl (by omega) (by omega) (qf (ii (((k + 1 : Nat) : Int))) rfl (qb ?_))))))))))))))
  exact ⟨(k + 1, i + (((sub ar t i)).length), bs, bl), _, FLe.refl _, rF, ⟨rfl, rfl, rfl, rfl, rfl, rfl, rfl, rfl, ⟨⟩⟩, (sC (sC (sC sR))), ⟨rfl, (hbc), (by (try simp only [List.length_set]) <;> omega), (by (try dsimp only) <;> omega), (by (try dsimp only) <;> omega), (hm.trans (mGo_same (by omega) (by omega) (by omega) (of_decide_eq_false (hn2.symm.trans (by assumption))) (by first | assumption | exact Classical.not_not.1 (by assumption))))⟩, (by omega)⟩
 refine ja (qu (qu (qJ (qc (qa (cX (qB bs isAgg161 sizeOf161 (by have := CO.len hbc; (try simp only [List.length_set, List.length_replicate] at this ⊢) <;> omega) rfl (Rd.ownN [_] rfl take_all) (cX (jb [] _ bs sizeOf161 rfl rfl (by have := CO.len hbc; (try simp only [List.length_set, List.length_replicate] at this ⊢) <;> omega) hbc.ones rfl (Nat.ble_eq_true_of_le (Nat.le_of_eq (by have := CO.len hc1; (try simp only [List.length_set, List.length_replicate] at this ⊢) <;> omega))) (arr_over (by have := CO.len hc1; (try simp only [List.length_set, List.length_replicate] at this ⊢) <;> omega)) (qg (.bool (true)) rfl (qb (qy (qs (L' := L) [.agg (bs).toArray, .bool (true)] (.tuple #[.agg (bs).toArray, .bool (true)]) (.cell rfl (jP bs isAgg161 sizeOf161 (by have := CO.len hbc; (try simp only [List.length_set, List.length_replicate] at this ⊢) <;> omega) (Rd.ownN [] rfl take_all)) (.tmp rfl .nil)) rfl rF rF (sD (sD (sD sR))) ?_)))))))))))))
 have hz : mGo ar t p 0 b = some bl := hm.trans (mGo_done (by omega))
 refine ⟨rfl, _, _, by rw [hz]; rfl, hbc, by (try simp only [List.length_set]) <;> omega, fun r hr => ?_, rfl⟩
 rw [hz] at hr; exact Option.some.inj hr

/- impl.variable -/
theorem variable_spec {F : FH} {L : List HP} {i : Nat} (hi : i ≤ 1000) :
    Does prog 180 [ii ((i : Int))] F (L) (fun v F' L' => F = F' ∧ IsSl v ∧ intsH 2 v ([-1 - (i : Int)]) :: L = L') := by
 refine qD func180 rfl rfl rfl (qc (qa (qg (sN) rfl (qb (qc (qa (qf (ii ((i : Int))) rfl (cX (qY ((-1) - ((i : Int))) rfl rfl (by omega) (by omega) (cX (qM (s := 1) [ii ((-1) - ((i : Int)))] [ii (0)] [(0, [ii ((-1) - ((i : Int)))])] qd qo jk rfl (by decide) rfl (.cons rfl CellsAre.nil) rfl ?_)))))))))))
 intro v1 hv1
 refine qg (v1) rfl (qb (qy (qs (L' := intsH 2 v1 ([(-1) - ((i : Int))]) :: L) [v1] (v1) (.tmp rfl .nil) rfl rF rF (sC sR) ?_)))
 refine ⟨rfl, (jJ hv1), ?_⟩
 have hxs : ([-1 - (i : Int)] : List Int) = [(-1) - ((i : Int))] := rfl
 exact congrArg (fun z => intsH 2 _ z :: L) hxs

/- (impl.bindings).subst -/
theorem subst_spec {F : FH} {L : List HP} {bs : List Value} {b : RowL} (hb : BindC F bs b) (hbl : b.length = 24) :
    Does prog 118 [.agg (bs).toArray] F (L) (fun v F' L' => ∃ (a : Value), (.agg #[a] : Value) = v ∧ (RowsF F' a b) ∧ L = L') := by
 refine qD func118 rfl rfl rfl (qc (qa (cX (qV bs rfl rfl ?_))))
 intro b1
 refine cX (jo [sN] jL rfl ?_)
 intro b2
 refine qb (qc (qa (cX (XOp.sliceArr (cs := bs) [_] _ runUnderlying161 qr rfl (by have := CO.len hb; (try simp only [List.length_set, List.length_replicate] at this ⊢) <;> omega) rfl ?_))))
 intro v1 hv1
 have hc1 := BindC.rows hb
 refine cX (jw [v1] [sN] [(0, 1)] [(0, [v1])] qX jL rfl (.cons rfl jg PlacesAre.nil) rfl (.cons (cells_one ⟨_, _, _, hv1⟩) CellsAre.nil) (cX (jb [] _ [v1] js rfl rfl rfl (qv (qZ ⟨_, _, _, hv1⟩) jf) rfl rfl rfl (qb (jA [_] _ _ rfl (fun F1 le1 hz1 => ?_))))))
 replace hc1 := hc1.mono le1
 have hf1 : RowsF F1 v1 b := CO.fz hc1 (by first | rfl | omega | (rw [List.length_set]; omega) | (simp; done)) hz1.fz
 refine qy (qs (L' := L) [.agg #[v1]] (.agg #[v1]) (.cell rfl (jP [v1] isAgg86 js rfl (Rd.ownN [] rfl rfl)) .nil) rfl le1 rF (sD sR) ?_)
 exact ⟨_, rfl, hf1, rfl⟩

/- impl.plain -/
theorem plain_spec {F : FH} {L : List HP} {sv : Value} {s : List (List Int)} (hs : RowsF F sv s) (hsl : s.length ≤ 24) (hsb : ∀ i, i < s.length → (s.getD i []).length ≤ 4000000) :
    Does prog 117 [.agg #[sv]] F (L) (fun v F' L' => ∃ (a : Value), (.agg #[a] : Value) = v ∧ (RowsF F' a (plainL s)) ∧ L = L') := by
 refine qD func117 rfl rfl rfl (qc (qa (cX (qV [sv] rfl rfl ?_))))
 intro b1
 refine cX (jo [sN] jL rfl ?_)
 intro b2
 refine qb (qc (qa (cX (jo [sN] jL rfl ?_))))
 intro b3
 refine qb (qc (qc (qa (cX (qn (0) qX rfl jg (by decide) rfl rfl (cX (qi jE rfl (Rd.own [_, _] rfl rfl) (cX (qC qA rfl hs.slv (qf (ii (0)) rfl (qb (qF (jj (α := Nat × Value × RowL × FH) (fun xQ => [(2, ptr b2 0), (3, ptr b3 0), (7, sv), (8, ii ((s.length : Int))), (9, ii (((xQ.1 : Nat) : Int)))]) (fun xQ => rowsH 22 xQ.2.2.2 xQ.2.1 xQ.2.2.1 :: cellsH b3 [xQ.2.1] 86 :: cellsH b2 [sN] 86 :: cellsH b1 [sv] 86 :: L) (fun xQ F' => xQ.2.2.2 = F' ∧ F ≤ xQ.2.2.2 ∧ (IsSl xQ.2.1) ∧ (xQ.2.2.1 = trim ((plainGo 0 s).take xQ.1)) ∧ (xQ.1 ≤ s.length)) (fun xQ => s.length - xQ.1) (0, sN, [], F) ⟨rfl, rfl, rfl, rfl, rfl, ⟨⟩⟩ (coH.addNil none (sC (sC (sC sR)))) ⟨rfl, FLe.refl _, (⟨_, _, _, rfl⟩), (rfl), (by (try dsimp only) <;> omega)⟩ ?_)))))))))))))
 rintro ⟨k, ov, os, G1⟩ rE _ _ ⟨rfl, leG, hov, hos, hk⟩
 show X _ _ _ _ (envs [(2, ptr b2 0), (3, ptr b3 0), (7, sv), (8, ii ((s.length : Int))), (9, ii ((k : Int)))] rE) _ (rowsH 22 G1 ov os :: cellsH b3 [ov] 86 :: cellsH b2 [sN] 86 :: cellsH b1 [sv] 86 :: L)
 replace leG : F ≤ G1 := leG
 dsimp only at hov hos hk
 have leG1 := leG
 replace hs := hs.mono leG1
 refine X.open [] rfl (fun cs1 hc1 => ?_)
 replace hc1 : RowsC G1 cs1 os := hc1
 refine qc (qa (cX (qL rfl rfl (qb (qc ?_)))))
 refine qx (p := (k : Int) < (s.length : Int)) rfl (fun h1 => ?_) (fun h1 => ?_)
 ·refine qw (qc (qF (qc (qa (qf (ii ((k : Int))) rfl (cX (ql k qA qr rfl rfl rfl hs.slv (by omega) (Nat.mul_one _) ?_)))))))
  obtain ⟨a1, ha1, hr1⟩ := hs.rd (i := k) (by omega)
  refine cX (qi qP rfl (hr1 _) (qg (ii ((k : Int))) rfl (qg (a1) rfl (qb (qc (qc (qa (qf (a1) rfl (cX (qC qd rfl ha1.slv (cX (jI rfl rfl (qf (.bool (decide ((((((s.getD k [])).length : Nat) : Int) : Int) = 0))) rfl ?_)))))))))))))
  by_cases h2 : (((((s.getD k [])).length : Nat) : Int) : Int) = 0
  ·refine qp (t := 17) rfl (vT h2) (qp (t := 17) rfl (vT h2) (qp (t := 17) rfl (vT h2) (qp (t := 17) rfl (vT h2) (cX (qR (.bool (true)) (vT h2) rfl (qb (jB rfl (ja (qu (qJ (qa (cX (qI (((k + 1 : Nat) : Int)) rfl rfl (by omega) (by omega) ?_)))))))))))))
   refine qf (ii (((k + 1 : Nat) : Int))) rfl (qb ?_)
   exact ⟨(k + 1, ov, os, G1), _, leG1, rF, ⟨rfl, rfl, rfl, rfl, rfl, ⟨⟩⟩, (coH.close hc1 (by first | rfl | simp) (sC (sC (sC sR)))), ⟨rfl, leG1, (hov), (hos.trans (plain_skip (by omega) (by first | (left; exact List.eq_nil_of_length_eq_zero (by omega)) | (right; assumption))).symm), (by (try dsimp only) <;> omega)⟩, (by omega)⟩
  refine qq (t := 17) rfl (vF h2) (qj (a1) rfl (qq (t := 17) rfl (vF h2) (qj (ii ((k : Int))) rfl (qq (t := 17) rfl (vF h2) (jK <| qt (args := [ii (k : Int)]) call180 rfl (variable_spec (i := k) (hi := (by first | assumption | rfl | omega | simp))) ?_)))))
  rintro v1 _ _ _ ⟨rfl, hs1, rfl⟩
  refine ⟨_, _, rfl, fun F1 le1 hz1 => ?_⟩
  replace hs := hs.mono le1
  replace hc1 := hc1.mono le1
  replace ha1 := ha1.mono le1
  have hf1 : IntsF F1 v1 (([-1 - (k : Int)])) := intsH.fz (xs := ([-1 - (k : Int)])) hz1.fz
  refine qq (t := 17) rfl (vF h2) (qt (args := [a1, v1]) call141 rfl (Equal_spec ha1 hf1 (hbd := (by first | assumption | rfl | omega | (left; simp; done) | (right; simp; done)))) ?_)
  rintro _ _ _ _ ⟨rfl, rfl, rfl⟩
  refine cX (qS (.bool (decide (((s.getD k [])) = (([-1 - (k : Int)]))))) (vF h2) rfl (qb ?_))
  refine qx (p := ((s.getD k [])) = (([-1 - (k : Int)]))) rfl (fun h3 => ?_) (fun h3 => ?_)
  ·refine ja (qu (qJ (qa (cX (qI (((k + 1 : Nat) : Int)) rfl rfl (by omega) (by omega) (qf (ii (((k + 1 : Nat) : Int))) rfl (qb ?_)))))))
   exact ⟨(k + 1, ov, os, F1), _, (qm leG1 le1), rF, ⟨rfl, rfl, rfl, rfl, rfl, ⟨⟩⟩, (coH.close hc1 (by first | rfl | simp) (sC (sC (sC sR)))), ⟨rfl, (qm leG1 le1), (hov), (hos.trans (plain_skip (by omega) (by first | (left; exact List.eq_nil_of_length_eq_zero (by omega)) | (right; assumption))).symm), (by (try dsimp only) <;> omega)⟩, (by omega)⟩
  refine qw (qc (qF (jj (α := Nat × Value × RowL × FH) (fun xQ => [(2, ptr b2 0), (3, ptr b3 0), (4, ii ((k : Int))), (5, a1), (7, sv), (8, ii ((s.length : Int))), (9, ii ((k : Int)))]) (fun xQ => rowsH 22 xQ.2.2.2 xQ.2.1 xQ.2.2.1 :: cellsH b3 [xQ.2.1] 86 :: cellsH b2 [sN] 86 :: cellsH b1 [sv] 86 :: L) (fun xQ F' => xQ.2.2.2 = F' ∧ F1 ≤ xQ.2.2.2 ∧ (IsSl xQ.2.1) ∧ (xQ.2.2.1 = os ++ List.replicate xQ.1 []) ∧ (xQ.2.2.1.length ≤ k)) (fun xQ => k - xQ.2.2.1.length) (0, ov, os, F1) ⟨rfl, rfl, rfl, rfl, rfl, rfl, rfl, ⟨⟩⟩ (coH.close hc1 (by first | rfl | simp) (sC (sC (sC sR)))) ⟨rfl, FLe.refl _, (hov), (by simp), (by have := trim_le ((plainGo 0 s).take k); rw [← hos, List.length_take] at this; (try dsimp only); omega)⟩ ?_)))
  rintro ⟨j, ov2, os2, G2⟩ rE _ _ ⟨rfl, leG, hov2, hos2, hl2⟩
  show X _ _ _ _ (envs [(2, ptr b2 0), (3, ptr b3 0), (4, ii ((k : Int))), (5, a1), (7, sv), (8, ii ((s.length : Int))), (9, ii ((k : Int)))] rE) _ (rowsH 22 G2 ov2 os2 :: cellsH b3 [ov2] 86 :: cellsH b2 [sN] 86 :: cellsH b1 [sv] 86 :: L)
  replace leG : F1 ≤ G2 := leG
  dsimp only at hov2 hos2 hl2
  have leG2 := leG
  replace hs := hs.mono leG2
  replace hc1 := hc1.mono leG2
  replace ha1 := ha1.mono leG2
  refine X.open [] rfl (fun cs2 hc2 => ?_)
  replace hc2 : RowsC G2 cs2 os2 := hc2
  refine qc (qc (qa (cX (qn (0) qX rfl jg (by decide) rfl rfl (cX (qi jE rfl (Rd.own [_] rfl rfl) (cX (qC qA rfl (SlV.own [] rfl) (qf (ii ((k : Int))) rfl (cX (qL rfl rfl (qb ?_))))))))))))
  refine qx (p := ((os2.length : Int) : Int) < (k : Int)) rfl (fun h4 => ?_) (fun h4 => ?_)
  ·refine qw (qF (qa (cX (qn (0) qX rfl jg (by decide) rfl rfl (cX (qi jE rfl (Rd.own [_] rfl rfl) (cX (qM (s := 1) [sN] [sN] [(0, [sN])] qA qr jM rfl (by decide) rfl (.cons rfl CellsAre.nil) rfl ?_))))))))
   intro v2 hv1
   refine cX (XOp.append (m := 1) (bytes := 24) (cs := cs2) [_] _ [sN] qA typeInfo22 rfl rfl rfl rfl rfl rfl rfl (SlV.own [] rfl) rfl (Rd.lit [] rfl) (qv rfl jf) (by (try simp only [List.length_append, List.length_nil, List.length_cons, List.length_singleton]); omega) (by (try simp only [List.length_append, List.length_nil, List.length_cons, List.length_singleton]); omega) ?_)
   intro v3 hs2 hn1 hm1
   have hc3 := RowsC.snoc hc2 IntsF.nilV
   refine cX (qn (0) qX rfl jg (by decide) rfl rfl (cX (jq [_, _] _ [v3] jg rfl rfl (qZ hs2) rfl rfl rfl (qb ?_))))
   exact ⟨(j + 1, v3, os2 ++ [[]], G2), _, leG2, rF, ⟨rfl, rfl, rfl, rfl, rfl, rfl, rfl, ⟨⟩⟩, (sD (coH.close hc3 (by first | rfl | simp) (sC (sC (sC sR))))), ⟨rfl, leG2, (hs2), (by dsimp only; rw [hos2, List.append_assoc, List.replicate_succ']), (by dsimp only; rw [List.length_append]; simp only [List.length_singleton]; omega)⟩, (by dsimp only; rw [List.length_append]; simp only [List.length_singleton]; omega)⟩
  refine ja (qu (qu (qJ ?_)))
  refine X.drawG [slH 22 1 ov2 ((os2).length) cs2, cellsH b3 [ov2] 86, cellsH b2 [sN] 86, cellsH b1 [sv] 86] L 5 [[], [], [], [], [3]] [[], [0], [], [2], [3]] [] (phiG [pe (ptr b3 0), pe ov2, pe a1, fun FF us v => ((v) : Value) = v ∧ (IntsF FF (v) (((s.getD k [])))), fun FF us v => ∃ b, v = .slice (some ⟨b, 0, none⟩) 1 1]) (ownL [o0, o0, o0, o0, fun us v => [slH 22 1 v 1 [((us.getD 0 undef))]]]) mixed rfl rfl (by kernel_rfl) (by kernel_rfl) (MonoG.get (m1 (m1 (m1 (mC (fun le h => ⟨h.1, h.2.mono le⟩) (mC (fun le h => h) MonoG.nil)))))) ?_ ?_
  ·refine gD (fun W Fs R lF z9 => ?_) ?_
   ·refine qh (qn (0) qX rfl jg (by decide) rfl rfl ?_)
    exact ⟨rfl, rfl⟩
   refine gD (fun W Fs R lF z9 => ?_) ?_
   ·replace hs := hs.mono lF
    replace hc1 := hc1.mono lF
    replace ha1 := ha1.mono lF
    replace hc2 := hc2.mono lF
    rw [eS (l := [(0, _)]) ⟨z9 0 rfl, ⟨⟩⟩]
    refine qh (qi jE rfl (Rd.own [_] rfl rfl) ?_)
    exact ⟨rfl, rfl⟩
   refine gD (fun W Fs R lF z9 => ?_) ?_
   ·refine qh (qj (a1) rfl ?_)
    exact ⟨rfl, rfl⟩
   refine gD (fun W Fs R lF z9 => ?_) ?_
   ·replace hs := hs.mono lF
    replace hc1 := hc1.mono lF
    replace ha1 := ha1.mono lF
    replace hc2 := hc2.mono lF
    rw [eS (l := [(2, _)]) ⟨z9 2 rfl, ⟨⟩⟩]
    refine qh (jK <| qt (args := [a1]) call53 rfl (Clone_spec ha1 (hlt := (hsb k (by omega)))) ?_)
    rintro v6 _ _ _ ⟨rfl, hs4, rfl⟩
    refine ⟨_, _, rfl, fun F2 le2 hz2 => ?_⟩
    replace hc1 := hc1.mono le2
    replace hc2 := hc2.mono le2
    have hf2 : IntsF F2 v6 ((((s.getD k [])))) := intsH.fz (xs := (((s.getD k [])))) hz2.fz
    exact ⟨⟨rfl, hf2⟩, rfl⟩
   refine gD (fun W Fs R lF z9 => ?_) ?_
   ·obtain ⟨e3, f3_1ha⟩ := z9 3 rfl
    replace hc1 := hc1.mono lF
    replace hc2 := hc2.mono lF
    rw [eS (l := [(3, ((W 3)))]) ⟨(e3).symm, ⟨⟩⟩]
    refine qh (qM (s := 1) [((W 3))] [sN] [(0, [((W 3))])] qA qr jM rfl (by decide) rfl (.cons (cells_one (qG f3_1ha)) CellsAre.nil) rfl ?_)
    intro v7 hv3
    exact ⟨hv3, rfl⟩
   exact stepsG.nil
  intro W F3 le3 hphi
  obtain ⟨e3, f3_1ha⟩ := hphi 3 (by decide)
  have f4 : ∃ b, (W 4) = .slice (some ⟨b, 0, none⟩) 1 1 := hphi 4 (by decide)
  generalize hu1 : ((W 3)) = u1 at e3 f3_1ha f4
  generalize hu4 : W 4 = u2 at e3 f3_1ha f4
  rw [eS (l := [(1, _), (3, u1), (4, u2)]) ⟨(hphi 1 (by decide)), hu1, hu4, ⟨⟩⟩]
  replace hc1 := hc1.mono le3
  replace hc2 := hc2.mono le3
  show XL _ _ _ _ _ _ _ (slH 22 1 u2 1 [u1] :: slH 22 1 ov2 ((os2).length) cs2 :: cellsH b3 [ov2] 86 :: cellsH b2 [sN] 86 :: cellsH b1 [sv] 86 :: L)
  refine cX (XOp.append (m := 1) (bytes := 24) (cs := cs2) [_] _ [u1] qA typeInfo22 rfl rfl rfl rfl rfl rfl rfl (SlV.own [] rfl) rfl (Rd.lit [] rfl) (qv (qZ (qG f3_1ha)) jf) (by (try simp only [List.length_append, List.length_nil, List.length_cons, List.length_singleton]); omega) (by (try simp only [List.length_append, List.length_nil, List.length_cons, List.length_singleton]); omega) ?_)
  intro v8 hs5 hn2 hm2
  have hc4 := RowsC.snoc hc2 f3_1ha
  refine cX (qn (0) qX rfl jg (by decide) rfl rfl (cX (jq [_, _] _ [v8] jg rfl rfl (qZ hs5) rfl rfl rfl (qb (qa (cX (qI (((k + 1 : Nat) : Int)) rfl rfl (by omega) (by omega) (qf (ii (((k + 1 : Nat) : Int))) rfl (qb ?_)))))))))
  exact ⟨(k + 1, v8, os2 ++ [(((s.getD k [])))], F3), _, (qm (qm (qm leG1 le1) leG2) le3), rF, ⟨rfl, rfl, rfl, rfl, rfl, ⟨⟩⟩, (sD (coH.close hc4 (by first | rfl | simp) (sC (sC (sC sR))))), ⟨rfl, (qm (qm (qm leG1 le1) leG2) le3), (hs5), (plain_put (m := os2) (by omega) (by intro e; have := congrArg List.length e; simp only [List.length_nil] at this; omega) (by assumption) (by rw [hos2, hos]; exact plain_padded (by rw [← hos, ← hos2, List.length_take, plainGo_length]; omega))), (by (try dsimp only) <;> omega)⟩, (by omega)⟩
 refine ja (qu (qu (qJ (qc (qa (cX (qB [ov] isAgg86 js rfl rfl (Rd.ownN [_] rfl rfl) (cX (jb [_, _] _ [ov] js rfl rfl rfl (qv (qZ hov) jf) rfl rfl rfl (qb (jA [] _ _ rfl (fun F4 le4 hz3 => ?_))))))))))))
 replace hc1 := hc1.mono le4
 have hf3 : RowsF F4 ov os := CO.fz hc1 (by first | rfl | omega | (rw [List.length_set]; omega) | (simp; done)) hz3.fz
 refine qy (qs (L' := L) [.agg #[ov]] (.agg #[ov]) (.cell rfl (jP [ov] isAgg86 js rfl (Rd.ownN [_] rfl rfl)) .nil) rfl (qm leG1 le4) rF (sD (sD (sD sR))) ?_)
 have e : os = plainL s := by rw [hos, show k = s.length from by omega, plain_all]
 exact ⟨_, rfl, by rw [← e]; exact hf3, rfl⟩

/- impl.match -/
theorem match_spec {F : FH} {L : List HP} {arv : Value} {ar : List Int} (har : IntsF F arv ar) {pv : Value} {p : List Int} (hp : IntsF F pv p) {tv : Value} {t : List Int} (ht : IntsF F tv t) (ho : termOk ar t = true) (hpo : termOk ar p = true) :
    Does prog 57 [.agg #[arv], pv, tv] F (L) (fun v F' L' => ∃ (a : Value), (.tuple #[.agg #[a], .bool ((matchB ar p t).isSome)] : Value) = v ∧ (RowsF F' a (matchP ar p t)) ∧ L = L') := by
 refine qD func57 rfl rfl rfl ?_
 have hpl := termOk_len hpo
 have hpg := fun k (hk : k < p.length) => termOk_ge hpo hk
 refine qc (qa (cX (qV [arv] rfl rfl ?_)))
 intro b1
 refine cX (jo [sN] jL rfl ?_)
 intro b2
 refine qg (.bool (false)) rfl (qb (qc (qa (cX (qB [arv] je qN rfl rfl (Rd.ownN [_] rfl rfl) (qf (pv) rfl (qf (tv) rfl (cX (XOp.build0 (List.replicate 24 (sN)) runUnderlying161 ⟨_, qr⟩ zeroValue161 rfl ?_)))))))))
 have hc1 : BindC F _ _ := BindC.nils 24
 refine cX (qt (args := [.agg #[arv], pv, tv, .agg (List.replicate 24 (sN)).toArray]) call116 rfl (matchInto_spec har hp ht hc1 ((by first | assumption | rfl | simp | omega)) (ho := (by first | assumption | rfl | omega | simp)) (hpl := (by first | assumption | rfl | omega | simp)) (hpg := (by first | assumption | rfl | omega | simp))) ?_)
 rintro _ _ _ _ ⟨rfl, x1, x2, rfl, hr1, hr2, hr3, rfl⟩
 have hbl24 := hr2
 refine qf (.tuple #[.agg (x1).toArray, .bool ((mGo ar t p 0 (List.replicate 24 ([] : List Int))).isSome)]) rfl (cX (qT (.agg (x1).toArray) rfl rfl (cX (qT (.bool ((mGo ar t p 0 (List.replicate 24 ([] : List Int))).isSome)) rfl rfl (cX (jo (List.replicate 24 (sN)) zeroValue161 rfl ?_))))))
 intro b3
 have hc2 : BindC F _ _ := BindC.nils 24
 refine cX (jb [] _ x1 sizeOf161 rfl rfl (by have := CO.len hr1; (try simp only [List.length_set, List.length_replicate] at this ⊢) <;> omega) hr1.ones rfl (Nat.ble_eq_true_of_le (Nat.le_of_eq (by have := CO.len hc2; (try simp only [List.length_set, List.length_replicate] at this ⊢) <;> omega))) (arr_over (by have := CO.len hc2; (try simp only [List.length_set, List.length_replicate] at this ⊢) <;> omega)) (qg (.bool ((mGo ar t p 0 (List.replicate 24 ([] : List Int))).isSome)) rfl (qb (qc (qc (qa (qf (.bool ((mGo ar t p 0 (List.replicate 24 ([] : List Int))).isSome)) rfl (cX (jp rfl (qb ?_))))))))))
 refine X.cond (t := !((mGo ar t p 0 (List.replicate 24 ([] : List Int))).isSome)) rfl (fun h1 => ?_) (fun h1 => ?_)
 ·refine qc (qa (cX (jw [sN] [sN] [(0, 1)] [] qX jL rfl (.cons rfl jg PlacesAre.nil) rfl CellsAre.nil (cX (jb [_] _ [sN] js rfl rfl rfl (qv rfl jf) rfl rfl rfl (qg (.bool (false)) rfl (qb (qy (qk (qs (L' := L) [.agg #[sN], .bool (false)] (.tuple #[.agg #[sN], .bool (false)]) (.cell rfl (jP [sN] isAgg86 js rfl (Rd.ownN [_] rfl rfl)) (.tmp rfl .nil)) rfl rF rF (sD (sD (sD sR))) ?_))))))))))
  have hz : matchB ar p t = none := by have h0 := h1; simpa [matchB] using h0
  exact ⟨_, by rw [hz]; rfl, by rw [matchP, hz]; exact SlOf.nilV, rfl⟩
 have hz : ∃ r, matchB ar p t = some r := Option.isSome_iff_exists.1 (by have h0 := h1; simpa [matchB] using h0)
 have hmb : ∀ i, (x2.getD i []).length ≤ t.length := by obtain ⟨r, hz⟩ := hz; have e := hr3 _ hz; rw [e]; exact (matchB_len hz).2
 have htl := termOk_len ho
 refine qw (qc (qa (cX (qB x1 isAgg161 sizeOf161 (by have := CO.len hr1; (try simp only [List.length_set, List.length_replicate] at this ⊢) <;> omega) rfl (Rd.ownN [] rfl take_all) (cX (qt (args := [.agg (x1).toArray]) call118 rfl (subst_spec hr1 ((by first | assumption | rfl | simp | omega))) ?_))))))
 rintro _ F2 _ le2 ⟨x3, rfl, hr4, rfl⟩
 refine cX (qt (args := [.agg #[x3]]) call117 rfl (plain_spec hr4 (hsl := (by first | assumption | rfl | omega | simp)) (hsb := (fun i hi => by have := hmb i; omega))) ?_)
 rintro _ F3 _ le3 ⟨x4, rfl, hr5, rfl⟩
 refine cX (jb [_] _ [x4] js rfl rfl rfl (qv (qZ (RowsF.isSl hr5)) jf) rfl rfl rfl (qg (.bool (true)) rfl (qb (qy (qs (L' := L) [.agg #[x4], .bool (true)] (.tuple #[.agg #[x4], .bool (true)]) (.cell rfl (jP [x4] isAgg86 js rfl (Rd.ownN [_] rfl rfl)) (.tmp rfl .nil)) rfl (qm le2 le3) rF (sD (sD (sD sR))) ?_)))))
 obtain ⟨b0, hz⟩ := Option.isSome_iff_exists.1 (show (matchB ar p t).isSome = true from by have h0 := h1; simpa [matchB] using h0)
 have hb0 := hr3 _ hz
 exact ⟨_, by rw [hz]; rfl, by rw [matchP, hz]; subst hb0; exact hr5, rfl⟩

/- slices.Grow[[]int64,int64] -/
theorem GrowNil_spec {F : FH} {L : List HP}  {n : Nat} (hg1 : 1 ≤ n) (hn : n ≤ 400000000) :
    Does prog 181 [sN, ii ((n : Int))] F (L) (fun v F' L' => F = F' ∧ IsSl v ∧ intsH 2 v ([]) :: L = L') := by
 refine qD func181 rfl rfl rfl (qc (qa (qg (sN) rfl (qb (qc (qc (qa (qf (ii ((n : Int))) rfl (cX (qL rfl rfl (qb ?_)))))))))))
 refine qx (p := (n : Int) < 0) rfl (fun h1 => ?_) (fun h1 => ?_)
 ·omega
 refine qw (qc (qc (qa (qf (ii ((n : Int))) rfl (qf (sN) rfl (cX (XOp.capNil qd rfl (qf (sN) rfl (cX (qC qd rfl SlV.nil (cX (qY (0 - (((0 : Nat) : Int))) rfl rfl (by omega) (by omega) (cX (qY (((n : Int)) - (0 - (((0 : Nat) : Int)))) rfl rfl (by omega) (by omega) (qg (ii (((n : Int)) - (0 - (((0 : Nat) : Int))))) rfl (qb (qc (qa ?_))))))))))))))))))
 refine qf (ii (((n : Int)) - (0 - (((0 : Nat) : Int))))) rfl (cX (jH rfl rfl (qb ?_)))
 refine qx (p := (((n : Int)) - (0 - (((0 : Nat) : Int))) : Int) > 0) rfl (fun h2 => ?_) (fun h2 => ?_)
 ·refine qa (qf (sN) rfl (qf (sN) rfl (cX (XOp.capNil qd rfl (cX (XOp.sliceNil qd qo rfl ⟨_, rfl⟩ (qf (ii (((n : Int)) - (0 - (((0 : Nat) : Int))))) rfl (cX (XOp.appendZ (s := 1) (bytes := 8) (n := (((n : Int)) - (0 - (((0 : Nat) : Int)))).toNat) [ii (0)] qd runUnderlying3 typeInfo2 rfl rfl rfl rfl rfl (by decide) rfl (by rw [show (((((n : Int)) - (0 - (((0 : Nat) : Int)))).toNat : Nat) : Int) = ((n : Int)) - (0 - (((0 : Nat) : Int))) from by omega]; rfl) (by omega) (by omega) (by omega) ?_)))))))))
  intro v1 hv1
  have hv2 : IsSl v1 := by obtain ⟨b0, c0, h0⟩ := hv1; exact ⟨_, _, _, h0⟩
  rw [intsH_zeros]
  refine qf (sN) rfl (cX (qC qd rfl SlV.nil (cX (XOp.sliceOwn (cs := List.map (Value.int .i64) ((List.replicate ((((n : Int)) - (0 - (((0 : Nat) : Int)))).toNat) 0))) [] _ 0 qd qo rfl rfl ⟨_, rfl⟩ (Nat.zero_le _) ?_))))
  intro v2 hs1
  show XL _ _ _ _ _ _ _ (intsH 2 v2 ([]) :: L)
  refine qg (v2) rfl (qb (qc (qa (qf (v2) rfl (qg (v2) rfl (qb (qy (qs (L' := intsH 2 v2 ([]) :: L) [v2] (v2) (.tmp rfl .nil) rfl rF rF (sC sR) ?_))))))))
  refine ⟨rfl, hs1, ?_⟩
  have hxs : ([] : List Int) = [] := rfl
  exact congrArg (fun z => intsH 2 _ z :: L) hxs
 omega

/- slices.Concat[[]int64,int64] -/
theorem Concat_spec {F : FH} {L : List HP} {xsv : Value} {xs : List (List Int)} (hxs : RowsF F xsv xs) (hg1 : 1 ≤ xs.flatten.length) (hn : xs.length ≤ 10) (hb : ∀ i, i < xs.length → (xs.getD i []).length ≤ 4000000) :
    Does prog 119 [xsv] F (L) (fun v F' L' => F = F' ∧ IsSl v ∧ intsH 2 v xs.flatten :: L = L') := by
 refine qD func119 rfl rfl rfl (qc (qa (qg (sN) rfl (qb (qc (qa (qg (ii (0)) rfl (qb (qc (qc (qa (qf (xsv) rfl (cX (qC qA rfl hxs.slv (qf (ii (0)) rfl (qb (qF ?_)))))))))))))))))
 refine jj (α := Nat × Nat) (fun xQ => [(0, xsv), (3, ii (((xQ.2 : Nat) : Int))), (9, xsv), (10, ii ((xs.length : Int))), (11, ii (((xQ.1 : Nat) : Int)))]) (fun xQ => L) (fun xQ F' => F = F' ∧ (xQ.1 ≤ xs.length) ∧ (xQ.2 = (xs.take xQ.1).flatten.length) ∧ (xQ.2 ≤ xQ.1 * 4000000)) (fun xQ => xs.length - xQ.1) (0, 0) ⟨rfl, rfl, rfl, rfl, rfl, ⟨⟩⟩ sR ⟨rfl, (by (try dsimp only) <;> omega), (rfl), (by (try dsimp only) <;> omega)⟩ ?_
 rintro ⟨k, z⟩ rE _ _ ⟨rfl, hk, hz, hz2⟩
 show X _ _ _ _ (envs [(0, xsv), (3, ii ((z : Int))), (9, xsv), (10, ii ((xs.length : Int))), (11, ii ((k : Int)))] rE) _ (L)
 dsimp only at hk hz hz2
 have hbk := hb k
 have hft := fun h => congrArg List.length (flatten_take (xs := xs) (k := k) h)
 simp only [List.length_append] at hft
 refine qc (qa (cX (qL rfl rfl (qb (qc ?_)))))
 refine qx (p := (k : Int) < (xs.length : Int)) rfl (fun h1 => ?_) (fun h1 => ?_)
 ·refine qw (qc (qF (qc (qa (cX (ql k qA qr rfl rfl rfl hxs.slv (by omega) (Nat.mul_one _) ?_))))))
  obtain ⟨a1, ha1, hr1⟩ := hxs.rd (i := k) (by omega)
  refine cX (qi qP rfl (hr1 _) (qg (a1) rfl (qb (qc (qa (qf (ii ((z : Int))) rfl (qf (a1) rfl (cX (qC qd rfl ha1.slv (cX (qI (((z + (((xs.getD k [])).length) : Nat) : Int)) rfl rfl (by omega) (by omega) (qg (ii (((z + (((xs.getD k [])).length) : Nat) : Int))) rfl (qb (qc (qa (qf (ii (((z + (((xs.getD k [])).length) : Nat) : Int))) rfl ?_))))))))))))))))
  refine cX (qL rfl rfl (qb ?_))
  refine qx (p := (((z + (((xs.getD k [])).length) : Nat) : Int) : Int) < 0) rfl (fun h2 => ?_) (fun h2 => ?_)
  ·omega
  refine qw (qa (cX (qI (((k + 1 : Nat) : Int)) rfl rfl (by omega) (by omega) (qf (ii (((k + 1 : Nat) : Int))) rfl (qb ?_)))))
  exact ⟨(k + 1, z + (((xs.getD k [])).length)), _, FLe.refl _, rF, ⟨rfl, rfl, rfl, rfl, rfl, ⟨⟩⟩, sR, ⟨rfl, (by (try dsimp only) <;> omega), (by (try dsimp only) <;> omega), (by (try dsimp only) <;> omega)⟩, (by omega)⟩
 refine ja (qu (qu (qJ (qc (qa ?_)))))
 have hz1 : 1 ≤ z := by rw [hz, show xs.take k = xs from List.take_of_length_le (by omega)]; exact hg1
 refine qf (ii ((z : Int))) rfl (cX (qt (args := [sN, ii (z : Int)]) call181 rfl (GrowNil_spec (n := z) (hg1 := (hz1)) (hn := (by omega))) ?_))
 rintro v1 _ _ _ ⟨rfl, hs1, rfl⟩
 refine qg (v1) rfl (qb (qc (qc (qa (qf (xsv) rfl (cX (qC qA rfl hxs.slv (qf (ii (0)) rfl (qb (qF (jj (α := Nat × Value × List Int) (fun xQ => [(6, xQ.2.1), (25, xsv), (26, ii ((xs.length : Int))), (27, ii (((xQ.1 : Nat) : Int)))]) (fun xQ => intsH 2 xQ.2.1 xQ.2.2 :: L) (fun xQ F' => F = F' ∧ (IsSl xQ.2.1) ∧ (xQ.1 ≤ xs.length) ∧ (xQ.2.2 = (xs.take xQ.1).flatten)) (fun xQ => xs.length - xQ.1) (0, v1, ([])) ⟨rfl, rfl, rfl, rfl, ⟨⟩⟩ (sC sR) ⟨rfl, (hs1), (by (try dsimp only) <;> omega), (rfl)⟩ ?_)))))))))))
 rintro ⟨k, ov, os⟩ rE _ _ ⟨rfl, hov, hk, hos⟩
 show X _ _ _ _ (envs [(6, ov), (25, xsv), (26, ii ((xs.length : Int))), (27, ii ((k : Int)))] rE) _ (intsH 2 ov os :: L)
 dsimp only at hov hk hos
 have hbk := hb k
 have hol : os.length ≤ k * 4000000 := by rw [hos]; exact flatten_bound hb k (by omega)
 refine qc (qa (cX (qL rfl rfl (qb (qc ?_)))))
 refine qx (p := (k : Int) < (xs.length : Int)) rfl (fun h3 => ?_) (fun h3 => ?_)
 ·refine qw (qc (qF (qc (qa (cX (ql k qA qr rfl rfl rfl hxs.slv (by omega) (Nat.mul_one _) ?_))))))
  obtain ⟨a2, ha2, hr2⟩ := hxs.rd (i := k) (by omega)
  refine cX (qi qP rfl (hr2 _) (qg (a2) rfl (qb (qa (qf (ov) rfl (qf (a2) rfl (cX (XOp.appendI [] _ qd typeInfo2 rfl rfl rfl rfl rfl rfl ha2 (by (try simp only [List.length_append, List.length_nil, List.length_cons, List.length_singleton, List.length_take, List.length_drop]); omega) ?_))))))))
  intro v2 hs2 hn1 hm1
  refine qg (v2) rfl (qb (qa (cX (qI (((k + 1 : Nat) : Int)) rfl rfl (by omega) (by omega) (qf (ii (((k + 1 : Nat) : Int))) rfl (qb ?_))))))
  exact ⟨(k + 1, v2, os ++ ((xs.getD k []))), _, FLe.refl _, rF, ⟨rfl, rfl, rfl, rfl, ⟨⟩⟩, (sC sR), ⟨rfl, (hs2), (by (try dsimp only) <;> omega), ((by dsimp only; rw [hos, flatten_take (by omega)]))⟩, (by omega)⟩
 refine ja (qu (qu (qJ (qc (qa (qf (ov) rfl (qg (ov) rfl (qb (qy (qs (L' := intsH 2 ov os :: L) [ov] (ov) (.tmp rfl .nil) rfl rF rF (sC sR) ?_))))))))))
 refine ⟨rfl, hov, ?_⟩
 have hxs : (xs.flatten : List Int) = os := by rw [hos, List.take_of_length_le (by omega)]
 exact congrArg (fun z => intsH 2 _ z :: L) hxs

/- impl.put -/
theorem put_spec {F : FH} {L : List HP} {arv : Value} {ar : List Int} (har : IntsF F arv ar) {tv : Value} {t : List Int} (ht : IntsF F tv t) {p : Nat} {uv : Value} {u : List Int} (hu : IntsF F uv u) (ho : termOk ar t = true) (hp : p < t.length) (hul : 1 ≤ u.length ∧ u.length ≤ 4000000) :
    Does prog 60 [.agg #[arv], tv, ii ((p : Int)), uv] F (L) (fun v F' L' => ∃ (a : Value), (.tuple #[a, .bool ((putL ar t p u).isSome)] : Value) = v ∧ (IntsF F' a ((putL ar t p u).getD [])) ∧ ((putL ar t p u).isSome = true → isNil a = false) ∧ (Fresh F F' (intsH 2 a ((putL ar t p u).getD []))) ∧ L = L') := by
 refine qD func60 rfl rfl rfl ?_
 have hsig := termOk_sig ho
 have hsl := sigOk_spec hsig
 have htl := termOk_len ho
 have hee := endN_spec ho hp
 refine qc (qa (cX (qV [arv] rfl rfl ?_)))
 intro b1
 refine qg (sN) rfl (qg (.bool (false)) rfl (qb (qc ?_)))
 refine X.drawG [cellsH b1 [arv] 31] L 10 [] [[], [], [0, 1], [], [], [], [], [], [5, 6, 7], [4, 8]] [] (phiG [pe tv, pe (ii ((p : Int)) : Value), fun FF us v => (v : Value) = v ∧ (IntsF FF v ((t.drop 0).take (p - 0))) ∧ (isNil v = isNil tv), pe uv, pe tv, pe (.agg #[arv]), pe tv, pe (ii ((p : Int)) : Value), pe (ii (((endN ar t p : Nat) : Int)) : Value), fun FF us v => (v : Value) = v ∧ (IntsF FF v ((t.drop (endN ar t p)).take (((t).length) - (endN ar t p)))) ∧ (isNil v = isNil tv)]) (ownL []) mixed rfl rfl (by kernel_rfl) (by kernel_rfl) (MonoG.get (m1 (m1 (mC (fun le h => ⟨h.1, h.2.1.mono le, h.2.2⟩) (m1 (m1 (m1 (m1 (m1 (m1 (mC (fun le h => ⟨h.1, h.2.1.mono le, h.2.2⟩) MonoG.nil))))))))))) ?_ ?_
 ·refine gD (fun W Fs R lF z9 => ?_) ?_
  ·refine qh (qj (tv) rfl ?_)
   exact ⟨rfl, rfl⟩
  refine gD (fun W Fs R lF z9 => ?_) ?_
  ·refine qh (qj (ii ((p : Int))) rfl ?_)
   exact ⟨rfl, rfl⟩
  refine gD (fun W Fs R lF z9 => ?_) ?_
  ·replace har := har.mono lF
   replace ht := ht.mono lF
   replace hu := hu.mono lF
   rw [eS (l := [(0, _), (1, _)]) ⟨z9 0 rfl, z9 1 rfl, ⟨⟩⟩]
   refine qh (jX 0 p qd qo rfl ht rfl ⟨_, rfl⟩ (by omega) (by omega) ?_)
   intro v3 hv3 hn3
   exact ⟨⟨rfl, hv3, hn3⟩, rfl⟩
  refine gD (fun W Fs R lF z9 => ?_) ?_
  ·refine qh (qj (uv) rfl ?_)
   exact ⟨rfl, rfl⟩
  refine gD (fun W Fs R lF z9 => ?_) ?_
  ·refine qh (qj (tv) rfl ?_)
   exact ⟨rfl, rfl⟩
  refine gD (fun W Fs R lF z9 => ?_) ?_
  ·replace har := har.mono lF
   replace ht := ht.mono lF
   replace hu := hu.mono lF
   refine qh (qB [arv] je qN rfl rfl (Rd.ownN [] rfl rfl) ?_)
   exact ⟨rfl, rfl⟩
  refine gD (fun W Fs R lF z9 => ?_) ?_
  ·refine qh (qj (tv) rfl ?_)
   exact ⟨rfl, rfl⟩
  refine gD (fun W Fs R lF z9 => ?_) ?_
  ·refine qh (qj (ii ((p : Int))) rfl ?_)
   exact ⟨rfl, rfl⟩
  refine gD (fun W Fs R lF z9 => ?_) ?_
  ·replace har := har.mono lF
   replace ht := ht.mono lF
   replace hu := hu.mono lF
   rw [eS (l := [(5, _), (6, _), (7, _)]) ⟨z9 5 rfl, z9 6 rfl, z9 7 rfl, ⟨⟩⟩]
   refine qh (qt (args := [.agg #[arv], tv, ii (p : Int)]) call112 rfl (endAt_ok (p := p) har ht (ho := (by first | assumption | rfl | omega | (left; simp; done) | (right; simp; done))) (hp := (by first | assumption | rfl | omega | (left; simp; done) | (right; simp; done)))) ?_)
   rintro _ _ _ _ ⟨rfl, rfl, rfl⟩
   exact ⟨rfl, rfl⟩
  refine gD (fun W Fs R lF z9 => ?_) ?_
  ·replace har := har.mono lF
   replace ht := ht.mono lF
   replace hu := hu.mono lF
   rw [eS (l := [(4, _), (8, _)]) ⟨z9 4 rfl, z9 8 rfl, ⟨⟩⟩]
   refine qh (jX (endN ar t p) ((t).length) qd qo rfl ht ⟨_, rfl⟩ rfl (by omega) (by omega) ?_)
   intro v4 hv4 hn4
   exact ⟨⟨rfl, hv4, hn4⟩, rfl⟩
  exact stepsG.nil
 intro W F1 le1 hphi
 obtain ⟨e2, f2_1hv, f2_1hn⟩ := hphi 2 (by decide)
 obtain ⟨e9, f9_1hv, f9_1hn⟩ := hphi 9 (by decide)
 generalize hu1 : (W 2) = u1 at e2 f2_1hv f2_1hn e9 f9_1hv f9_1hn
 generalize hu2 : (W 9) = u2 at e2 f2_1hv f2_1hn e9 f9_1hv f9_1hn
 rw [eS (l := [(2, u1), (3, _), (9, u2)]) ⟨hu1, (hphi 3 (by decide)), hu2, ⟨⟩⟩]
 replace hu := hu.mono le1
 show XL _ _ _ _ _ _ _ (cellsH b1 [arv] 31 :: L)
 refine cX (qM (s := 1) [u1, uv, u2] [sN] [(0, [u1]), (1, [uv]), (2, [u2])] qA qr jM rfl (by decide) rfl (.cons (cells_one (qG f2_1hv)) (.cons (cells_one (qG hu)) (.cons (cells_one (qG f9_1hv)) CellsAre.nil))) rfl ?_)
 intro v5 hv5
 have hc1 : RowsC F1 [u1, uv, u2] ([((t.drop 0).take (p - 0)), u, ((t.drop (endN ar t p)).take (((t).length) - (endN ar t p)))] : List (List Int)) := (RowsC.snoc (RowsC.snoc (RowsC.snoc (CO.nil : RowsC F1 [] []) f2_1hv) hu) f9_1hv)
 refine jY [] _ _ rfl (fun F2 le2 hz1 => ?_)
 replace hc1 := hc1.mono le2
 have hf1 : RowsF F2 v5 (([((t.drop 0).take (p - 0)), u, ((t.drop (endN ar t p)).take (((t).length) - (endN ar t p)))] : List (List Int))) := CO.fz hc1 (by first | rfl | omega | (rw [List.length_set]; omega) | (simp; done)) hz1.fz
 refine cX (jK <| qt (args := [v5]) call119 rfl (Concat_spec hf1 (hg1 := (by simp; omega)) (hn := (by first | assumption | rfl | omega | simp)) (hb := (fun i hi => by match i, hi with | 0, _ => simp; omega | 1, _ => simp; omega | 2, _ => simp; omega))) ?_)
 rintro v6 _ _ _ ⟨rfl, hs1, rfl⟩
 refine ⟨_, _, rfl, fun F3 le3 hz2 => ?_⟩
 have hf2 : IntsF F3 v6 (((([((t.drop 0).take (p - 0)), u, ((t.drop (endN ar t p)).take (((t).length) - (endN ar t p)))] : List (List Int))).flatten)) := intsH.fz (xs := ((([((t.drop 0).take (p - 0)), u, ((t.drop (endN ar t p)).take (((t).length) - (endN ar t p)))] : List (List Int))).flatten)) hz2.fz
 refine qg (v6) rfl (qb (qc (qc (qa (qf (v6) rfl (cX (qC qd rfl hf2.slv (cX (jH rfl rfl (qb ?_))))))))))
 refine qx (p := ((((((([((t.drop 0).take (p - 0)), u, ((t.drop (endN ar t p)).take (((t).length) - (endN ar t p)))] : List (List Int))).flatten)).length : Nat) : Int) : Int) > 60) rfl (fun h1 => ?_) (fun h1 => ?_)
 ·refine qc (qa (qg (sN) rfl (qg (.bool (false)) rfl (qb (qy (qk (qs (L' := L) [sN, .bool (false)] (.tuple #[sN, .bool (false)]) (.tmp rfl (.tmp rfl .nil)) rfl (qm (qm le1 le2) le3) rF (sD sR) ?_)))))))
  have hz : putL ar t p u = none := putL_none put_flat (by omega)
  exact ⟨_, by rw [hz]; rfl, by rw [hz]; exact IntsF.nilV, fun h => (by rw [hz] at h; cases h), by rw [hz]; exact Fresh.ofNil _, rfl⟩
 refine qw (qc (qa (qf (v6) rfl (qg (v6) rfl (qg (.bool (true)) rfl (qb (qy (qs (L' := L) [v6, .bool (true)] (.tuple #[v6, .bool (true)]) (.tmp rfl (.tmp rfl .nil)) rfl (qm (qm le1 le2) le3) rF (sD sR) ?_))))))))
 have hz := putL_some (ar := ar) (t := t) (p := p) (u := u) put_flat (by omega)
 exact ⟨_, by rw [hz]; rfl, by rw [hz]; exact hf2, fun _ => jO hf2 (by rw [put_flat]; simp; omega), by rw [hz]; exact (hz2.base (qm le1 le2)), rfl⟩

/- (impl.Subst).byVar -/
theorem byVar_spec {F : FH} {L : List HP} {sv : Value} {s : List (List Int)} (hs : RowsF F sv s) {i : Nat} (hsl : s.length ≤ 4000000) :
    Does prog 183 [.agg #[sv], ii ((i : Int))] F (L) (fun v F' L' => F = F' ∧ ∃ (a : Value), (a : Value) = v ∧ (IntsF F' a (s.getD i [])) ∧ (isNil a = decide (s.getD i [] = [])) ∧ L = L') := by
 refine qD func183 rfl rfl rfl (qc (qa (cX (qV [sv] rfl rfl ?_))))
 intro b1
 refine qg (sN) rfl (qb (qc (qc (qa (qf (ii ((i : Int))) rfl (cX (qn (0) qX rfl jg (by decide) rfl rfl (cX (qi jE rfl (Rd.own [] rfl rfl) (cX (qC qA rfl hs.slv (cX (jT rfl rfl (qf (.bool (decide ((i : Int) ≥ (s.length : Int)))) rfl ?_))))))))))))))
 by_cases h1 : (i : Int) ≥ (s.length : Int)
 ·refine qp (t := 10) rfl (vT h1) (qp (t := 10) rfl (vT h1) (qp (t := 10) rfl (vT h1) (qp (t := 10) rfl (vT h1) (qp (t := 10) rfl (vT h1) (qp (t := 10) rfl (vT h1) (qp (t := 10) rfl (vT h1) (cX (qR (.bool (true)) (vT h1) rfl (qb (jB rfl ?_))))))))))
  refine qc (qa (qg (sN) rfl (qb (qy (qk (qs (L' := L) [sN] (sN) (.tmp rfl .nil) rfl rF rF (sD sR) ?_))))))
  have e : s.getD i [] = [] := by first | exact List.eq_nil_of_length_eq_zero (by omega) | (rw [List.getD_eq_getElem?_getD, List.getElem?_eq_none (by omega)]; rfl)
  exact ⟨rfl, _, rfl, by rw [e]; exact IntsF.nilV, by rw [e]; rfl, rfl⟩
 refine qq (t := 10) rfl (vF h1) (qn (0) qX rfl jg (by decide) rfl rfl (qq (t := 10) rfl (vF h1) (qi jE rfl (Rd.own [] rfl rfl) (qq (t := 10) rfl (vF h1) (qj (ii ((i : Int))) rfl (qq (t := 10) rfl (vF h1) (ql i qA qr rfl rfl rfl hs.slv (by omega) (Nat.mul_one _) ?_)))))))
 obtain ⟨a1, ha1, hr1⟩ := hs.rd (i := i) (by omega)
 refine qq (t := 10) rfl (vF h1) (qi qP rfl (hr1 _) (qq (t := 10) rfl (vF h1) (qC qd rfl ha1.slv (qq (t := 10) rfl (vF h1) (jI rfl rfl (cX (qS (.bool (decide ((((((s.getD i [])).length : Nat) : Int) : Int) = 0))) (vF h1) rfl (qb ?_))))))))
 refine qx (p := (((((s.getD i [])).length : Nat) : Int) : Int) = 0) rfl (fun h2 => ?_) (fun h2 => ?_)
 ·refine qc (qa (qg (sN) rfl (qb (qy (qk (qs (L' := L) [sN] (sN) (.tmp rfl .nil) rfl rF rF (sD sR) ?_))))))
  have e : s.getD i [] = [] := by first | exact List.eq_nil_of_length_eq_zero (by omega) | (rw [List.getD_eq_getElem?_getD, List.getElem?_eq_none (by omega)]; rfl)
  exact ⟨rfl, _, rfl, by rw [e]; exact IntsF.nilV, by rw [e]; rfl, rfl⟩
 refine qw (qc (qa (cX (qn (0) qX rfl jg (by decide) rfl rfl (cX (qi jE rfl (Rd.own [] rfl rfl) (qf (ii ((i : Int))) rfl (cX (ql i qA qr rfl rfl rfl hs.slv (by omega) (Nat.mul_one _) (cX (qi qP rfl (hr1 _) (qg (a1) rfl (qb (qy (qs (L' := L) [a1] (a1) (.tmp rfl .nil) rfl rF rF (sD sR) ?_)))))))))))))))
 have e : s.getD i [] ≠ [] := by intro e; have := congrArg List.length e; simp only [List.length_nil] at this; omega
 exact ⟨rfl, _, rfl, ha1, by rw [jO ha1 (List.length_pos_iff.2 e)]; exact (decide_eq_false e).symm, rfl⟩

/- (impl.Subst).lookup$1 -/
theorem lookup1_spec {F : FH} {L : List HP} {n : Int} {sv : Value} {s : List (List Int)} (hs : RowsF F sv s) {b : Nat} (hzb : FzC F b [sv]) (hsl : s.length ≤ 4000000) (hg : -4000000 ≤ n) :
    Does prog 182 [ii (n), ptr b 0] F (L) (fun v F' L' => F = F' ∧ ∃ (a : Value), (a : Value) = v ∧ (IntsF F' a (lkN s n)) ∧ (isNil a = decide (lkN s n = [])) ∧ L = L') := by
 refine qD func182 rfl rfl rfl (qc (qa (qg (sN) rfl (qb (qc (qc (qa (qf (ii (n)) rfl (cX (jT rfl rfl (qb ?_)))))))))))
 refine qx (p := (n : Int) ≥ 0) rfl (fun h1 => ?_) (fun h1 => ?_)
 ·refine qc (qa (qg (sN) rfl (qb (qy (qk (qs (L' := L) [sN] (sN) (.tmp rfl .nil) rfl rF rF sR ?_))))))
  have e : lkN s n = [] := lkN_pos (by omega)
  exact ⟨rfl, _, rfl, by rw [e]; exact IntsF.nilV, by rw [e]; rfl, rfl⟩
 refine qw (qc (qa (cX (qB [sv] isAgg86 js rfl rfl (FzC.rd hzb rfl) (qf (ii (n)) rfl (cX (qY ((-1) - n) rfl rfl (by omega) (by omega) (cX (qt (args := [.agg #[sv], ii ((((-1) - n).toNat : Nat) : Int)]) call183 (by rw [show ((((-1) - n).toNat : Nat) : Int) = (-1) - n from by omega]; rfl) (byVar_spec (i := ((-1) - n).toNat) hs (hsl := (by first | assumption | rfl | omega | simp))) ?_)))))))))
 rintro _ _ _ _ ⟨rfl, x1, rfl, hr1, hr2, rfl⟩
 refine qg (x1) rfl (qb (qy (qs (L' := L) [x1] (x1) (.tmp rfl .nil) rfl rF rF sR ?_)))
 have e : lkN s n = s.getD (varIx n) [] := lkN_neg (by omega)
 exact ⟨rfl, _, rfl, by rw [e]; exact hr1, by rw [e]; exact hr2, rfl⟩

/- (impl.Subst).lookup -/
theorem lookup_spec {F : FH} {L : List HP} {sv : Value} {s : List (List Int)} (hs : RowsF F sv s) :
    Does prog 120 [.agg #[sv]] F (L) (fun v F' L' => ∃ (b : Nat), (.func (.func 182) #[] #[ptr b 0] : Value) = v ∧ (FzC F' b [sv]) ∧ L = L') := by
 refine qD func120 rfl rfl rfl (qc (qa (cX (qV [sv] rfl rfl ?_))))
 intro b1
 refine qg (.nilFunc) rfl (qb (qc (qa (cX (XOp.makeFuncL [] [ptr b1 0] rfl rfl (qg (.func (.func 182) #[] #[ptr b1 0]) rfl (qb (X.freeze [] _ _ rfl (fun F1 le1 hz1 => ?_)))))))))
 have hf1 : FzC F1 b1 [sv] := Fz.cells hz1
 refine qy (qs (L' := L) [.func (.func 182) #[] #[ptr b1 0]] (.func (.func 182) #[] #[ptr b1 0]) (.tmp rfl .nil) rfl le1 rF sR ?_)
 exact ⟨_, rfl, hf1, rfl⟩

/- impl.fill -/
theorem fill_spec {F : FH} {L : List HP} {sv : Value} {s : List (List Int)} (hs : RowsF F sv s) {tv : Value} {t : List Int} (ht : IntsF F tv t) (hsl : s.length ≤ 4000000) (hsb : ∀ i, (s.getD i []).length ≤ 4000000) (htl : t.length ≤ 4000000) (htg : ∀ k, k < t.length → -4000000 ≤ t.getD k 0) :
    Does prog 59 [.agg #[sv], tv] F (L) (fun v F' L' => ∃ (a : Value), (.tuple #[a, .bool ((fillL s t).isSome)] : Value) = v ∧ (IntsF F' a ((fillL s t).getD [])) ∧ (Fresh F F' (intsH 2 a ((fillL s t).getD []))) ∧ L = L') := by
 refine qD func59 rfl rfl rfl (qc (qa (cX (qV [sv] rfl rfl ?_))))
 intro b1
 refine qg (sN) rfl (qg (.bool (false)) rfl (qb (qc (qa (cX (qB [sv] isAgg86 js rfl rfl (Rd.ownN [] rfl rfl) (cX (qt (args := [.agg #[sv]]) call120 rfl (lookup_spec hs) ?_))))))))
 rintro _ F1 _ le1 ⟨x1, rfl, hr1, rfl⟩
 replace hs := hs.mono le1
 replace ht := ht.mono le1
 refine qg (.func (.func 182) #[] #[ptr x1 0]) rfl (qb (qc (qa (qf (tv) rfl (cX (qC qd rfl ht.slv (cX (XOp.makeSlice0 (n := (t).length) (bytes := 8) [ii (0)] qd qo typeInfo2 rfl jk rfl rfl rfl rfl (by omega) (by omega) ?_))))))))
 intro v1 hv1
 have hs1 : IsSl v1 := by obtain ⟨b0, h0⟩ := hv1; exact ⟨_, _, _, h0⟩
 show XL _ _ _ _ _ _ _ (intsH 2 v1 ([]) :: cellsH b1 [sv] 86 :: L)
 refine qg (v1) rfl (qb (qc (qc (qa (qf (tv) rfl (cX (qC qd rfl ht.slv (qf (ii (0)) rfl (qb (qF (jj (α := Nat × Value × List Int) (fun xQ => [(6, .func (.func 182) #[] #[ptr x1 0]), (7, xQ.2.1), (16, tv), (17, ii ((t.length : Int))), (18, ii (((xQ.1 : Nat) : Int)))]) (fun xQ => intsH 2 xQ.2.1 xQ.2.2 :: cellsH b1 [sv] 86 :: L) (fun xQ F' => F1 = F' ∧ (IsSl xQ.2.1) ∧ (xQ.1 ≤ t.length) ∧ (fillL s t = fillGo s (t.drop xQ.1) xQ.2.2) ∧ (xQ.2.2.length ≤ 60)) (fun xQ => t.length - xQ.1) (0, v1, []) ⟨rfl, rfl, rfl, rfl, rfl, ⟨⟩⟩ (sC (sC sR)) ⟨rfl, (hs1), (by (try dsimp only) <;> omega), (rfl), (by simp)⟩ ?_)))))))))))
 rintro ⟨k, ov, os⟩ rE _ _ ⟨rfl, hov, hk, hm, hol⟩
 show X _ _ _ _ (envs [(6, .func (.func 182) #[] #[ptr x1 0]), (7, ov), (16, tv), (17, ii ((t.length : Int))), (18, ii ((k : Int)))] rE) _ (intsH 2 ov os :: cellsH b1 [sv] 86 :: L)
 dsimp only at hov hk hm hol
 have htk := htg k
 refine qc (qa (cX (qL rfl rfl (qb (qc ?_)))))
 refine qx (p := (k : Int) < (t.length : Int)) rfl (fun h1 => ?_) (fun h1 => ?_)
 ·refine qw (qc (qF (qc (qa (cX (ql k qd qo rfl rfl rfl ht.slv (by omega) (Nat.mul_one _) (cX (qi qK rfl (ht.rd (by omega)) (qg (ii (t.getD k 0)) rfl (qb (qc (qc (qa (qf (.func (.func 182) #[] #[ptr x1 0]) rfl (qf (ii (t.getD k 0)) rfl (cX (XOp.callV (first := []) (captured := [ptr x1 0]) (args := [ii (t.getD k 0), ptr x1 0]) call182 rfl rfl (lookup1_spec (n := t.getD k 0) hs hr1 (hsl := (by first | assumption | rfl | omega | simp)) (hg := (by first | assumption | rfl | omega | simp))) ?_)))))))))))))))))
  rintro _ _ _ _ ⟨rfl, x2, rfl, hr2, hr3, rfl⟩
  skip
  refine qg (x2) rfl (qb (qc (qa (qf (x2) rfl (cX (XOp.eqNil qd rfl rfl (qG hr2) (qb ?_)))))))
  refine X.cond (t := isNil x2) rfl (fun h2 => ?_) (fun h2 => ?_)
  ·refine qa (qf (ov) rfl (qf (ii (t.getD k 0)) rfl (cX (qM (s := 1) [ii (t.getD k 0)] [ii (0)] [(0, [ii (t.getD k 0)])] qd qo jk rfl (by decide) rfl (.cons rfl CellsAre.nil) rfl ?_))))
   intro v2 hv2
   refine cX (jW (u := t.getD k 0) [_] _ qd typeInfo2 rfl rfl rfl rfl rfl rfl (SlV.own [] rfl) (Rd.sl [] rfl rfl) (by (try simp only [List.length_append, List.length_nil, List.length_cons, List.length_singleton, List.length_take, List.length_drop]); omega) ?_)
   intro v3 hs2 hn1
   refine qg (v3) rfl (qb (qc (qa (qf (v3) rfl (cX (qC qd rfl (intsH.slv [_] rfl) (cX (jH rfl rfl (qb ?_)))))))))
   refine qx (p := ((((os ++ [t.getD k 0]).length : Nat) : Int) : Int) > 60) rfl (fun h3 => ?_) (fun h3 => ?_)
   ·refine qc (qa (qg (sN) rfl (qg (.bool (false)) rfl (qb (qy (qz (qk (qk (qz (qk (qs (L' := L) [sN, .bool (false)] (.tuple #[sN, .bool (false)]) (.tmp rfl (.tmp rfl .nil)) rfl le1 rF (sD (sD (sD sR))) ?_)))))))))))
    have hz : fillL s t = none := hm.trans (fillGo_long (a := os ++ [t.getD k 0]) (by omega) (by rw [lk_of_nil (of_decide_eq_true (hr3.symm.trans (by assumption)))]) (by omega))
    exact ⟨_, by rw [hz]; rfl, by rw [hz]; exact IntsF.nilV, by rw [hz]; exact Fresh.ofNil _, rfl⟩
   refine qw (qa (cX (qI (((k + 1 : Nat) : Int)) rfl rfl (by omega) (by omega) (qf (ii (((k + 1 : Nat) : Int))) rfl (qb ?_)))))
   exact ⟨(k + 1, v3, os ++ [t.getD k 0]), _, FLe.refl _, rF, ⟨rfl, rfl, rfl, rfl, rfl, ⟨⟩⟩, (sD (sC (sC sR))), ⟨rfl, (hs2), (by (try dsimp only) <;> omega), (by dsimp only; exact hm.trans (fillGo_next (by omega) (by rw [lk_of_nil (of_decide_eq_true (hr3.symm.trans (by assumption)))]) (by omega))), (by dsimp only; omega)⟩, (by omega)⟩
  refine qa ?_
  have hlb : (lkN s (t.getD k 0)).length ≤ 4000000 := lkN_bound hsb
  refine qf (ov) rfl (qf (x2) rfl (cX (XOp.appendI [] _ qd typeInfo2 rfl rfl rfl rfl rfl rfl hr2 (by (try simp only [List.length_append, List.length_nil, List.length_cons, List.length_singleton, List.length_take, List.length_drop]); omega) ?_)))
  intro v4 hs3 hn2 hm1
  refine qg (v4) rfl (qb (qc (qa (qf (v4) rfl (cX (qC qd rfl (intsH.slv [] rfl) (cX (jH rfl rfl (qb ?_)))))))))
  refine qx (p := ((((os ++ (lkN s (t.getD k 0))).length : Nat) : Int) : Int) > 60) rfl (fun h4 => ?_) (fun h4 => ?_)
  ·refine qc (qa (qg (sN) rfl (qg (.bool (false)) rfl (qb (qy (qz (qk (qk (qz (qk (qs (L' := L) [sN, .bool (false)] (.tuple #[sN, .bool (false)]) (.tmp rfl (.tmp rfl .nil)) rfl le1 rF (sD (sD sR)) ?_)))))))))))
   have hz : fillL s t = none := hm.trans (fillGo_long (a := os ++ (lkN s (t.getD k 0))) (by omega) (by rw [lk_of_ne (of_decide_eq_false (hr3.symm.trans (by assumption)))]) (by omega))
   exact ⟨_, by rw [hz]; rfl, by rw [hz]; exact IntsF.nilV, by rw [hz]; exact Fresh.ofNil _, rfl⟩
  refine qw (qa (cX (qI (((k + 1 : Nat) : Int)) rfl rfl (by omega) (by omega) (qf (ii (((k + 1 : Nat) : Int))) rfl (qb ?_)))))
  exact ⟨(k + 1, v4, os ++ (lkN s (t.getD k 0))), _, FLe.refl _, rF, ⟨rfl, rfl, rfl, rfl, rfl, ⟨⟩⟩, (sC (sC sR)), ⟨rfl, (hs3), (by (try dsimp only) <;> omega), (by dsimp only; exact hm.trans (fillGo_next (by omega) (by rw [lk_of_ne (of_decide_eq_false (hr3.symm.trans (by assumption)))]) (by omega))), (by dsimp only; omega)⟩, (by omega)⟩
 refine ja (qu (qu (qJ (qc (qa (qf (ov) rfl (qg (ov) rfl (qg (.bool (true)) rfl (qb (jA [] _ _ rfl (fun F3 le3 hz1 => ?_)))))))))))
 have hf1 : IntsF F3 ov os := intsH.fz (xs := os) hz1.fz
 refine qy (qs (L' := L) [ov, .bool (true)] (.tuple #[ov, .bool (true)]) (.tmp rfl (.tmp rfl .nil)) rfl (qm le1 le3) rF (sD sR) ?_)
 have hz : fillL s t = some os := hm.trans (fillGo_done (by omega))
 exact ⟨_, by rw [hz]; rfl, by rw [hz]; exact hf1, by rw [hz]; exact (hz1.base le1), rfl⟩

/- impl.step -/
theorem step_spec {F : FH} {L : List HP} {arv : Value} {ar : List Int} (har : IntsF F arv ar) {rsv : Value} {rs : List (List Int × List Int)} (hrs : PairsF F rsv rs) {tv : Value} {t : List Int} (ht : IntsF F tv t) {p : Nat} {r : Nat} (hsys : sysOk ar rs = true) (ho : termOk ar t = true) (hp : p < t.length) (hr : r < rs.length) :
    Does prog 155 [.agg #[arv, rsv], tv, ii ((p : Int)), ii ((r : Int))] F (L) (fun v F' L' => ∃ (a : Value), (.tuple #[a, .bool ((stepL ar rs t p r).isSome)] : Value) = v ∧ (IntsF F' a ((stepL ar rs t p r).getD [])) ∧ ((stepL ar rs t p r).isSome = true → isNil a = false) ∧ (Fresh F F' (intsH 2 a ((stepL ar rs t p r).getD []))) ∧ L = L') := by
 refine qD func155 rfl rfl rfl ?_
 have hnn := jO ht (by have := termOk_len ho; omega)
 have htl := termOk_len ho
 have hrl := (sysOk_iff.1 hsys).2.1
 have hsig := (sysOk_iff.1 hsys).1
 have hsl := sigOk_spec hsig
 have hR := ruleOk_iff.1 ((sysOk_iff.1 hsys).2.2 r hr)
 have hRl := hR.left
 have hRr := hR.right
 have hso := sub_ok ho hp
 have hsb := sub_length ho hp
 have hee := endN_spec ho hp
 have hRrl := termOk_len hRr
 have hRg := fun k (hk : k < (rs.getD r ([], [])).2.length) => termOk_ge hRr hk
 have hmp := matchP_len (ar := ar) (p := (rs.getD r ([], [])).1) (t := sub ar t p)
 have hmp2 := hmp.2
 have hmp3 := hmp.1
 refine qc (qa (cX (qV [arv, rsv] rfl rfl ?_)))
 intro b1
 refine qg (sN) rfl (qg (.bool (false)) rfl (qb (qc ?_)))
 obtain ⟨a1, a2, ha1, ha2, hr1, hr2⟩ := hrs.rd (i := r) (by omega)
 refine X.drawG [cellsH b1 [arv, rsv] 66] L 19 [[], [], [], [], [], [], [], [], [], [], [], [], [], [], [13], [13], [], [], [13, 17]] [[], [0], [], [2], [], [3, 4], [5], [6], [], [8], [], [], [9, 10, 11], [1, 7, 12], [13], [13, 14], [13, 14], [], [13, 15, 17]] [[], [], [], [], [], [], [], [], [], [], [], [], [], [], [], [], [], [], [17]] (phiG [pe (ptr b1 0), pe (.agg #[arv]), pe (ptr b1 1), pe rsv, pe (ii ((r : Int)) : Value), pe (.pointer (some (elemA rsv (r * 2)))), pe (.pointer (some (elemA rsv (r * 2)))), pe a1, pe (ptr b1 0), pe (.agg #[arv]), pe tv, pe (ii ((p : Int)) : Value), fun FF us v => ((v) : Value) = v ∧ (IntsF FF (v) (sub ar t p)) ∧ (isNil (v) = false), fun FF us v => (.tuple #[.agg #[((aggAt (tupAt v 0) 0))], .bool ((matchB ar ((rs.getD r ([], [])).1) ((sub ar t p))).isSome)] : Value) = v ∧ (RowsF FF ((aggAt (tupAt v 0) 0)) (matchP ar ((rs.getD r ([], [])).1) ((sub ar t p)))), fun FF us v => v = (.tuple #[.agg #[((aggAt (tupAt (us.getD 0 undef) 0) 0))], .bool ((matchB ar ((rs.getD r ([], [])).1) ((sub ar t p))).isSome)] : Value), fun FF us v => v = (.agg #[((aggAt (tupAt (us.getD 0 undef) 0) 0))] : Value), pe (.bool ((matchB ar ((rs.getD r ([], [])).1) ((sub ar t p))).isSome)), fun FF us v => v = ptr (blk v) 0, fun FF us v => True]) (ownL [o0, o0, o0, o0, o0, o0, o0, o0, o0, o0, o0, o0, o0, o0, o0, o0, o0, fun us v => [cellsH (blk v) [sN] 86], fun us v => [cellsH (blk (us.getD 1 undef)) [((aggAt (tupAt (us.getD 0 undef) 0) 0))] 86]]) mixed rfl rfl (by kernel_rfl) (by kernel_rfl) (MonoG.get (m1 (m1 (m1 (m1 (m1 (m1 (m1 (m1 (m1 (m1 (m1 (m1 (mC (fun le h => ⟨h.1, h.2.1.mono le, h.2.2⟩) (mC (fun le h => ⟨h.1, h.2.mono le⟩) (mC (fun le h => h) (mC (fun le h => h) (m1 (mC (fun le h => h) (mC (fun le h => h) MonoG.nil)))))))))))))))))))) ?_ ?_
 ·refine gD (fun W Fs R lF z9 => ?_) ?_
  ·refine qh (qn (0) qH rfl qN (by decide) rfl rfl ?_)
   exact ⟨rfl, rfl⟩
  refine gD (fun W Fs R lF z9 => ?_) ?_
  ·replace har := har.mono lF
   replace hrs := hrs.mono lF
   replace ht := ht.mono lF
   replace ha1 := ha1.mono lF
   replace ha2 := ha2.mono lF
   replace hr1 := Rd.monoA hr1 lF
   replace hr2 := Rd.monoA hr2 lF
   rw [eS (l := [(0, _)]) ⟨z9 0 rfl, ⟨⟩⟩]
   refine qh (qB [arv] je qN rfl rfl (Rd.ownN [] rfl rfl) ?_)
   exact ⟨rfl, rfl⟩
  refine gD (fun W Fs R lF z9 => ?_) ?_
  ·refine qh (qn (1) qH rfl jx (by decide) rfl rfl ?_)
   exact ⟨rfl, rfl⟩
  refine gD (fun W Fs R lF z9 => ?_) ?_
  ·replace har := har.mono lF
   replace hrs := hrs.mono lF
   replace ht := ht.mono lF
   replace ha1 := ha1.mono lF
   replace ha2 := ha2.mono lF
   replace hr1 := Rd.monoA hr1 lF
   replace hr2 := Rd.monoA hr2 lF
   rw [eS (l := [(2, _)]) ⟨z9 2 rfl, ⟨⟩⟩]
   refine qh (qi jG rfl (Rd.own [] rfl rfl) ?_)
   exact ⟨rfl, rfl⟩
  refine gD (fun W Fs R lF z9 => ?_) ?_
  ·refine qh (qj (ii ((r : Int))) rfl ?_)
   exact ⟨rfl, rfl⟩
  refine gD (fun W Fs R lF z9 => ?_) ?_
  ·replace har := har.mono lF
   replace hrs := hrs.mono lF
   replace ht := ht.mono lF
   replace ha1 := ha1.mono lF
   replace ha2 := ha2.mono lF
   replace hr1 := Rd.monoA hr1 lF
   replace hr2 := Rd.monoA hr2 lF
   rw [eS (l := [(3, _), (4, _)]) ⟨z9 3 rfl, z9 4 rfl, ⟨⟩⟩]
   refine qh (ql r qU jh rfl rfl rfl hrs.slv (by omega) rfl ?_)
   exact ⟨rfl, rfl⟩
  refine gD (fun W Fs R lF z9 => ?_) ?_
  ·rw [eS (l := [(5, _)]) ⟨z9 5 rfl, ⟨⟩⟩]
   refine qh (jZ (r * 2) qQ rfl qr (by decide) rfl rfl ?_)
   exact ⟨rfl, rfl⟩
  refine gD (fun W Fs R lF z9 => ?_) ?_
  ·replace har := har.mono lF
   replace hrs := hrs.mono lF
   replace ht := ht.mono lF
   replace ha1 := ha1.mono lF
   replace ha2 := ha2.mono lF
   replace hr1 := Rd.monoA hr1 lF
   replace hr2 := Rd.monoA hr2 lF
   rw [eS (l := [(6, _)]) ⟨z9 6 rfl, ⟨⟩⟩]
   refine qh (qi qP rfl (hr1 _) ?_)
   exact ⟨rfl, rfl⟩
  refine gD (fun W Fs R lF z9 => ?_) ?_
  ·refine qh (qn (0) qH rfl qN (by decide) rfl rfl ?_)
   exact ⟨rfl, rfl⟩
  refine gD (fun W Fs R lF z9 => ?_) ?_
  ·replace har := har.mono lF
   replace hrs := hrs.mono lF
   replace ht := ht.mono lF
   replace ha1 := ha1.mono lF
   replace ha2 := ha2.mono lF
   replace hr2 := Rd.monoA hr2 lF
   rw [eS (l := [(8, _)]) ⟨z9 8 rfl, ⟨⟩⟩]
   refine qh (qB [arv] je qN rfl rfl (Rd.ownN [] rfl rfl) ?_)
   exact ⟨rfl, rfl⟩
  refine gD (fun W Fs R lF z9 => ?_) ?_
  ·refine qh (qj (tv) rfl ?_)
   exact ⟨rfl, rfl⟩
  refine gD (fun W Fs R lF z9 => ?_) ?_
  ·refine qh (qj (ii ((p : Int))) rfl ?_)
   exact ⟨rfl, rfl⟩
  refine gD (fun W Fs R lF z9 => ?_) ?_
  ·replace har := har.mono lF
   replace hrs := hrs.mono lF
   replace ht := ht.mono lF
   replace ha1 := ha1.mono lF
   replace ha2 := ha2.mono lF
   replace hr2 := Rd.monoA hr2 lF
   rw [eS (l := [(9, _), (10, _), (11, _)]) ⟨z9 9 rfl, z9 10 rfl, z9 11 rfl, ⟨⟩⟩]
   refine qh (qt (args := [.agg #[arv], tv, ii (p : Int)]) call55 rfl (subAt_spec (p := p) har ht (ho := (by first | assumption | rfl | omega | simp)) (hp := (by first | assumption | rfl | omega | simp)) (hnn := (by first | assumption | rfl | omega | simp))) ?_)
   rintro v2 _ _ _ ⟨rfl, rfl, hv2, hn2⟩
   exact ⟨⟨rfl, hv2, hn2⟩, rfl⟩
  refine gD (fun W Fs R lF z9 => ?_) ?_
  ·obtain ⟨e12, f12_1ha, f12_1hn⟩ := z9 12 rfl
   replace har := har.mono lF
   replace hrs := hrs.mono lF
   replace ht := ht.mono lF
   replace ha1 := ha1.mono lF
   replace ha2 := ha2.mono lF
   replace hr2 := Rd.monoA hr2 lF
   rw [eS (l := [(1, _), (7, _), (12, ((W 12)))]) ⟨z9 1 rfl, z9 7 rfl, (e12).symm, ⟨⟩⟩]
   refine qh (qt (args := [.agg #[arv], a1, ((W 12))]) call57 rfl (match_spec har ha1 f12_1ha (ho := (by first | assumption | rfl | omega | simp)) (hpo := (by first | assumption | rfl | omega | simp))) ?_)
   rintro _ F2 _ le2 ⟨x2, rfl, hr4, rfl⟩
   replace har := har.mono le2
   replace hrs := hrs.mono le2
   replace ht := ht.mono le2
   replace ha2 := ha2.mono le2
   replace f12_1ha := f12_1ha.mono le2
   replace hr2 := Rd.monoA hr2 le2
   exact ⟨⟨rfl, hr4⟩, rfl⟩
  refine gD (fun W Fs R lF z9 => ?_) ?_
  ·obtain ⟨e13, f13_1hr⟩ := z9 13 rfl
   rw [eS (l := [(13, (.tuple #[.agg #[((aggAt (tupAt (W 13) 0) 0))], .bool ((matchB ar ((rs.getD r ([], [])).1) ((sub ar t p))).isSome)]))]) ⟨(e13).symm, ⟨⟩⟩]
   refine qh (qj (.tuple #[.agg #[((aggAt (tupAt (W 13) 0) 0))], .bool ((matchB ar ((rs.getD r ([], [])).1) ((sub ar t p))).isSome)]) rfl ?_)
   exact ⟨rfl, rfl⟩
  refine gD (fun W Fs R lF z9 => ?_) ?_
  ·obtain ⟨e13, f13_1hr⟩ := z9 13 rfl
   have e14 : W 14 = (.tuple #[.agg #[((aggAt (tupAt (W 13) 0) 0))], .bool ((matchB ar ((rs.getD r ([], [])).1) ((sub ar t p))).isSome)] : Value) := z9 14 rfl
   rw [eS (l := [(13, (.tuple #[.agg #[((aggAt (tupAt (W 13) 0) 0))], .bool ((matchB ar ((rs.getD r ([], [])).1) ((sub ar t p))).isSome)])), (14, (.tuple #[.agg #[((aggAt (tupAt (W 13) 0) 0))], .bool ((matchB ar ((rs.getD r ([], [])).1) ((sub ar t p))).isSome)]))]) ⟨(e13).symm, e14, ⟨⟩⟩]
   refine qh (qT (.agg #[((aggAt (tupAt (W 13) 0) 0))]) rfl rfl ?_)
   exact ⟨rfl, rfl⟩
  refine gD (fun W Fs R lF z9 => ?_) ?_
  ·obtain ⟨e13, f13_1hr⟩ := z9 13 rfl
   have e14 : W 14 = (.tuple #[.agg #[((aggAt (tupAt (W 13) 0) 0))], .bool ((matchB ar ((rs.getD r ([], [])).1) ((sub ar t p))).isSome)] : Value) := z9 14 rfl
   rw [eS (l := [(13, (.tuple #[.agg #[((aggAt (tupAt (W 13) 0) 0))], .bool ((matchB ar ((rs.getD r ([], [])).1) ((sub ar t p))).isSome)])), (14, (.tuple #[.agg #[((aggAt (tupAt (W 13) 0) 0))], .bool ((matchB ar ((rs.getD r ([], [])).1) ((sub ar t p))).isSome)]))]) ⟨(e13).symm, e14, ⟨⟩⟩]
   refine qh (qT (.bool ((matchB ar ((rs.getD r ([], [])).1) ((sub ar t p))).isSome)) rfl rfl ?_)
   exact ⟨rfl, rfl⟩
  refine gD (fun W Fs R lF z9 => ?_) ?_
  ·replace har := har.mono lF
   replace hrs := hrs.mono lF
   replace ht := ht.mono lF
   replace ha2 := ha2.mono lF
   replace hr2 := Rd.monoA hr2 lF
   refine qh (jo [sN] jL rfl ?_)
   intro b3
   exact ⟨rfl, rfl⟩
  refine gD (fun W Fs R lF z9 => ?_) ?_
  ·obtain ⟨e13, f13_1hr⟩ := z9 13 rfl
   have e15 : W 15 = (.agg #[((aggAt (tupAt (W 13) 0) 0))] : Value) := z9 15 rfl
   have e17 : W 17 = ptr (blk (W 17)) 0 := z9 17 rfl
   replace har := har.mono lF
   replace hrs := hrs.mono lF
   replace ht := ht.mono lF
   replace ha2 := ha2.mono lF
   replace hr2 := Rd.monoA hr2 lF
   rw [eS (l := [(13, (.tuple #[.agg #[((aggAt (tupAt (W 13) 0) 0))], .bool ((matchB ar ((rs.getD r ([], [])).1) ((sub ar t p))).isSome)])), (15, (.agg #[((aggAt (tupAt (W 13) 0) 0))])), (17, ptr (blk (W 17)) 0)]) ⟨(e13).symm, e15, e17, ⟨⟩⟩]
   show XG _ _ _ _ _ (cellsH (blk (W 17)) [sN] 86 :: ([cellsH b1 [arv, rsv] 66] ++ R)) _
   refine qh (jb [] _ [((aggAt (tupAt (W 13) 0) 0))] js rfl rfl rfl (qv (qZ (RowsF.isSl f13_1hr)) jf) rfl rfl rfl ?_)
   exact ⟨trivial, rfl⟩
  exact stepsG.nil
 intro W F3 le3 hphi
 obtain ⟨e12, f12_1ha, f12_1hn⟩ := hphi 12 (by decide)
 obtain ⟨e13, f13_1hr⟩ := hphi 13 (by decide)
 have e14 : W 14 = (.tuple #[.agg #[((aggAt (tupAt (W 13) 0) 0))], .bool ((matchB ar ((rs.getD r ([], [])).1) ((sub ar t p))).isSome)] : Value) := hphi 14 (by decide)
 have e15 : W 15 = (.agg #[((aggAt (tupAt (W 13) 0) 0))] : Value) := hphi 15 (by decide)
 have e17 : W 17 = ptr (blk (W 17)) 0 := hphi 17 (by decide)
 generalize hu1 : ((W 12)) = u1 at e12 f12_1ha f12_1hn e13 f13_1hr e14 e15 e17
 generalize hu2 : ((aggAt (tupAt (W 13) 0) 0)) = u2 at e12 f12_1ha f12_1hn e13 f13_1hr e14 e15 e17
 generalize hu3 : blk (W 17) = b4 at e12 f12_1ha f12_1hn e13 f13_1hr e14 e15 e17
 rw [eS (l := [(13, (.tuple #[.agg #[u2], .bool ((matchB ar ((rs.getD r ([], [])).1) ((sub ar t p))).isSome)])), (16, _), (17, ptr b4 0)]) ⟨(e13).symm, (hphi 16 (by decide)), e17, ⟨⟩⟩]
 replace har := har.mono le3
 replace hrs := hrs.mono le3
 replace ht := ht.mono le3
 replace ha2 := ha2.mono le3
 replace hr2 := Rd.monoA hr2 le3
 show XL _ _ _ _ _ _ _ (cellsH b4 [u2] 86 :: cellsH b1 [arv, rsv] 66 :: L)
 refine qg (.bool ((matchB ar ((rs.getD r ([], [])).1) ((sub ar t p))).isSome)) rfl (qb (qc (qc (qa (qf (.bool ((matchB ar ((rs.getD r ([], [])).1) ((sub ar t p))).isSome)) rfl (cX (jp rfl (qb ?_))))))))
 refine X.cond (t := !((matchB ar ((rs.getD r ([], [])).1) ((sub ar t p))).isSome)) rfl (fun h1 => ?_) (fun h1 => ?_)
 ·have hms : (matchB ar (rs.getD r ([], [])).1 (sub ar t p)).isSome = false := by simpa using h1
  refine qc (qa (qg (sN) rfl (qg (.bool (false)) rfl (qb (qy (qk (qs (L' := L) [sN, .bool (false)] (.tuple #[sN, .bool (false)]) (.tmp rfl (.tmp rfl .nil)) rfl le3 rF (sD (sD sR)) ?_)))))))
  have hz := stepL_nomatch hms
  exact ⟨_, by rw [hz]; rfl, by rw [hz]; exact IntsF.nilV, fun h => (by rw [hz] at h; cases h), by rw [hz]; exact Fresh.ofNil _, rfl⟩
 have hms : (matchB ar (rs.getD r ([], [])).1 (sub ar t p)).isSome = true := by simpa using h1
 refine qw (qc ?_)
 refine X.drawG [cellsH b4 [u2] 86, cellsH b1 [arv, rsv] 66] L 12 [[], [], [], [], [], [], [], [], [7], [7], [], [7]] [[], [], [1], [], [2, 3], [4], [5], [0, 6], [7], [7, 8], [7, 8], [7, 9]] [] (phiG [pe (.agg #[u2]), pe (ptr b1 1), pe rsv, pe (ii ((r : Int)) : Value), pe (.pointer (some (elemA rsv (r * 2)))), pe (.pointer (some (elemA rsv (r * 2 + 1)))), pe a2, fun FF us v => (.tuple #[((tupAt v 0)), .bool ((fillL (matchP ar ((rs.getD r ([], [])).1) ((sub ar t p))) ((rs.getD r ([], [])).2)).isSome)] : Value) = v ∧ (IntsF FF ((tupAt v 0)) ((fillL (matchP ar ((rs.getD r ([], [])).1) ((sub ar t p))) ((rs.getD r ([], [])).2)).getD [])), fun FF us v => v = (.tuple #[((tupAt (us.getD 0 undef) 0)), .bool ((fillL (matchP ar ((rs.getD r ([], [])).1) ((sub ar t p))) ((rs.getD r ([], [])).2)).isSome)] : Value), fun FF us v => v = ((tupAt (us.getD 0 undef) 0)), pe (.bool ((fillL (matchP ar ((rs.getD r ([], [])).1) ((sub ar t p))) ((rs.getD r ([], [])).2)).isSome)), fun FF us v => v = ((tupAt (us.getD 0 undef) 0))]) (ownL []) mixed rfl rfl (by kernel_rfl) (by kernel_rfl) (MonoG.get (m1 (m1 (m1 (m1 (m1 (m1 (m1 (mC (fun le h => ⟨h.1, h.2.mono le⟩) (mC (fun le h => h) (mC (fun le h => h) (m1 (mC (fun le h => h) MonoG.nil))))))))))))) ?_ ?_
 ·refine gD (fun W Fs R lF z9 => ?_) ?_
  ·replace har := har.mono lF
   replace hrs := hrs.mono lF
   replace ht := ht.mono lF
   replace ha2 := ha2.mono lF
   replace f13_1hr := f13_1hr.mono lF
   replace hr2 := Rd.monoA hr2 lF
   refine qh (qB [u2] isAgg86 js rfl rfl (Rd.ownN [] rfl rfl) ?_)
   exact ⟨rfl, rfl⟩
  refine gD (fun W Fs R lF z9 => ?_) ?_
  ·refine qh (qn (1) qH rfl jx (by decide) rfl rfl ?_)
   exact ⟨rfl, rfl⟩
  refine gD (fun W Fs R lF z9 => ?_) ?_
  ·replace har := har.mono lF
   replace hrs := hrs.mono lF
   replace ht := ht.mono lF
   replace ha2 := ha2.mono lF
   replace f13_1hr := f13_1hr.mono lF
   replace hr2 := Rd.monoA hr2 lF
   rw [eS (l := [(1, _)]) ⟨z9 1 rfl, ⟨⟩⟩]
   refine qh (qi jG rfl (Rd.own [_] rfl rfl) ?_)
   exact ⟨rfl, rfl⟩
  refine gD (fun W Fs R lF z9 => ?_) ?_
  ·refine qh (qj (ii ((r : Int))) rfl ?_)
   exact ⟨rfl, rfl⟩
  refine gD (fun W Fs R lF z9 => ?_) ?_
  ·replace har := har.mono lF
   replace hrs := hrs.mono lF
   replace ht := ht.mono lF
   replace ha2 := ha2.mono lF
   replace f13_1hr := f13_1hr.mono lF
   replace hr2 := Rd.monoA hr2 lF
   rw [eS (l := [(2, _), (3, _)]) ⟨z9 2 rfl, z9 3 rfl, ⟨⟩⟩]
   refine qh (ql r qU jh rfl rfl rfl hrs.slv (by omega) rfl ?_)
   exact ⟨rfl, rfl⟩
  refine gD (fun W Fs R lF z9 => ?_) ?_
  ·rw [eS (l := [(4, _)]) ⟨z9 4 rfl, ⟨⟩⟩]
   refine qh (jZ (r * 2 + 1) qQ rfl qr (by decide) rfl rfl ?_)
   exact ⟨rfl, rfl⟩
  refine gD (fun W Fs R lF z9 => ?_) ?_
  ·replace har := har.mono lF
   replace ht := ht.mono lF
   replace ha2 := ha2.mono lF
   replace f13_1hr := f13_1hr.mono lF
   replace hr2 := Rd.monoA hr2 lF
   rw [eS (l := [(5, _)]) ⟨z9 5 rfl, ⟨⟩⟩]
   refine qh (qi qP rfl (hr2 _) ?_)
   exact ⟨rfl, rfl⟩
  refine gD (fun W Fs R lF z9 => ?_) ?_
  ·replace har := har.mono lF
   replace ht := ht.mono lF
   replace ha2 := ha2.mono lF
   replace f13_1hr := f13_1hr.mono lF
   rw [eS (l := [(0, _), (6, _)]) ⟨z9 0 rfl, z9 6 rfl, ⟨⟩⟩]
   refine qh (qt (args := [.agg #[u2], a2]) call59 rfl (fill_spec f13_1hr ha2 (hsl := (by first | assumption | rfl | omega | simp)) (hsb := (fun i => by have := hmp2 i; omega)) (htl := (by first | assumption | rfl | omega | simp)) (htg := (fun k hk => by have := hRg k hk; omega))) ?_)
   rintro _ F5 _ le5 ⟨x4, rfl, hr7, hr8, rfl⟩
   replace har := har.mono le5
   replace ht := ht.mono le5
   exact ⟨⟨rfl, hr7⟩, rfl⟩
  refine gD (fun W Fs R lF z9 => ?_) ?_
  ·obtain ⟨e7, f7_2hr⟩ := z9 7 rfl
   rw [eS (l := [(7, (.tuple #[((tupAt (W 7) 0)), .bool ((fillL (matchP ar ((rs.getD r ([], [])).1) ((sub ar t p))) ((rs.getD r ([], [])).2)).isSome)]))]) ⟨(e7).symm, ⟨⟩⟩]
   refine qh (qj (.tuple #[((tupAt (W 7) 0)), .bool ((fillL (matchP ar ((rs.getD r ([], [])).1) ((sub ar t p))) ((rs.getD r ([], [])).2)).isSome)]) rfl ?_)
   exact ⟨rfl, rfl⟩
  refine gD (fun W Fs R lF z9 => ?_) ?_
  ·obtain ⟨e7, f7_2hr⟩ := z9 7 rfl
   have e8 : W 8 = (.tuple #[((tupAt (W 7) 0)), .bool ((fillL (matchP ar ((rs.getD r ([], [])).1) ((sub ar t p))) ((rs.getD r ([], [])).2)).isSome)] : Value) := z9 8 rfl
   rw [eS (l := [(7, (.tuple #[((tupAt (W 7) 0)), .bool ((fillL (matchP ar ((rs.getD r ([], [])).1) ((sub ar t p))) ((rs.getD r ([], [])).2)).isSome)])), (8, (.tuple #[((tupAt (W 7) 0)), .bool ((fillL (matchP ar ((rs.getD r ([], [])).1) ((sub ar t p))) ((rs.getD r ([], [])).2)).isSome)]))]) ⟨(e7).symm, e8, ⟨⟩⟩]
   refine qh (qT (((tupAt (W 7) 0))) rfl rfl ?_)
   exact ⟨rfl, rfl⟩
  refine gD (fun W Fs R lF z9 => ?_) ?_
  ·obtain ⟨e7, f7_2hr⟩ := z9 7 rfl
   have e8 : W 8 = (.tuple #[((tupAt (W 7) 0)), .bool ((fillL (matchP ar ((rs.getD r ([], [])).1) ((sub ar t p))) ((rs.getD r ([], [])).2)).isSome)] : Value) := z9 8 rfl
   rw [eS (l := [(7, (.tuple #[((tupAt (W 7) 0)), .bool ((fillL (matchP ar ((rs.getD r ([], [])).1) ((sub ar t p))) ((rs.getD r ([], [])).2)).isSome)])), (8, (.tuple #[((tupAt (W 7) 0)), .bool ((fillL (matchP ar ((rs.getD r ([], [])).1) ((sub ar t p))) ((rs.getD r ([], [])).2)).isSome)]))]) ⟨(e7).symm, e8, ⟨⟩⟩]
   refine qh (qT (.bool ((fillL (matchP ar ((rs.getD r ([], [])).1) ((sub ar t p))) ((rs.getD r ([], [])).2)).isSome)) rfl rfl ?_)
   exact ⟨rfl, rfl⟩
  refine gD (fun W Fs R lF z9 => ?_) ?_
  ·obtain ⟨e7, f7_2hr⟩ := z9 7 rfl
   have e9 : W 9 = ((tupAt (W 7) 0)) := z9 9 rfl
   rw [eS (l := [(7, (.tuple #[((tupAt (W 7) 0)), .bool ((fillL (matchP ar ((rs.getD r ([], [])).1) ((sub ar t p))) ((rs.getD r ([], [])).2)).isSome)])), (9, ((tupAt (W 7) 0)))]) ⟨(e7).symm, e9, ⟨⟩⟩]
   refine qh (XOp.assign (((tupAt (W 7) 0))) rfl ?_)
   exact ⟨rfl, rfl⟩
  exact stepsG.nil
 intro W F6 le6 hphi
 obtain ⟨e7, f7_2hr⟩ := hphi 7 (by decide)
 have e8 : W 8 = (.tuple #[((tupAt (W 7) 0)), .bool ((fillL (matchP ar ((rs.getD r ([], [])).1) ((sub ar t p))) ((rs.getD r ([], [])).2)).isSome)] : Value) := hphi 8 (by decide)
 have e9 : W 9 = ((tupAt (W 7) 0)) := hphi 9 (by decide)
 have e11 : W 11 = ((tupAt (W 7) 0)) := hphi 11 (by decide)
 generalize hu4 : ((tupAt (W 7) 0)) = u3 at e7 f7_2hr e8 e9 e11
 rw [eS (l := [(7, (.tuple #[u3, .bool ((fillL (matchP ar ((rs.getD r ([], [])).1) ((sub ar t p))) ((rs.getD r ([], [])).2)).isSome)])), (10, _), (11, u3)]) ⟨(e7).symm, (hphi 10 (by decide)), e11, ⟨⟩⟩]
 replace har := har.mono le6
 replace ht := ht.mono le6
 show XL _ _ _ _ _ _ _ (cellsH b4 [u2] 86 :: cellsH b1 [arv, rsv] 66 :: L)
 refine qg (.bool ((fillL (matchP ar ((rs.getD r ([], [])).1) ((sub ar t p))) ((rs.getD r ([], [])).2)).isSome)) rfl (qb (qc (qc (qa (qf (.bool ((fillL (matchP ar ((rs.getD r ([], [])).1) ((sub ar t p))) ((rs.getD r ([], [])).2)).isSome)) rfl (cX (jp rfl (qb ?_))))))))
 refine X.cond (t := !((fillL (matchP ar ((rs.getD r ([], [])).1) ((sub ar t p))) ((rs.getD r ([], [])).2)).isSome)) rfl (fun h2 => ?_) (fun h2 => ?_)
 ·have hfs : (fillL (matchP ar (rs.getD r ([], [])).1 (sub ar t p)) (rs.getD r ([], [])).2).isSome = false := by simpa using h2
  refine qc (qa (qg (sN) rfl (qg (.bool (false)) rfl (qb (qy (qk (qs (L' := L) [sN, .bool (false)] (.tuple #[sN, .bool (false)]) (.tmp rfl (.tmp rfl .nil)) rfl (qm le3 le6) rF (sD (sD sR)) ?_)))))))
  have hz := stepL_nofill hms hfs
  exact ⟨_, by rw [hz]; rfl, by rw [hz]; exact IntsF.nilV, fun h => (by rw [hz] at h; cases h), by rw [hz]; exact Fresh.ofNil _, rfl⟩
 have hfs : (fillL (matchP ar (rs.getD r ([], [])).1 (sub ar t p)) (rs.getD r ([], [])).2).isSome = true := by simpa using h2
 have hfl := fill_getD_len hfs (by omega)
 refine qw (qc (qa (cX (qn (0) qH rfl qN (by decide) rfl rfl (cX (qB [arv] je qN rfl rfl (Rd.ownN [_] rfl rfl) (qf (tv) rfl (qf (ii ((p : Int))) rfl (qf (u3) rfl (cX (qt (args := [.agg #[arv], tv, ii (p : Int), u3]) call60 rfl (put_spec (p := p) har ht f7_2hr (ho := (by first | assumption | rfl | omega | simp)) (hp := (by first | assumption | rfl | omega | simp)) (hul := (by first | assumption | rfl | omega | simp))) ?_)))))))))))
 rintro _ F7 _ le7 ⟨x5, rfl, hr9, hr10, hr11, rfl⟩
 refine cX (qT (x5) rfl rfl (cX (qT (.bool ((putL ar t p ((fillL (matchP ar ((rs.getD r ([], [])).1) ((sub ar t p))) ((rs.getD r ([], [])).2)).getD [])).isSome)) rfl rfl (qg (x5) rfl (qg (.bool ((putL ar t p ((fillL (matchP ar ((rs.getD r ([], [])).1) ((sub ar t p))) ((rs.getD r ([], [])).2)).getD [])).isSome)) rfl (qb (qy (qs (L' := L) [x5, .bool ((putL ar t p ((fillL (matchP ar ((rs.getD r ([], [])).1) ((sub ar t p))) ((rs.getD r ([], [])).2)).getD [])).isSome)] (.tuple #[x5, .bool ((putL ar t p ((fillL (matchP ar ((rs.getD r ([], [])).1) ((sub ar t p))) ((rs.getD r ([], [])).2)).getD [])).isSome)]) (.tmp rfl (.tmp rfl .nil)) rfl (qm (qm le3 le6) le7) rF (sD (sD sR)) ?_))))))))
 have hz := stepL_put hms hfs
 exact ⟨_, by rw [hz], by rw [hz]; exact hr9, by rw [hz]; exact hr10, by rw [hz]; exact (hr11.base (qm le3 le6)), rfl⟩

/- spec.l2Gives -/
theorem l2Gives_spec {F : FH} {L : List HP} {sv : Value} {s : List (List Int)} (hs : RowsF F sv s) {i : Nat} (hsl : s.length ≤ 4000000) (hi : i ≤ 4000000) (hsb : (s.getD i []).length ≤ 4000000) :
    Does prog 107 [.agg #[sv], ii ((i : Int))] F (L) (fun v F' L' => F = F' ∧ IsSl v ∧ intsH 2 v (lk s (-1 - (i : Int))) :: L = L') := by
 refine qD func107 rfl rfl rfl (qc (qa (cX (qV [sv] rfl rfl ?_))))
 intro b1
 refine qg (sN) rfl (qb (qc (qc (qa (qf (ii ((i : Int))) rfl (cX (qn (0) qX rfl jg (by decide) rfl rfl (cX (qi jE rfl (Rd.own [] rfl rfl) (cX (qC qA rfl hs.slv (cX (qL rfl rfl (qf (.bool (decide ((i : Int) < (s.length : Int)))) rfl ?_))))))))))))))
 by_cases h1 : (i : Int) < (s.length : Int)
 ·refine qq (t := 10) rfl (vT h1) (qn (0) qX rfl jg (by decide) rfl rfl (qq (t := 10) rfl (vT h1) (qi jE rfl (Rd.own [] rfl rfl) (qq (t := 10) rfl (vT h1) (qj (ii ((i : Int))) rfl (qq (t := 10) rfl (vT h1) (ql i qA qr rfl rfl rfl hs.slv (by omega) (Nat.mul_one _) ?_)))))))
  obtain ⟨a1, ha1, hr1⟩ := hs.rd (i := i) (by omega)
  refine qq (t := 10) rfl (vT h1) (qi qP rfl (hr1 _) (qq (t := 10) rfl (vT h1) (qC qd rfl ha1.slv (qq (t := 10) rfl (vT h1) (jH rfl rfl (cX (qR (.bool (decide ((((((s.getD i [])).length : Nat) : Int) : Int) > 0))) (vT h1) rfl (qb ?_))))))))
  refine qx (p := (((((s.getD i [])).length : Nat) : Int) : Int) > 0) rfl (fun h2 => ?_) (fun h2 => ?_)
  ·refine qc (qa (cX (qn (0) qX rfl jg (by decide) rfl rfl (cX (qi jE rfl (Rd.own [] rfl rfl) (qf (ii ((i : Int))) rfl (cX (ql i qA qr rfl rfl rfl hs.slv (by omega) (Nat.mul_one _) (cX (qi qP rfl (hr1 _) (cX (qt (args := [a1]) call42 rfl (l1Copy_spec ha1 (hlt := (by first | assumption | rfl | omega | simp))) ?_))))))))))))
   rintro v1 _ _ _ ⟨rfl, hs1, rfl⟩
   refine qg (v1) rfl (qb (qy (qk (qs (L' := intsH 2 v1 ((((s.getD i [])))) :: L) [v1] (v1) (.tmp rfl .nil) rfl rF rF (sC (sD sR)) ?_))))
   refine ⟨rfl, hs1, ?_⟩
   have hxs : (lk s (-1 - (i : Int)) : List Int) = (((s.getD i []))) := lk_copy (by omega)
   exact congrArg (fun z => intsH 2 _ z :: L) hxs
  refine qw (qc (qa (qf (ii ((i : Int))) rfl (cX (qY ((-1) - ((i : Int))) rfl rfl (by omega) (by omega) (cX (qM (s := 1) [ii ((-1) - ((i : Int)))] [ii (0)] [(0, [ii ((-1) - ((i : Int)))])] qd qo jk rfl (by decide) rfl (.cons rfl CellsAre.nil) rfl ?_)))))))
  intro v2 hv1
  refine qg (v2) rfl (qb (qy (qs (L' := intsH 2 v2 ([(-1) - ((i : Int))]) :: L) [v2] (v2) (.tmp rfl .nil) rfl rF rF (sC (sD sR)) ?_)))
  refine ⟨rfl, (jJ hv1), ?_⟩
  have hxs : (lk s (-1 - (i : Int)) : List Int) = [(-1) - ((i : Int))] := lk_self (by first | omega | (rw [getD_out (by omega)]; simp))
  exact congrArg (fun z => intsH 2 _ z :: L) hxs
 refine qp (t := 10) rfl (vF h1) (qp (t := 10) rfl (vF h1) (qp (t := 10) rfl (vF h1) (qp (t := 10) rfl (vF h1) (qp (t := 10) rfl (vF h1) (qp (t := 10) rfl (vF h1) (qp (t := 10) rfl (vF h1) (cX (qS (.bool (false)) (vF h1) rfl (qb (jz rfl ?_))))))))))
 refine qw (qc (qa (qf (ii ((i : Int))) rfl (cX (qY ((-1) - ((i : Int))) rfl rfl (by omega) (by omega) (cX (qM (s := 1) [ii ((-1) - ((i : Int)))] [ii (0)] [(0, [ii ((-1) - ((i : Int)))])] qd qo jk rfl (by decide) rfl (.cons rfl CellsAre.nil) rfl ?_)))))))
 intro v3 hv2
 refine qg (v3) rfl (qb (qy (qs (L' := intsH 2 v3 ([(-1) - ((i : Int))]) :: L) [v3] (v3) (.tmp rfl .nil) rfl rF rF (sC (sD sR)) ?_)))
 refine ⟨rfl, (jJ hv2), ?_⟩
 have hxs : (lk s (-1 - (i : Int)) : List Int) = [(-1) - ((i : Int))] := lk_self (by first | omega | (rw [getD_out (by omega)]; simp))
 exact congrArg (fun z => intsH 2 _ z :: L) hxs

/- spec.l2Plain -/
theorem l2Plain_spec {F : FH} {L : List HP} {sv : Value} {s : List (List Int)} (hs : RowsF F sv s) (hsl : s.length ≤ 24) (hsb : ∀ i, (s.getD i []).length ≤ 4000000) :
    Does prog 176 [.agg #[sv]] F (L) (fun v F' L' => ∃ (a : Value), (.agg #[a] : Value) = v ∧ (RowsF F' a (plainL s)) ∧ L = L') := by
 refine qD func176 rfl rfl rfl (qc (qa (cX (qV [sv] rfl rfl ?_))))
 intro b1
 refine cX (jo [sN] jL rfl ?_)
 intro b2
 refine qb (qc (qa (cX (jw [sN] [sN] [(0, 1)] [] qX jL rfl (.cons rfl jg PlacesAre.nil) rfl CellsAre.nil (cX (jo [sN] jL rfl ?_))))))
 intro b3
 refine cX (jb [] _ [sN] js rfl rfl rfl (qv rfl jf) rfl rfl rfl (qb (qc (qc (qa (qg (ii (0)) rfl (qb (qF (jj (α := Nat × Value × RowL × FH) (fun xQ => [(1, ptr b1 0), (2, ptr b2 0), (3, ptr b3 0), (4, ii (((xQ.1 : Nat) : Int)))]) (fun xQ => rowsH 22 xQ.2.2.2 xQ.2.1 xQ.2.2.1 :: cellsH b3 [xQ.2.1] 86 :: cellsH b2 [sN] 86 :: cellsH b1 [sv] 86 :: L) (fun xQ F' => xQ.2.2.2 = F' ∧ F ≤ xQ.2.2.2 ∧ (IsSl xQ.2.1) ∧ (xQ.2.2.1 = (plainGo 0 s).take xQ.1) ∧ (xQ.1 ≤ s.length)) (fun xQ => s.length - xQ.1) (0, sN, [], F) ⟨rfl, rfl, rfl, rfl, ⟨⟩⟩ (coH.addNil none (sC (sC (sC sR)))) ⟨rfl, FLe.refl _, (⟨_, _, _, rfl⟩), (rfl), (by (try dsimp only) <;> omega)⟩ ?_)))))))))
 rintro ⟨k, ov, os, G1⟩ rE _ _ ⟨rfl, leG, hov, hos, hk⟩
 show X _ _ _ _ (envs [(1, ptr b1 0), (2, ptr b2 0), (3, ptr b3 0), (4, ii ((k : Int)))] rE) _ (rowsH 22 G1 ov os :: cellsH b3 [ov] 86 :: cellsH b2 [sN] 86 :: cellsH b1 [sv] 86 :: L)
 replace leG : F ≤ G1 := leG
 dsimp only at hov hos hk
 have hol : os.length ≤ k := by rw [hos, List.length_take]; omega
 have hsbk := hsb k
 have hlkb : (lk s (-1 - (k : Int))).length ≤ 4000000 := by rw [lk_var]; split <;> simp; exact hsbk
 have leG1 := leG
 replace hs := hs.mono leG1
 refine X.open [] rfl (fun cs1 hc1 => ?_)
 replace hc1 : RowsC G1 cs1 os := hc1
 refine qc (qc (qa (qf (ii ((k : Int))) rfl (cX (qn (0) qX rfl jg (by decide) rfl rfl (cX (qi jE rfl (Rd.own [_, _, _] rfl rfl) (cX (qC qA rfl hs.slv (cX (qL rfl rfl (qb ?_))))))))))))
 refine qx (p := (k : Int) < (s.length : Int)) rfl (fun h1 => ?_) (fun h1 => ?_)
 ·refine qw (qc (qF (qc (qa (cX (qB [sv] isAgg86 js rfl rfl (Rd.ownN [_, _, _] rfl rfl) (qf (ii ((k : Int))) rfl (cX (jK <| qt (args := [.agg #[sv], ii (k : Int)]) call107 rfl (l2Gives_spec (i := k) hs (hsl := (by first | assumption | rfl | omega | simp)) (hi := (by first | assumption | rfl | omega | simp)) (hsb := (hsb k))) ?_)))))))))
  rintro v1 _ _ _ ⟨rfl, hs1, rfl⟩
  refine ⟨_, _, rfl, fun F1 le1 hz1 => ?_⟩
  replace hc1 := hc1.mono le1
  have hf1 : IntsF F1 v1 ((lk s (-1 - (k : Int)))) := intsH.fz (xs := (lk s (-1 - (k : Int)))) hz1.fz
  refine qg (v1) rfl (qb (qc (qc (qa (qf (v1) rfl (cX (qC qd rfl hf1.slv (cX (jI rfl rfl (qf (.bool (decide ((((((lk s (-1 - (k : Int)))).length : Nat) : Int) : Int) = 1))) rfl ?_))))))))))
  by_cases h2 : (((((lk s (-1 - (k : Int)))).length : Nat) : Int) : Int) = 1
  ·refine qq (t := 20) rfl (vT h2) (qj (v1) rfl (qq (t := 20) rfl (vT h2) (ql 0 qd qo rfl rfl rfl hf1.slv (by omega) (Nat.mul_one _) (qq (t := 20) rfl (vT h2) (qi qK rfl (hf1.rd (by omega)) (qq (t := 20) rfl (vT h2) (qj (ii ((k : Int))) rfl (qq (t := 20) rfl (vT h2) (qY ((-1) - ((k : Int))) rfl rfl (by omega) (by omega) (qq (t := 20) rfl (vT h2) (jI rfl rfl (cX (qR (.bool (decide ((((lk s (-1 - (k : Int)))).getD 0 0 : Int) = (-1) - ((k : Int))))) (vT h2) rfl (qb ?_))))))))))))))
   refine qx (p := (((lk s (-1 - (k : Int)))).getD 0 0 : Int) = (-1) - ((k : Int))) rfl (fun h3 => ?_) (fun h3 => ?_)
   ·refine qa (cX (qM (s := 1) [] [ii (0)] [] qd qo jk rfl (by decide) rfl CellsAre.nil rfl ?_))
    intro v2 hv1
    refine qg (v2) rfl (qb (qa (cX (qn (0) qX rfl jg (by decide) rfl rfl (cX (qi jE rfl (Rd.own [_, _] rfl rfl) (qf (v2) rfl (cX (qM (s := 1) [v2] [sN] [(0, [v2])] qA qr jM rfl (by decide) rfl (.cons (cells_one (jJ hv1)) CellsAre.nil) rfl ?_)))))))))
    intro v3 hv2
    show XL _ _ _ _ _ _ _ (slH 22 1 v3 1 [v2] :: intsH 2 v2 ([] : List Int) :: slH 22 1 ov ((os).length) cs1 :: cellsH b3 [ov] 86 :: cellsH b2 [sN] 86 :: cellsH b1 [sv] 86 :: L)
    refine jY [_] _ _ rfl (fun F2 le2 hz2 => ?_)
    replace hc1 := hc1.mono le2
    replace hf1 := hf1.mono le2
    have hf2 : IntsF F2 v2 ([]) := intsH.fz (xs := []) hz2.fz
    refine cX (XOp.append (m := 1) (bytes := 24) (cs := cs1) [_] _ [v2] qA typeInfo22 rfl rfl rfl rfl rfl rfl rfl (SlV.own [] rfl) rfl (Rd.lit [] rfl) (qv (qZ (qG hf2)) jf) (by (try simp only [List.length_append, List.length_nil, List.length_cons, List.length_singleton]); omega) (by (try simp only [List.length_append, List.length_nil, List.length_cons, List.length_singleton]); omega) ?_)
    intro v4 hs2 hn1 hm1
    have hc2 := RowsC.snoc hc1 hf2
    refine cX (qn (0) qX rfl jg (by decide) rfl rfl (cX (jq [_, _] _ [v4] jg rfl rfl (qZ hs2) rfl rfl rfl (qb (qa (qf (ii ((k : Int))) rfl (cX (qI (((k + 1 : Nat) : Int)) rfl rfl (by omega) (by omega) (qg (ii (((k + 1 : Nat) : Int))) rfl (qb ?_))))))))))
    exact ⟨(k + 1, v4, os ++ [[]], F2), _, (qm (qm leG1 le1) le2), rF, ⟨rfl, rfl, rfl, rfl, ⟨⟩⟩, (sD (coH.close hc2 (by first | rfl | simp) (sC (sC (sC sR))))), ⟨rfl, (qm (qm leG1 le1) le2), (hs2), (by dsimp only; rw [hos, plainGo_take (by omega), plainGo_self (one_eq (by omega) (by omega))]), (by (try dsimp only) <;> omega)⟩, (by omega)⟩
   refine qw (qa (cX (qn (0) qX rfl jg (by decide) rfl rfl (cX (qi jE rfl (Rd.own [_] rfl rfl) (qf (v1) rfl (cX (qM (s := 1) [v1] [sN] [(0, [v1])] qA qr jM rfl (by decide) rfl (.cons (cells_one (qG hf1)) CellsAre.nil) rfl ?_))))))))
   intro v5 hv3
   refine cX (XOp.append (m := 1) (bytes := 24) (cs := cs1) [_] _ [v1] qA typeInfo22 rfl rfl rfl rfl rfl rfl rfl (SlV.own [] rfl) rfl (Rd.lit [] rfl) (qv (qZ (qG hf1)) jf) (by (try simp only [List.length_append, List.length_nil, List.length_cons, List.length_singleton]); omega) (by (try simp only [List.length_append, List.length_nil, List.length_cons, List.length_singleton]); omega) ?_)
   intro v6 hs3 hn2 hm2
   have hc3 := RowsC.snoc hc1 hf1
   refine cX (qn (0) qX rfl jg (by decide) rfl rfl (cX (jq [_, _] _ [v6] jg rfl rfl (qZ hs3) rfl rfl rfl (qb (qa (qf (ii ((k : Int))) rfl (cX (qI (((k + 1 : Nat) : Int)) rfl rfl (by omega) (by omega) (qg (ii (((k + 1 : Nat) : Int))) rfl (qb ?_))))))))))
   exact ⟨(k + 1, v6, os ++ [(lk s (-1 - (k : Int)))], F1), _, (qm leG1 le1), rF, ⟨rfl, rfl, rfl, rfl, ⟨⟩⟩, (sD (coH.close hc3 (by first | rfl | simp) (sC (sC (sC sR))))), ⟨rfl, (qm leG1 le1), (hs3), (by dsimp only; rw [hos, plainGo_take (by omega), plainGo_other (by intro e; have e1 := congrArg List.length e; have e2 := congrArg (fun l => l.getD 0 0) e; simp only [List.length_singleton, List.getD_cons_zero] at e1 e2; omega)]), (by (try dsimp only) <;> omega)⟩, (by omega)⟩
  refine qp (t := 20) rfl (vF h2) (qp (t := 20) rfl (vF h2) (qp (t := 20) rfl (vF h2) (qp (t := 20) rfl (vF h2) (qp (t := 20) rfl (vF h2) (qp (t := 20) rfl (vF h2) (cX (qS (.bool (false)) (vF h2) rfl (qb (jz rfl (qw (qa ?_)))))))))))
  refine cX (qn (0) qX rfl jg (by decide) rfl rfl (cX (qi jE rfl (Rd.own [_] rfl rfl) (qf (v1) rfl (cX (qM (s := 1) [v1] [sN] [(0, [v1])] qA qr jM rfl (by decide) rfl (.cons (cells_one (qG hf1)) CellsAre.nil) rfl ?_))))))
  intro v7 hv4
  refine cX (XOp.append (m := 1) (bytes := 24) (cs := cs1) [_] _ [v1] qA typeInfo22 rfl rfl rfl rfl rfl rfl rfl (SlV.own [] rfl) rfl (Rd.lit [] rfl) (qv (qZ (qG hf1)) jf) (by (try simp only [List.length_append, List.length_nil, List.length_cons, List.length_singleton]); omega) (by (try simp only [List.length_append, List.length_nil, List.length_cons, List.length_singleton]); omega) ?_)
  intro v8 hs4 hn3 hm3
  have hc4 := RowsC.snoc hc1 hf1
  refine cX (qn (0) qX rfl jg (by decide) rfl rfl (cX (jq [_, _] _ [v8] jg rfl rfl (qZ hs4) rfl rfl rfl (qb (qa (qf (ii ((k : Int))) rfl (cX (qI (((k + 1 : Nat) : Int)) rfl rfl (by omega) (by omega) (qg (ii (((k + 1 : Nat) : Int))) rfl (qb ?_))))))))))
  exact ⟨(k + 1, v8, os ++ [(lk s (-1 - (k : Int)))], F1), _, (qm leG1 le1), rF, ⟨rfl, rfl, rfl, rfl, ⟨⟩⟩, (sD (coH.close hc4 (by first | rfl | simp) (sC (sC (sC sR))))), ⟨rfl, (qm leG1 le1), (hs4), (by dsimp only; rw [hos, plainGo_take (by omega), plainGo_other (by intro e; have e1 := congrArg List.length e; have e2 := congrArg (fun l => l.getD 0 0) e; simp only [List.length_singleton, List.getD_cons_zero] at e1 e2; omega)]), (by (try dsimp only) <;> omega)⟩, (by omega)⟩
 refine ja (qu (qu (qJ (qc (qF (jj (α := Value × RowL × FH) (fun xQ => [(2, ptr b2 0), (3, ptr b3 0)]) (fun xQ => rowsH 22 xQ.2.2 xQ.1 xQ.2.1 :: cellsH b3 [xQ.1] 86 :: cellsH b2 [sN] 86 :: cellsH b1 [sv] 86 :: L) (fun xQ F' => xQ.2.2 = F' ∧ G1 ≤ xQ.2.2 ∧ (IsSl xQ.1) ∧ (trim xQ.2.1 = plainL s) ∧ (xQ.2.1.length ≤ 24)) (fun xQ => xQ.2.1.length) (ov, os, G1) ⟨rfl, rfl, ⟨⟩⟩ (coH.close hc1 (by first | rfl | simp) (sC (sC (sC sR)))) ⟨rfl, FLe.refl _, (hov), (by dsimp only; rw [hos, plainL, List.take_of_length_le (by rw [plainGo_length]; omega)]), (by dsimp only; rw [hos, List.length_take, plainGo_length]; omega)⟩ ?_))))))
 rintro ⟨ov2, os2, G2⟩ rE _ _ ⟨rfl, leG, hov2, hos2, hl2⟩
 show X _ _ _ _ (envs [(2, ptr b2 0), (3, ptr b3 0)] rE) _ (rowsH 22 G2 ov2 os2 :: cellsH b3 [ov2] 86 :: cellsH b2 [sN] 86 :: cellsH b1 [sv] 86 :: L)
 replace leG : G1 ≤ G2 := leG
 dsimp only at hov2 hos2 hl2
 have leG2 := leG
 refine X.open [] rfl (fun cs2 hc5 => ?_)
 replace hc5 : RowsC G2 cs2 os2 := hc5
 refine qc (qc (qa (cX (qn (0) qX rfl jg (by decide) rfl rfl (cX (qi jE rfl (Rd.own [_] rfl rfl) (cX (qC qA rfl (SlV.own [] rfl) (cX (jH rfl rfl (qf (.bool (decide (((os2.length : Int) : Int) > 0))) rfl ?_)))))))))))
 by_cases h4 : ((os2.length : Int) : Int) > 0
 ·refine qq (t := 39) rfl (vT h4) (qn (0) qX rfl jg (by decide) rfl rfl (qq (t := 39) rfl (vT h4) (qi jE rfl (Rd.own [_] rfl rfl) (qq (t := 39) rfl (vT h4) (qn (0) qX rfl jg (by decide) rfl rfl (qq (t := 39) rfl (vT h4) (qi jE rfl (Rd.own [_] rfl rfl) (qq (t := 39) rfl (vT h4) (qC qA rfl (SlV.own [] rfl) (qq (t := 39) rfl (vT h4) (qY (((os2.length - 1 : Nat) : Int)) rfl rfl (by omega) (by omega) (qq (t := 39) rfl (vT h4) (ql (os2.length - 1) qA qr rfl rfl rfl (SlV.own [] rfl) (by omega) (Nat.mul_one _) ?_)))))))))))))
  obtain ⟨a1, ha1, he1⟩ := hc5.get (i := os2.length - 1) (by omega)
  refine qq (t := 39) rfl (vT h4) (qi qP rfl (Rd.sl [] rfl he1) (qq (t := 39) rfl (vT h4) (qC qd rfl ha1.slv (qq (t := 39) rfl (vT h4) (jI rfl rfl (cX (qR (.bool (decide ((((((os2.getD (os2.length - 1) [])).length : Nat) : Int) : Int) = 0))) (vT h4) rfl (qb ?_))))))))
  refine qx (p := (((((os2.getD (os2.length - 1) [])).length : Nat) : Int) : Int) = 0) rfl (fun h5 => ?_) (fun h5 => ?_)
  ·refine qw (qF (qa (cX (qn (0) qX rfl jg (by decide) rfl rfl (cX (qi jE rfl (Rd.own [_] rfl rfl) (cX (qn (0) qX rfl jg (by decide) rfl rfl (cX (qi jE rfl (Rd.own [_] rfl rfl) (cX (qC qA rfl (SlV.own [] rfl) (cX (qY (((os2.length - 1 : Nat) : Int)) rfl rfl (by omega) (by omega) (cX (XOp.sliceOwn (cs := cs2) [] _ (os2.length - 1) qA qr rfl rfl ⟨_, rfl⟩ (by omega) ?_))))))))))))))))
   intro v9 hs5
   have hc6 : RowsC G2 _ _ := CO.take hc5 (k := os2.length - 1) (by omega)
   refine cX (qn (0) qX rfl jg (by decide) rfl rfl (cX (jq [_] _ [v9] jg rfl rfl (qZ hs5) rfl rfl rfl (qb ?_))))
   exact ⟨(v9, (os2.take (os2.length - 1)), G2), _, leG2, rF, ⟨rfl, rfl, ⟨⟩⟩, (coH.close hc6 (by first | rfl | simp) (sC (sC (sC sR)))), ⟨rfl, leG2, (hs5), (by dsimp only; rw [trim_cut (by omega) (List.eq_nil_of_length_eq_zero (by omega))]; exact hos2), (by dsimp only; rw [List.length_take]; omega)⟩, (by dsimp only; rw [List.length_take]; omega)⟩
  refine ja (qu (qu (qJ (qc (qa (cX (qB [ov2] isAgg86 js rfl rfl (Rd.ownN [_] rfl rfl) (cX (jb [_, _] _ [ov2] js rfl rfl rfl (qv (qZ hov2) jf) rfl rfl rfl (qb (jA [] _ _ rfl (fun F3 le3 hz3 => ?_))))))))))))
  replace hc5 := hc5.mono le3
  have hf3 : RowsF F3 ov2 os2 := CO.fz hc5 (by first | rfl | omega | (rw [List.length_set]; omega) | (simp; done)) hz3.fz
  refine qy (qs (L' := L) [.agg #[ov2]] (.agg #[ov2]) (.cell rfl (jP [ov2] isAgg86 js rfl (Rd.ownN [_] rfl rfl)) .nil) rfl (qm (qm leG1 leG2) le3) rF (sD (sD (sD sR))) ?_)
  have e : os2 = plainL s := by rw [← hos2]; exact (trim_last (fun h0 e => by have := congrArg List.length e; simp only [List.length_nil] at this; omega)).symm
  exact ⟨_, rfl, by rw [← e]; exact hf3, rfl⟩
 refine qp (t := 39) rfl (vF h4) (qp (t := 39) rfl (vF h4) (qp (t := 39) rfl (vF h4) (qp (t := 39) rfl (vF h4) (qp (t := 39) rfl (vF h4) (qp (t := 39) rfl (vF h4) (qp (t := 39) rfl (vF h4) (qp (t := 39) rfl (vF h4) (qp (t := 39) rfl (vF h4) (qp (t := 39) rfl (vF h4) ?_)))))))))
 refine cX (qS (.bool (false)) (vF h4) rfl (qb (jz rfl (ja (qu (qu (qJ (qc (qa (cX (qB [ov2] isAgg86 js rfl rfl (Rd.ownN [_] rfl rfl) (cX (jb [_, _] _ [ov2] js rfl rfl rfl (qv (qZ hov2) jf) rfl rfl rfl (qb (jA [] _ _ rfl (fun F4 le4 hz4 => ?_))))))))))))))))
 replace hc5 := hc5.mono le4
 have hf4 : RowsF F4 ov2 os2 := CO.fz hc5 (by first | rfl | omega | (rw [List.length_set]; omega) | (simp; done)) hz4.fz
 refine qy (qs (L' := L) [.agg #[ov2]] (.agg #[ov2]) (.cell rfl (jP [ov2] isAgg86 js rfl (Rd.ownN [_] rfl rfl)) .nil) rfl (qm (qm leG1 leG2) le4) rF (sD (sD (sD sR))) ?_)
 have e : os2 = plainL s := by rw [← hos2]; exact (trim_last (fun h0 e => by have := congrArg List.length e; simp only [List.length_nil] at this; omega)).symm
 exact ⟨_, rfl, by rw [← e]; exact hf4, rfl⟩

/- spec.l4Match -/
theorem l4Match_spec {F : FH} {L : List HP} {arv : Value} {ar : List Int} (har : IntsF F arv ar) {pv : Value} {p : List Int} (hp : IntsF F pv p) {tv : Value} {t : List Int} (ht : IntsF F tv t) (ho : termOk ar t = true) (hpo : termOk ar p = true) :
    Does prog 106 [.agg #[arv], pv, tv] F (L) (fun v F' L' => ∃ (a : Value), (.tuple #[.agg #[a], .bool ((matchB ar p t).isSome)] : Value) = v ∧ (RowsF F' a (matchP ar p t)) ∧ L = L') := by
 refine qD func106 rfl rfl rfl ?_
 have hpl := termOk_len hpo
 have hpg := fun k (hk : k < p.length) => termOk_ge hpo hk
 have htl := termOk_len ho
 have hsl := sigOk_spec (termOk_sig ho)
 refine qc (qa (cX (qV [arv] rfl rfl ?_)))
 intro b1
 refine cX (jo [sN] jL rfl ?_)
 intro b2
 refine qg (.bool (false)) rfl (qb (qc (qa (cX (XOp.makeSlice (n := 24) (bytes := 24) [sN] qA qr typeInfo22 rfl jM rfl rfl rfl rfl (by omega) (by omega) ?_)))))
 intro v1 hv1
 rw [nils]
 have hc1 : RowsC F _ _ := RowsC.nils 24
 refine cX (jw [v1] [sN] [(0, 1)] [(0, [v1])] qX jL rfl (.cons rfl jg PlacesAre.nil) rfl (.cons (cells_one (jJ hv1)) CellsAre.nil) (cX (jo [sN] jL rfl ?_)))
 intro b3
 refine cX (jb [] _ [v1] js rfl rfl rfl (qv (qZ (jJ hv1)) jf) rfl rfl rfl (qb (qc (qa (qg (ii (0)) rfl (qb (qc (qc (qa (qg (ii (0)) rfl (qb (qF (jj (α := Nat × Nat × RowL × FH) (fun xQ => [(1, pv), (2, tv), (3, ptr b1 0), (6, ptr b2 0), (8, ptr b3 0), (9, ii (((xQ.2.1 : Nat) : Int))), (10, ii (((xQ.1 : Nat) : Int)))]) (fun xQ => cellsH b3 [v1] 86 :: rowsH 22 xQ.2.2.2 v1 xQ.2.2.1 :: cellsH b2 [sN] 86 :: cellsH b1 [arv] 31 :: L) (fun xQ F' => xQ.2.2.2 = F' ∧ F ≤ xQ.2.2.2 ∧ (xQ.2.2.1.length = 24) ∧ (xQ.1 ≤ p.length) ∧ (xQ.2.1 ≤ t.length) ∧ (matchB ar p t = mGo ar t (p.drop xQ.1) xQ.2.1 xQ.2.2.1)) (fun xQ => p.length - xQ.1) (0, 0, (List.replicate 24 [] : List (List Int)), F) ⟨rfl, rfl, rfl, rfl, rfl, rfl, rfl, ⟨⟩⟩ (sC (coH.close hc1 (by first | rfl | simp) (sC (sC sR)))) ⟨rfl, FLe.refl _, (by simp), (by (try dsimp only) <;> omega), (by (try dsimp only) <;> omega), (rfl)⟩ ?_)))))))))))))
 rintro ⟨k, i, bl, G1⟩ rE _ _ ⟨rfl, leG, hbl, hk, hi, hm⟩
 show X _ _ _ _ (envs [(1, pv), (2, tv), (3, ptr b1 0), (6, ptr b2 0), (8, ptr b3 0), (9, ii ((i : Int))), (10, ii ((k : Int)))] rE) _ (cellsH b3 [v1] 86 :: rowsH 22 G1 v1 bl :: cellsH b2 [sN] 86 :: cellsH b1 [arv] 31 :: L)
 replace leG : F ≤ G1 := leG
 dsimp only at hbl hk hi hm
 have hpk := hpg k
 have hsl2 := fun h => sub_length (p := i) ho h
 have hee := fun h => endN_spec (p := i) ho h
 have leG1 := leG
 replace har := har.mono leG1
 replace hp := hp.mono leG1
 replace ht := ht.mono leG1
 refine X.open [_] rfl (fun cs1 hc2 => ?_)
 replace hc2 : RowsC G1 cs1 bl := hc2
 refine qc (qc (qa (qf (ii ((k : Int))) rfl (qf (pv) rfl (cX (qC qd rfl hp.slv (cX (qL rfl rfl (qb ?_)))))))))
 refine qx (p := (k : Int) < (p.length : Int)) rfl (fun h1 => ?_) (fun h1 => ?_)
 ·refine qw (qc (qF (qc (qc (qa (qf (ii ((i : Int))) rfl (qf (tv) rfl (cX (qC qd rfl ht.slv (cX (jT rfl rfl (qb ?_))))))))))))
  refine qx (p := (i : Int) ≥ (t.length : Int)) rfl (fun h2 => ?_) (fun h2 => ?_)
  ·refine qc (qa (cX (jw [sN] [sN] [(0, 1)] [] qX jL rfl (.cons rfl jg PlacesAre.nil) rfl CellsAre.nil (cX (jb [_, _] _ [sN] js rfl rfl rfl (qv rfl jf) rfl rfl rfl (qg (.bool (false)) rfl (qb (qy (qk (qz (qk (qk (qz (qk (qs (L' := L) [.agg #[sN], .bool (false)] (.tuple #[.agg #[sN], .bool (false)]) (.cell rfl (jP [sN] isAgg86 js rfl (Rd.ownN [_, _] rfl rfl)) (.tmp rfl .nil)) rfl leG1 rF (sD (sD (sD (sD sR)))) ?_)))))))))))))))
   have hz : matchB ar p t = none := hm.trans (mGo_short (by omega) (by omega))
   exact ⟨_, by rw [hz]; rfl, by rw [matchP, hz]; exact SlOf.nilV, rfl⟩
  refine qw (qc (qc (qa (qf (pv) rfl (qf (ii ((k : Int))) rfl (cX (ql k qd qo rfl rfl rfl hp.slv (by omega) (Nat.mul_one _) (cX (qi qK rfl (hp.rd (by omega)) (cX (jT rfl rfl (qb ?_))))))))))))
  refine qx (p := (p.getD k 0 : Int) ≥ 0) rfl (fun h3 => ?_) (fun h3 => ?_)
  ·refine qc (qc ?_)
   refine jn [cellsH b3 [v1] 86, slH 22 1 v1 ((bl).length) cs1, cellsH b2 [sN] 86, cellsH b1 [arv] 31] L 8 [] [[], [], [0, 1], [2], [], [], [4, 5], [6]] (phiL [qe pv, qe (ii ((k : Int)) : Value), qe (.pointer (some (elemA pv (k)))), qe (ii (p.getD k 0)), qe tv, qe (ii ((i : Int)) : Value), qe (.pointer (some (elemA tv (i)))), qe (ii (t.getD i 0))]) (ownL []) mixed rfl rfl (by kernel_rfl) ?_ ?_
   ·refine pD (fun W R z9 => ?_) ?_
    ·refine qh (qj (pv) rfl ?_)
     exact ⟨rfl, rfl, rfl⟩
    refine pD (fun W R z9 => ?_) ?_
    ·refine qh (qj (ii ((k : Int))) rfl ?_)
     exact ⟨rfl, rfl, rfl⟩
    refine pD (fun W R z9 => ?_) ?_
    ·rw [eS (l := [(0, _), (1, _)]) ⟨z9 0 rfl, z9 1 rfl, ⟨⟩⟩]
     refine qh (ql k qd qo rfl rfl rfl hp.slv (by omega) (Nat.mul_one _) ?_)
     exact ⟨rfl, rfl, rfl⟩
    refine pD (fun W R z9 => ?_) ?_
    ·rw [eS (l := [(2, _)]) ⟨z9 2 rfl, ⟨⟩⟩]
     refine qh (qi qK rfl (hp.rd (by omega)) ?_)
     exact ⟨rfl, rfl, rfl⟩
    refine pD (fun W R z9 => ?_) ?_
    ·refine qh (qj (tv) rfl ?_)
     exact ⟨rfl, rfl, rfl⟩
    refine pD (fun W R z9 => ?_) ?_
    ·refine qh (qj (ii ((i : Int))) rfl ?_)
     exact ⟨rfl, rfl, rfl⟩
    refine pD (fun W R z9 => ?_) ?_
    ·rw [eS (l := [(4, _), (5, _)]) ⟨z9 4 rfl, z9 5 rfl, ⟨⟩⟩]
     refine qh (ql i qd qo rfl rfl rfl ht.slv (by omega) (Nat.mul_one _) ?_)
     exact ⟨rfl, rfl, rfl⟩
    refine pD (fun W R z9 => ?_) ?_
    ·rw [eS (l := [(6, _)]) ⟨z9 6 rfl, ⟨⟩⟩]
     refine qh (qi qK rfl (ht.rd (by omega)) ?_)
     exact ⟨rfl, rfl, rfl⟩
    exact stepsP.nil
   intro W hphi
   rw [eS (l := [(3, _), (7, _)]) ⟨(hphi 3 (by decide)), (hphi 7 (by decide)), ⟨⟩⟩]
   show XL _ _ _ _ _ _ _ (cellsH b3 [v1] 86 :: slH 22 1 v1 ((bl).length) cs1 :: cellsH b2 [sN] 86 :: cellsH b1 [arv] 31 :: L)
   refine cX (XOp.neq rfl rfl (qb ?_))
   refine qx (p := (p.getD k 0 : Int) ≠ t.getD i 0) rfl (fun h4 => ?_) (fun h4 => ?_)
   ·refine qc (qa (cX (jw [sN] [sN] [(0, 1)] [] qX jL rfl (.cons rfl jg PlacesAre.nil) rfl CellsAre.nil (cX (jb [_, _] _ [sN] js rfl rfl rfl (qv rfl jf) rfl rfl rfl (qg (.bool (false)) rfl (qb (qy (qk (qk (qz (qk (qk (qz (qk (qs (L' := L) [.agg #[sN], .bool (false)] (.tuple #[.agg #[sN], .bool (false)]) (.cell rfl (jP [sN] isAgg86 js rfl (Rd.ownN [_, _] rfl rfl)) (.tmp rfl .nil)) rfl leG1 rF (sD (sD (sD (sD sR)))) ?_))))))))))))))))
    have hz : matchB ar p t = none := hm.trans (mGo_ne (by omega) (by omega) (by omega) (by omega))
    exact ⟨_, by rw [hz]; rfl, by rw [matchP, hz]; exact SlOf.nilV, rfl⟩
   refine qw (qc (qa (qf (ii ((i : Int))) rfl (cX (qI (((i + 1 : Nat) : Int)) rfl rfl (by omega) (by omega) (qg (ii (((i + 1 : Nat) : Int))) rfl (qb (ja (qu (qJ (qa (qf (ii ((k : Int))) rfl (cX (qI (((k + 1 : Nat) : Int)) rfl rfl (by omega) (by omega) (qg (ii (((k + 1 : Nat) : Int))) rfl ?_)))))))))))))))
   refine qb ?_
   exact ⟨(k + 1, i + 1, bl, G1), _, leG1, rF, ⟨rfl, rfl, rfl, rfl, rfl, rfl, rfl, ⟨⟩⟩, (sC (coH.close hc2 (by first | rfl | simp) (sC (sC sR)))), ⟨rfl, leG1, (by (try dsimp only); (try simp only [List.length_set]) <;> omega), (by (try dsimp only) <;> omega), (by (try dsimp only) <;> omega), (hm.trans (mGo_sym (by omega) (by omega) (by omega) (by omega)))⟩, (by omega)⟩
  refine qw (qc (qa (cX (qB [arv] je qN rfl rfl (Rd.ownN [_, _, _] rfl rfl) (qf (tv) rfl (qf (ii ((i : Int))) rfl (cX (jK <| qt (args := [.agg #[arv], tv, ii (i : Int)]) call44 rfl (l1Sub_spec (p := i) har ht (ho := (by first | assumption | rfl | omega | simp)) (hp := (by first | assumption | rfl | omega | simp))) ?_))))))))
  rintro v2 _ _ _ ⟨rfl, hs1, rfl⟩
  refine ⟨_, _, rfl, fun F1 le1 hz1 => ?_⟩
  replace hp := hp.mono le1
  replace hc2 := hc2.mono le1
  have hf1 : IntsF F1 v2 ((sub ar t i)) := intsH.fz (xs := (sub ar t i)) hz1.fz
  refine qg (v2) rfl (qb (qc ?_))
  refine jn [cellsH b3 [v1] 86, slH 22 1 v1 ((bl).length) cs1, cellsH b2 [sN] 86, cellsH b1 [arv] 31] L 7 [] [[], [0], [], [], [2, 3], [4], [5]] (phiL [qe (ptr b3 0), qe v1, qe pv, qe (ii ((k : Int)) : Value), qe (.pointer (some (elemA pv (k)))), qe (ii (p.getD k 0)), qe (ii ((-1) - (p.getD k 0)))]) (ownL []) mixed rfl rfl (by kernel_rfl) ?_ ?_
  ·refine pD (fun W R z9 => ?_) ?_
   ·refine qh (qn (0) qX rfl jg (by decide) rfl rfl ?_)
    exact ⟨rfl, rfl, rfl⟩
   refine pD (fun W R z9 => ?_) ?_
   ·rw [eS (l := [(0, _)]) ⟨z9 0 rfl, ⟨⟩⟩]
    refine qh (qi jE rfl (Rd.own [] rfl rfl) ?_)
    exact ⟨rfl, rfl, rfl⟩
   refine pD (fun W R z9 => ?_) ?_
   ·refine qh (qj (pv) rfl ?_)
    exact ⟨rfl, rfl, rfl⟩
   refine pD (fun W R z9 => ?_) ?_
   ·refine qh (qj (ii ((k : Int))) rfl ?_)
    exact ⟨rfl, rfl, rfl⟩
   refine pD (fun W R z9 => ?_) ?_
   ·rw [eS (l := [(2, _), (3, _)]) ⟨z9 2 rfl, z9 3 rfl, ⟨⟩⟩]
    refine qh (ql k qd qo rfl rfl rfl hp.slv (by omega) (Nat.mul_one _) ?_)
    exact ⟨rfl, rfl, rfl⟩
   refine pD (fun W R z9 => ?_) ?_
   ·rw [eS (l := [(4, _)]) ⟨z9 4 rfl, ⟨⟩⟩]
    refine qh (qi qK rfl (hp.rd (by omega)) ?_)
    exact ⟨rfl, rfl, rfl⟩
   refine pD (fun W R z9 => ?_) ?_
   ·rw [eS (l := [(5, _)]) ⟨z9 5 rfl, ⟨⟩⟩]
    refine qh (qY ((-1) - (p.getD k 0)) rfl rfl (by omega) (by omega) ?_)
    exact ⟨rfl, rfl, rfl⟩
   exact stepsP.nil
  intro W hphi
  rw [eS (l := [(1, _), (6, _)]) ⟨(hphi 1 (by decide)), (hphi 6 (by decide)), ⟨⟩⟩]
  show XL _ _ _ _ _ _ _ (cellsH b3 [v1] 86 :: slH 22 1 v1 ((bl).length) cs1 :: cellsH b2 [sN] 86 :: cellsH b1 [arv] 31 :: L)
  refine cX (ql (((-1) - (p.getD k 0)).toNat) qA qr rfl rfl (by omega) (SlV.own [_] rfl) (by omega) (Nat.mul_one _) ?_)
  obtain ⟨a1, ha1, he1⟩ := hc2.get (i := ((-1) - (p.getD k 0)).toNat) (by omega)
  refine cX (qi qP rfl (Rd.sl [_] rfl he1) (qg (a1) rfl (qb (qc (qc (qa (qf (a1) rfl (cX (qC qd rfl ha1.slv (cX (jH rfl rfl (qf (.bool (decide ((((((bl.getD (((-1) - (p.getD k 0)).toNat) [])).length : Nat) : Int) : Int) > 0))) rfl ?_))))))))))))
  by_cases h5 : (((((bl.getD (((-1) - (p.getD k 0)).toNat) [])).length : Nat) : Int) : Int) > 0
  ·refine qq (t := 59) rfl (vT h5) (qj (a1) rfl (qq (t := 59) rfl (vT h5) (qj (v2) rfl (qq (t := 59) rfl (vT h5) (qt (args := [a1, v2]) call32 rfl (SameTerm_spec ha1 hf1 (hbd := (by first | assumption | rfl | omega | (left; simp; done) | (right; simp; done)))) ?_)))))
   rintro _ _ _ _ ⟨rfl, rfl, rfl⟩
   refine qq (t := 59) rfl (vT h5) (jN rfl (cX (qR (.bool (decide (¬(((bl.getD (((-1) - (p.getD k 0)).toNat) [])) = ((sub ar t i)))))) (vT h5) rfl (qb ?_))))
   refine qx (p := ¬(((bl.getD (((-1) - (p.getD k 0)).toNat) [])) = ((sub ar t i)))) rfl (fun h6 => ?_) (fun h6 => ?_)
   ·refine qc (qa (cX (jw [sN] [sN] [(0, 1)] [] qX jL rfl (.cons rfl jg PlacesAre.nil) rfl CellsAre.nil (cX (jb [_, _] _ [sN] js rfl rfl rfl (qv rfl jf) rfl rfl rfl (qg (.bool (false)) rfl (qb (qy (qk (qz (qk (qk (qz (qk (qs (L' := L) [.agg #[sN], .bool (false)] (.tuple #[.agg #[sN], .bool (false)]) (.cell rfl (jP [sN] isAgg86 js rfl (Rd.ownN [_, _] rfl rfl)) (.tmp rfl .nil)) rfl (qm leG1 le1) rF (sD (sD (sD (sD sR)))) ?_)))))))))))))))
    have hz : matchB ar p t = none := hm.trans (mGo_clash (by omega) (by omega) (by omega) (by intro e; have := congrArg List.length (show bl.getD (-1 - p.getD k 0).toNat [] = [] from e); simp only [List.length_nil] at this; omega) (by assumption))
    exact ⟨_, by rw [hz]; rfl, by rw [matchP, hz]; exact SlOf.nilV, rfl⟩
   refine qw (qc ?_)
   refine jn [cellsH b3 [v1] 86, slH 22 1 v1 ((bl).length) cs1, cellsH b2 [sN] 86, cellsH b1 [arv] 31] L 8 [] [[], [0], [], [], [2, 3], [4], [5]] (phiL [qe (ptr b3 0), qe v1, qe pv, qe (ii ((k : Int)) : Value), qe (.pointer (some (elemA pv (k)))), qe (ii (p.getD k 0)), qe (ii ((-1) - (p.getD k 0))), qe v2]) (ownL []) mixed rfl rfl (by kernel_rfl) ?_ ?_
   ·refine pD (fun W R z9 => ?_) ?_
    ·refine qh (qn (0) qX rfl jg (by decide) rfl rfl ?_)
     exact ⟨rfl, rfl, rfl⟩
    refine pD (fun W R z9 => ?_) ?_
    ·rw [eS (l := [(0, _)]) ⟨z9 0 rfl, ⟨⟩⟩]
     refine qh (qi jE rfl (Rd.own [] rfl rfl) ?_)
     exact ⟨rfl, rfl, rfl⟩
    refine pD (fun W R z9 => ?_) ?_
    ·refine qh (qj (pv) rfl ?_)
     exact ⟨rfl, rfl, rfl⟩
    refine pD (fun W R z9 => ?_) ?_
    ·refine qh (qj (ii ((k : Int))) rfl ?_)
     exact ⟨rfl, rfl, rfl⟩
    refine pD (fun W R z9 => ?_) ?_
    ·rw [eS (l := [(2, _), (3, _)]) ⟨z9 2 rfl, z9 3 rfl, ⟨⟩⟩]
     refine qh (ql k qd qo rfl rfl rfl hp.slv (by omega) (Nat.mul_one _) ?_)
     exact ⟨rfl, rfl, rfl⟩
    refine pD (fun W R z9 => ?_) ?_
    ·rw [eS (l := [(4, _)]) ⟨z9 4 rfl, ⟨⟩⟩]
     refine qh (qi qK rfl (hp.rd (by omega)) ?_)
     exact ⟨rfl, rfl, rfl⟩
    refine pD (fun W R z9 => ?_) ?_
    ·rw [eS (l := [(5, _)]) ⟨z9 5 rfl, ⟨⟩⟩]
     refine qh (qY ((-1) - (p.getD k 0)) rfl rfl (by omega) (by omega) ?_)
     exact ⟨rfl, rfl, rfl⟩
    refine pD (fun W R z9 => ?_) ?_
    ·refine qh (qj (v2) rfl ?_)
     exact ⟨rfl, rfl, rfl⟩
    exact stepsP.nil
   intro W hphi
   rw [eS (l := [(1, _), (6, _), (7, _)]) ⟨(hphi 1 (by decide)), (hphi 6 (by decide)), (hphi 7 (by decide)), ⟨⟩⟩]
   show XL _ _ _ _ _ _ _ (cellsH b3 [v1] 86 :: slH 22 1 v1 ((bl).length) cs1 :: cellsH b2 [sN] 86 :: cellsH b1 [arv] 31 :: L)
   refine cX (ql (((-1) - (p.getD k 0)).toNat) qA qr rfl rfl (by omega) (SlV.own [_] rfl) (by omega) (Nat.mul_one _) (cX (XOp.storeS (i := ((-1) - (p.getD k 0)).toNat) (cs := cs1) [_] _ qr rfl rfl (qZ (qG hf1)) rfl (by have h9 := CO.len hc2; (try simp only [List.length_set, List.length_replicate] at h9 ⊢) <;> omega) ?_)))
   have hc3 := hc2.set (((-1) - (p.getD k 0)).toNat) hf1
   refine qb (qa (qf (ii ((i : Int))) rfl (qf (v2) rfl (cX (qC qd rfl hf1.slv (cX (qI (((i + (((sub ar t i)).length) : Nat) : Int)) rfl rfl (by omega) (by omega) (qg (ii (((i + (((sub ar t i)).length) : Nat) : Int))) rfl (qb (qa (qf (ii ((k : Int))) rfl (cX (qI (((k + 1 : Nat) : Int)) rfl rfl (by omega) (by omega) (qg (ii (((k + 1 : Nat) : Int))) rfl ?_))))))))))))))
   refine qb ?_
   exact ⟨(k + 1, i + (((sub ar t i)).length), (bl.set (((-1) - (p.getD k 0)).toNat) ((sub ar t i))), F1), _, (qm leG1 le1), rF, ⟨rfl, rfl, rfl, rfl, rfl, rfl, rfl, ⟨⟩⟩, (sC (coH.close hc3 (by first | rfl | simp) (sC (sC sR)))), ⟨rfl, (qm leG1 le1), (by (try dsimp only); (try simp only [List.length_set]) <;> omega), (by (try dsimp only) <;> omega), (by (try dsimp only) <;> omega), (hm.trans (m4_next (by omega) (by omega) (by omega) (by first | (left; exact List.eq_nil_of_length_eq_zero (show (bl.getD (-1 - p.getD k 0).toNat []).length = 0 by omega)) | (right; first | assumption | exact Classical.not_not.1 (by assumption)))))⟩, (by omega)⟩
  refine qp (t := 59) rfl (vF h5) (qp (t := 59) rfl (vF h5) (qp (t := 59) rfl (vF h5) (qp (t := 59) rfl (vF h5) (cX (qS (.bool (false)) (vF h5) rfl (qb (jz rfl (qw (qc ?_)))))))))
  refine jn [cellsH b3 [v1] 86, slH 22 1 v1 ((bl).length) cs1, cellsH b2 [sN] 86, cellsH b1 [arv] 31] L 8 [] [[], [0], [], [], [2, 3], [4], [5]] (phiL [qe (ptr b3 0), qe v1, qe pv, qe (ii ((k : Int)) : Value), qe (.pointer (some (elemA pv (k)))), qe (ii (p.getD k 0)), qe (ii ((-1) - (p.getD k 0))), qe v2]) (ownL []) mixed rfl rfl (by kernel_rfl) ?_ ?_
  ·refine pD (fun W R z9 => ?_) ?_
   ·refine qh (qn (0) qX rfl jg (by decide) rfl rfl ?_)
    exact ⟨rfl, rfl, rfl⟩
   refine pD (fun W R z9 => ?_) ?_
   ·rw [eS (l := [(0, _)]) ⟨z9 0 rfl, ⟨⟩⟩]
    refine qh (qi jE rfl (Rd.own [] rfl rfl) ?_)
    exact ⟨rfl, rfl, rfl⟩
   refine pD (fun W R z9 => ?_) ?_
   ·refine qh (qj (pv) rfl ?_)
    exact ⟨rfl, rfl, rfl⟩
   refine pD (fun W R z9 => ?_) ?_
   ·refine qh (qj (ii ((k : Int))) rfl ?_)
    exact ⟨rfl, rfl, rfl⟩
   refine pD (fun W R z9 => ?_) ?_
   ·rw [eS (l := [(2, _), (3, _)]) ⟨z9 2 rfl, z9 3 rfl, ⟨⟩⟩]
    refine qh (ql k qd qo rfl rfl rfl hp.slv (by omega) (Nat.mul_one _) ?_)
    exact ⟨rfl, rfl, rfl⟩
   refine pD (fun W R z9 => ?_) ?_
   ·rw [eS (l := [(4, _)]) ⟨z9 4 rfl, ⟨⟩⟩]
    refine qh (qi qK rfl (hp.rd (by omega)) ?_)
    exact ⟨rfl, rfl, rfl⟩
   refine pD (fun W R z9 => ?_) ?_
   ·rw [eS (l := [(5, _)]) ⟨z9 5 rfl, ⟨⟩⟩]
    refine qh (qY ((-1) - (p.getD k 0)) rfl rfl (by omega) (by omega) ?_)
    exact ⟨rfl, rfl, rfl⟩
   refine pD (fun W R z9 => ?_) ?_
   ·refine qh (qj (v2) rfl ?_)
    exact ⟨rfl, rfl, rfl⟩
   exact stepsP.nil
  intro W hphi
  rw [eS (l := [(1, _), (6, _), (7, _)]) ⟨(hphi 1 (by decide)), (hphi 6 (by decide)), (hphi 7 (by decide)), ⟨⟩⟩]
  show XL _ _ _ _ _ _ _ (cellsH b3 [v1] 86 :: slH 22 1 v1 ((bl).length) cs1 :: cellsH b2 [sN] 86 :: cellsH b1 [arv] 31 :: L)
  refine cX (ql (((-1) - (p.getD k 0)).toNat) qA qr rfl rfl (by omega) (SlV.own [_] rfl) (by omega) (Nat.mul_one _) (cX (XOp.storeS (i := ((-1) - (p.getD k 0)).toNat) (cs := cs1) [_] _ qr rfl rfl (qZ (qG hf1)) rfl (by have h9 := CO.len hc2; (try simp only [List.length_set, List.length_replicate] at h9 ⊢) <;> omega) ?_)))
  have hc4 := hc2.set (((-1) - (p.getD k 0)).toNat) hf1
  refine qb (qa (qf (ii ((i : Int))) rfl (qf (v2) rfl (cX (qC qd rfl hf1.slv (cX (qI (((i + (((sub ar t i)).length) : Nat) : Int)) rfl rfl (by omega) (by omega) (qg (ii (((i + (((sub ar t i)).length) : Nat) : Int))) rfl (qb (qa (qf (ii ((k : Int))) rfl (cX (qI (((k + 1 : Nat) : Int)) rfl rfl (by omega) (by omega) (qg (ii (((k + 1 : Nat) : Int))) rfl ?_))))))))))))))
  refine qb ?_
  exact ⟨(k + 1, i + (((sub ar t i)).length), (bl.set (((-1) - (p.getD k 0)).toNat) ((sub ar t i))), F1), _, (qm leG1 le1), rF, ⟨rfl, rfl, rfl, rfl, rfl, rfl, rfl, ⟨⟩⟩, (sC (coH.close hc4 (by first | rfl | simp) (sC (sC sR)))), ⟨rfl, (qm leG1 le1), (by (try dsimp only); (try simp only [List.length_set]) <;> omega), (by (try dsimp only) <;> omega), (by (try dsimp only) <;> omega), (hm.trans (m4_next (by omega) (by omega) (by omega) (by first | (left; exact List.eq_nil_of_length_eq_zero (show (bl.getD (-1 - p.getD k 0).toNat []).length = 0 by omega)) | (right; first | assumption | exact Classical.not_not.1 (by assumption)))))⟩, (by omega)⟩
 refine ja (qu (qu (qJ (qc (qa (cX (qB [v1] isAgg86 js rfl rfl (Rd.ownN [] rfl rfl) ?_)))))))
 have hmb := (matchB_len (hm.trans (mGo_done (by omega)))).2
 refine jY [_] _ _ rfl (fun F2 le2 hz2 => ?_)
 replace hc2 := hc2.mono le2
 have hf2 : RowsF F2 v1 bl := CO.fz hc2 (by first | rfl | omega | (rw [List.length_set]; omega) | (simp; done)) hz2.fz
 refine cX (qt (args := [.agg #[v1]]) call176 rfl (l2Plain_spec hf2 (hsl := (by omega)) (hsb := (fun j => by have := hmb j; omega))) ?_)
 rintro _ F3 _ le3 ⟨x1, rfl, hr1, rfl⟩
 refine cX (jb [_] _ [x1] js rfl rfl rfl (qv (qZ (RowsF.isSl hr1)) jf) rfl rfl rfl (qg (.bool (true)) rfl (qb (qy (qs (L' := L) [.agg #[x1], .bool (true)] (.tuple #[.agg #[x1], .bool (true)]) (.cell rfl (jP [x1] isAgg86 js rfl (Rd.ownN [_] rfl rfl)) (.tmp rfl .nil)) rfl (qm (qm leG1 le2) le3) rF (sD (sD (sD sR))) ?_)))))
 have hz : matchB ar p t = some bl := hm.trans (mGo_done (by omega))
 exact ⟨_, by rw [hz]; rfl, by rw [matchP, hz]; exact hr1, rfl⟩

/- spec.l7Right -/
theorem l7Right_spec {F : FH} {L : List HP} {arv : Value} {ar : List Int} (har : IntsF F arv ar) {rsv : Value} {rs : List (List Int × List Int)} (hrs : PairsF F rsv rs) {tv : Value} {t : List Int} (ht : IntsF F tv t) (hla : ar.length ≤ 4000000) (hlr : rs.length ≤ 4000000) (hrb : ∀ i, i < rs.length → (rs.getD i ([], [])).1.length ≤ 4000000 ∧ (rs.getD i ([], [])).2.length ≤ 4000000) (hlt : t.length ≤ 4000000) :
    Does prog 213 [.agg #[arv, rsv], tv] F (L) (fun v F' L' => (.bool (rightB ar rs t) : Value) = v ∧ F = F' ∧ L = L') := by
 refine qD func213 rfl rfl rfl (qc (qa (cX (qV [arv, rsv] rfl rfl ?_))))
 intro b1
 refine qg (.bool (false)) rfl (qb (qc (qa (cX (qB [arv, rsv] jF jt rfl rfl (Rd.ownN [] rfl rfl) (cX (qt (args := [.agg #[arv, rsv]]) call145 rfl (sSystemOk_spec har hrs (hla := (by first | assumption | rfl | omega | simp)) (hlr := (by first | assumption | rfl | omega | simp)) (hrb := (by first | assumption | rfl | omega | simp))) ?_)))))))
 rintro _ _ _ _ ⟨rfl, rfl, rfl⟩
 refine qf (.bool (sysOk ar rs)) rfl ?_
 by_cases h1 : (sysOk ar rs) = true
 ·refine qq (t := 7) rfl (vB h1) (qn (0) qH rfl qN (by decide) rfl rfl (qq (t := 7) rfl (vB h1) (qB [arv] je qN rfl rfl (Rd.ownN [] rfl rfl) (qq (t := 7) rfl (vB h1) (qj (tv) rfl (qq (t := 7) rfl (vB h1) (qt (args := [.agg #[arv], tv]) call100 rfl (sTermOk_spec har ht (hla := (by first | assumption | rfl | omega | simp)) (hlt := (by first | assumption | rfl | omega | simp))) ?_)))))))
  rintro _ _ _ _ ⟨rfl, rfl, rfl⟩
  refine cX (qR (.bool (termOk ar t)) (vB h1) rfl (qg (.bool (termOk ar t)) rfl (qb (qy (qs (L' := L) [.bool (termOk ar t)] (.bool (termOk ar t)) (.tmp rfl .nil) rfl rF rF (sD sR) ?_)))))
  exact ⟨(vB (by rw [rightB]; simp_all)), rfl, rfl⟩
 rw [Bool.not_eq_true] at h1
 refine qp (t := 7) rfl (vB h1) (qp (t := 7) rfl (vB h1) (qp (t := 7) rfl (vB h1) (qp (t := 7) rfl (vB h1) (cX (qS (.bool (false)) (vB h1) rfl (qg (.bool (false)) rfl (qb (qy (qs (L' := L) [.bool (false)] (.bool (false)) (.tmp rfl .nil) rfl rF rF (sD sR) ?_)))))))))
 exact ⟨(vB (by rw [rightB]; simp_all)), rfl, rfl⟩
end Go.Proofs.YtcdjpapjjoldeaaGreat
