/-
  Walks, one after the other (part 1).
-/
import Derived.Test.YtcdjpapjjoldeaaGreatQXL1
import Derived.Test.YtcdjpapjjoldeaaGreatProg
import Derived.KernelRfl
set_option linter.unusedSimpArgs false
set_option linter.unusedVariables false
namespace Go.Proofs.YtcdjpapjjoldeaaGreat
open Go X M Tryz
theorem qa : type_of% @X.region := @X.region
theorem qb : type_of% @XL.nil := @XL.nil
theorem qc : type_of% @X.seq := @X.seq
theorem qd : type_of% @XL.mv := @XL.mv
theorem qf : type_of% @runUnderlying22 := @runUnderlying22
theorem qg : type_of% @XL.as := @XL.as
theorem qh : type_of% @thenQ_ret := @thenQ_ret
theorem qi : type_of% @XOp.load1 := @XOp.load1
theorem qj : type_of% @XG.op := @XG.op
theorem qk : type_of% @XOp.fieldP := @XOp.fieldP
theorem ql : type_of% @XOp.call := @XOp.call
theorem qm : type_of% @XOp.move := @XOp.move
theorem qn : type_of% @retEnd := @retEnd
theorem qo : type_of% @XL.yes := @XL.yes
theorem qp : type_of% @XL.no := @XL.no
theorem qq : type_of% @X.ret := @X.ret
theorem qr : type_of% @thenQ_exit := @thenQ_exit
theorem qt : type_of% @FLe.trans := @FLe.trans
theorem qu : type_of% @blockQ_ret := @blockQ_ret
theorem qv : type_of% @X.condD := @X.condD
theorem qw : type_of% @X.skip := @X.skip
theorem qx : type_of% @XOp.indexS := @XOp.indexS
theorem qy : type_of% @XOp.lenS := @XOp.lenS
theorem qz : type_of% @runUnderlying75 := @runUnderlying75
theorem qA : type_of% @sizeOf22 := @sizeOf22
theorem qB : type_of% @Does.of_X := @Does.of_X
theorem qC : type_of% @XOp.loadN := @XOp.loadN
theorem qD : type_of% @runUnderlying34 := @runUnderlying34
theorem qE : type_of% @sizeOf2 := @sizeOf2
theorem qF : type_of% @X.block := @X.block
theorem qG : type_of% @XOp.addR := @XOp.addR
theorem qH : type_of% @sizeOf31 := @sizeOf31
theorem qI : type_of% @XOp.lss := @XOp.lss
theorem qJ : type_of% @blockQ_exit := @blockQ_exit
theorem qK : type_of% @isAgg22 := @isAgg22
theorem qL : type_of% @XOp.pickF := @XOp.pickF
theorem qM : type_of% @XOp.pickT := @XOp.pickT
theorem qN : type_of% @runUnderlying86 := @runUnderlying86
theorem qO : type_of% @runUnderlying91 := @runUnderlying91
theorem qP : type_of% @XOp.box := @XOp.box
theorem qQ : type_of% @sizeOf75 := @sizeOf75
theorem qR : type_of% @XG.yes := @XG.yes
theorem qS : type_of% @isAgg2 := @isAgg2
theorem qT : type_of% @IntsF.isSl := @IntsF.isSl
theorem qU : type_of% @XOp.buildSlice := @XOp.buildSlice
theorem qV : type_of% @runUnderlying32 := @runUnderlying32
theorem qW : type_of% @isAgg31 := @isAgg31
theorem qX : type_of% @X.exit := @X.exit
theorem qY : type_of% @XG.no := @XG.no
theorem qZ : type_of% @ones_cons := @ones_cons
theorem ja : type_of% @X.loop := @X.loop
theorem jb : type_of% @XOp.extract := @XOp.extract
theorem jc : type_of% @sizeOf86 := @sizeOf86
theorem jd : type_of% @XOp.storeN := @XOp.storeN
theorem je : type_of% @runUnderlying31 := @runUnderlying31
theorem jf : type_of% @one_sl := @one_sl
theorem jg : type_of% @XOp.subR := @XOp.subR
theorem jh : type_of% @isAgg75 := @isAgg75
theorem ji : type_of% @sizeOf91 := @sizeOf91
theorem jj : type_of% @ones_nil := @ones_nil
theorem jk : type_of% @runUnderlying136 := @runUnderlying136
theorem jl : type_of% @zeroValue2 := @zeroValue2
theorem jm : type_of% @runUnderlying216 := @runUnderlying216
theorem jn : type_of% @XOp.notB := @XOp.notB
theorem jo : type_of% @XOp.notD := @XOp.notD
theorem jp : type_of% @zeroValue86 := @zeroValue86
theorem jq : type_of% @XOp.alloc := @XOp.alloc
theorem jr : type_of% @X.condT := @X.condT
theorem js : type_of% @Sub.front := @Sub.front
theorem jt : type_of% @XOp.gtr := @XOp.gtr
theorem ju : type_of% @X.draw := @X.draw
theorem jv : type_of% @X.freezeF := @X.freezeF
theorem jw : type_of% @XOp.sliceI := @XOp.sliceI
theorem jx : type_of% @XOp.frzF := @XOp.frzF
theorem jy : type_of% @XOp.store1 := @XOp.store1
theorem jz : type_of% @isAgg86 := @isAgg86
theorem jA : type_of% @XOp.nilCheck := @XOp.nilCheck
theorem jB : type_of% @sizeOf34 := @sizeOf34
theorem jC : type_of% @XOp.lend := @XOp.lend

theorem mixed : prog.follows .mixedOrders = true := by kernel_rfl

/- impl.arityAt -/
theorem arityAt_spec {F : FH} {L : List HP} {arv : Value} {ar : List Int} (har : IntsF F arv ar) {n : Int} (hn : n < (ar.length : Int)) :
    Does prog 202 [.agg #[arv], ii (n)] F (L) (fun v F' L' => (ii (arity ar n) : Value) = v ∧ F = F' ∧ L = L') := by
 refine qB func202 rfl rfl rfl (qc (qa (cX (qP [arv] rfl rfl ?_))))
 intro b1
 refine qg (ii (0)) rfl (qb (qc (qc (qa (qd (ii (n)) rfl (cX (qI rfl rfl (qb ?_))))))))
 refine qv (p := (n : Int) < 0) rfl (fun h1 => ?_) (fun h1 => ?_)
 ·refine qc (qa (qg (ii (0)) rfl (qb (qq (qh (qn (L' := L) [ii (0)] (ii (0)) (.tmp rfl .nil) rfl rF rF (sD sR) ?_))))))
  exact ⟨(vI (by simp [arity, *])), rfl, rfl⟩
 refine qw (qc (qa (cX (qk (0) je rfl qA (by decide) rfl rfl (cX (qi qK rfl (Rd.own [] rfl rfl) (qd (ii (n)) rfl (cX (qx ((n).toNat) qf qE rfl rfl (by omega) har.slv (by omega) (Nat.mul_one _) (cX (qi qS rfl (har.rd (by omega)) (qg (ii (ar.getD ((n).toNat) 0)) rfl (qb (qq (qn (L' := L) [ii (ar.getD ((n).toNat) 0)] (ii (ar.getD ((n).toNat) 0)) (.tmp rfl .nil) rfl rF rF (sD sR) ?_)))))))))))))))
 exact ⟨(vI (by simp [arity, *])), rfl, rfl⟩

/- impl.SigOk -/
theorem SigOk_spec {F : FH} {L : List HP} {arv : Value} {ar : List Int} (har : IntsF F arv ar) :
    Does prog 91 [.agg #[arv]] F (L) (fun v F' L' => (.bool (sigOk ar) : Value) = v ∧ F = F' ∧ L = L') := by
 refine qB func91 rfl rfl rfl (qc (qa (cX (qP [arv] rfl rfl ?_))))
 intro b1
 refine qg (.bool (false)) rfl (qb (qc (qc (qa (cX (qk (0) je rfl qA (by decide) rfl rfl (cX (qi qK rfl (Rd.own [] rfl rfl) (cX (qy qf rfl har.slv (cX (qI rfl rfl (qd (.bool (decide (((ar.length : Int) : Int) < 1))) rfl ?_)))))))))))))
 by_cases h1 : ((ar.length : Int) : Int) < 1
 ·refine qp (t := 9) rfl (vT h1) (qp (t := 9) rfl (vT h1) (qp (t := 9) rfl (vT h1) (qp (t := 9) rfl (vT h1) (cX (qM (.bool (true)) (vT h1) rfl (qb (jr rfl (qc (qa (qg (.bool (false)) rfl (qb ?_)))))))))))
  refine qq (qh (qn (L' := L) [.bool (false)] (.bool (false)) (.tmp rfl .nil) rfl rF rF (sD sR) ?_))
  exact ⟨(vB (sigOk_short (by omega))), rfl, rfl⟩
 refine qo (t := 9) rfl (vF h1) (qk (0) je rfl qA (by decide) rfl rfl (qo (t := 9) rfl (vF h1) (qi qK rfl (Rd.own [] rfl rfl) (qo (t := 9) rfl (vF h1) (qy qf rfl har.slv (qo (t := 9) rfl (vF h1) (jt rfl rfl (cX (qL (.bool (decide (((ar.length : Int) : Int) > 8))) (vF h1) rfl (qb ?_))))))))))
 refine qv (p := ((ar.length : Int) : Int) > 8) rfl (fun h2 => ?_) (fun h2 => ?_)
 ·refine qc (qa (qg (.bool (false)) rfl (qb (qq (qh (qn (L' := L) [.bool (false)] (.bool (false)) (.tmp rfl .nil) rfl rF rF (sD sR) ?_))))))
  exact ⟨(vB (sigOk_short (by omega))), rfl, rfl⟩
 refine qw (qc (qc (qa (cX (qk (0) je rfl qA (by decide) rfl rfl (cX (qi qK rfl (Rd.own [] rfl rfl) (cX (qy qf rfl har.slv (qd (ii (0)) rfl (qb (qF (ja (α := Nat) (fun k => [(16, arv), (17, ii ((ar.length : Int))), (18, ii ((k : Int)))]) (fun k => cellsH b1 [arv] 31 :: L) (fun k F' => F = F' ∧ (k ≤ ar.length) ∧ (∀ i, i < k → 0 ≤ ar.getD i 0 ∧ ar.getD i 0 ≤ 3)) (fun k => ar.length - k) 0 ⟨rfl, rfl, rfl, ⟨⟩⟩ (sC sR) ⟨rfl, (by omega), (fun i hi => absurd hi (by omega))⟩ ?_)))))))))))))
 rintro k rE _ _ ⟨rfl, hk, hall⟩
 show X _ _ _ _ (envs [(16, arv), (17, ii ((ar.length : Int))), (18, ii ((k : Int)))] rE) _ (cellsH b1 [arv] 31 :: L)
 refine qc (qa (cX (qI rfl rfl (qb (qc ?_)))))
 refine qv (p := (k : Int) < (ar.length : Int)) rfl (fun h3 => ?_) (fun h3 => ?_)
 ·refine qw (qc (qF (qc (qa (cX (qx k qf qE rfl rfl rfl har.slv (by omega) (Nat.mul_one _) (cX (qi qS rfl (har.rd (by omega)) (qg (ii (ar.getD k 0)) rfl (qb (qc (qa (qd (ii (ar.getD k 0)) rfl (cX (qI rfl rfl (qd (.bool (decide ((ar.getD k 0 : Int) < 0))) rfl ?_))))))))))))))))
  by_cases h4 : (ar.getD k 0 : Int) < 0
  ·refine qp (t := 24) rfl (vT h4) (qp (t := 24) rfl (vT h4) (cX (qM (.bool (true)) (vT h4) rfl (qb (jr rfl (qc (qa (qg (.bool (false)) rfl (qb (qq (qu (qh (qh (qu (qh (qn (L' := L) [.bool (false)] (.bool (false)) (.tmp rfl .nil) rfl rF rF (sD sR) ?_))))))))))))))))
   exact ⟨(vB (sigOk_bad (i := k) (by omega) (by omega))), rfl, rfl⟩
  refine qo (t := 24) rfl (vF h4) (qm (ii (ar.getD k 0)) rfl (qo (t := 24) rfl (vF h4) (jt rfl rfl (cX (qL (.bool (decide ((ar.getD k 0 : Int) > 3))) (vF h4) rfl (qb ?_))))))
  refine qv (p := (ar.getD k 0 : Int) > 3) rfl (fun h5 => ?_) (fun h5 => ?_)
  ·refine qc (qa (qg (.bool (false)) rfl (qb (qq (qu (qh (qh (qu (qh (qn (L' := L) [.bool (false)] (.bool (false)) (.tmp rfl .nil) rfl rF rF (sD sR) ?_))))))))))
   exact ⟨(vB (sigOk_bad (i := k) (by omega) (by omega))), rfl, rfl⟩
  refine qw (qa (cX (qG (((k + 1 : Nat) : Int)) rfl rfl (by omega) (by omega) (qd (ii (((k + 1 : Nat) : Int))) rfl (qb ?_)))))
  exact ⟨k + 1, _, FLe.refl _, rF, ⟨rfl, rfl, rfl, ⟨⟩⟩, (sC sR), ⟨rfl, (by omega), (fun i hi => (Nat.lt_or_ge i k).elim (fun h => hall i h) (fun h => by obtain rfl : i = k := (by omega); omega))⟩, (by omega)⟩
 refine qX (qr (qr (qJ (qc (qa (qg (.bool (true)) rfl (qb (qq (qn (L' := L) [.bool (true)] (.bool (true)) (.tmp rfl .nil) rfl rF rF (sD sR) ?_)))))))))
 exact ⟨(vB (sigOk_of (by omega) (by omega) (fun i hi => hall i (by omega)))), rfl, rfl⟩

/- (*impl.cursor).next -/
theorem next_spec {F : FH} {L : List HP} {c p : Nat} {arv : Value} {ar : List Int} (har : IntsF F arv ar) {tv : Value} {t : List Int} (ht : IntsF F tv t) (hb : t.length ≤ 4000000) :
    Does prog 217 [ptr c 0] F (cellsH c [arv, tv, ii ((p : Int))] 216 :: L) (fun v F' L' => F = F' ∧ ((p < t.length ∧ t.getD p 0 < (ar.length : Int) ∧ (ii (arity ar (t.getD p 0)) : Value) = v ∧ cellsH c [arv, tv, ii ((p + 1 : Nat) : Int)] 216 :: L = L') ∨ (¬ (p < t.length ∧ t.getD p 0 < (ar.length : Int)) ∧ (ii (-1) : Value) = v ∧ cellsH c [arv, tv, ii (p : Int)] 216 :: L = L'))) := by
 refine qB func217 rfl rfl rfl (qc (qa (qg (ii (0)) rfl (qb (qc (qc ?_))))))
 by_cases h1 : (p : Int) ≥ (t.length : Int)
 ·refine ju [cellsH c [arv, tv, ii ((p : Int))] 216] L 27 [] [[], [0], [1], [2], [], [4], [5], [6], [7], [3, 8], [9], [10], [10, 11], [10, 12], [10, 13], [10], [10, 15], [10, 16], [10, 17], [10, 14, 18], [10, 19], [10], [10, 21], [10, 22], [10, 23], [10, 24], [10, 25]] (phiL [qe (ptr c 0), qe (ptr c 0), qe (ptr c 2), qe (ii ((p : Int)) : Value), qe (ptr c 0), qe (ptr c 0), qe (ptr c 1), qe tv, qe (ii ((t.length : Int)) : Value), qe (.bool (decide ((p : Int) ≥ (t.length : Int))) : Value), qe (.bool (decide ((p : Int) ≥ (t.length : Int))) : Value), qe undef, qe undef, qe undef, qe undef, qe undef, qe undef, qe undef, qe undef, qe undef, qe undef, qe undef, qe undef, qe undef, qe undef, qe undef, qe undef]) (ownL []) mixed rfl rfl (by kernel_rfl) ?_ ?_
  ·refine pD (fun W R z9 => ?_) ?_
   ·refine qj (qm (ptr c 0) rfl ?_)
    exact ⟨rfl, rfl, rfl⟩
   refine pD (fun W R z9 => ?_) ?_
   ·rw [eS (l := [(0, _)]) ⟨z9 0 rfl, ⟨⟩⟩]
    refine qj (jA rfl ?_)
    exact ⟨rfl, rfl, rfl⟩
   refine pD (fun W R z9 => ?_) ?_
   ·rw [eS (l := [(1, _)]) ⟨z9 1 rfl, ⟨⟩⟩]
    refine qj (qk (2) jm rfl sizeOf3 (by decide) rfl rfl ?_)
    exact ⟨rfl, rfl, rfl⟩
   refine pD (fun W R z9 => ?_) ?_
   ·rw [eS (l := [(2, _)]) ⟨z9 2 rfl, ⟨⟩⟩]
    refine qj (qi isAgg3 rfl (Rd.own [] rfl rfl) ?_)
    exact ⟨rfl, rfl, rfl⟩
   refine pD (fun W R z9 => ?_) ?_
   ·refine qj (qm (ptr c 0) rfl ?_)
    exact ⟨rfl, rfl, rfl⟩
   refine pD (fun W R z9 => ?_) ?_
   ·rw [eS (l := [(4, _)]) ⟨z9 4 rfl, ⟨⟩⟩]
    refine qj (jA rfl ?_)
    exact ⟨rfl, rfl, rfl⟩
   refine pD (fun W R z9 => ?_) ?_
   ·rw [eS (l := [(5, _)]) ⟨z9 5 rfl, ⟨⟩⟩]
    refine qj (qk (1) jm rfl qA (by decide) rfl rfl ?_)
    exact ⟨rfl, rfl, rfl⟩
   refine pD (fun W R z9 => ?_) ?_
   ·rw [eS (l := [(6, _)]) ⟨z9 6 rfl, ⟨⟩⟩]
    refine qj (qi qK rfl (Rd.own [] rfl rfl) ?_)
    exact ⟨rfl, rfl, rfl⟩
   refine pD (fun W R z9 => ?_) ?_
   ·rw [eS (l := [(7, _)]) ⟨z9 7 rfl, ⟨⟩⟩]
    refine qj (qy qf rfl ht.slv ?_)
    exact ⟨rfl, rfl, rfl⟩
   refine pD (fun W R z9 => ?_) ?_
   ·rw [eS (l := [(3, _), (8, _)]) ⟨z9 3 rfl, z9 8 rfl, ⟨⟩⟩]
    refine qj (XOp.geq rfl rfl ?_)
    exact ⟨rfl, rfl, rfl⟩
   refine pD (fun W R z9 => ?_) ?_
   ·rw [eS (l := [(9, _)]) ⟨z9 9 rfl, ⟨⟩⟩]
    refine qj (qm (.bool (decide ((p : Int) ≥ (t.length : Int)))) rfl ?_)
    exact ⟨rfl, rfl, rfl⟩
   refine pD (fun W R z9 => ?_) ?_
   ·rw [eS (l := [(10, _)]) ⟨z9 10 rfl, ⟨⟩⟩]
    exact qY (t := 13) rfl (vT h1) ⟨rfl, rfl, rfl⟩
   refine pD (fun W R z9 => ?_) ?_
   ·rw [eS (l := [(10, _), (11, undef)]) ⟨z9 10 rfl, z9 11 rfl, ⟨⟩⟩]
    exact qY (t := 13) rfl (vT h1) ⟨rfl, rfl, rfl⟩
   refine pD (fun W R z9 => ?_) ?_
   ·rw [eS (l := [(10, _), (12, undef)]) ⟨z9 10 rfl, z9 12 rfl, ⟨⟩⟩]
    exact qY (t := 13) rfl (vT h1) ⟨rfl, rfl, rfl⟩
   refine pD (fun W R z9 => ?_) ?_
   ·rw [eS (l := [(10, _), (13, undef)]) ⟨z9 10 rfl, z9 13 rfl, ⟨⟩⟩]
    exact qY (t := 13) rfl (vT h1) ⟨rfl, rfl, rfl⟩
   refine pD (fun W R z9 => ?_) ?_
   ·rw [eS (l := [(10, _)]) ⟨z9 10 rfl, ⟨⟩⟩]
    exact qY (t := 13) rfl (vT h1) ⟨rfl, rfl, rfl⟩
   refine pD (fun W R z9 => ?_) ?_
   ·rw [eS (l := [(10, _), (15, undef)]) ⟨z9 10 rfl, z9 15 rfl, ⟨⟩⟩]
    exact qY (t := 13) rfl (vT h1) ⟨rfl, rfl, rfl⟩
   refine pD (fun W R z9 => ?_) ?_
   ·rw [eS (l := [(10, _), (16, undef)]) ⟨z9 10 rfl, z9 16 rfl, ⟨⟩⟩]
    exact qY (t := 13) rfl (vT h1) ⟨rfl, rfl, rfl⟩
   refine pD (fun W R z9 => ?_) ?_
   ·rw [eS (l := [(10, _), (17, undef)]) ⟨z9 10 rfl, z9 17 rfl, ⟨⟩⟩]
    exact qY (t := 13) rfl (vT h1) ⟨rfl, rfl, rfl⟩
   refine pD (fun W R z9 => ?_) ?_
   ·rw [eS (l := [(10, _), (14, undef), (18, undef)]) ⟨z9 10 rfl, z9 14 rfl, z9 18 rfl, ⟨⟩⟩]
    exact qY (t := 13) rfl (vT h1) ⟨rfl, rfl, rfl⟩
   refine pD (fun W R z9 => ?_) ?_
   ·rw [eS (l := [(10, _), (19, undef)]) ⟨z9 10 rfl, z9 19 rfl, ⟨⟩⟩]
    exact qY (t := 13) rfl (vT h1) ⟨rfl, rfl, rfl⟩
   refine pD (fun W R z9 => ?_) ?_
   ·rw [eS (l := [(10, _)]) ⟨z9 10 rfl, ⟨⟩⟩]
    exact qY (t := 13) rfl (vT h1) ⟨rfl, rfl, rfl⟩
   refine pD (fun W R z9 => ?_) ?_
   ·rw [eS (l := [(10, _), (21, undef)]) ⟨z9 10 rfl, z9 21 rfl, ⟨⟩⟩]
    exact qY (t := 13) rfl (vT h1) ⟨rfl, rfl, rfl⟩
   refine pD (fun W R z9 => ?_) ?_
   ·rw [eS (l := [(10, _), (22, undef)]) ⟨z9 10 rfl, z9 22 rfl, ⟨⟩⟩]
    exact qY (t := 13) rfl (vT h1) ⟨rfl, rfl, rfl⟩
   refine pD (fun W R z9 => ?_) ?_
   ·rw [eS (l := [(10, _), (23, undef)]) ⟨z9 10 rfl, z9 23 rfl, ⟨⟩⟩]
    exact qY (t := 13) rfl (vT h1) ⟨rfl, rfl, rfl⟩
   refine pD (fun W R z9 => ?_) ?_
   ·rw [eS (l := [(10, _), (24, undef)]) ⟨z9 10 rfl, z9 24 rfl, ⟨⟩⟩]
    exact qY (t := 13) rfl (vT h1) ⟨rfl, rfl, rfl⟩
   refine pD (fun W R z9 => ?_) ?_
   ·rw [eS (l := [(10, _), (25, undef)]) ⟨z9 10 rfl, z9 25 rfl, ⟨⟩⟩]
    exact qY (t := 13) rfl (vT h1) ⟨rfl, rfl, rfl⟩
   exact stepsP.nil
  intro W hphi
  rw [eS (l := [(10, _), (20, undef), (26, undef)]) ⟨(hphi 10 (by decide)), (hphi 20 (by decide)), (hphi 26 (by decide)), ⟨⟩⟩]
  show XL _ _ _ _ _ _ _ (cellsH c [arv, tv, ii ((p : Int))] 216 :: L)
  refine qp (t := 13) rfl (vT h1) (cX (qM (.bool (true)) (vT h1) rfl (qb (jr rfl (qc (qa (qg (ii (-1)) rfl (qb (qq (qh (qn (L' := cellsH c [arv, tv, ii ((p : Int))] 216 :: L) [ii (-1)] (ii (-1)) (.tmp rfl .nil) rfl rF rF (sC sR) ?_)))))))))))
  exact ⟨rfl, .inr ⟨by omega, rfl, rfl⟩⟩
 refine ju [cellsH c [arv, tv, ii ((p : Int))] 216] L 27 [] [[], [0], [1], [2], [], [4], [5], [6], [7], [3, 8], [9], [10], [10, 11], [10, 12], [10, 13], [10], [10, 15], [10, 16], [10, 17], [10, 14, 18], [10, 19], [10], [10, 21], [10, 22], [10, 23], [10, 24], [10, 25]] (phiL [qe (ptr c 0), qe (ptr c 0), qe (ptr c 2), qe (ii ((p : Int)) : Value), qe (ptr c 0), qe (ptr c 0), qe (ptr c 1), qe tv, qe (ii ((t.length : Int)) : Value), qe (.bool (decide ((p : Int) ≥ (t.length : Int))) : Value), qe (.bool (decide ((p : Int) ≥ (t.length : Int))) : Value), qe (ptr c 0), qe (ptr c 0), qe (ptr c 1), qe tv, qe (ptr c 0), qe (ptr c 0), qe (ptr c 2), qe (ii ((p : Int)) : Value), qe (.pointer (some (elemA tv (p)))), qe (ii (t.getD p 0)), qe (ptr c 0), qe (ptr c 0), qe (ptr c 0), qe (ptr c 0), qe arv, qe (ii ((ar.length : Int)) : Value)]) (ownL []) mixed rfl rfl (by kernel_rfl) ?_ ?_
 ·refine pD (fun W R z9 => ?_) ?_
  ·refine qj (qm (ptr c 0) rfl ?_)
   exact ⟨rfl, rfl, rfl⟩
  refine pD (fun W R z9 => ?_) ?_
  ·rw [eS (l := [(0, _)]) ⟨z9 0 rfl, ⟨⟩⟩]
   refine qj (jA rfl ?_)
   exact ⟨rfl, rfl, rfl⟩
  refine pD (fun W R z9 => ?_) ?_
  ·rw [eS (l := [(1, _)]) ⟨z9 1 rfl, ⟨⟩⟩]
   refine qj (qk (2) jm rfl sizeOf3 (by decide) rfl rfl ?_)
   exact ⟨rfl, rfl, rfl⟩
  refine pD (fun W R z9 => ?_) ?_
  ·rw [eS (l := [(2, _)]) ⟨z9 2 rfl, ⟨⟩⟩]
   refine qj (qi isAgg3 rfl (Rd.own [] rfl rfl) ?_)
   exact ⟨rfl, rfl, rfl⟩
  refine pD (fun W R z9 => ?_) ?_
  ·refine qj (qm (ptr c 0) rfl ?_)
   exact ⟨rfl, rfl, rfl⟩
  refine pD (fun W R z9 => ?_) ?_
  ·rw [eS (l := [(4, _)]) ⟨z9 4 rfl, ⟨⟩⟩]
   refine qj (jA rfl ?_)
   exact ⟨rfl, rfl, rfl⟩
  refine pD (fun W R z9 => ?_) ?_
  ·rw [eS (l := [(5, _)]) ⟨z9 5 rfl, ⟨⟩⟩]
   refine qj (qk (1) jm rfl qA (by decide) rfl rfl ?_)
   exact ⟨rfl, rfl, rfl⟩
  refine pD (fun W R z9 => ?_) ?_
  ·rw [eS (l := [(6, _)]) ⟨z9 6 rfl, ⟨⟩⟩]
   refine qj (qi qK rfl (Rd.own [] rfl rfl) ?_)
   exact ⟨rfl, rfl, rfl⟩
  refine pD (fun W R z9 => ?_) ?_
  ·rw [eS (l := [(7, _)]) ⟨z9 7 rfl, ⟨⟩⟩]
   refine qj (qy qf rfl ht.slv ?_)
   exact ⟨rfl, rfl, rfl⟩
  refine pD (fun W R z9 => ?_) ?_
  ·rw [eS (l := [(3, _), (8, _)]) ⟨z9 3 rfl, z9 8 rfl, ⟨⟩⟩]
   refine qj (XOp.geq rfl rfl ?_)
   exact ⟨rfl, rfl, rfl⟩
  refine pD (fun W R z9 => ?_) ?_
  ·rw [eS (l := [(9, _)]) ⟨z9 9 rfl, ⟨⟩⟩]
   refine qj (qm (.bool (decide ((p : Int) ≥ (t.length : Int)))) rfl ?_)
   exact ⟨rfl, rfl, rfl⟩
  refine pD (fun W R z9 => ?_) ?_
  ·rw [eS (l := [(10, _)]) ⟨z9 10 rfl, ⟨⟩⟩]
   refine qR (t := 13) rfl (vF h1) (qm (ptr c 0) rfl ?_)
   exact ⟨rfl, rfl, rfl⟩
  refine pD (fun W R z9 => ?_) ?_
  ·rw [eS (l := [(10, _), (11, _)]) ⟨z9 10 rfl, z9 11 rfl, ⟨⟩⟩]
   refine qR (t := 13) rfl (vF h1) (jA rfl ?_)
   exact ⟨rfl, rfl, rfl⟩
  refine pD (fun W R z9 => ?_) ?_
  ·rw [eS (l := [(10, _), (12, _)]) ⟨z9 10 rfl, z9 12 rfl, ⟨⟩⟩]
   refine qR (t := 13) rfl (vF h1) (qk (1) jm rfl qA (by decide) rfl rfl ?_)
   exact ⟨rfl, rfl, rfl⟩
  refine pD (fun W R z9 => ?_) ?_
  ·rw [eS (l := [(10, _), (13, _)]) ⟨z9 10 rfl, z9 13 rfl, ⟨⟩⟩]
   refine qR (t := 13) rfl (vF h1) (qi qK rfl (Rd.own [] rfl rfl) ?_)
   exact ⟨rfl, rfl, rfl⟩
  refine pD (fun W R z9 => ?_) ?_
  ·rw [eS (l := [(10, _)]) ⟨z9 10 rfl, ⟨⟩⟩]
   refine qR (t := 13) rfl (vF h1) (qm (ptr c 0) rfl ?_)
   exact ⟨rfl, rfl, rfl⟩
  refine pD (fun W R z9 => ?_) ?_
  ·rw [eS (l := [(10, _), (15, _)]) ⟨z9 10 rfl, z9 15 rfl, ⟨⟩⟩]
   refine qR (t := 13) rfl (vF h1) (jA rfl ?_)
   exact ⟨rfl, rfl, rfl⟩
  refine pD (fun W R z9 => ?_) ?_
  ·rw [eS (l := [(10, _), (16, _)]) ⟨z9 10 rfl, z9 16 rfl, ⟨⟩⟩]
   refine qR (t := 13) rfl (vF h1) (qk (2) jm rfl sizeOf3 (by decide) rfl rfl ?_)
   exact ⟨rfl, rfl, rfl⟩
  refine pD (fun W R z9 => ?_) ?_
  ·rw [eS (l := [(10, _), (17, _)]) ⟨z9 10 rfl, z9 17 rfl, ⟨⟩⟩]
   refine qR (t := 13) rfl (vF h1) (qi isAgg3 rfl (Rd.own [] rfl rfl) ?_)
   exact ⟨rfl, rfl, rfl⟩
  refine pD (fun W R z9 => ?_) ?_
  ·rw [eS (l := [(10, _), (14, _), (18, _)]) ⟨z9 10 rfl, z9 14 rfl, z9 18 rfl, ⟨⟩⟩]
   refine qR (t := 13) rfl (vF h1) (qx p qf qE rfl rfl rfl ht.slv (by omega) (Nat.mul_one _) ?_)
   exact ⟨rfl, rfl, rfl⟩
  refine pD (fun W R z9 => ?_) ?_
  ·rw [eS (l := [(10, _), (19, _)]) ⟨z9 10 rfl, z9 19 rfl, ⟨⟩⟩]
   refine qR (t := 13) rfl (vF h1) (qi qS rfl (ht.rd (by omega)) ?_)
   exact ⟨rfl, rfl, rfl⟩
  refine pD (fun W R z9 => ?_) ?_
  ·rw [eS (l := [(10, _)]) ⟨z9 10 rfl, ⟨⟩⟩]
   refine qR (t := 13) rfl (vF h1) (qm (ptr c 0) rfl ?_)
   exact ⟨rfl, rfl, rfl⟩
  refine pD (fun W R z9 => ?_) ?_
  ·rw [eS (l := [(10, _), (21, _)]) ⟨z9 10 rfl, z9 21 rfl, ⟨⟩⟩]
   refine qR (t := 13) rfl (vF h1) (jA rfl ?_)
   exact ⟨rfl, rfl, rfl⟩
  refine pD (fun W R z9 => ?_) ?_
  ·rw [eS (l := [(10, _), (22, _)]) ⟨z9 10 rfl, z9 22 rfl, ⟨⟩⟩]
   refine qR (t := 13) rfl (vF h1) (qk (0) jm rfl qH (by decide) rfl rfl ?_)
   exact ⟨rfl, rfl, rfl⟩
  refine pD (fun W R z9 => ?_) ?_
  ·rw [eS (l := [(10, _), (23, _)]) ⟨z9 10 rfl, z9 23 rfl, ⟨⟩⟩]
   refine qR (t := 13) rfl (vF h1) (qk (0) je rfl qA (by decide) rfl rfl ?_)
   exact ⟨rfl, rfl, rfl⟩
  refine pD (fun W R z9 => ?_) ?_
  ·rw [eS (l := [(10, _), (24, _)]) ⟨z9 10 rfl, z9 24 rfl, ⟨⟩⟩]
   refine qR (t := 13) rfl (vF h1) (qi qK rfl (Rd.own [] rfl rfl) ?_)
   exact ⟨rfl, rfl, rfl⟩
  refine pD (fun W R z9 => ?_) ?_
  ·rw [eS (l := [(10, _), (25, _)]) ⟨z9 10 rfl, z9 25 rfl, ⟨⟩⟩]
   refine qR (t := 13) rfl (vF h1) (qy qf rfl har.slv ?_)
   exact ⟨rfl, rfl, rfl⟩
  exact stepsP.nil
 intro W hphi
 rw [eS (l := [(10, _), (20, _), (26, _)]) ⟨(hphi 10 (by decide)), (hphi 20 (by decide)), (hphi 26 (by decide)), ⟨⟩⟩]
 show XL _ _ _ _ _ _ _ (cellsH c [arv, tv, ii ((p : Int))] 216 :: L)
 refine qo (t := 13) rfl (vF h1) (XOp.geq rfl rfl (cX (qL (.bool (decide ((t.getD p 0 : Int) ≥ (ar.length : Int)))) (vF h1) rfl (qb ?_))))
 refine qv (p := (t.getD p 0 : Int) ≥ (ar.length : Int)) rfl (fun h2 => ?_) (fun h2 => ?_)
 ·refine qc (qa (qg (ii (-1)) rfl (qb (qq (qh (qn (L' := cellsH c [arv, tv, ii ((p : Int))] 216 :: L) [ii (-1)] (ii (-1)) (.tmp rfl .nil) rfl rF rF (sC sR) ?_))))))
  exact ⟨rfl, .inr ⟨by omega, rfl, rfl⟩⟩
 refine qw (qc (qa (qd (ptr c 0) rfl (cX (jA rfl (cX (qk (2) jm rfl sizeOf3 (by decide) rfl rfl (cX (qi isAgg3 rfl (Rd.own [] rfl rfl) (cX (qG (((p + 1 : Nat) : Int)) rfl rfl (by omega) (by omega) (cX (jA rfl (cX (qk (2) jm rfl sizeOf3 (by decide) rfl rfl (cX (jy [] _ [arv, tv, ii (((p + 1 : Nat) : Int))] sizeOf3 rfl rfl rfl rfl rfl rfl (qb (qc ?_)))))))))))))))))))
 refine ju [cellsH c [arv, tv, ii (((p + 1 : Nat) : Int))] 216] L 15 [] [[], [0], [1], [2], [], [4], [5], [6], [], [8], [9], [10], [11], [7, 12], [13]] (phiL [qe (ptr c 0), qe (ptr c 0), qe (ptr c 0), qe (.agg #[arv]), qe (ptr c 0), qe (ptr c 0), qe (ptr c 1), qe tv, qe (ptr c 0), qe (ptr c 0), qe (ptr c 2), qe (ii (((p + 1 : Nat) : Int)) : Value), qe (ii ((p : Int)) : Value), qe (.pointer (some (elemA tv (p)))), qe (ii (t.getD p 0))]) (ownL []) mixed rfl rfl (by kernel_rfl) ?_ ?_
 ·refine pD (fun W R z9 => ?_) ?_
  ·refine qj (qm (ptr c 0) rfl ?_)
   exact ⟨rfl, rfl, rfl⟩
  refine pD (fun W R z9 => ?_) ?_
  ·rw [eS (l := [(0, _)]) ⟨z9 0 rfl, ⟨⟩⟩]
   refine qj (jA rfl ?_)
   exact ⟨rfl, rfl, rfl⟩
  refine pD (fun W R z9 => ?_) ?_
  ·rw [eS (l := [(1, _)]) ⟨z9 1 rfl, ⟨⟩⟩]
   refine qj (qk (0) jm rfl qH (by decide) rfl rfl ?_)
   exact ⟨rfl, rfl, rfl⟩
  refine pD (fun W R z9 => ?_) ?_
  ·rw [eS (l := [(2, _)]) ⟨z9 2 rfl, ⟨⟩⟩]
   refine qj (qC [arv] qW qH rfl rfl (Rd.ownN [] rfl rfl) ?_)
   exact ⟨rfl, rfl, rfl⟩
  refine pD (fun W R z9 => ?_) ?_
  ·refine qj (qm (ptr c 0) rfl ?_)
   exact ⟨rfl, rfl, rfl⟩
  refine pD (fun W R z9 => ?_) ?_
  ·rw [eS (l := [(4, _)]) ⟨z9 4 rfl, ⟨⟩⟩]
   refine qj (jA rfl ?_)
   exact ⟨rfl, rfl, rfl⟩
  refine pD (fun W R z9 => ?_) ?_
  ·rw [eS (l := [(5, _)]) ⟨z9 5 rfl, ⟨⟩⟩]
   refine qj (qk (1) jm rfl qA (by decide) rfl rfl ?_)
   exact ⟨rfl, rfl, rfl⟩
  refine pD (fun W R z9 => ?_) ?_
  ·rw [eS (l := [(6, _)]) ⟨z9 6 rfl, ⟨⟩⟩]
   refine qj (qi qK rfl (Rd.own [] rfl rfl) ?_)
   exact ⟨rfl, rfl, rfl⟩
  refine pD (fun W R z9 => ?_) ?_
  ·refine qj (qm (ptr c 0) rfl ?_)
   exact ⟨rfl, rfl, rfl⟩
  refine pD (fun W R z9 => ?_) ?_
  ·rw [eS (l := [(8, _)]) ⟨z9 8 rfl, ⟨⟩⟩]
   refine qj (jA rfl ?_)
   exact ⟨rfl, rfl, rfl⟩
  refine pD (fun W R z9 => ?_) ?_
  ·rw [eS (l := [(9, _)]) ⟨z9 9 rfl, ⟨⟩⟩]
   refine qj (qk (2) jm rfl sizeOf3 (by decide) rfl rfl ?_)
   exact ⟨rfl, rfl, rfl⟩
  refine pD (fun W R z9 => ?_) ?_
  ·rw [eS (l := [(10, _)]) ⟨z9 10 rfl, ⟨⟩⟩]
   refine qj (qi isAgg3 rfl (Rd.own [] rfl rfl) ?_)
   exact ⟨rfl, rfl, rfl⟩
  refine pD (fun W R z9 => ?_) ?_
  ·rw [eS (l := [(11, _)]) ⟨z9 11 rfl, ⟨⟩⟩]
   refine qj (jg ((p : Int)) rfl rfl (by omega) (by omega) ?_)
   exact ⟨rfl, rfl, rfl⟩
  refine pD (fun W R z9 => ?_) ?_
  ·rw [eS (l := [(7, _), (12, _)]) ⟨z9 7 rfl, z9 12 rfl, ⟨⟩⟩]
   refine qj (qx p qf qE rfl rfl rfl ht.slv (by omega) (Nat.mul_one _) ?_)
   exact ⟨rfl, rfl, rfl⟩
  refine pD (fun W R z9 => ?_) ?_
  ·rw [eS (l := [(13, _)]) ⟨z9 13 rfl, ⟨⟩⟩]
   refine qj (qi qS rfl (ht.rd (by omega)) ?_)
   exact ⟨rfl, rfl, rfl⟩
  exact stepsP.nil
 intro W hphi
 rw [eS (l := [(3, _), (14, _)]) ⟨(hphi 3 (by decide)), (hphi 14 (by decide)), ⟨⟩⟩]
 show XL _ _ _ _ _ _ _ (cellsH c [arv, tv, ii (((p + 1 : Nat) : Int))] 216 :: L)
 refine cX (ql (args := [.agg #[arv], ii (t.getD p 0)]) call202 rfl (arityAt_spec (n := t.getD p 0) har (hn := (by first | assumption | rfl | omega | simp))) ?_)
 rintro _ _ _ _ ⟨rfl, rfl, rfl⟩
 refine qg (ii (arity ar (t.getD p 0))) rfl (qb (qq (qn (L' := cellsH c [arv, tv, ii (((p + 1 : Nat) : Int))] 216 :: L) [ii (arity ar (t.getD p 0))] (ii (arity ar (t.getD p 0))) (.tmp rfl .nil) rfl rF rF (sC sR) ?_)))
 exact ⟨rfl, .inl ⟨by omega, by omega, rfl, rfl⟩⟩

/- (*impl.cursor).skip -/
theorem skip_spec {F : FH} {L : List HP} {c p0 : Nat} {arv : Value} {ar : List Int} (har : IntsF F arv ar) {tv : Value} {t : List Int} (ht : IntsF F tv t) (hb : t.length ≤ 4000000) (hs : sigOk ar = true) (hp : p0 ≤ t.length) :
    Does prog 179 [ptr c 0] F (cellsH c [arv, tv, ii ((p0 : Int))] 216 :: L) (fun v F' L' => F = F' ∧ ∃ q : Nat, (.bool (endGo ar (t.drop p0) 1).isSome : Value) = v ∧ (∀ e, endGo ar (t.drop p0) 1 = some e → q = p0 + e) ∧ cellsH c [arv, tv, ii (q : Int)] 216 :: L = L') := by
 refine qB func179 rfl rfl rfl (qc (qa (qg (.bool (false)) rfl (qb (qc (qc (qa (qg (ii (1)) rfl (qb (qF (ja (α := Nat × Nat) (fun xQ => [(0, ptr c 0), (3, ii (((xQ.1 : Nat) : Int)))]) (fun xQ => cellsH c [arv, tv, ii (((xQ.2 : Nat) : Int))] 216 :: L) (fun xQ F' => F = F' ∧ (endGo ar (t.drop p0) 1 = (endGo ar (t.drop xQ.2) xQ.1).map (· + (xQ.2 - p0))) ∧ (p0 ≤ xQ.2 ∧ xQ.2 ≤ t.length) ∧ (xQ.1 ≤ 1 + 3 * xQ.2)) (fun xQ => t.length - xQ.2) (1, p0) ⟨rfl, rfl, ⟨⟩⟩ (sC sR) ⟨rfl, (by simp), (by omega), (by omega)⟩ ?_)))))))))))
 rintro ⟨k, p⟩ rE _ _ ⟨rfl, hi, h1, h2⟩
 show X _ _ _ _ (envs [(0, ptr c 0), (3, ii ((k : Int)))] rE) _ (cellsH c [arv, tv, ii ((p : Int))] 216 :: L)
 dsimp only at hi h1 h2
 refine qc (qc (qa (qd (ii ((k : Int))) rfl (cX (jt rfl rfl (qb ?_))))))
 refine qv (p := (k : Int) > 0) rfl (fun h1 => ?_) (fun h1 => ?_)
 ·refine qw (qc (qF (qc (qa (qd (ptr c 0) rfl (cX (ql (args := [ptr c 0]) call217 rfl (next_spec (p := p) har ht (by omega)) ?_)))))))
  rintro _ _ _ _ ⟨rfl, ⟨hn1a, hn1b, rfl, rfl⟩ | ⟨hn1c, rfl, rfl⟩⟩
  ·have hA := arity_le hs hn1b
   refine qg (ii (arity ar ((t).getD p 0))) rfl (qb (qc (qc (qa (qd (ii (arity ar ((t).getD p 0))) rfl (cX (qI rfl rfl (qb ?_))))))))
   refine qv (p := (arity ar ((t).getD p 0) : Int) < 0) rfl (fun h2 => ?_) (fun h2 => ?_)
   ·omega
   refine qw (qa (qd (ii ((k : Int))) rfl (qd (ii (arity ar ((t).getD p 0))) rfl (cX (qG (((k + (arity ar (t.getD p 0)).toNat : Nat) : Int)) rfl rfl (by omega) (by omega) (qg (ii (((k + (arity ar (t.getD p 0)).toNat : Nat) : Int))) rfl (qb (qa (qd (ii (((k + (arity ar (t.getD p 0)).toNat : Nat) : Int))) rfl (cX (jg (((k - 1 + (arity ar (t.getD p 0)).toNat : Nat) : Int)) rfl rfl (by omega) (by omega) (qg (ii (((k - 1 + (arity ar (t.getD p 0)).toNat : Nat) : Int))) rfl (qb ?_)))))))))))))
   exact ⟨(k - 1 + (arity ar (t.getD p 0)).toNat, p + 1), _, FLe.refl _, rF, ⟨rfl, rfl, ⟨⟩⟩, (sC sR), ⟨rfl, (by rw [hi, endGo_step (by omega) (by omega) (by omega), Option.map_map]; congr 1; funext e; simp; omega), (by omega), (by omega)⟩, (by omega)⟩
  refine qg (ii (-1)) rfl (qb (qc (qc (qa (qd (ii (-1)) rfl (cX (qI rfl rfl (qb (jr rfl (qc (qa (qg (.bool (false)) rfl (qb (qq (qh (qu (qh (qh (qu (qh (qn (L' := cellsH c [arv, tv, ii ((p : Int))] 216 :: L) [.bool (false)] (.bool (false)) (.tmp rfl .nil) rfl rF rF (sC sR) ?_)))))))))))))))))))))
  have hz : endGo ar (t.drop p0) 1 = none := by rw [hi, endGo_none (by omega) (by omega)]; rfl
  refine ⟨rfl, p, ?_, ?_, rfl⟩
  · rw [hz]; rfl
  · intro e he; rw [hz] at he; cases he
 refine qX (qr (qr (qJ (qc (qa (qg (.bool (true)) rfl (qb (qq (qn (L' := cellsH c [arv, tv, ii ((p : Int))] 216 :: L) [.bool (true)] (.bool (true)) (.tmp rfl .nil) rfl rF rF (sC sR) ?_)))))))))
 obtain rfl : k = 0 := by omega
 have hz : endGo ar (t.drop p0) 1 = some (p - p0) := by rw [hi]; simp [endGo]
 refine ⟨rfl, p, ?_, ?_, rfl⟩
 · rw [hz]; rfl
 · intro e he; rw [hz] at he; cases he; omega

/- impl.endAt -/
theorem endAt_spec {F : FH} {L : List HP} {arv : Value} {ar : List Int} (har : IntsF F arv ar) {tv : Value} {t : List Int} (ht : IntsF F tv t) {p : Nat} (hs : sigOk ar = true) (hb : t.length ≤ 4000000) (hp : p ≤ t.length) :
    Does prog 112 [.agg #[arv], tv, ii ((p : Int))] F (L) (fun v F' L' => (ii (endZ ar t p) : Value) = v ∧ F = F' ∧ L = L') := by
 refine qB func112 rfl rfl rfl (qc (qa (cX (qP [arv] rfl rfl ?_))))
 intro b1
 refine qg (ii (0)) rfl (qb (qc (qa (cX (qC [arv] qW qH rfl rfl (Rd.ownN [] rfl rfl) (qd (tv) rfl (qd (ii ((p : Int))) rfl (cX (XOp.build [arv, tv, ii ((p : Int))] [sN, sN, ii (0)] [(0, 1), (1, 1), (2, 1)] [(0, [arv]), (1, [tv]), (2, [ii ((p : Int))])] jm zeroValue216 rfl (.cons rfl qH (.cons rfl qA (.cons rfl sizeOf3 PlacesAre.nil))) rfl (.cons rfl (.cons (cells_one (qT ht)) (.cons rfl CellsAre.nil))) (cX (jq [sN, sN, ii (0)] zeroValue216 rfl ?_)))))))))))
 intro b2
 refine cX (jd [] _ [arv, tv, ii ((p : Int))] sizeOf216 rfl rfl rfl (qZ (jf (qT har)) (qZ (jf (qT ht)) (qZ rfl jj))) rfl rfl rfl (qb (qc (qc (qa (cX (ql (args := [ptr b2 0]) call179 rfl (skip_spec (p0 := p) har ht (by omega) hs (by omega)) ?_)))))))
 rintro _ _ _ _ ⟨rfl, q1, rfl, hq1, rfl⟩
 refine cX (jn rfl (qb ?_))
 refine X.cond (t := !((endGo ar (t.drop p) 1).isSome)) rfl (fun h1 => ?_) (fun h1 => ?_)
 ·refine qc (qa (qg (ii (-1)) rfl (qb (qq (qh (qn (L' := L) [ii (-1)] (ii (-1)) (.tmp rfl .nil) rfl rF rF (sD (sD sR)) ?_))))))
  exact ⟨(vI (endZ_none (by rw [Bool.eq_false_iff] at *; simpa using h1))), rfl, rfl⟩
 refine qw (qc (qa (cX (qk (2) jm rfl sizeOf3 (by decide) rfl rfl (cX (qi isAgg3 rfl (Rd.own [] rfl rfl) (qg (ii ((q1 : Int))) rfl (qb (qq (qn (L' := L) [ii ((q1 : Int))] (ii ((q1 : Int))) (.tmp rfl .nil) rfl rF rF (sD (sD sR)) ?_))))))))))
 exact ⟨(vI (endZ_some hq1 (by simpa using h1))), rfl, rfl⟩

/- slices.Min[[]int64,int64] -/
theorem Min_spec {F : FH} {L : List HP} {xsv : Value} {xs : List Int} (hxs : IntsF F xsv xs) (h1 : 1 ≤ xs.length) (hbd : xs.length ≤ 4000000) :
    Does prog 178 [xsv] F (L) (fun v F' L' => (ii (minL xs) : Value) = v ∧ F = F' ∧ L = L') := by
 refine qB func178 rfl rfl rfl (qc (qa (qg (ii (0)) rfl (qb (qc (qc (qa (qd (xsv) rfl (cX (qy qf rfl hxs.slv (cX (qI rfl rfl (qb ?_)))))))))))))
 refine qv (p := ((xs.length : Int) : Int) < 1) rfl (fun h1 => ?_) (fun h1 => ?_)
 ·omega
 refine qw (qc (qa (qd (xsv) rfl (cX (qx 0 qf qE rfl rfl rfl hxs.slv (by omega) (Nat.mul_one _) (cX (qi qS rfl (hxs.rd (by omega)) (qg (ii (xs.getD 0 0)) rfl (qb (qc (qc (qa (qg (ii (1)) rfl (qb (qF (ja (α := Nat) (fun k => [(0, xsv), (3, ii (minL (xs.take k))), (4, ii ((k : Int)))]) (fun k => L) (fun k F' => F = F' ∧ (1 ≤ k ∧ k ≤ xs.length)) (fun k => xs.length - k) 1 ⟨rfl, (vI (minL_take1 (xs := xs) (by omega)).symm), rfl, ⟨⟩⟩ sR ⟨rfl, (by omega)⟩ ?_))))))))))))))))
 rintro k rE _ _ ⟨rfl, hk⟩
 show X _ _ _ _ (envs [(0, xsv), (3, ii (minL (xs.take k))), (4, ii ((k : Int)))] rE) _ (L)
 refine qc (qc (qa (qd (ii ((k : Int))) rfl (qd (xsv) rfl (cX (qy qf rfl hxs.slv (cX (qI rfl rfl (qb ?_)))))))))
 refine qv (p := (k : Int) < (xs.length : Int)) rfl (fun h2 => ?_) (fun h2 => ?_)
 ·refine qw (qc (qF (qa (qd (ii (minL (xs.take k))) rfl (qd (xsv) rfl (qd (ii ((k : Int))) rfl (cX (qx k qf qE rfl rfl rfl hxs.slv (by omega) (Nat.mul_one _) (cX (qi qS rfl (hxs.rd (by omega)) (cX (XOp.min2R (a := minL (xs.take k)) (b := xs.getD k 0) (minL (xs.take (k + 1))) rfl rfl ((minL_step (by omega) (by omega)).symm) (qg (ii (minL (xs.take (k + 1)))) rfl (qb (qa (qd (ii ((k : Int))) rfl ?_))))))))))))))))
  refine cX (qG (((k + 1 : Nat) : Int)) rfl rfl (by omega) (by omega) (qg (ii (((k + 1 : Nat) : Int))) rfl (qb ?_)))
  exact ⟨k + 1, _, FLe.refl _, rF, ⟨rfl, rfl, rfl, ⟨⟩⟩, sR, ⟨rfl, (by omega)⟩, (by omega)⟩
 refine qX (qr (qr (qJ (qc (qa (qd (ii (minL (xs.take k))) rfl (qg (ii (minL (xs.take k))) rfl (qb (qq (qn (L' := L) [ii (minL (xs.take k))] (ii (minL (xs.take k))) (.tmp rfl .nil) rfl rF rF sR ?_))))))))))
 exact ⟨(vI (by rw [minL_take_all (by omega)])), rfl, rfl⟩

/- slices.Equal[[]int64,int64] -/
theorem Equal_spec {F : FH} {L : List HP} {av : Value} {a : List Int} (ha : IntsF F av a) {bv : Value} {b : List Int} (hb : IntsF F bv b) (hbd : a.length ≤ 9223372036854775807 ∨ b.length ≤ 9223372036854775807) :
    Does prog 141 [av, bv] F (L) (fun v F' L' => (.bool (decide (a = b)) : Value) = v ∧ F = F' ∧ L = L') := by
 refine qB func141 rfl rfl rfl (qc (qa (qg (.bool (false)) rfl (qb (qc (qc (qa (qd (av) rfl (cX (qy qf rfl ha.slv (qd (bv) rfl (cX (qy qf rfl hb.slv (cX (XOp.neq rfl rfl (qb ?_))))))))))))))))
 refine qv (p := ((a.length : Int) : Int) ≠ (b.length : Int)) rfl (fun h1 => ?_) (fun h1 => ?_)
 ·refine qc (qa (qg (.bool (false)) rfl (qb (qq (qh (qn (L' := L) [.bool (false)] (.bool (false)) (.tmp rfl .nil) rfl rF rF sR ?_))))))
  exact ⟨(vB (decide_eq_false (fun e => by rw [e] at h1; omega))), rfl, rfl⟩
 refine qw (qc (qc (qa (qd (av) rfl (cX (qy qf rfl ha.slv (qd (ii (0)) rfl (qb (qF (ja (α := Nat) (fun k => [(0, av), (1, bv), (12, ii ((a.length : Int))), (13, ii ((k : Int)))]) (fun k => L) (fun k F' => F = F' ∧ (k ≤ a.length) ∧ (∀ i, i < k → a.getD i 0 = b.getD i 0)) (fun k => a.length - k) 0 ⟨rfl, rfl, rfl, rfl, ⟨⟩⟩ sR ⟨rfl, (by omega), (fun i hi => absurd hi (by omega))⟩ ?_))))))))))
 rintro k rE _ _ ⟨rfl, hk, hall⟩
 show X _ _ _ _ (envs [(0, av), (1, bv), (12, ii ((a.length : Int))), (13, ii ((k : Int)))] rE) _ (L)
 refine qc (qa (cX (qI rfl rfl (qb (qc ?_)))))
 refine qv (p := (k : Int) < (a.length : Int)) rfl (fun h2 => ?_) (fun h2 => ?_)
 ·refine qw (qc (qF (qc (qa (qd (ii ((k : Int))) rfl (qg (ii ((k : Int))) rfl (qb (qc ?_))))))))
  refine ju [] L 8 [] [[], [], [0, 1], [2], [], [], [4, 5], [6]] (phiL [qe av, qe (ii ((k : Int)) : Value), qe (.pointer (some (elemA av (k)))), qe (ii (a.getD k 0)), qe bv, qe (ii ((k : Int)) : Value), qe (.pointer (some (elemA bv (k)))), qe (ii (b.getD k 0))]) (ownL []) mixed rfl rfl (by kernel_rfl) ?_ ?_
  ·refine pD (fun W R z9 => ?_) ?_
   ·refine qj (qm (av) rfl ?_)
    exact ⟨rfl, rfl, rfl⟩
   refine pD (fun W R z9 => ?_) ?_
   ·refine qj (qm (ii ((k : Int))) rfl ?_)
    exact ⟨rfl, rfl, rfl⟩
   refine pD (fun W R z9 => ?_) ?_
   ·rw [eS (l := [(0, _), (1, _)]) ⟨z9 0 rfl, z9 1 rfl, ⟨⟩⟩]
    refine qj (qx k qf qE rfl rfl rfl ha.slv (by omega) (Nat.mul_one _) ?_)
    exact ⟨rfl, rfl, rfl⟩
   refine pD (fun W R z9 => ?_) ?_
   ·rw [eS (l := [(2, _)]) ⟨z9 2 rfl, ⟨⟩⟩]
    refine qj (qi qS rfl (ha.rd (by omega)) ?_)
    exact ⟨rfl, rfl, rfl⟩
   refine pD (fun W R z9 => ?_) ?_
   ·refine qj (qm (bv) rfl ?_)
    exact ⟨rfl, rfl, rfl⟩
   refine pD (fun W R z9 => ?_) ?_
   ·refine qj (qm (ii ((k : Int))) rfl ?_)
    exact ⟨rfl, rfl, rfl⟩
   refine pD (fun W R z9 => ?_) ?_
   ·rw [eS (l := [(4, _), (5, _)]) ⟨z9 4 rfl, z9 5 rfl, ⟨⟩⟩]
    refine qj (qx k qf qE rfl rfl rfl hb.slv (by omega) (Nat.mul_one _) ?_)
    exact ⟨rfl, rfl, rfl⟩
   refine pD (fun W R z9 => ?_) ?_
   ·rw [eS (l := [(6, _)]) ⟨z9 6 rfl, ⟨⟩⟩]
    refine qj (qi qS rfl (hb.rd (by omega)) ?_)
    exact ⟨rfl, rfl, rfl⟩
   exact stepsP.nil
  intro W hphi
  rw [eS (l := [(3, _), (7, _)]) ⟨(hphi 3 (by decide)), (hphi 7 (by decide)), ⟨⟩⟩]
  show XL _ _ _ _ _ _ _ (L)
  refine cX (XOp.neq rfl rfl (qb ?_))
  refine qv (p := (a.getD k 0 : Int) ≠ b.getD k 0) rfl (fun h3 => ?_) (fun h3 => ?_)
  ·refine qc (qa (qg (.bool (false)) rfl (qb (qq (qu (qh (qh (qu (qh (qn (L' := L) [.bool (false)] (.bool (false)) (.tmp rfl .nil) rfl rF rF sR ?_))))))))))
   exact ⟨(vB (decide_eq_false (ne_of_getD (i := k) (by omega)))), rfl, rfl⟩
  refine qw (qa (cX (qG (((k + 1 : Nat) : Int)) rfl rfl (by omega) (by omega) (qd (ii (((k + 1 : Nat) : Int))) rfl (qb ?_)))))
  exact ⟨k + 1, _, FLe.refl _, rF, ⟨rfl, rfl, rfl, rfl, ⟨⟩⟩, sR, ⟨rfl, (by omega), (fun i hi => (Nat.lt_or_ge i k).elim (fun h => hall i h) (fun h => by obtain rfl : i = k := (by omega); omega))⟩, (by omega)⟩
 refine qX (qr (qr (qJ (qc (qa (qg (.bool (true)) rfl (qb (qq (qn (L' := L) [.bool (true)] (.bool (true)) (.tmp rfl .nil) rfl rF rF sR ?_)))))))))
 exact ⟨(vB (decide_eq_true (ext_getD (by omega) (fun i hi => hall i (by omega))))), rfl, rfl⟩

/- spec.SameTerm -/
theorem SameTerm_spec {F : FH} {L : List HP} {av : Value} {a : List Int} (ha : IntsF F av a) {bv : Value} {b : List Int} (hb : IntsF F bv b) (hbd : a.length ≤ 9223372036854775807 ∨ b.length ≤ 9223372036854775807) :
    Does prog 32 [av, bv] F (L) (fun v F' L' => (.bool (decide (a = b)) : Value) = v ∧ F = F' ∧ L = L') := by
 refine qB func32 rfl rfl rfl (qc (qa (qg (.bool (false)) rfl (qb (qc (qc (qa (qd (av) rfl (cX (qy qf rfl ha.slv (qd (bv) rfl (cX (qy qf rfl hb.slv (cX (XOp.neq rfl rfl (qb ?_))))))))))))))))
 refine qv (p := ((a.length : Int) : Int) ≠ (b.length : Int)) rfl (fun h1 => ?_) (fun h1 => ?_)
 ·refine qc (qa (qg (.bool (false)) rfl (qb (qq (qh (qn (L' := L) [.bool (false)] (.bool (false)) (.tmp rfl .nil) rfl rF rF sR ?_))))))
  exact ⟨(vB (decide_eq_false (fun e => by rw [e] at h1; omega))), rfl, rfl⟩
 refine qw (qc (qc (qa (qg (ii (0)) rfl (qb (qF (ja (α := Nat) (fun k => [(0, av), (1, bv), (5, ii ((k : Int)))]) (fun k => L) (fun k F' => F = F' ∧ (k ≤ a.length) ∧ (∀ i, i < k → a.getD i 0 = b.getD i 0)) (fun k => a.length - k) 0 ⟨rfl, rfl, rfl, ⟨⟩⟩ sR ⟨rfl, (by omega), (fun i hi => absurd hi (by omega))⟩ ?_)))))))
 rintro k rE _ _ ⟨rfl, hk, hall⟩
 show X _ _ _ _ (envs [(0, av), (1, bv), (5, ii ((k : Int)))] rE) _ (L)
 refine qc (qc (qa (qd (ii ((k : Int))) rfl (qd (av) rfl (cX (qy qf rfl ha.slv (cX (qI rfl rfl (qb ?_)))))))))
 refine qv (p := (k : Int) < (a.length : Int)) rfl (fun h2 => ?_) (fun h2 => ?_)
 ·refine qw (qc (qF (qc ?_)))
  refine ju [] L 8 [] [[], [], [0, 1], [2], [], [], [4, 5], [6]] (phiL [qe av, qe (ii ((k : Int)) : Value), qe (.pointer (some (elemA av (k)))), qe (ii (a.getD k 0)), qe bv, qe (ii ((k : Int)) : Value), qe (.pointer (some (elemA bv (k)))), qe (ii (b.getD k 0))]) (ownL []) mixed rfl rfl (by kernel_rfl) ?_ ?_
  ·refine pD (fun W R z9 => ?_) ?_
   ·refine qj (qm (av) rfl ?_)
    exact ⟨rfl, rfl, rfl⟩
   refine pD (fun W R z9 => ?_) ?_
   ·refine qj (qm (ii ((k : Int))) rfl ?_)
    exact ⟨rfl, rfl, rfl⟩
   refine pD (fun W R z9 => ?_) ?_
   ·rw [eS (l := [(0, _), (1, _)]) ⟨z9 0 rfl, z9 1 rfl, ⟨⟩⟩]
    refine qj (qx k qf qE rfl rfl rfl ha.slv (by omega) (Nat.mul_one _) ?_)
    exact ⟨rfl, rfl, rfl⟩
   refine pD (fun W R z9 => ?_) ?_
   ·rw [eS (l := [(2, _)]) ⟨z9 2 rfl, ⟨⟩⟩]
    refine qj (qi qS rfl (ha.rd (by omega)) ?_)
    exact ⟨rfl, rfl, rfl⟩
   refine pD (fun W R z9 => ?_) ?_
   ·refine qj (qm (bv) rfl ?_)
    exact ⟨rfl, rfl, rfl⟩
   refine pD (fun W R z9 => ?_) ?_
   ·refine qj (qm (ii ((k : Int))) rfl ?_)
    exact ⟨rfl, rfl, rfl⟩
   refine pD (fun W R z9 => ?_) ?_
   ·rw [eS (l := [(4, _), (5, _)]) ⟨z9 4 rfl, z9 5 rfl, ⟨⟩⟩]
    refine qj (qx k qf qE rfl rfl rfl hb.slv (by omega) (Nat.mul_one _) ?_)
    exact ⟨rfl, rfl, rfl⟩
   refine pD (fun W R z9 => ?_) ?_
   ·rw [eS (l := [(6, _)]) ⟨z9 6 rfl, ⟨⟩⟩]
    refine qj (qi qS rfl (hb.rd (by omega)) ?_)
    exact ⟨rfl, rfl, rfl⟩
   exact stepsP.nil
  intro W hphi
  rw [eS (l := [(3, _), (7, _)]) ⟨(hphi 3 (by decide)), (hphi 7 (by decide)), ⟨⟩⟩]
  show XL _ _ _ _ _ _ _ (L)
  refine cX (XOp.neq rfl rfl (qb ?_))
  refine qv (p := (a.getD k 0 : Int) ≠ b.getD k 0) rfl (fun h3 => ?_) (fun h3 => ?_)
  ·refine qc (qa (qg (.bool (false)) rfl (qb (qq (qu (qh (qh (qu (qh (qn (L' := L) [.bool (false)] (.bool (false)) (.tmp rfl .nil) rfl rF rF sR ?_))))))))))
   exact ⟨(vB (decide_eq_false (ne_of_getD (i := k) (by omega)))), rfl, rfl⟩
  refine qw (qa (qd (ii ((k : Int))) rfl (cX (qG (((k + 1 : Nat) : Int)) rfl rfl (by omega) (by omega) (qg (ii (((k + 1 : Nat) : Int))) rfl (qb ?_))))))
  exact ⟨k + 1, _, FLe.refl _, rF, ⟨rfl, rfl, rfl, ⟨⟩⟩, sR, ⟨rfl, (by omega), (fun i hi => (Nat.lt_or_ge i k).elim (fun h => hall i h) (fun h => by obtain rfl : i = k := (by omega); omega))⟩, (by omega)⟩
 refine qX (qr (qr (qJ (qc (qa (qg (.bool (true)) rfl (qb (qq (qn (L' := L) [.bool (true)] (.bool (true)) (.tmp rfl .nil) rfl rF rF sR ?_)))))))))
 exact ⟨(vB (decide_eq_true (ext_getD (by omega) (fun i hi => hall i (by omega))))), rfl, rfl⟩

/- laws.eqInt64S -/
theorem eqInt64S_spec {F : FH} {L : List HP} {av : Value} {a : List Int} (ha : IntsF F av a) {bv : Value} {b : List Int} (hb : IntsF F bv b) (hbd : a.length ≤ 9223372036854775807 ∨ b.length ≤ 9223372036854775807) :
    Does prog 12 [av, bv] F (L) (fun v F' L' => (.bool (decide (a = b)) : Value) = v ∧ F = F' ∧ L = L') := by
 refine qB func12 rfl rfl rfl (qc (qa (qg (.bool (false)) rfl (qb (qc (qc (qa (qd (av) rfl (cX (qy qf rfl ha.slv (qd (bv) rfl (cX (qy qf rfl hb.slv (cX (XOp.neq rfl rfl (qb ?_))))))))))))))))
 refine qv (p := ((a.length : Int) : Int) ≠ (b.length : Int)) rfl (fun h1 => ?_) (fun h1 => ?_)
 ·refine qc (qa (qg (.bool (false)) rfl (qb (qq (qh (qn (L' := L) [.bool (false)] (.bool (false)) (.tmp rfl .nil) rfl rF rF sR ?_))))))
  exact ⟨(vB (decide_eq_false (fun e => by rw [e] at h1; omega))), rfl, rfl⟩
 refine qw (qc (qc (qa (qg (ii (0)) rfl (qb (qF (ja (α := Nat) (fun k => [(0, av), (1, bv), (5, ii ((k : Int)))]) (fun k => L) (fun k F' => F = F' ∧ (k ≤ a.length) ∧ (∀ i, i < k → a.getD i 0 = b.getD i 0)) (fun k => a.length - k) 0 ⟨rfl, rfl, rfl, ⟨⟩⟩ sR ⟨rfl, (by omega), (fun i hi => absurd hi (by omega))⟩ ?_)))))))
 rintro k rE _ _ ⟨rfl, hk, hall⟩
 show X _ _ _ _ (envs [(0, av), (1, bv), (5, ii ((k : Int)))] rE) _ (L)
 refine qc (qc (qa (qd (ii ((k : Int))) rfl (qd (av) rfl (cX (qy qf rfl ha.slv (cX (qI rfl rfl (qb ?_)))))))))
 refine qv (p := (k : Int) < (a.length : Int)) rfl (fun h2 => ?_) (fun h2 => ?_)
 ·refine qw (qc (qF (qc ?_)))
  refine ju [] L 8 [] [[], [], [0, 1], [2], [], [], [4, 5], [6]] (phiL [qe av, qe (ii ((k : Int)) : Value), qe (.pointer (some (elemA av (k)))), qe (ii (a.getD k 0)), qe bv, qe (ii ((k : Int)) : Value), qe (.pointer (some (elemA bv (k)))), qe (ii (b.getD k 0))]) (ownL []) mixed rfl rfl (by kernel_rfl) ?_ ?_
  ·refine pD (fun W R z9 => ?_) ?_
   ·refine qj (qm (av) rfl ?_)
    exact ⟨rfl, rfl, rfl⟩
   refine pD (fun W R z9 => ?_) ?_
   ·refine qj (qm (ii ((k : Int))) rfl ?_)
    exact ⟨rfl, rfl, rfl⟩
   refine pD (fun W R z9 => ?_) ?_
   ·rw [eS (l := [(0, _), (1, _)]) ⟨z9 0 rfl, z9 1 rfl, ⟨⟩⟩]
    refine qj (qx k qf qE rfl rfl rfl ha.slv (by omega) (Nat.mul_one _) ?_)
    exact ⟨rfl, rfl, rfl⟩
   refine pD (fun W R z9 => ?_) ?_
   ·rw [eS (l := [(2, _)]) ⟨z9 2 rfl, ⟨⟩⟩]
    refine qj (qi qS rfl (ha.rd (by omega)) ?_)
    exact ⟨rfl, rfl, rfl⟩
   refine pD (fun W R z9 => ?_) ?_
   ·refine qj (qm (bv) rfl ?_)
    exact ⟨rfl, rfl, rfl⟩
   refine pD (fun W R z9 => ?_) ?_
   ·refine qj (qm (ii ((k : Int))) rfl ?_)
    exact ⟨rfl, rfl, rfl⟩
   refine pD (fun W R z9 => ?_) ?_
   ·rw [eS (l := [(4, _), (5, _)]) ⟨z9 4 rfl, z9 5 rfl, ⟨⟩⟩]
    refine qj (qx k qf qE rfl rfl rfl hb.slv (by omega) (Nat.mul_one _) ?_)
    exact ⟨rfl, rfl, rfl⟩
   refine pD (fun W R z9 => ?_) ?_
   ·rw [eS (l := [(6, _)]) ⟨z9 6 rfl, ⟨⟩⟩]
    refine qj (qi qS rfl (hb.rd (by omega)) ?_)
    exact ⟨rfl, rfl, rfl⟩
   exact stepsP.nil
  intro W hphi
  rw [eS (l := [(3, _), (7, _)]) ⟨(hphi 3 (by decide)), (hphi 7 (by decide)), ⟨⟩⟩]
  show XL _ _ _ _ _ _ _ (L)
  refine cX (XOp.neq rfl rfl (qb ?_))
  refine qv (p := (a.getD k 0 : Int) ≠ b.getD k 0) rfl (fun h3 => ?_) (fun h3 => ?_)
  ·refine qc (qa (qg (.bool (false)) rfl (qb (qq (qu (qh (qh (qu (qh (qn (L' := L) [.bool (false)] (.bool (false)) (.tmp rfl .nil) rfl rF rF sR ?_))))))))))
   exact ⟨(vB (decide_eq_false (ne_of_getD (i := k) (by omega)))), rfl, rfl⟩
  refine qw (qa (qd (ii ((k : Int))) rfl (cX (qG (((k + 1 : Nat) : Int)) rfl rfl (by omega) (by omega) (qg (ii (((k + 1 : Nat) : Int))) rfl (qb ?_))))))
  exact ⟨k + 1, _, FLe.refl _, rF, ⟨rfl, rfl, rfl, ⟨⟩⟩, sR, ⟨rfl, (by omega), (fun i hi => (Nat.lt_or_ge i k).elim (fun h => hall i h) (fun h => by obtain rfl : i = k := (by omega); omega))⟩, (by omega)⟩
 refine qX (qr (qr (qJ (qc (qa (qg (.bool (true)) rfl (qb (qq (qn (L' := L) [.bool (true)] (.bool (true)) (.tmp rfl .nil) rfl rF rF sR ?_)))))))))
 exact ⟨(vB (decide_eq_true (ext_getD (by omega) (fun i hi => hall i (by omega))))), rfl, rfl⟩

/- slices.Index[[]int64,int64] -/
theorem Index_spec {F : FH} {L : List HP} {xsv : Value} {xs : List Int} (hxs : IntsF F xsv xs) {n : Int} (hbd : xs.length ≤ 9223372036854775807) :
    Does prog 186 [xsv, ii (n)] F (L) (fun v F' L' => (ii (indexZ xs n) : Value) = v ∧ F = F' ∧ L = L') := by
 refine qB func186 rfl rfl rfl (qc (qa (qg (ii (0)) rfl (qb (qc (qc (qa (qd (xsv) rfl (cX (qy qf rfl hxs.slv (qd (ii (0)) rfl (qb (qF (ja (α := Nat) (fun k => [(0, xsv), (1, ii (n)), (7, ii ((xs.length : Int))), (8, ii ((k : Int)))]) (fun k => L) (fun k F' => F = F' ∧ (k ≤ xs.length) ∧ (∀ i, i < k → xs.getD i 0 ≠ n)) (fun k => xs.length - k) 0 ⟨rfl, rfl, rfl, rfl, ⟨⟩⟩ sR ⟨rfl, (by omega), (fun i hi => absurd hi (by omega))⟩ ?_))))))))))))))
 rintro k rE _ _ ⟨rfl, hk, hall⟩
 show X _ _ _ _ (envs [(0, xsv), (1, ii (n)), (7, ii ((xs.length : Int))), (8, ii ((k : Int)))] rE) _ (L)
 refine qc (qa (cX (qI rfl rfl (qb (qc ?_)))))
 refine qv (p := (k : Int) < (xs.length : Int)) rfl (fun h1 => ?_) (fun h1 => ?_)
 ·refine qw (qc (qF (qc (qa (qd (ii ((k : Int))) rfl (qg (ii ((k : Int))) rfl (qb (qc (qa (qd (ii (n)) rfl (qd (xsv) rfl (qd (ii ((k : Int))) rfl (cX (qx k qf qE rfl rfl rfl hxs.slv (by omega) (Nat.mul_one _) (cX (qi qS rfl (hxs.rd (by omega)) (cX (XOp.eql rfl rfl ?_))))))))))))))))))
  refine qb ?_
  refine qv (p := (n : Int) = xs.getD k 0) rfl (fun h2 => ?_) (fun h2 => ?_)
  ·refine qc (qa (qd (ii ((k : Int))) rfl (qg (ii ((k : Int))) rfl (qb (qq (qu (qh (qh (qu (qh (qn (L' := L) [ii ((k : Int))] (ii ((k : Int))) (.tmp rfl .nil) rfl rF rF sR ?_)))))))))))
   exact ⟨(vI (indexZ_some (by omega) (by omega) hall)), rfl, rfl⟩
  refine qw (qa (cX (qG (((k + 1 : Nat) : Int)) rfl rfl (by omega) (by omega) (qd (ii (((k + 1 : Nat) : Int))) rfl (qb ?_)))))
  exact ⟨k + 1, _, FLe.refl _, rF, ⟨rfl, rfl, rfl, rfl, ⟨⟩⟩, sR, ⟨rfl, (by omega), (fun i hi => (Nat.lt_or_ge i k).elim (fun h => hall i h) (fun h => by obtain rfl : i = k := (by omega); omega))⟩, (by omega)⟩
 refine qX (qr (qr (qJ (qc (qa (qg (ii (-1)) rfl (qb (qq (qn (L' := L) [ii (-1)] (ii (-1)) (.tmp rfl .nil) rfl rF rF sR ?_)))))))))
 exact ⟨(vI (indexZ_none (fun i hi => hall i (by omega)))), rfl, rfl⟩

/- slices.Contains[[]int64,int64] -/
theorem Contains_spec {F : FH} {L : List HP} {xsv : Value} {xs : List Int} (hxs : IntsF F xsv xs) {n : Int} (hbd : xs.length ≤ 9223372036854775807) :
    Does prog 131 [xsv, ii (n)] F (L) (fun v F' L' => (.bool (decide (n ∈ xs)) : Value) = v ∧ F = F' ∧ L = L') := by
 refine qB func131 rfl rfl rfl (qc (qa (qg (.bool (false)) rfl (qb (qc (qa (qd (xsv) rfl (qd (ii (n)) rfl (cX (ql (args := [xsv, ii (n)]) call186 rfl (Index_spec (n := n) hxs (hbd := (by first | assumption | rfl | omega | simp))) ?_))))))))))
 rintro _ _ _ _ ⟨rfl, rfl, rfl⟩
 refine cX (XOp.geq rfl rfl (qg (.bool (decide ((indexZ xs n : Int) ≥ 0))) rfl (qb (qq (qn (L' := L) [.bool (decide ((indexZ xs n : Int) ≥ 0))] (.bool (decide ((indexZ xs n : Int) ≥ 0))) (.tmp rfl .nil) rfl rF rF sR ?_)))))
 exact ⟨(vB (decide_eq_decide.2 indexZ_mem.symm)), rfl, rfl⟩

/- spec.l1Has -/
theorem l1Has_spec {F : FH} {L : List HP} {xsv : Value} {xs : List Int} (hxs : IntsF F xsv xs) {n : Int} (hbd : xs.length ≤ 9223372036854775807) :
    Does prog 103 [xsv, ii (n)] F (L) (fun v F' L' => (.bool (decide (n ∈ xs)) : Value) = v ∧ F = F' ∧ L = L') := by
 refine qB func103 rfl rfl rfl (qc (qa (qg (.bool (false)) rfl (qb (qc (qc (qa (qg (ii (0)) rfl (qb (qF (ja (α := Nat) (fun k => [(0, xsv), (1, ii (n)), (5, ii ((k : Int)))]) (fun k => L) (fun k F' => F = F' ∧ (k ≤ xs.length) ∧ (∀ i, i < k → xs.getD i 0 ≠ n)) (fun k => xs.length - k) 0 ⟨rfl, rfl, rfl, ⟨⟩⟩ sR ⟨rfl, (by omega), (fun i hi => absurd hi (by omega))⟩ ?_)))))))))))
 rintro k rE _ _ ⟨rfl, hk, hall⟩
 show X _ _ _ _ (envs [(0, xsv), (1, ii (n)), (5, ii ((k : Int)))] rE) _ (L)
 refine qc (qc (qa (qd (ii ((k : Int))) rfl (qd (xsv) rfl (cX (qy qf rfl hxs.slv (cX (qI rfl rfl (qb ?_)))))))))
 refine qv (p := (k : Int) < (xs.length : Int)) rfl (fun h1 => ?_) (fun h1 => ?_)
 ·refine qw (qc (qF (qc (qa (qd (xsv) rfl (qd (ii ((k : Int))) rfl (cX (qx k qf qE rfl rfl rfl hxs.slv (by omega) (Nat.mul_one _) (cX (qi qS rfl (hxs.rd (by omega)) (qd (ii (n)) rfl (cX (XOp.eql rfl rfl (qb ?_))))))))))))))
  refine qv (p := (xs.getD k 0 : Int) = n) rfl (fun h2 => ?_) (fun h2 => ?_)
  ·refine qc (qa (qg (.bool (true)) rfl (qb (qq (qu (qh (qh (qu (qh (qn (L' := L) [.bool (true)] (.bool (true)) (.tmp rfl .nil) rfl rF rF sR ?_))))))))))
   exact ⟨(vB (decide_eq_true (mem_of_getD (k := k) (by omega) (by omega)))), rfl, rfl⟩
  refine qw (qa (qd (ii ((k : Int))) rfl (cX (qG (((k + 1 : Nat) : Int)) rfl rfl (by omega) (by omega) (qg (ii (((k + 1 : Nat) : Int))) rfl (qb ?_))))))
  exact ⟨k + 1, _, FLe.refl _, rF, ⟨rfl, rfl, rfl, ⟨⟩⟩, sR, ⟨rfl, (by omega), (fun i hi => (Nat.lt_or_ge i k).elim (fun h => hall i h) (fun h => by obtain rfl : i = k := (by omega); omega))⟩, (by omega)⟩
 refine qX (qr (qr (qJ (qc (qa (qg (.bool (false)) rfl (qb (qq (qn (L' := L) [.bool (false)] (.bool (false)) (.tmp rfl .nil) rfl rF rF sR ?_)))))))))
 exact ⟨(vB (decide_eq_false (not_mem_of_getD (fun i hi => hall i (by omega))))), rfl, rfl⟩

/- spec.l1In -/
theorem l1In_spec {F : FH} {L : List HP} {n : Int} {a : Int} {b : Int} :
    Does prog 41 [ii (n), ii (a), ii (b)] F (L) (fun v F' L' => (.bool (decide (a ≤ n ∧ n ≤ b)) : Value) = v ∧ F = F' ∧ L = L') := by
 refine qB func41 rfl rfl rfl (qc (qa (qg (.bool (false)) rfl (qb (qc (qa (qd (ii (n)) rfl (qd (ii (a)) rfl (cX (XOp.geq rfl rfl (qd (.bool (decide ((n : Int) ≥ a))) rfl ?_)))))))))))
 by_cases h1 : (n : Int) ≥ a
 ·refine qo (t := 10) rfl (vT h1) (qm (ii (n)) rfl (qo (t := 10) rfl (vT h1) (qm (ii (b)) rfl (qo (t := 10) rfl (vT h1) (XOp.leq rfl rfl (cX (qM (.bool (decide ((n : Int) ≤ b))) (vT h1) rfl (qg (.bool (decide ((n : Int) ≤ b))) rfl (qb (qq (qn (L' := L) [.bool (decide ((n : Int) ≤ b))] (.bool (decide ((n : Int) ≤ b))) (.tmp rfl .nil) rfl rF rF sR ?_)))))))))))
  exact ⟨(vB (decide_eq_decide.2 (by omega))), rfl, rfl⟩
 refine qp (t := 10) rfl (vF h1) (qp (t := 10) rfl (vF h1) (qp (t := 10) rfl (vF h1) (cX (qL (.bool (false)) (vF h1) rfl (qg (.bool (false)) rfl (qb (qq (qn (L' := L) [.bool (false)] (.bool (false)) (.tmp rfl .nil) rfl rF rF sR ?_))))))))
 exact ⟨(vB (decide_eq_false (by omega))), rfl, rfl⟩

/- spec.l1Arity -/
theorem l1Arity_spec {F : FH} {L : List HP} {arv : Value} {ar : List Int} (har : IntsF F arv ar) {n : Int} (hla : ar.length ≤ 4000000) :
    Does prog 175 [.agg #[arv], ii (n)] F (L) (fun v F' L' => (ii (sArity ar n) : Value) = v ∧ F = F' ∧ L = L') := by
 refine qB func175 rfl rfl rfl (qc (qa (cX (qP [arv] rfl rfl ?_))))
 intro b1
 refine qg (ii (0)) rfl (qb (qc (qF (qc (qa (qd (ii (n)) rfl (cX (ql (args := [ii (n), ii (-24), ii (-1)]) call41 rfl (l1In_spec (n := n) (a := -24) (b := -1)) ?_))))))))
 rintro _ _ _ _ ⟨rfl, rfl, rfl⟩
 refine qg (.bool (decide ((-24) ≤ n ∧ n ≤ (-1)))) rfl (qb ?_)
 refine qv (p := (-24) ≤ n ∧ n ≤ (-1)) rfl (fun h1 => ?_) (fun h1 => ?_)
 ·refine qc (qa (qg (ii (0)) rfl (qb (qq (qu (qh (qn (L' := L) [ii (0)] (ii (0)) (.tmp rfl .nil) rfl rF rF (sD sR) ?_)))))))
  exact ⟨(vI (by unfold sArity; split <;> (try split) <;> first | rfl | omega)), rfl, rfl⟩
 refine qc (qa (qd (ii (n)) rfl (cX (qk (0) je rfl qA (by decide) rfl rfl (cX (qi qK rfl (Rd.own [] rfl rfl) (cX (qy qf rfl har.slv (cX (jg (((ar.length : Int)) - 1) rfl rfl (by omega) (by omega) (cX (ql (args := [ii (n), ii (0), ii (((ar.length : Int)) - 1)]) call41 rfl (l1In_spec (n := n) (a := 0) (b := ((ar.length : Int)) - 1)) ?_))))))))))))
 rintro _ _ _ _ ⟨rfl, rfl, rfl⟩
 refine qg (.bool (decide (0 ≤ n ∧ n ≤ (((ar.length : Int)) - 1)))) rfl (qb ?_)
 refine qv (p := 0 ≤ n ∧ n ≤ (((ar.length : Int)) - 1)) rfl (fun h2 => ?_) (fun h2 => ?_)
 ·refine qc (qa (cX (qk (0) je rfl qA (by decide) rfl rfl (cX (qi qK rfl (Rd.own [] rfl rfl) (qd (ii (n)) rfl (cX (qx ((n).toNat) qf qE rfl rfl (by omega) har.slv (by omega) (Nat.mul_one _) (cX (qi qS rfl (har.rd (by omega)) (qg (ii (ar.getD ((n).toNat) 0)) rfl (qb (qq (qu (qh (qn (L' := L) [ii (ar.getD ((n).toNat) 0)] (ii (ar.getD ((n).toNat) 0)) (.tmp rfl .nil) rfl rF rF (sD sR) ?_))))))))))))))))
  exact ⟨(vI (by unfold sArity; split <;> (try split) <;> first | rfl | omega)), rfl, rfl⟩
 refine qw (qc (qa (qg (ii (-1)) rfl (qb (qq (qn (L' := L) [ii (-1)] (ii (-1)) (.tmp rfl .nil) rfl rF rF (sD sR) ?_))))))
 exact ⟨(vI (by unfold sArity; split <;> (try split) <;> first | rfl | omega)), rfl, rfl⟩

/- spec.SigOk -/
theorem sSigOk_spec {F : FH} {L : List HP} {arv : Value} {ar : List Int} (har : IntsF F arv ar) (hla : ar.length ≤ 4000000) :
    Does prog 72 [.agg #[arv]] F (L) (fun v F' L' => (.bool (sigOk ar) : Value) = v ∧ F = F' ∧ L = L') := by
 refine qB func72 rfl rfl rfl (qc (qa (cX (qP [arv] rfl rfl ?_))))
 intro b1
 refine qg (.bool (false)) rfl (qb (qc (qc (qa (cX (qk (0) je rfl qA (by decide) rfl rfl (cX (qi qK rfl (Rd.own [] rfl rfl) (cX (qy qf rfl har.slv (cX (ql (args := [ii ((ar.length : Int)), ii (1), ii (8)]) call41 rfl (l1In_spec (n := (ar.length : Int)) (a := 1) (b := 8)) ?_))))))))))))
 rintro _ _ _ _ ⟨rfl, rfl, rfl⟩
 refine cX (jo rfl (qb ?_))
 refine qv (p := ¬(1 ≤ ((ar.length : Int)) ∧ ((ar.length : Int)) ≤ 8)) rfl (fun h1 => ?_) (fun h1 => ?_)
 ·refine qc (qa (qg (.bool (false)) rfl (qb (qq (qh (qn (L' := L) [.bool (false)] (.bool (false)) (.tmp rfl .nil) rfl rF rF (sD sR) ?_))))))
  exact ⟨(vB (sigOk_short (by omega))), rfl, rfl⟩
 refine qw (qc (qc (qa (qg (ii (0)) rfl (qb (qF (ja (α := Nat) (fun k => [(1, ptr b1 0), (3, ii ((k : Int)))]) (fun k => cellsH b1 [arv] 31 :: L) (fun k F' => F = F' ∧ (k ≤ ar.length) ∧ (∀ i, i < k → 0 ≤ ar.getD i 0 ∧ ar.getD i 0 ≤ 3)) (fun k => ar.length - k) 0 ⟨rfl, rfl, ⟨⟩⟩ (sC sR) ⟨rfl, (by omega), (fun i hi => absurd hi (by omega))⟩ ?_)))))))
 rintro k rE _ _ ⟨rfl, hk, hall⟩
 show X _ _ _ _ (envs [(1, ptr b1 0), (3, ii ((k : Int)))] rE) _ (cellsH b1 [arv] 31 :: L)
 refine qc (qc (qa (qd (ii ((k : Int))) rfl (cX (qk (0) je rfl qA (by decide) rfl rfl (cX (qi qK rfl (Rd.own [] rfl rfl) (cX (qy qf rfl har.slv (cX (qI rfl rfl (qb ?_))))))))))))
 refine qv (p := (k : Int) < (ar.length : Int)) rfl (fun h2 => ?_) (fun h2 => ?_)
 ·refine qw (qc (qF (qc (qa (cX (qk (0) je rfl qA (by decide) rfl rfl (cX (qi qK rfl (Rd.own [] rfl rfl) (qd (ii ((k : Int))) rfl (cX (qx k qf qE rfl rfl rfl har.slv (by omega) (Nat.mul_one _) (cX (qi qS rfl (har.rd (by omega)) (cX (ql (args := [ii (ar.getD k 0), ii (0), ii (3)]) call41 rfl (l1In_spec (n := ar.getD k 0) (a := 0) (b := 3)) ?_)))))))))))))))
  rintro _ _ _ _ ⟨rfl, rfl, rfl⟩
  refine cX (jo rfl (qb ?_))
  refine qv (p := ¬(0 ≤ (ar.getD k 0) ∧ (ar.getD k 0) ≤ 3)) rfl (fun h3 => ?_) (fun h3 => ?_)
  ·refine qc (qa (qg (.bool (false)) rfl (qb (qq (qu (qh (qh (qu (qh (qn (L' := L) [.bool (false)] (.bool (false)) (.tmp rfl .nil) rfl rF rF (sD sR) ?_))))))))))
   exact ⟨(vB (sigOk_bad (i := k) (by omega) (by omega))), rfl, rfl⟩
  refine qw (qa (qd (ii ((k : Int))) rfl (cX (qG (((k + 1 : Nat) : Int)) rfl rfl (by omega) (by omega) (qg (ii (((k + 1 : Nat) : Int))) rfl (qb ?_))))))
  exact ⟨k + 1, _, FLe.refl _, rF, ⟨rfl, rfl, ⟨⟩⟩, (sC sR), ⟨rfl, (by omega), (fun i hi => (Nat.lt_or_ge i k).elim (fun h => hall i h) (fun h => by obtain rfl : i = k := (by omega); omega))⟩, (by omega)⟩
 refine qX (qr (qr (qJ (qc (qa (qg (.bool (true)) rfl (qb (qq (qn (L' := L) [.bool (true)] (.bool (true)) (.tmp rfl .nil) rfl rF rF (sD sR) ?_)))))))))
 exact ⟨(vB (sigOk_of (by omega) (by omega) (fun i hi => hall i (by omega)))), rfl, rfl⟩

/- spec.l1End -/
theorem l1End_spec {F : FH} {L : List HP} {arv : Value} {ar : List Int} (har : IntsF F arv ar) {tv : Value} {t : List Int} (ht : IntsF F tv t) {p0 : Nat} (hs : sigOk ar = true) (hlt : t.length ≤ 4000000) (hp : p0 ≤ t.length) :
    Does prog 102 [.agg #[arv], tv, ii ((p0 : Int))] F (L) (fun v F' L' => (ii (sEndZ ar t p0) : Value) = v ∧ F = F' ∧ L = L') := by
 refine qB func102 rfl rfl rfl ?_
 have hsl := sigOk_spec hs
 refine qc (qa (cX (qP [arv] rfl rfl ?_)))
 intro b1
 refine qg (ii (0)) rfl (qb (qc (qa (qg (ii (1)) rfl (qb (qc (qc (qa (qd (ii ((p0 : Int))) rfl (qg (ii ((p0 : Int))) rfl (qb (qF (ja (α := Nat × Nat) (fun xQ => [(1, tv), (3, ptr b1 0), (7, ii (((xQ.1 : Nat) : Int))), (8, ii (((xQ.2 : Nat) : Int)))]) (fun xQ => cellsH b1 [arv] 31 :: L) (fun xQ F' => F = F' ∧ (sEndGo ar (t.drop p0) 1 = (sEndGo ar (t.drop xQ.2) xQ.1).map (· + (xQ.2 - p0))) ∧ (p0 ≤ xQ.2 ∧ xQ.2 ≤ t.length) ∧ (1 ≤ xQ.1 ∧ xQ.1 ≤ 1 + 3 * xQ.2)) (fun xQ => t.length - xQ.2) (1, p0) ⟨rfl, rfl, rfl, rfl, ⟨⟩⟩ (sC sR) ⟨rfl, (by simp), (by omega), (by omega)⟩ ?_)))))))))))))
 rintro ⟨k, p⟩ rE _ _ ⟨rfl, hi, h1, h2⟩
 show X _ _ _ _ (envs [(1, tv), (3, ptr b1 0), (7, ii ((k : Int))), (8, ii ((p : Int)))] rE) _ (cellsH b1 [arv] 31 :: L)
 dsimp only at hi h1 h2
 refine qc (qc (qa (qd (ii ((p : Int))) rfl (qd (tv) rfl (cX (qy qf rfl ht.slv (cX (qI rfl rfl (qb ?_)))))))))
 refine qv (p := (p : Int) < (t.length : Int)) rfl (fun h1 => ?_) (fun h1 => ?_)
 ·refine qw (qc (qF (qc ?_)))
  refine ju [cellsH b1 [arv] 31] L 5 [] [[], [], [], [1, 2], [3]] (phiL [qe (.agg #[arv]), qe tv, qe (ii ((p : Int)) : Value), qe (.pointer (some (elemA tv (p)))), qe (ii (t.getD p 0))]) (ownL []) mixed rfl rfl (by kernel_rfl) ?_ ?_
  ·refine pD (fun W R z9 => ?_) ?_
   ·refine qj (qC [arv] qW qH rfl rfl (Rd.ownN [] rfl rfl) ?_)
    exact ⟨rfl, rfl, rfl⟩
   refine pD (fun W R z9 => ?_) ?_
   ·refine qj (qm (tv) rfl ?_)
    exact ⟨rfl, rfl, rfl⟩
   refine pD (fun W R z9 => ?_) ?_
   ·refine qj (qm (ii ((p : Int))) rfl ?_)
    exact ⟨rfl, rfl, rfl⟩
   refine pD (fun W R z9 => ?_) ?_
   ·rw [eS (l := [(1, _), (2, _)]) ⟨z9 1 rfl, z9 2 rfl, ⟨⟩⟩]
    refine qj (qx p qf qE rfl rfl rfl ht.slv (by omega) (Nat.mul_one _) ?_)
    exact ⟨rfl, rfl, rfl⟩
   refine pD (fun W R z9 => ?_) ?_
   ·rw [eS (l := [(3, _)]) ⟨z9 3 rfl, ⟨⟩⟩]
    refine qj (qi qS rfl (ht.rd (by omega)) ?_)
    exact ⟨rfl, rfl, rfl⟩
   exact stepsP.nil
  intro W hphi
  rw [eS (l := [(0, _), (4, _)]) ⟨(hphi 0 (by decide)), (hphi 4 (by decide)), ⟨⟩⟩]
  show XL _ _ _ _ _ _ _ (cellsH b1 [arv] 31 :: L)
  refine cX (ql (args := [.agg #[arv], ii (t.getD p 0)]) call175 rfl (l1Arity_spec (n := t.getD p 0) har (hla := (by first | assumption | rfl | omega | simp))) ?_)
  rintro _ _ _ _ ⟨rfl, rfl, rfl⟩
  refine qg (ii (sArity ar (t.getD p 0))) rfl (qb (qc (qc (qa (qd (ii (sArity ar (t.getD p 0))) rfl (cX (qI rfl rfl (qb ?_))))))))
  refine qv (p := (sArity ar (t.getD p 0) : Int) < 0) rfl (fun h2 => ?_) (fun h2 => ?_)
  ·rw [sArity_neg hs] at h2
   refine qc (qa (qg (ii (-1)) rfl (qb (qq (qh (qu (qh (qh (qu (qh (qn (L' := L) [ii (-1)] (ii (-1)) (.tmp rfl .nil) rfl rF rF (sD sR) ?_)))))))))))
   exact ⟨(vI (by unfold sEndZ; rw [hi, sEndGo_none (by omega) (by omega)]; rfl)), rfl, rfl⟩
  have hA : -24 ≤ t.getD p 0 ∧ t.getD p 0 < ar.length := by rw [sArity_neg hs] at h2; omega
  have hB := arity_le hs hA.2
  have hC := sArity_eq hA
  refine qw (qc (qa (qd (ii ((k : Int))) rfl (qd (ii (sArity ar (t.getD p 0))) rfl (cX (qG (((k + (arity ar (t.getD p 0)).toNat : Nat) : Int)) rfl rfl (by omega) (by omega) (cX (jg (((k - 1 + (arity ar (t.getD p 0)).toNat : Nat) : Int)) rfl rfl (by omega) (by omega) (qg (ii (((k - 1 + (arity ar (t.getD p 0)).toNat : Nat) : Int))) rfl (qb (qc (qa (qd (ii (((k - 1 + (arity ar (t.getD p 0)).toNat : Nat) : Int))) rfl (cX (XOp.eql rfl rfl (qb ?_))))))))))))))))
  refine qv (p := (((k - 1 + (arity ar (t.getD p 0)).toNat : Nat) : Int) : Int) = 0) rfl (fun h3 => ?_) (fun h3 => ?_)
  ·refine qc (qa (qd (ii ((p : Int))) rfl (cX (qG (((p + 1 : Nat) : Int)) rfl rfl (by omega) (by omega) (qg (ii (((p + 1 : Nat) : Int))) rfl (qb (qq (qu (qh (qh (qu (qh (qn (L' := L) [ii (((p + 1 : Nat) : Int))] (ii (((p + 1 : Nat) : Int))) (.tmp rfl .nil) rfl rF rF (sD sR) ?_)))))))))))))
   exact ⟨(vI (by have hz := sEndGo_step (ar := ar) (t := t) (p := p) (k := k) (by omega) (by omega) hA; rw [show k - 1 + (arity ar (t.getD p 0)).toNat = 0 from by omega] at hz; unfold sEndZ; rw [hi, hz]; simp [sEndGo]; omega)), rfl, rfl⟩
  refine qw (qa (qd (ii ((p : Int))) rfl (cX (qG (((p + 1 : Nat) : Int)) rfl rfl (by omega) (by omega) (qg (ii (((p + 1 : Nat) : Int))) rfl (qb ?_))))))
  exact ⟨(k - 1 + (arity ar (t.getD p 0)).toNat, p + 1), _, FLe.refl _, rF, ⟨rfl, rfl, rfl, rfl, ⟨⟩⟩, (sC sR), ⟨rfl, (by rw [hi, sEndGo_step (by omega) (by omega) (by omega), Option.map_map]; congr 1; funext e; simp; omega), (by omega), (by omega)⟩, (by omega)⟩
 refine qX (qr (qr (qJ (qc (qa (qg (ii (-1)) rfl (qb (qq (qn (L' := L) [ii (-1)] (ii (-1)) (.tmp rfl .nil) rfl rF rF (sD sR) ?_)))))))))
 exact ⟨(vI (by unfold sEndZ; rw [hi, sEndGo_none (by omega) (by omega)]; rfl)), rfl, rfl⟩

/- impl.TermOk -/
theorem TermOk_spec {F : FH} {L : List HP} {arv : Value} {ar : List Int} (har : IntsF F arv ar) {tv : Value} {t : List Int} (ht : IntsF F tv t) :
    Does prog 109 [.agg #[arv], tv] F (L) (fun v F' L' => (.bool (termOk ar t) : Value) = v ∧ F = F' ∧ L = L') := by
 refine qB func109 rfl rfl rfl (qc (qa (cX (qP [arv] rfl rfl ?_))))
 intro b1
 refine qg (.bool (false)) rfl (qb (qc (qa (cX (qC [arv] qW qH rfl rfl (Rd.ownN [] rfl rfl) (cX (ql (args := [.agg #[arv]]) call91 rfl (SigOk_spec har) ?_)))))))
 rintro _ _ _ _ ⟨rfl, rfl, rfl⟩
 refine qd (.bool (sigOk ar)) rfl ?_
 by_cases h1 : (sigOk ar) = true
 ·refine qo (t := 7) rfl (vB h1) (qm (tv) rfl (qo (t := 7) rfl (vB h1) (qy qf rfl ht.slv (qo (t := 7) rfl (vB h1) (jt rfl rfl (cX (qM (.bool (decide (((t.length : Int) : Int) > 0))) (vB h1) rfl (qd (.bool (decide (((t.length : Int) : Int) > 0))) rfl ?_))))))))
  by_cases h2 : ((t.length : Int) : Int) > 0
  ·refine qo (t := 12) rfl (vT h2) (qm (tv) rfl (qo (t := 12) rfl (vT h2) (qy qf rfl ht.slv (qo (t := 12) rfl (vT h2) (XOp.leq rfl rfl (cX (qM (.bool (decide (((t.length : Int) : Int) ≤ 60))) (vT h2) rfl (qd (.bool (decide (((t.length : Int) : Int) ≤ 60))) rfl ?_))))))))
   by_cases h3 : ((t.length : Int) : Int) ≤ 60
   ·refine qo (t := 17) rfl (vT h3) (qm (tv) rfl (qo (t := 17) rfl (vT h3) (ql (args := [tv]) call178 rfl (Min_spec ht (h1 := (by first | assumption | rfl | omega | simp)) (hbd := (by first | assumption | rfl | omega | simp))) ?_)))
    rintro _ _ _ _ ⟨rfl, rfl, rfl⟩
    refine qo (t := 17) rfl (vT h3) (XOp.geq rfl rfl (cX (qM (.bool (decide ((minL t : Int) ≥ -24))) (vT h3) rfl (qd (.bool (decide ((minL t : Int) ≥ -24))) rfl ?_))))
    by_cases h4 : (minL t : Int) ≥ -24
    ·refine qo (t := 22) rfl (vT h4) (qC [arv] qW qH rfl rfl (Rd.ownN [] rfl rfl) (qo (t := 22) rfl (vT h4) (qm (tv) rfl (qo (t := 22) rfl (vT h4) (ql (args := [.agg #[arv], tv, ii ((0 : Nat) : Int)]) call112 rfl (endAt_spec (p := 0) har ht (hs := (by first | assumption | rfl | omega | simp)) (hb := (by first | assumption | rfl | omega | simp)) (hp := (by first | assumption | rfl | omega | simp))) ?_)))))
     rintro _ _ _ _ ⟨rfl, rfl, rfl⟩
     refine qo (t := 22) rfl (vT h4) (qm (tv) rfl (qo (t := 22) rfl (vT h4) (qy qf rfl ht.slv (qo (t := 22) rfl (vT h4) (XOp.eql rfl rfl (cX (qM (.bool (decide ((endZ ar t 0 : Int) = (t.length : Int)))) (vT h4) rfl (qg (.bool (decide ((endZ ar t 0 : Int) = (t.length : Int)))) rfl (qb (qq (qn (L' := L) [.bool (decide ((endZ ar t 0 : Int) = (t.length : Int)))] (.bool (decide ((endZ ar t 0 : Int) = (t.length : Int)))) (.tmp rfl .nil) rfl rF rF (sD sR) ?_)))))))))))
     exact ⟨(vB (termOk_of (by assumption) (by omega) (by omega) (by omega))), rfl, rfl⟩
    refine qp (t := 22) rfl (vF h4) (qp (t := 22) rfl (vF h4) (qp (t := 22) rfl (vF h4) (qp (t := 22) rfl (vF h4) (qp (t := 22) rfl (vF h4) (qp (t := 22) rfl (vF h4) (cX (qL (.bool (false)) (vF h4) rfl (qg (.bool (false)) rfl (qb (qq (qn (L' := L) [.bool (false)] (.bool (false)) (.tmp rfl .nil) rfl rF rF (sD sR) ?_)))))))))))
    exact ⟨(vB (by first | (refine termOk_nosig ?_; assumption) | (refine termOk_short ?_; omega) | (refine termOk_min ?_ ?_ <;> omega))), rfl, rfl⟩
   refine qp (t := 17) rfl (vF h3) (qp (t := 17) rfl (vF h3) (qp (t := 17) rfl (vF h3) (cX (qL (.bool (false)) (vF h3) rfl (qd (.bool (false)) rfl (qp (t := 22) rfl rfl (qp (t := 22) rfl rfl (qp (t := 22) rfl rfl (qp (t := 22) rfl rfl (qp (t := 22) rfl rfl ?_))))))))))
   refine qp (t := 22) rfl rfl (cX (qL (.bool (false)) rfl rfl (qg (.bool (false)) rfl (qb (qq (qn (L' := L) [.bool (false)] (.bool (false)) (.tmp rfl .nil) rfl rF rF (sD sR) ?_))))))
   exact ⟨(vB (by first | (refine termOk_nosig ?_; assumption) | (refine termOk_short ?_; omega) | (refine termOk_min ?_ ?_ <;> omega))), rfl, rfl⟩
  refine qp (t := 12) rfl (vF h2) (qp (t := 12) rfl (vF h2) (qp (t := 12) rfl (vF h2) (cX (qL (.bool (false)) (vF h2) rfl (qd (.bool (false)) rfl (qp (t := 17) rfl rfl (qp (t := 17) rfl rfl (qp (t := 17) rfl rfl (cX (qL (.bool (false)) rfl rfl (qd (.bool (false)) rfl ?_)))))))))))
  refine qp (t := 22) rfl rfl (qp (t := 22) rfl rfl (qp (t := 22) rfl rfl (qp (t := 22) rfl rfl (qp (t := 22) rfl rfl (qp (t := 22) rfl rfl (cX (qL (.bool (false)) rfl rfl (qg (.bool (false)) rfl (qb (qq (qn (L' := L) [.bool (false)] (.bool (false)) (.tmp rfl .nil) rfl rF rF (sD sR) ?_)))))))))))
  exact ⟨(vB (by first | (refine termOk_nosig ?_; assumption) | (refine termOk_short ?_; omega) | (refine termOk_min ?_ ?_ <;> omega))), rfl, rfl⟩
 rw [Bool.not_eq_true] at h1
 refine qp (t := 7) rfl (vB h1) (qp (t := 7) rfl (vB h1) (qp (t := 7) rfl (vB h1) (cX (qL (.bool (false)) (vB h1) rfl (qd (.bool (false)) rfl (qp (t := 12) rfl rfl (qp (t := 12) rfl rfl (qp (t := 12) rfl rfl (cX (qL (.bool (false)) rfl rfl (qd (.bool (false)) rfl ?_)))))))))))
 refine qp (t := 17) rfl rfl (qp (t := 17) rfl rfl (qp (t := 17) rfl rfl (cX (qL (.bool (false)) rfl rfl (qd (.bool (false)) rfl (qp (t := 22) rfl rfl (qp (t := 22) rfl rfl (qp (t := 22) rfl rfl (qp (t := 22) rfl rfl (qp (t := 22) rfl rfl ?_))))))))))
 refine qp (t := 22) rfl rfl (cX (qL (.bool (false)) rfl rfl (qg (.bool (false)) rfl (qb (qq (qn (L' := L) [.bool (false)] (.bool (false)) (.tmp rfl .nil) rfl rF rF (sD sR) ?_))))))
 exact ⟨(vB (by first | (refine termOk_nosig ?_; assumption) | (refine termOk_short ?_; omega) | (refine termOk_min ?_ ?_ <;> omega))), rfl, rfl⟩

/- spec.TermOk -/
theorem sTermOk_spec {F : FH} {L : List HP} {arv : Value} {ar : List Int} (har : IntsF F arv ar) {tv : Value} {t : List Int} (ht : IntsF F tv t) (hla : ar.length ≤ 4000000) (hlt : t.length ≤ 4000000) :
    Does prog 100 [.agg #[arv], tv] F (L) (fun v F' L' => (.bool (termOk ar t) : Value) = v ∧ F = F' ∧ L = L') := by
 refine qB func100 rfl rfl rfl (qc (qa (cX (qP [arv] rfl rfl ?_))))
 intro b1
 refine qg (.bool (false)) rfl (qb (qc (qa (cX (qC [arv] qW qH rfl rfl (Rd.ownN [] rfl rfl) (cX (ql (args := [.agg #[arv]]) call72 rfl (sSigOk_spec har (hla := (by first | assumption | rfl | omega | simp))) ?_)))))))
 rintro _ _ _ _ ⟨rfl, rfl, rfl⟩
 refine qd (.bool (sigOk ar)) rfl ?_
 by_cases h1 : (sigOk ar) = true
 ·refine qo (t := 7) rfl (vB h1) (qm (tv) rfl (qo (t := 7) rfl (vB h1) (qy qf rfl ht.slv (qo (t := 7) rfl (vB h1) (ql (args := [ii ((t.length : Int)), ii (1), ii (60)]) call41 rfl (l1In_spec (n := (t.length : Int)) (a := 1) (b := 60)) ?_)))))
  rintro _ _ _ _ ⟨rfl, rfl, rfl⟩
  refine cX (qM (.bool (decide (1 ≤ ((t.length : Int)) ∧ ((t.length : Int)) ≤ 60))) (vB h1) rfl (qd (.bool (decide (1 ≤ ((t.length : Int)) ∧ ((t.length : Int)) ≤ 60))) rfl ?_))
  by_cases h2 : 1 ≤ ((t.length : Int)) ∧ ((t.length : Int)) ≤ 60
  ·refine qo (t := 12) rfl (vT h2) (qC [arv] qW qH rfl rfl (Rd.ownN [] rfl rfl) (qo (t := 12) rfl (vT h2) (qm (tv) rfl (qo (t := 12) rfl (vT h2) (ql (args := [.agg #[arv], tv, ii ((0 : Nat) : Int)]) call102 rfl (l1End_spec (p0 := 0) har ht (hs := (by first | assumption | rfl | omega | simp)) (hlt := (by first | assumption | rfl | omega | simp)) (hp := (by first | assumption | rfl | omega | simp))) ?_)))))
   rintro _ _ _ _ ⟨rfl, rfl, rfl⟩
   refine qo (t := 12) rfl (vT h2) (qm (tv) rfl (qo (t := 12) rfl (vT h2) (qy qf rfl ht.slv (qo (t := 12) rfl (vT h2) (XOp.eql rfl rfl (cX (qM (.bool (decide ((sEndZ ar t 0 : Int) = (t.length : Int)))) (vT h2) rfl (qg (.bool (decide ((sEndZ ar t 0 : Int) = (t.length : Int)))) rfl (qb (qq (qn (L' := L) [.bool (decide ((sEndZ ar t 0 : Int) = (t.length : Int)))] (.bool (decide ((sEndZ ar t 0 : Int) = (t.length : Int)))) (.tmp rfl .nil) rfl rF rF (sD sR) ?_)))))))))))
   exact ⟨(vB (termOk_s (by assumption) (by omega))), rfl, rfl⟩
  refine qp (t := 12) rfl (vF h2) (qp (t := 12) rfl (vF h2) (qp (t := 12) rfl (vF h2) (qp (t := 12) rfl (vF h2) (qp (t := 12) rfl (vF h2) (qp (t := 12) rfl (vF h2) (cX (qL (.bool (false)) (vF h2) rfl (qg (.bool (false)) rfl (qb (qq (qn (L' := L) [.bool (false)] (.bool (false)) (.tmp rfl .nil) rfl rF rF (sD sR) ?_)))))))))))
  exact ⟨(vB (by first | (refine termOk_nosig ?_; assumption) | (refine termOk_short ?_; omega))), rfl, rfl⟩
 rw [Bool.not_eq_true] at h1
 refine qp (t := 7) rfl (vB h1) (qp (t := 7) rfl (vB h1) (qp (t := 7) rfl (vB h1) (cX (qL (.bool (false)) (vB h1) rfl (qd (.bool (false)) rfl (qp (t := 12) rfl rfl (qp (t := 12) rfl rfl (qp (t := 12) rfl rfl (qp (t := 12) rfl rfl (qp (t := 12) rfl rfl ?_))))))))))
 refine qp (t := 12) rfl rfl (cX (qL (.bool (false)) rfl rfl (qg (.bool (false)) rfl (qb (qq (qn (L' := L) [.bool (false)] (.bool (false)) (.tmp rfl .nil) rfl rF rF (sD sR) ?_))))))
 exact ⟨(vB (by first | (refine termOk_nosig ?_; assumption) | (refine termOk_short ?_; omega))), rfl, rfl⟩

theorem endAt_ok {F : FH} {L : List HP} {p : Nat} {arv : Value} {ar : List Int} (har : IntsF F arv ar) {tv : Value} {t : List Int} (ht : IntsF F tv t) (ho : termOk ar t = true) (hp : p < t.length) :
    Does prog 112 [.agg #[arv], tv, ii (p : Int)] F L (fun v F' L' => (ii ((endN ar t p : Nat) : Int) : Value) = v ∧ F = F' ∧ L = L') := by
  have hl := termOk_len ho
  have h := endAt_spec (F := F) (L := L) (p := p) har ht (termOk_sig ho) (by omega) (by omega)
  rw [endZ_endN ho hp] at h
  exact h

theorem l1End_ok {F : FH} {L : List HP} {p : Nat} {arv : Value} {ar : List Int} (har : IntsF F arv ar) {tv : Value} {t : List Int} (ht : IntsF F tv t) (ho : termOk ar t = true) (hp : p < t.length) :
    Does prog 102 [.agg #[arv], tv, ii (p : Int)] F L (fun v F' L' => (ii ((endN ar t p : Nat) : Int) : Value) = v ∧ F = F' ∧ L = L') := by
  have hl := termOk_len ho
  have h := l1End_spec (F := F) (L := L) (p0 := p) har ht (termOk_sig ho) (by omega) (by omega)
  rw [sEndZ_endN ho hp] at h
  exact h


/- impl.subAt -/
theorem subAt_spec {F : FH} {L : List HP} {arv : Value} {ar : List Int} (har : IntsF F arv ar) {tv : Value} {t : List Int} (ht : IntsF F tv t) {p : Nat} (ho : termOk ar t = true) (hp : p < t.length) (hnn : isNil tv = false) :
    Does prog 55 [.agg #[arv], tv, ii ((p : Int))] F (L) (fun v F' L' => F = F' ∧ L = L' ∧ IntsF F v (sub ar t p) ∧ isNil v = false) := by
 refine qB func55 rfl rfl rfl ?_
 have hsl := sigOk_spec (termOk_sig ho)
 have htl := termOk_len ho
 have hsig := termOk_sig ho
 have hee := endN_spec ho hp
 refine qc (qa (cX (qP [arv] rfl rfl ?_)))
 intro b1
 refine qg (sN) rfl (qb (qc (qa (qd (tv) rfl (qd (ii ((p : Int))) rfl (cX (qC [arv] qW qH rfl rfl (Rd.ownN [] rfl rfl) (qd (tv) rfl (qd (ii ((p : Int))) rfl (cX (ql (args := [.agg #[arv], tv, ii (p : Int)]) call112 rfl (endAt_ok (p := p) har ht (ho := (by first | assumption | rfl | omega | (left; simp; done) | (right; simp; done))) (hp := (by first | assumption | rfl | omega | (left; simp; done) | (right; simp; done)))) ?_)))))))))))
 rintro _ _ _ _ ⟨rfl, rfl, rfl⟩
 refine cX (jw p (endN ar t p) qf qE rfl ht ⟨_, rfl⟩ ⟨_, rfl⟩ (by omega) (by omega) ?_)
 intro v1 hv1 hn1
 refine qg (v1) rfl (qb (qq (qn (L' := L) [v1] (v1) (.tmp rfl .nil) rfl rF rF (sD sR) ?_)))
 exact ⟨rfl, rfl, hv1, by rw [hn1]; exact hnn⟩

/- spec.l1Copy -/
theorem l1Copy_spec {F : FH} {L : List HP} {tv : Value} {t : List Int} (ht : IntsF F tv t) (hlt : t.length ≤ 4000000) :
    Does prog 42 [tv] F (L) (fun v F' L' => F = F' ∧ IsSl v ∧ intsH 2 v t :: L = L') := by
 refine qB func42 rfl rfl rfl (qc (qa (qg (sN) rfl (qb (qc (qa (cX (qU (s := 1) [] [ii (0)] [] qf qE jl rfl (by decide) rfl CellsAre.nil rfl ?_))))))))
 intro v1 hv1
 refine qd (tv) rfl ?_
 show XL _ _ _ _ _ _ _ (intsH 2 v1 ([] : List Int) :: L)
 refine cX (XOp.appendI [] _ qf typeInfo2 rfl rfl rfl rfl rfl rfl ht (by (try simp only [List.length_append, List.length_nil, List.length_cons, List.length_singleton, List.length_take, List.length_drop]); omega) ?_)
 intro v2 hs1 hn1 hm1
 refine qg (v2) rfl (qb (qq (qn (L' := intsH 2 v2 (([] : List Int) ++ t) :: L) [v2] (v2) (.tmp rfl .nil) rfl rF rF (sC sR) ?_)))
 refine ⟨rfl, hs1, ?_⟩
 have hxs : (t : List Int) = ([] : List Int) ++ t := by simp
 exact congrArg (fun z => intsH 2 _ z :: L) hxs

/- slices.Clone[[]int64,int64] -/
theorem Clone_spec {F : FH} {L : List HP} {tv : Value} {t : List Int} (ht : IntsF F tv t) (hlt : t.length ≤ 4000000) :
    Does prog 53 [tv] F (L) (fun v F' L' => F = F' ∧ IsSl v ∧ intsH 2 v t :: L = L') := by
 refine qB func53 rfl rfl rfl (qc (qa (qg (sN) rfl (qb (qc (qc (qa (qd (tv) rfl (cX (XOp.eqNil qf rfl rfl (qT ht) (qb ?_)))))))))))
 refine X.cond (t := isNil tv) rfl (fun h1 => ?_) (fun h1 => ?_)
 ·refine qc (qa (qg (sN) rfl (qb (qq (qh (qn (L' := intsH 2 (sN) ([]) :: L) [sN] (sN) (.tmp rfl .nil) rfl rF rF (Sub.trans (intsH.addNil 2 none _) (sC sR)) ?_))))))
  refine ⟨rfl, ⟨_, _, _, rfl⟩, ?_⟩
  have hxs : (t : List Int) = [] := by exact nil_of_isNil ht h1
  exact congrArg (fun z => intsH 2 _ z :: L) hxs
 refine qw (qc (qa (cX (qU (s := 1) [] [ii (0)] [] qf qE jl rfl (by decide) rfl CellsAre.nil rfl ?_))))
 intro v1 hv1
 refine qd (tv) rfl ?_
 show XL _ _ _ _ _ _ _ (intsH 2 v1 ([] : List Int) :: L)
 refine cX (XOp.appendI [] _ qf typeInfo2 rfl rfl rfl rfl rfl rfl ht (by (try simp only [List.length_append, List.length_nil, List.length_cons, List.length_singleton, List.length_take, List.length_drop]); omega) ?_)
 intro v2 hs1 hn1 hm1
 refine qg (v2) rfl (qb (qq (qn (L' := intsH 2 v2 (([] : List Int) ++ t) :: L) [v2] (v2) (.tmp rfl .nil) rfl rF rF (sC sR) ?_)))
 refine ⟨rfl, hs1, ?_⟩
 have hxs : (t : List Int) = ([] : List Int) ++ t := by simp
 exact congrArg (fun z => intsH 2 _ z :: L) hxs

/- spec.l1Sub -/
theorem l1Sub_spec {F : FH} {L : List HP} {arv : Value} {ar : List Int} (har : IntsF F arv ar) {tv : Value} {t : List Int} (ht : IntsF F tv t) {p : Nat} (ho : termOk ar t = true) (hp : p < t.length) :
    Does prog 44 [.agg #[arv], tv, ii ((p : Int))] F (L) (fun v F' L' => F = F' ∧ IsSl v ∧ intsH 2 v (sub ar t p) :: L = L') := by
 refine qB func44 rfl rfl rfl ?_
 have hsl := sigOk_spec (termOk_sig ho)
 have htl := termOk_len ho
 have hsig := termOk_sig ho
 have hee := endN_spec ho hp
 refine qc (qa (cX (qP [arv] rfl rfl ?_)))
 intro b1
 refine qg (sN) rfl (qb (qc (qa (qd (tv) rfl (qd (ii ((p : Int))) rfl (cX (qC [arv] qW qH rfl rfl (Rd.ownN [] rfl rfl) (qd (tv) rfl (qd (ii ((p : Int))) rfl (cX (ql (args := [.agg #[arv], tv, ii (p : Int)]) call102 rfl (l1End_ok (p := p) har ht (ho := (by first | assumption | rfl | omega | (left; simp; done) | (right; simp; done))) (hp := (by first | assumption | rfl | omega | (left; simp; done) | (right; simp; done)))) ?_)))))))))))
 rintro _ _ _ _ ⟨rfl, rfl, rfl⟩
 refine cX (jw p (endN ar t p) qf qE rfl ht ⟨_, rfl⟩ ⟨_, rfl⟩ (by omega) (by omega) ?_)
 intro v1 hv1 hn1
 refine cX (ql (args := [v1]) call42 rfl (l1Copy_spec hv1 (hlt := (by rw [List.length_take, List.length_drop]; omega))) ?_)
 rintro v2 _ _ _ ⟨rfl, hs1, rfl⟩
 refine qg (v2) rfl (qb (qq (qn (L' := intsH 2 v2 (((((t.drop p).take ((endN ar t p) - p))))) :: L) [v2] (v2) (.tmp rfl .nil) rfl rF rF (sC (sD sR)) ?_)))
 refine ⟨rfl, hs1, ?_⟩
 have hxs : (sub ar t p : List Int) = ((((t.drop p).take ((endN ar t p) - p)))) := rfl
 exact congrArg (fun z => intsH 2 _ z :: L) hxs

/- impl.RuleOk -/
theorem RuleOk_spec {F : FH} {L : List HP} {arv : Value} {ar : List Int} (har : IntsF F arv ar) {lv : Value} {l : List Int} (hl : IntsF F lv l) {rv : Value} {r : List Int} (hr : IntsF F rv r) :
    Does prog 165 [.agg #[arv], .agg #[lv, rv]] F (L) (fun v F' L' => (.bool (ruleOk ar l r) : Value) = v ∧ F = F' ∧ L = L') := by
 refine qB func165 rfl rfl rfl (qc (qa (cX (qP [arv] rfl rfl ?_))))
 intro b1
 refine cX (qP [lv, rv] rfl rfl ?_)
 intro b2
 refine qg (.bool (false)) rfl (qb (qc (qc (qa (cX (qC [arv] qW qH rfl rfl (Rd.ownN [_] rfl rfl) (cX (qk (0) jk rfl qA (by decide) rfl rfl (cX (qi qK rfl (Rd.own [] rfl rfl) (cX (ql (args := [.agg #[arv], lv]) call109 rfl (TermOk_spec har hl) ?_))))))))))))
 rintro _ _ _ _ ⟨rfl, rfl, rfl⟩
 refine cX (jn rfl (qd (.bool (!(termOk ar l))) rfl ?_))
 by_cases h1 : (!(termOk ar l)) = true
 ·refine qp (t := 12) rfl (vB h1) (qp (t := 12) rfl (vB h1) (qp (t := 12) rfl (vB h1) (qp (t := 12) rfl (vB h1) (qp (t := 12) rfl (vB h1) (cX (qM (.bool (true)) (vB h1) rfl (qd (.bool (true)) rfl (qp (t := 19) rfl rfl (qp (t := 19) rfl rfl (qp (t := 19) rfl rfl ?_))))))))))
  refine qp (t := 19) rfl rfl (qp (t := 19) rfl rfl (cX (qM (.bool (true)) rfl rfl (qb (jr rfl (qc (qa (qg (.bool (false)) rfl (qb (qq (qh (qn (L' := L) [.bool (false)] (.bool (false)) (.tmp rfl .nil) rfl rF rF (sD (sD sR)) ?_))))))))))))
  exact ⟨(vB (ruleOk_false (fun h => by have := h.left; have := h.right; have := h.head; simp_all <;> omega))), rfl, rfl⟩
 rw [Bool.not_eq_true] at h1
 have hlo : termOk ar l = true := by simpa using h1
 have hl60 := termOk_len hlo
 refine qo (t := 12) rfl (vB h1) (qC [arv] qW qH rfl rfl (Rd.ownN [_] rfl rfl) (qo (t := 12) rfl (vB h1) (qk (1) jk rfl qA (by decide) rfl rfl (qo (t := 12) rfl (vB h1) (qi qK rfl (Rd.own [] rfl rfl) (qo (t := 12) rfl (vB h1) (ql (args := [.agg #[arv], rv]) call109 rfl (TermOk_spec har hr) ?_)))))))
 rintro _ _ _ _ ⟨rfl, rfl, rfl⟩
 refine qo (t := 12) rfl (vB h1) (jn rfl (cX (qL (.bool (!(termOk ar r))) (vB h1) rfl (qd (.bool (!(termOk ar r))) rfl ?_))))
 by_cases h2 : (!(termOk ar r)) = true
 ·refine qp (t := 19) rfl (vB h2) (qp (t := 19) rfl (vB h2) (qp (t := 19) rfl (vB h2) (qp (t := 19) rfl (vB h2) (qp (t := 19) rfl (vB h2) (cX (qM (.bool (true)) (vB h2) rfl (qb (jr rfl (qc (qa (qg (.bool (false)) rfl ?_)))))))))))
  refine qb (qq (qh (qn (L' := L) [.bool (false)] (.bool (false)) (.tmp rfl .nil) rfl rF rF (sD (sD sR)) ?_)))
  exact ⟨(vB (ruleOk_false (fun h => by have := h.left; have := h.right; have := h.head; simp_all <;> omega))), rfl, rfl⟩
 rw [Bool.not_eq_true] at h2
 have hro : termOk ar r = true := by simpa using h2
 have hr60 := termOk_len hro
 refine qo (t := 19) rfl (vB h2) (qk (0) jk rfl qA (by decide) rfl rfl (qo (t := 19) rfl (vB h2) (qi qK rfl (Rd.own [] rfl rfl) (qo (t := 19) rfl (vB h2) (qx 0 qf qE rfl rfl rfl hl.slv (by omega) (Nat.mul_one _) (qo (t := 19) rfl (vB h2) (qi qS rfl (hl.rd (by omega)) (qo (t := 19) rfl (vB h2) (qI rfl rfl (cX (qL (.bool (decide ((l.getD 0 0 : Int) < 0))) (vB h2) rfl (qb ?_))))))))))))
 refine qv (p := (l.getD 0 0 : Int) < 0) rfl (fun h3 => ?_) (fun h3 => ?_)
 ·refine qc (qa (qg (.bool (false)) rfl (qb (qq (qh (qn (L' := L) [.bool (false)] (.bool (false)) (.tmp rfl .nil) rfl rF rF (sD (sD sR)) ?_))))))
  exact ⟨(vB (ruleOk_false (fun h => by have := h.left; have := h.right; have := h.head; simp_all <;> omega))), rfl, rfl⟩
 refine qw (qc (qc (qa (cX (qk (1) jk rfl qA (by decide) rfl rfl (cX (qi qK rfl (Rd.own [] rfl rfl) (cX (qy qf rfl hr.slv (qd (ii (0)) rfl (qb (qF (ja (α := Nat) (fun k => [(3, ptr b2 0), (27, rv), (28, ii ((r.length : Int))), (29, ii ((k : Int)))]) (fun k => cellsH b2 [lv, rv] 136 :: cellsH b1 [arv] 31 :: L) (fun k F' => F = F' ∧ (k ≤ r.length) ∧ (∀ i, i < k → r.getD i 0 < 0 → r.getD i 0 ∈ l)) (fun k => r.length - k) 0 ⟨rfl, rfl, rfl, rfl, ⟨⟩⟩ (sC (sC sR)) ⟨rfl, (by omega), (fun i hi => absurd hi (by omega))⟩ ?_)))))))))))))
 rintro k rE _ _ ⟨rfl, hk, hall⟩
 show X _ _ _ _ (envs [(3, ptr b2 0), (27, rv), (28, ii ((r.length : Int))), (29, ii ((k : Int)))] rE) _ (cellsH b2 [lv, rv] 136 :: cellsH b1 [arv] 31 :: L)
 refine qc (qa (cX (qI rfl rfl (qb (qc ?_)))))
 refine qv (p := (k : Int) < (r.length : Int)) rfl (fun h4 => ?_) (fun h4 => ?_)
 ·refine qw (qc (qF (qc (qa (cX (qx k qf qE rfl rfl rfl hr.slv (by omega) (Nat.mul_one _) (cX (qi qS rfl (hr.rd (by omega)) (qg (ii (r.getD k 0)) rfl (qb (qc (qa (qd (ii (r.getD k 0)) rfl (cX (qI rfl rfl (qd (.bool (decide ((r.getD k 0 : Int) < 0))) rfl ?_))))))))))))))))
  by_cases h5 : (r.getD k 0 : Int) < 0
  ·refine qo (t := 35) rfl (vT h5) (qk (0) jk rfl qA (by decide) rfl rfl (qo (t := 35) rfl (vT h5) (qi qK rfl (Rd.own [] rfl rfl) (qo (t := 35) rfl (vT h5) (qm (ii (r.getD k 0)) rfl (qo (t := 35) rfl (vT h5) (ql (args := [lv, ii (r.getD k 0)]) call131 rfl (Contains_spec (n := r.getD k 0) hl (hbd := (by first | assumption | rfl | omega | simp))) ?_)))))))
   rintro _ _ _ _ ⟨rfl, rfl, rfl⟩
   refine qo (t := 35) rfl (vT h5) (jo rfl (cX (qM (.bool (decide (¬((r.getD k 0) ∈ l)))) (vT h5) rfl (qb ?_))))
   refine qv (p := ¬((r.getD k 0) ∈ l)) rfl (fun h6 => ?_) (fun h6 => ?_)
   ·refine qc (qa (qg (.bool (false)) rfl (qb (qq (qu (qh (qh (qu (qh (qn (L' := L) [.bool (false)] (.bool (false)) (.tmp rfl .nil) rfl rF rF (sD (sD sR)) ?_))))))))))
    exact ⟨(vB (ruleOk_false (fun h => by have := h.vars (r.getD k 0) (mem_of_getD (k := k) (by omega) rfl); simp_all))), rfl, rfl⟩
   refine qw (qa (cX (qG (((k + 1 : Nat) : Int)) rfl rfl (by omega) (by omega) (qd (ii (((k + 1 : Nat) : Int))) rfl (qb ?_)))))
   exact ⟨k + 1, _, FLe.refl _, rF, ⟨rfl, rfl, rfl, rfl, ⟨⟩⟩, (sC (sC sR)), ⟨rfl, (by omega), (fun i hi h0 => (Nat.lt_or_ge i k).elim (fun h => hall i h h0) (fun h => by obtain rfl : i = k := (by omega); first | assumption | (exfalso; omega) | simp_all))⟩, (by omega)⟩
  refine qp (t := 35) rfl (vF h5) (qp (t := 35) rfl (vF h5) (qp (t := 35) rfl (vF h5) (qp (t := 35) rfl (vF h5) (qp (t := 35) rfl (vF h5) (cX (qL (.bool (false)) (vF h5) rfl (qb (X.condF rfl (qw (qa (cX (qG (((k + 1 : Nat) : Int)) rfl rfl (by omega) (by omega) ?_))))))))))))
  refine qd (ii (((k + 1 : Nat) : Int))) rfl (qb ?_)
  exact ⟨k + 1, _, FLe.refl _, rF, ⟨rfl, rfl, rfl, rfl, ⟨⟩⟩, (sC (sC sR)), ⟨rfl, (by omega), (fun i hi h0 => (Nat.lt_or_ge i k).elim (fun h => hall i h h0) (fun h => by obtain rfl : i = k := (by omega); first | assumption | (exfalso; omega) | simp_all))⟩, (by omega)⟩
 refine qX (qr (qr (qJ (qc (qa (qg (.bool (true)) rfl (qb (qq (qn (L' := L) [.bool (true)] (.bool (true)) (.tmp rfl .nil) rfl rF rF (sD (sD sR)) ?_)))))))))
 exact ⟨(vB (ruleOk_iff.2 ⟨hlo, hro, by omega, fun n hn h0 => by obtain ⟨i, hi, rfl⟩ := List.getElem_of_mem hn; have := hall i (by omega); simp [List.getD, hi] at this; exact this h0⟩)), rfl, rfl⟩

/- spec.RuleOk -/
theorem sRuleOk_spec {F : FH} {L : List HP} {arv : Value} {ar : List Int} (har : IntsF F arv ar) {lv : Value} {l : List Int} (hl : IntsF F lv l) {rv : Value} {r : List Int} (hr : IntsF F rv r) (hla : ar.length ≤ 4000000) (hlb : l.length ≤ 4000000) (hlc : r.length ≤ 4000000) :
    Does prog 163 [.agg #[arv], .agg #[lv, rv]] F (L) (fun v F' L' => (.bool (ruleOk ar l r) : Value) = v ∧ F = F' ∧ L = L') := by
 refine qB func163 rfl rfl rfl (qc (qa (cX (qP [arv] rfl rfl ?_))))
 intro b1
 refine cX (qP [lv, rv] rfl rfl ?_)
 intro b2
 refine qg (.bool (false)) rfl (qb (qc (qc (qa (cX (qC [arv] qW qH rfl rfl (Rd.ownN [_] rfl rfl) (cX (qk (0) jk rfl qA (by decide) rfl rfl (cX (qi qK rfl (Rd.own [] rfl rfl) (cX (ql (args := [.agg #[arv], lv]) call100 rfl (sTermOk_spec har hl (hla := (by first | assumption | rfl | omega | simp)) (hlt := (by first | assumption | rfl | omega | simp))) ?_))))))))))))
 rintro _ _ _ _ ⟨rfl, rfl, rfl⟩
 refine cX (jn rfl (qd (.bool (!(termOk ar l))) rfl ?_))
 by_cases h1 : (!(termOk ar l)) = true
 ·refine qp (t := 11) rfl (vB h1) (qp (t := 11) rfl (vB h1) (qp (t := 11) rfl (vB h1) (qp (t := 11) rfl (vB h1) (qp (t := 11) rfl (vB h1) (cX (qM (.bool (true)) (vB h1) rfl (qd (.bool (true)) rfl (qp (t := 18) rfl rfl (qp (t := 18) rfl rfl (qp (t := 18) rfl rfl ?_))))))))))
  refine qp (t := 18) rfl rfl (qp (t := 18) rfl rfl (cX (qM (.bool (true)) rfl rfl (qb (jr rfl (qc (qa (qg (.bool (false)) rfl (qb (qq (qh (qn (L' := L) [.bool (false)] (.bool (false)) (.tmp rfl .nil) rfl rF rF (sD (sD sR)) ?_))))))))))))
  exact ⟨(vB (ruleOk_false (fun h => by have := h.left; have := h.right; have := h.head; simp_all <;> omega))), rfl, rfl⟩
 rw [Bool.not_eq_true] at h1
 have hlo : termOk ar l = true := by simpa using h1
 have hl60 := termOk_len hlo
 refine qo (t := 11) rfl (vB h1) (qC [arv] qW qH rfl rfl (Rd.ownN [_] rfl rfl) (qo (t := 11) rfl (vB h1) (qk (1) jk rfl qA (by decide) rfl rfl (qo (t := 11) rfl (vB h1) (qi qK rfl (Rd.own [] rfl rfl) (qo (t := 11) rfl (vB h1) (ql (args := [.agg #[arv], rv]) call100 rfl (sTermOk_spec har hr (hla := (by first | assumption | rfl | omega | simp)) (hlt := (by first | assumption | rfl | omega | simp))) ?_)))))))
 rintro _ _ _ _ ⟨rfl, rfl, rfl⟩
 refine qo (t := 11) rfl (vB h1) (jn rfl (cX (qL (.bool (!(termOk ar r))) (vB h1) rfl (qd (.bool (!(termOk ar r))) rfl ?_))))
 by_cases h2 : (!(termOk ar r)) = true
 ·refine qp (t := 18) rfl (vB h2) (qp (t := 18) rfl (vB h2) (qp (t := 18) rfl (vB h2) (qp (t := 18) rfl (vB h2) (qp (t := 18) rfl (vB h2) (cX (qM (.bool (true)) (vB h2) rfl (qb (jr rfl (qc (qa (qg (.bool (false)) rfl ?_)))))))))))
  refine qb (qq (qh (qn (L' := L) [.bool (false)] (.bool (false)) (.tmp rfl .nil) rfl rF rF (sD (sD sR)) ?_)))
  exact ⟨(vB (ruleOk_false (fun h => by have := h.left; have := h.right; have := h.head; simp_all <;> omega))), rfl, rfl⟩
 rw [Bool.not_eq_true] at h2
 have hro : termOk ar r = true := by simpa using h2
 have hr60 := termOk_len hro
 refine qo (t := 18) rfl (vB h2) (qk (0) jk rfl qA (by decide) rfl rfl (qo (t := 18) rfl (vB h2) (qi qK rfl (Rd.own [] rfl rfl) (qo (t := 18) rfl (vB h2) (qx 0 qf qE rfl rfl rfl hl.slv (by omega) (Nat.mul_one _) (qo (t := 18) rfl (vB h2) (qi qS rfl (hl.rd (by omega)) (qo (t := 18) rfl (vB h2) (qI rfl rfl (cX (qL (.bool (decide ((l.getD 0 0 : Int) < 0))) (vB h2) rfl (qb ?_))))))))))))
 refine qv (p := (l.getD 0 0 : Int) < 0) rfl (fun h3 => ?_) (fun h3 => ?_)
 ·refine qc (qa (qg (.bool (false)) rfl (qb (qq (qh (qn (L' := L) [.bool (false)] (.bool (false)) (.tmp rfl .nil) rfl rF rF (sD (sD sR)) ?_))))))
  exact ⟨(vB (ruleOk_false (fun h => by have := h.left; have := h.right; have := h.head; simp_all <;> omega))), rfl, rfl⟩
 refine qw (qc (qc (qa (qg (ii (0)) rfl (qb (qF (ja (α := Nat) (fun k => [(3, ptr b2 0), (5, ii ((k : Int)))]) (fun k => cellsH b2 [lv, rv] 136 :: cellsH b1 [arv] 31 :: L) (fun k F' => F = F' ∧ (k ≤ r.length) ∧ (∀ i, i < k → r.getD i 0 < 0 → r.getD i 0 ∈ l)) (fun k => r.length - k) 0 ⟨rfl, rfl, ⟨⟩⟩ (sC (sC sR)) ⟨rfl, (by omega), (fun i hi => absurd hi (by omega))⟩ ?_)))))))
 rintro k rE _ _ ⟨rfl, hk, hall⟩
 show X _ _ _ _ (envs [(3, ptr b2 0), (5, ii ((k : Int)))] rE) _ (cellsH b2 [lv, rv] 136 :: cellsH b1 [arv] 31 :: L)
 refine qc (qc (qa (qd (ii ((k : Int))) rfl (cX (qk (1) jk rfl qA (by decide) rfl rfl (cX (qi qK rfl (Rd.own [] rfl rfl) (cX (qy qf rfl hr.slv (cX (qI rfl rfl (qb ?_))))))))))))
 refine qv (p := (k : Int) < (r.length : Int)) rfl (fun h4 => ?_) (fun h4 => ?_)
 ·refine qw (qc (qF (qc ?_)))
  by_cases h5 : (r.getD k 0 : Int) < 0
  ·refine ju [cellsH b2 [lv, rv] 136, cellsH b1 [arv] 31] L 14 [] [[], [0], [], [1, 2], [3], [4], [5], [6], [6, 7], [6], [6, 9], [6], [6, 10, 11], [6, 12]] (phiL [qe (ptr b2 1), qe rv, qe (ii ((k : Int)) : Value), qe (.pointer (some (elemA rv (k)))), qe (ii (r.getD k 0)), qe (.bool (decide ((r.getD k 0 : Int) < 0)) : Value), qe (.bool (decide ((r.getD k 0 : Int) < 0)) : Value), qe (ptr b2 0), qe lv, qe (ptr b2 1), qe rv, qe (ii ((k : Int)) : Value), qe (.pointer (some (elemA rv (k)))), qe (ii (r.getD k 0))]) (ownL []) mixed rfl rfl (by kernel_rfl) ?_ ?_
   ·refine pD (fun W R z9 => ?_) ?_
    ·refine qj (qk (1) jk rfl qA (by decide) rfl rfl ?_)
     exact ⟨rfl, rfl, rfl⟩
    refine pD (fun W R z9 => ?_) ?_
    ·rw [eS (l := [(0, _)]) ⟨z9 0 rfl, ⟨⟩⟩]
     refine qj (qi qK rfl (Rd.own [] rfl rfl) ?_)
     exact ⟨rfl, rfl, rfl⟩
    refine pD (fun W R z9 => ?_) ?_
    ·refine qj (qm (ii ((k : Int))) rfl ?_)
     exact ⟨rfl, rfl, rfl⟩
    refine pD (fun W R z9 => ?_) ?_
    ·rw [eS (l := [(1, _), (2, _)]) ⟨z9 1 rfl, z9 2 rfl, ⟨⟩⟩]
     refine qj (qx k qf qE rfl rfl rfl hr.slv (by omega) (Nat.mul_one _) ?_)
     exact ⟨rfl, rfl, rfl⟩
    refine pD (fun W R z9 => ?_) ?_
    ·rw [eS (l := [(3, _)]) ⟨z9 3 rfl, ⟨⟩⟩]
     refine qj (qi qS rfl (hr.rd (by omega)) ?_)
     exact ⟨rfl, rfl, rfl⟩
    refine pD (fun W R z9 => ?_) ?_
    ·rw [eS (l := [(4, _)]) ⟨z9 4 rfl, ⟨⟩⟩]
     refine qj (qI rfl rfl ?_)
     exact ⟨rfl, rfl, rfl⟩
    refine pD (fun W R z9 => ?_) ?_
    ·rw [eS (l := [(5, _)]) ⟨z9 5 rfl, ⟨⟩⟩]
     refine qj (qm (.bool (decide ((r.getD k 0 : Int) < 0))) rfl ?_)
     exact ⟨rfl, rfl, rfl⟩
    refine pD (fun W R z9 => ?_) ?_
    ·rw [eS (l := [(6, _)]) ⟨z9 6 rfl, ⟨⟩⟩]
     refine qR (t := 38) rfl (vT h5) (qk (0) jk rfl qA (by decide) rfl rfl ?_)
     exact ⟨rfl, rfl, rfl⟩
    refine pD (fun W R z9 => ?_) ?_
    ·rw [eS (l := [(6, _), (7, _)]) ⟨z9 6 rfl, z9 7 rfl, ⟨⟩⟩]
     refine qR (t := 38) rfl (vT h5) (qi qK rfl (Rd.own [] rfl rfl) ?_)
     exact ⟨rfl, rfl, rfl⟩
    refine pD (fun W R z9 => ?_) ?_
    ·rw [eS (l := [(6, _)]) ⟨z9 6 rfl, ⟨⟩⟩]
     refine qR (t := 38) rfl (vT h5) (qk (1) jk rfl qA (by decide) rfl rfl ?_)
     exact ⟨rfl, rfl, rfl⟩
    refine pD (fun W R z9 => ?_) ?_
    ·rw [eS (l := [(6, _), (9, _)]) ⟨z9 6 rfl, z9 9 rfl, ⟨⟩⟩]
     refine qR (t := 38) rfl (vT h5) (qi qK rfl (Rd.own [] rfl rfl) ?_)
     exact ⟨rfl, rfl, rfl⟩
    refine pD (fun W R z9 => ?_) ?_
    ·rw [eS (l := [(6, _)]) ⟨z9 6 rfl, ⟨⟩⟩]
     refine qR (t := 38) rfl (vT h5) (qm (ii ((k : Int))) rfl ?_)
     exact ⟨rfl, rfl, rfl⟩
    refine pD (fun W R z9 => ?_) ?_
    ·rw [eS (l := [(6, _), (10, _), (11, _)]) ⟨z9 6 rfl, z9 10 rfl, z9 11 rfl, ⟨⟩⟩]
     refine qR (t := 38) rfl (vT h5) (qx k qf qE rfl rfl rfl hr.slv (by omega) (Nat.mul_one _) ?_)
     exact ⟨rfl, rfl, rfl⟩
    refine pD (fun W R z9 => ?_) ?_
    ·rw [eS (l := [(6, _), (12, _)]) ⟨z9 6 rfl, z9 12 rfl, ⟨⟩⟩]
     refine qR (t := 38) rfl (vT h5) (qi qS rfl (hr.rd (by omega)) ?_)
     exact ⟨rfl, rfl, rfl⟩
    exact stepsP.nil
   intro W hphi
   rw [eS (l := [(6, _), (8, _), (13, _)]) ⟨(hphi 6 (by decide)), (hphi 8 (by decide)), (hphi 13 (by decide)), ⟨⟩⟩]
   show XL _ _ _ _ _ _ _ (cellsH b2 [lv, rv] 136 :: cellsH b1 [arv] 31 :: L)
   refine qo (t := 38) rfl (vT h5) (ql (args := [lv, ii (r.getD k 0)]) call103 rfl (l1Has_spec (n := r.getD k 0) hl (hbd := (by first | assumption | rfl | omega | simp))) ?_)
   rintro _ _ _ _ ⟨rfl, rfl, rfl⟩
   refine qo (t := 38) rfl (vT h5) (jo rfl (cX (qM (.bool (decide (¬((r.getD k 0) ∈ l)))) (vT h5) rfl (qb ?_))))
   refine qv (p := ¬((r.getD k 0) ∈ l)) rfl (fun h6 => ?_) (fun h6 => ?_)
   ·refine qc (qa (qg (.bool (false)) rfl (qb (qq (qu (qh (qh (qu (qh (qn (L' := L) [.bool (false)] (.bool (false)) (.tmp rfl .nil) rfl rF rF (sD (sD sR)) ?_))))))))))
    exact ⟨(vB (ruleOk_false (fun h => by have := h.vars (r.getD k 0) (mem_of_getD (k := k) (by omega) rfl); simp_all))), rfl, rfl⟩
   refine qw (qa (qd (ii ((k : Int))) rfl (cX (qG (((k + 1 : Nat) : Int)) rfl rfl (by omega) (by omega) (qg (ii (((k + 1 : Nat) : Int))) rfl (qb ?_))))))
   exact ⟨k + 1, _, FLe.refl _, rF, ⟨rfl, rfl, ⟨⟩⟩, (sC (sC sR)), ⟨rfl, (by omega), (fun i hi h0 => (Nat.lt_or_ge i k).elim (fun h => hall i h h0) (fun h => by obtain rfl : i = k := (by omega); first | assumption | (exfalso; omega) | simp_all))⟩, (by omega)⟩
  refine ju [cellsH b2 [lv, rv] 136, cellsH b1 [arv] 31] L 14 [] [[], [0], [], [1, 2], [3], [4], [5], [6], [6, 7], [6], [6, 9], [6], [6, 10, 11], [6, 12]] (phiL [qe (ptr b2 1), qe rv, qe (ii ((k : Int)) : Value), qe (.pointer (some (elemA rv (k)))), qe (ii (r.getD k 0)), qe (.bool (decide ((r.getD k 0 : Int) < 0)) : Value), qe (.bool (decide ((r.getD k 0 : Int) < 0)) : Value), qe undef, qe undef, qe undef, qe undef, qe undef, qe undef, qe undef]) (ownL []) mixed rfl rfl (by kernel_rfl) ?_ ?_
  ·refine pD (fun W R z9 => ?_) ?_
   ·refine qj (qk (1) jk rfl qA (by decide) rfl rfl ?_)
    exact ⟨rfl, rfl, rfl⟩
   refine pD (fun W R z9 => ?_) ?_
   ·rw [eS (l := [(0, _)]) ⟨z9 0 rfl, ⟨⟩⟩]
    refine qj (qi qK rfl (Rd.own [] rfl rfl) ?_)
    exact ⟨rfl, rfl, rfl⟩
   refine pD (fun W R z9 => ?_) ?_
   ·refine qj (qm (ii ((k : Int))) rfl ?_)
    exact ⟨rfl, rfl, rfl⟩
   refine pD (fun W R z9 => ?_) ?_
   ·rw [eS (l := [(1, _), (2, _)]) ⟨z9 1 rfl, z9 2 rfl, ⟨⟩⟩]
    refine qj (qx k qf qE rfl rfl rfl hr.slv (by omega) (Nat.mul_one _) ?_)
    exact ⟨rfl, rfl, rfl⟩
   refine pD (fun W R z9 => ?_) ?_
   ·rw [eS (l := [(3, _)]) ⟨z9 3 rfl, ⟨⟩⟩]
    refine qj (qi qS rfl (hr.rd (by omega)) ?_)
    exact ⟨rfl, rfl, rfl⟩
   refine pD (fun W R z9 => ?_) ?_
   ·rw [eS (l := [(4, _)]) ⟨z9 4 rfl, ⟨⟩⟩]
    refine qj (qI rfl rfl ?_)
    exact ⟨rfl, rfl, rfl⟩
   refine pD (fun W R z9 => ?_) ?_
   ·rw [eS (l := [(5, _)]) ⟨z9 5 rfl, ⟨⟩⟩]
    refine qj (qm (.bool (decide ((r.getD k 0 : Int) < 0))) rfl ?_)
    exact ⟨rfl, rfl, rfl⟩
   refine pD (fun W R z9 => ?_) ?_
   ·rw [eS (l := [(6, _)]) ⟨z9 6 rfl, ⟨⟩⟩]
    exact qY (t := 38) rfl (vF h5) ⟨rfl, rfl, rfl⟩
   refine pD (fun W R z9 => ?_) ?_
   ·rw [eS (l := [(6, _), (7, undef)]) ⟨z9 6 rfl, z9 7 rfl, ⟨⟩⟩]
    exact qY (t := 38) rfl (vF h5) ⟨rfl, rfl, rfl⟩
   refine pD (fun W R z9 => ?_) ?_
   ·rw [eS (l := [(6, _)]) ⟨z9 6 rfl, ⟨⟩⟩]
    exact qY (t := 38) rfl (vF h5) ⟨rfl, rfl, rfl⟩
   refine pD (fun W R z9 => ?_) ?_
   ·rw [eS (l := [(6, _), (9, undef)]) ⟨z9 6 rfl, z9 9 rfl, ⟨⟩⟩]
    exact qY (t := 38) rfl (vF h5) ⟨rfl, rfl, rfl⟩
   refine pD (fun W R z9 => ?_) ?_
   ·rw [eS (l := [(6, _)]) ⟨z9 6 rfl, ⟨⟩⟩]
    exact qY (t := 38) rfl (vF h5) ⟨rfl, rfl, rfl⟩
   refine pD (fun W R z9 => ?_) ?_
   ·rw [eS (l := [(6, _), (10, undef), (11, undef)]) ⟨z9 6 rfl, z9 10 rfl, z9 11 rfl, ⟨⟩⟩]
    exact qY (t := 38) rfl (vF h5) ⟨rfl, rfl, rfl⟩
   refine pD (fun W R z9 => ?_) ?_
   ·rw [eS (l := [(6, _), (12, undef)]) ⟨z9 6 rfl, z9 12 rfl, ⟨⟩⟩]
    exact qY (t := 38) rfl (vF h5) ⟨rfl, rfl, rfl⟩
   exact stepsP.nil
  intro W hphi
  rw [eS (l := [(6, _), (8, undef), (13, undef)]) ⟨(hphi 6 (by decide)), (hphi 8 (by decide)), (hphi 13 (by decide)), ⟨⟩⟩]
  show XL _ _ _ _ _ _ _ (cellsH b2 [lv, rv] 136 :: cellsH b1 [arv] 31 :: L)
  refine qp (t := 38) rfl (vF h5) (qp (t := 38) rfl (vF h5) (cX (qL (.bool (false)) (vF h5) rfl (qb (X.condF rfl (qw (qa (qd (ii ((k : Int))) rfl (cX (qG (((k + 1 : Nat) : Int)) rfl rfl (by omega) (by omega) (qg (ii (((k + 1 : Nat) : Int))) rfl (qb ?_))))))))))))
  exact ⟨k + 1, _, FLe.refl _, rF, ⟨rfl, rfl, ⟨⟩⟩, (sC (sC sR)), ⟨rfl, (by omega), (fun i hi h0 => (Nat.lt_or_ge i k).elim (fun h => hall i h h0) (fun h => by obtain rfl : i = k := (by omega); first | assumption | (exfalso; omega) | simp_all))⟩, (by omega)⟩
 refine qX (qr (qr (qJ (qc (qa (qg (.bool (true)) rfl (qb (qq (qn (L' := L) [.bool (true)] (.bool (true)) (.tmp rfl .nil) rfl rF rF (sD (sD sR)) ?_)))))))))
 exact ⟨(vB (ruleOk_iff.2 ⟨hlo, hro, by omega, fun n hn h0 => by obtain ⟨i, hi, rfl⟩ := List.getElem_of_mem hn; have := hall i (by omega); simp [List.getD, hi] at this; exact this h0⟩)), rfl, rfl⟩

/- impl.matchInto -/
theorem matchInto_spec {F : FH} {L : List HP} {arv : Value} {ar : List Int} (har : IntsF F arv ar) {pv : Value} {p : List Int} (hp : IntsF F pv p) {tv : Value} {t : List Int} (ht : IntsF F tv t) {bs : List Value} {b : RowL} (hb : BindC F bs b) (hbl : b.length = 24) (ho : termOk ar t = true) (hpl : p.length ≤ 4000000) (hpg : ∀ k, k < p.length → -24 ≤ p.getD k 0) :
    Does prog 116 [.agg #[arv], pv, tv, .agg (bs).toArray] F (L) (fun v F' L' => F = F' ∧ ∃ (bs : List Value), ∃ (bl : RowL), (.tuple #[.agg (bs).toArray, .bool ((mGo ar t p 0 b).isSome)] : Value) = v ∧ (BindC F' bs bl) ∧ (bl.length = 24) ∧ (∀ r, mGo ar t p 0 b = some r → bl = r) ∧ L = L') := by
 refine qB func116 rfl rfl rfl ?_
 have hsl := sigOk_spec (termOk_sig ho)
 have htl := termOk_len ho
 have hnn := notNil_of_pos ht (by omega)
 refine qc (qa (cX (qP [arv] rfl rfl ?_)))
 intro b1
 refine cX (qP bs rfl rfl ?_)
 intro b2
 refine cX (jq (List.replicate 24 (sN)) zeroValue161 rfl ?_)
 intro b3
 have hc1 : BindC F _ _ := BindC.nils 24
 refine qg (.bool (false)) rfl (qb (qc (qa (qg (ii (0)) rfl (qb (qc (qc (qa (qd (pv) rfl (cX (qy qf rfl hp.slv (qd (ii (0)) rfl (qb (qF (ja (α := Nat × Nat × List Value × RowL) (fun xQ => [(2, tv), (4, ptr b1 0), (7, ptr b2 0), (8, ptr b3 0), (10, ii (((xQ.2.1 : Nat) : Int))), (14, pv), (15, ii ((p.length : Int))), (16, ii (((xQ.1 : Nat) : Int)))]) (fun xQ => cellsH b3 (List.replicate 24 (sN)) 161 :: cellsH b2 xQ.2.2.1 161 :: cellsH b1 [arv] 31 :: L) (fun xQ F' => F = F' ∧ (BindC F xQ.2.2.1 xQ.2.2.2) ∧ (xQ.2.2.2.length = 24) ∧ (xQ.1 ≤ p.length) ∧ (xQ.2.1 ≤ t.length) ∧ (mGo ar t p 0 b = mGo ar t (p.drop xQ.1) xQ.2.1 xQ.2.2.2)) (fun xQ => p.length - xQ.1) (0, 0, bs, b) ⟨rfl, rfl, rfl, rfl, rfl, rfl, rfl, rfl, ⟨⟩⟩ (sC (sC (sC sR))) ⟨rfl, (hb), (hbl), (by (try dsimp only) <;> omega), (by (try dsimp only) <;> omega), (rfl)⟩ ?_)))))))))))))))
 rintro ⟨k, i, bs, bl⟩ rE _ _ ⟨rfl, hbc, hbl2, hk, hi, hm⟩
 show X _ _ _ _ (envs [(2, tv), (4, ptr b1 0), (7, ptr b2 0), (8, ptr b3 0), (10, ii ((i : Int))), (14, pv), (15, ii ((p.length : Int))), (16, ii ((k : Int)))] rE) _ (cellsH b3 (List.replicate 24 (sN)) 161 :: cellsH b2 bs 161 :: cellsH b1 [arv] 31 :: L)
 dsimp only at hbc hbl2 hk hi hm
 have hpk := hpg k
 have hsl2 := fun h => sub_length (p := i) ho h
 have hee := fun h => endN_spec (p := i) ho h
 refine qc (qa (cX (qI rfl rfl (qb (qc ?_)))))
 refine qv (p := (k : Int) < (p.length : Int)) rfl (fun h1 => ?_) (fun h1 => ?_)
 ·refine qw (qc (qF (qc (qa (cX (qx k qf qE rfl rfl rfl hp.slv (by omega) (Nat.mul_one _) (cX (qi qS rfl (hp.rd (by omega)) (qg (ii (p.getD k 0)) rfl (qb (qc (qc (qa (qd (ii ((i : Int))) rfl (qd (tv) rfl (cX (qy qf rfl ht.slv (cX (XOp.geq rfl rfl (qb ?_))))))))))))))))))))
  refine qv (p := (i : Int) ≥ (t.length : Int)) rfl (fun h2 => ?_) (fun h2 => ?_)
  ·refine qc (qa (cX (qC bs isAgg161 sizeOf161 (by have := CO.len hbc; (try simp only [List.length_set, List.length_replicate] at this ⊢) <;> omega) rfl (Rd.ownN [_] rfl take_all) (cX (jd [] _ bs sizeOf161 rfl rfl (by have := CO.len hbc; (try simp only [List.length_set, List.length_replicate] at this ⊢) <;> omega) hbc.ones rfl (Nat.ble_eq_true_of_le (Nat.le_of_eq (by have := CO.len hc1; (try simp only [List.length_set, List.length_replicate] at this ⊢) <;> omega))) (arr_over (by have := CO.len hc1; (try simp only [List.length_set, List.length_replicate] at this ⊢) <;> omega)) (qg (.bool (false)) rfl (qb (qq (qh (qu (qh (qh (qu (qh (qn (L' := L) [.agg (bs).toArray, .bool (false)] (.tuple #[.agg (bs).toArray, .bool (false)]) (.cell rfl (loadNV bs isAgg161 sizeOf161 (by have := CO.len hbc; (try simp only [List.length_set, List.length_replicate] at this ⊢) <;> omega) (Rd.ownN [] rfl take_all)) (.tmp rfl .nil)) rfl rF rF (sD (sD (sD sR))) ?_)))))))))))))))
   have hz : mGo ar t p 0 b = none := hm.trans (mGo_short (by omega) (by omega))
   refine ⟨rfl, _, _, by rw [hz]; rfl, hbc, by (try simp only [List.length_set]) <;> omega, fun r hr => ?_, rfl⟩
   rw [hz] at hr; cases hr
  refine qw (qc (qc (qa (qd (ii (p.getD k 0)) rfl (cX (XOp.geq rfl rfl (qb ?_)))))))
  refine qv (p := (p.getD k 0 : Int) ≥ 0) rfl (fun h3 => ?_) (fun h3 => ?_)
  ·refine qc (qc (qa (qd (tv) rfl (qd (ii ((i : Int))) rfl (cX (qx i qf qE rfl rfl rfl ht.slv (by omega) (Nat.mul_one _) (cX (qi qS rfl (ht.rd (by omega)) (qd (ii (p.getD k 0)) rfl (cX (XOp.neq rfl rfl (qb ?_))))))))))))
   refine qv (p := (t.getD i 0 : Int) ≠ p.getD k 0) rfl (fun h4 => ?_) (fun h4 => ?_)
   ·refine qc (qa (cX (qC bs isAgg161 sizeOf161 (by have := CO.len hbc; (try simp only [List.length_set, List.length_replicate] at this ⊢) <;> omega) rfl (Rd.ownN [_] rfl take_all) (cX (jd [] _ bs sizeOf161 rfl rfl (by have := CO.len hbc; (try simp only [List.length_set, List.length_replicate] at this ⊢) <;> omega) hbc.ones rfl (Nat.ble_eq_true_of_le (Nat.le_of_eq (by have := CO.len hc1; (try simp only [List.length_set, List.length_replicate] at this ⊢) <;> omega))) (arr_over (by have := CO.len hc1; (try simp only [List.length_set, List.length_replicate] at this ⊢) <;> omega)) (qg (.bool (false)) rfl (qb (qq (qh (qh (qu (qh (qh (qu (qh (qn (L' := L) [.agg (bs).toArray, .bool (false)] (.tuple #[.agg (bs).toArray, .bool (false)]) (.cell rfl (loadNV bs isAgg161 sizeOf161 (by have := CO.len hbc; (try simp only [List.length_set, List.length_replicate] at this ⊢) <;> omega) (Rd.ownN [] rfl take_all)) (.tmp rfl .nil)) rfl rF rF (sD (sD (sD sR))) ?_))))))))))))))))
    have hz : mGo ar t p 0 b = none := hm.trans (mGo_ne (by omega) (by omega) (by omega) (by assumption))
    refine ⟨rfl, _, _, by rw [hz]; rfl, hbc, by (try simp only [List.length_set]) <;> omega, fun r hr => ?_, rfl⟩
    rw [hz] at hr; cases hr
   refine qw (qc (qa (qd (ii ((i : Int))) rfl (cX (qG (((i + 1 : Nat) : Int)) rfl rfl (by omega) (by omega) (qg (ii (((i + 1 : Nat) : Int))) rfl (qb (qX (qr (qJ (qa (cX (qG (((k + 1 : Nat) : Int)) rfl rfl (by omega) (by omega) (qd (ii (((k + 1 : Nat) : Int))) rfl (qb ?_)))))))))))))))
   exact ⟨(k + 1, i + 1, bs, bl), _, FLe.refl _, rF, ⟨rfl, rfl, rfl, rfl, rfl, rfl, rfl, rfl, ⟨⟩⟩, (sC (sC (sC sR))), ⟨rfl, (hbc), (by (try simp only [List.length_set]) <;> omega), (by (try dsimp only) <;> omega), (by (try dsimp only) <;> omega), (hm.trans (mGo_sym (by omega) (by omega) (by omega) (by omega)))⟩, (by omega)⟩
  refine qw (qc (qa (cX (qC [arv] qW qH rfl rfl (Rd.ownN [_, _] rfl rfl) (qd (tv) rfl (qd (ii ((i : Int))) rfl (cX (ql (args := [.agg #[arv], tv, ii (i : Int)]) call55 rfl (subAt_spec (p := i) har ht (ho := (by first | assumption | rfl | omega | simp)) (hp := (by first | assumption | rfl | omega | simp)) (hnn := (by first | assumption | rfl | omega | simp))) ?_))))))))
  rintro v1 _ _ _ ⟨rfl, rfl, hv1, hn1⟩
  refine qg (v1) rfl (qb (qc (qc (qa (qd (ii (p.getD k 0)) rfl (cX (jg ((-1) - (p.getD k 0)) rfl rfl (by omega) (by omega) (cX (XOp.indexA (i := (-1) - (p.getD k 0)) (((-1) - (p.getD k 0)).toNat) (((-1) - (p.getD k 0)).toNat) runUnderlying161 qA rfl rfl (by omega) (by omega) (by omega) ?_)))))))))
  obtain ⟨a1, ha1, hn2, he1⟩ := hbc.get (i := ((-1) - (p.getD k 0)).toNat) (by omega)
  refine cX (qi qK rfl (Rd.own [_] rfl he1) (cX (XOp.eqNil qf rfl rfl (qT ha1) (qb ?_))))
  refine X.cond (t := isNil a1) rfl (fun h5 => ?_) (fun h5 => ?_)
  ·refine qa (qd (ii (p.getD k 0)) rfl (cX (jg ((-1) - (p.getD k 0)) rfl rfl (by omega) (by omega) (qd (v1) rfl (cX (XOp.indexA (i := (-1) - (p.getD k 0)) (((-1) - (p.getD k 0)).toNat) (((-1) - (p.getD k 0)).toNat) runUnderlying161 qA rfl rfl (by omega) (by omega) (by omega) (cX (jy [_] _ (bs.set (((-1) - (p.getD k 0)).toNat) v1) qA rfl rfl (jf (qT hv1)) rfl (blt_of (by have := CO.len hbc; (try simp only [List.length_set, List.length_replicate] at this ⊢) <;> omega)) rfl ?_))))))))
   have hc2 := hbc.set (((-1) - (p.getD k 0)).toNat) hv1 (by simp [*, sub_ne ho (show i < t.length by omega)])
   refine qb (qa (qd (ii ((i : Int))) rfl (qd (v1) rfl (cX (qy qf rfl hv1.slv (cX (qG (((i + (((sub ar t i)).length) : Nat) : Int)) rfl rfl (by omega) (by omega) (qg (ii (((i + (((sub ar t i)).length) : Nat) : Int))) rfl (qb (qa (cX (qG (((k + 1 : Nat) : Int)) rfl rfl (by omega) (by omega) (qd (ii (((k + 1 : Nat) : Int))) rfl (qb ?_))))))))))))))
   exact ⟨(k + 1, i + (((sub ar t i)).length), (bs.set (((-1) - (p.getD k 0)).toNat) v1), (bl.set (((-1) - (p.getD k 0)).toNat) ((sub ar t i)))), _, FLe.refl _, rF, ⟨rfl, rfl, rfl, rfl, rfl, rfl, rfl, rfl, ⟨⟩⟩, (sC (sC (sC sR))), ⟨rfl, (hc2), (by (try simp only [List.length_set]) <;> omega), (by (try dsimp only) <;> omega), (by (try dsimp only) <;> omega), (hm.trans (mGo_new (by omega) (by omega) (by omega) (of_decide_eq_true (hn2.symm.trans (by assumption)))))⟩, (by omega)⟩
  refine qc (qa (qd (ii (p.getD k 0)) rfl (cX (jg ((-1) - (p.getD k 0)) rfl rfl (by omega) (by omega) (cX (XOp.indexA (i := (-1) - (p.getD k 0)) (((-1) - (p.getD k 0)).toNat) (((-1) - (p.getD k 0)).toNat) runUnderlying161 qA rfl rfl (by omega) (by omega) (by omega) (cX (qi qK rfl (Rd.own [_] rfl he1) (qd (v1) rfl (cX (ql (args := [a1, v1]) call141 rfl (Equal_spec ha1 hv1 (hbd := (by first | assumption | rfl | omega | (left; simp; done) | (right; simp; done)))) ?_)))))))))))
  rintro _ _ _ _ ⟨rfl, rfl, rfl⟩
  refine cX (jo rfl (qb ?_))
  refine qv (p := ¬(((bl.getD (((-1) - (p.getD k 0)).toNat) [])) = ((sub ar t i)))) rfl (fun h6 => ?_) (fun h6 => ?_)
  ·refine qc (qa (cX (qC bs isAgg161 sizeOf161 (by have := CO.len hbc; (try simp only [List.length_set, List.length_replicate] at this ⊢) <;> omega) rfl (Rd.ownN [_] rfl take_all) (cX (jd [] _ bs sizeOf161 rfl rfl (by have := CO.len hbc; (try simp only [List.length_set, List.length_replicate] at this ⊢) <;> omega) hbc.ones rfl (Nat.ble_eq_true_of_le (Nat.le_of_eq (by have := CO.len hc1; (try simp only [List.length_set, List.length_replicate] at this ⊢) <;> omega))) (arr_over (by have := CO.len hc1; (try simp only [List.length_set, List.length_replicate] at this ⊢) <;> omega)) (qg (.bool (false)) rfl (qb (qq (qh (qu (qh (qh (qu (qh (qn (L' := L) [.agg (bs).toArray, .bool (false)] (.tuple #[.agg (bs).toArray, .bool (false)]) (.cell rfl (loadNV bs isAgg161 sizeOf161 (by have := CO.len hbc; (try simp only [List.length_set, List.length_replicate] at this ⊢) <;> omega) (Rd.ownN [] rfl take_all)) (.tmp rfl .nil)) rfl rF rF (sD (sD (sD sR))) ?_)))))))))))))))
   have hz : mGo ar t p 0 b = none := hm.trans (mGo_clash (by omega) (by omega) (by omega) (of_decide_eq_false (hn2.symm.trans (by assumption))) (by assumption))
   refine ⟨rfl, _, _, by rw [hz]; rfl, hbc, by (try simp only [List.length_set]) <;> omega, fun r hr => ?_, rfl⟩
   rw [hz] at hr; cases hr
  refine qw (qa (qd (ii ((i : Int))) rfl (qd (v1) rfl (cX (qy qf rfl hv1.slv (cX (qG (((i + (((sub ar t i)).length) : Nat) : Int)) rfl rfl (by omega) (by omega) (qg (ii (((i + (((sub ar t i)).length) : Nat) : Int))) rfl (qb (qa (cX (qG (((k + 1 : Nat) : Int)) rfl rfl (by omega) (by omega) (qd (ii (((k + 1 : Nat) : Int))) rfl (qb ?_))))))))))))))
  exact ⟨(k + 1, i + (((sub ar t i)).length), bs, bl), _, FLe.refl _, rF, ⟨rfl, rfl, rfl, rfl, rfl, rfl, rfl, rfl, ⟨⟩⟩, (sC (sC (sC sR))), ⟨rfl, (hbc), (by (try simp only [List.length_set]) <;> omega), (by (try dsimp only) <;> omega), (by (try dsimp only) <;> omega), (hm.trans (mGo_same (by omega) (by omega) (by omega) (of_decide_eq_false (hn2.symm.trans (by assumption))) (by first | assumption | exact Classical.not_not.1 (by assumption))))⟩, (by omega)⟩
 refine qX (qr (qr (qJ (qc (qa (cX (qC bs isAgg161 sizeOf161 (by have := CO.len hbc; (try simp only [List.length_set, List.length_replicate] at this ⊢) <;> omega) rfl (Rd.ownN [_] rfl take_all) (cX (jd [] _ bs sizeOf161 rfl rfl (by have := CO.len hbc; (try simp only [List.length_set, List.length_replicate] at this ⊢) <;> omega) hbc.ones rfl (Nat.ble_eq_true_of_le (Nat.le_of_eq (by have := CO.len hc1; (try simp only [List.length_set, List.length_replicate] at this ⊢) <;> omega))) (arr_over (by have := CO.len hc1; (try simp only [List.length_set, List.length_replicate] at this ⊢) <;> omega)) (qg (.bool (true)) rfl (qb (qq (qn (L' := L) [.agg (bs).toArray, .bool (true)] (.tuple #[.agg (bs).toArray, .bool (true)]) (.cell rfl (loadNV bs isAgg161 sizeOf161 (by have := CO.len hbc; (try simp only [List.length_set, List.length_replicate] at this ⊢) <;> omega) (Rd.ownN [] rfl take_all)) (.tmp rfl .nil)) rfl rF rF (sD (sD (sD sR))) ?_)))))))))))))
 have hz : mGo ar t p 0 b = some bl := hm.trans (mGo_done (by omega))
 refine ⟨rfl, _, _, by rw [hz]; rfl, hbc, by (try simp only [List.length_set]) <;> omega, fun r hr => ?_, rfl⟩
 rw [hz] at hr; exact Option.some.inj hr

/- impl.variable -/
theorem variable_spec {F : FH} {L : List HP} {i : Nat} (hi : i ≤ 1000) :
    Does prog 180 [ii ((i : Int))] F (L) (fun v F' L' => F = F' ∧ IsSl v ∧ intsH 2 v ([-1 - (i : Int)]) :: L = L') := by
 refine qB func180 rfl rfl rfl (qc (qa (qg (sN) rfl (qb (qc (qa (qd (ii ((i : Int))) rfl (cX (jg ((-1) - ((i : Int))) rfl rfl (by omega) (by omega) (cX (qU (s := 1) [ii ((-1) - ((i : Int)))] [ii (0)] [(0, [ii ((-1) - ((i : Int)))])] qf qE jl rfl (by decide) rfl (.cons rfl CellsAre.nil) rfl ?_)))))))))))
 intro v1 hv1
 refine qg (v1) rfl (qb (qq (qn (L' := intsH 2 v1 ([(-1) - ((i : Int))]) :: L) [v1] (v1) (.tmp rfl .nil) rfl rF rF (sC sR) ?_)))
 refine ⟨rfl, (isSl_lit hv1), ?_⟩
 have hxs : ([-1 - (i : Int)] : List Int) = [(-1) - ((i : Int))] := rfl
 exact congrArg (fun z => intsH 2 _ z :: L) hxs

/- (impl.bindings).subst -/
theorem subst_spec {F : FH} {L : List HP} {bs : List Value} {b : RowL} (hb : BindC F bs b) (hbl : b.length = 24) :
    Does prog 118 [.agg (bs).toArray] F (L) (fun v F' L' => ∃ (a : Value), (.agg #[a] : Value) = v ∧ (RowsF F' a b) ∧ L = L') := by
 refine qB func118 rfl rfl rfl (qc (qa (cX (qP bs rfl rfl ?_))))
 intro b1
 refine cX (jq [sN] jp rfl ?_)
 intro b2
 refine qb (qc (qa (cX (XOp.sliceArr (cs := bs) [_] _ runUnderlying161 qA rfl (by have := CO.len hb; (try simp only [List.length_set, List.length_replicate] at this ⊢) <;> omega) rfl ?_))))
 intro v1 hv1
 have hc1 := BindC.rows hb
 refine cX (XOp.build [v1] [sN] [(0, 1)] [(0, [v1])] qN jp rfl (.cons rfl qQ PlacesAre.nil) rfl (.cons (cells_one ⟨_, _, _, hv1⟩) CellsAre.nil) (cX (jd [] _ [v1] jc rfl rfl rfl (qZ (jf ⟨_, _, _, hv1⟩) jj) rfl rfl rfl (qb (jv [_] _ _ rfl (fun F1 le1 hz1 => ?_))))))
 replace hc1 := hc1.mono le1
 have hf1 : RowsF F1 v1 b := CO.fz hc1 (by first | rfl | omega | (rw [List.length_set]; omega) | (simp; done)) hz1.fz
 refine qq (qn (L' := L) [.agg #[v1]] (.agg #[v1]) (.cell rfl (loadNV [v1] jz jc rfl (Rd.ownN [] rfl rfl)) .nil) rfl le1 rF (sD sR) ?_)
 exact ⟨_, rfl, hf1, rfl⟩

/- impl.plain -/
theorem plain_spec {F : FH} {L : List HP} {sv : Value} {s : List (List Int)} (hs : RowsF F sv s) (hsl : s.length ≤ 24) (hsb : ∀ i, i < s.length → (s.getD i []).length ≤ 4000000) :
    Does prog 117 [.agg #[sv]] F (L) (fun v F' L' => ∃ (a : Value), (.agg #[a] : Value) = v ∧ (RowsF F' a (plainL s)) ∧ L = L') := by
 refine qB func117 rfl rfl rfl (qc (qa (cX (qP [sv] rfl rfl ?_))))
 intro b1
 refine cX (jq [sN] jp rfl ?_)
 intro b2
 refine qb (qc (qa (cX (jq [sN] jp rfl ?_))))
 intro b3
 refine qb (qc (qc (qa (cX (qk (0) qN rfl qQ (by decide) rfl rfl (cX (qi jh rfl (Rd.own [_, _] rfl rfl) (cX (qy qz rfl hs.slv (qd (ii (0)) rfl (qb (qF (ja (α := Nat × Value × RowL × FH) (fun xQ => [(2, ptr b2 0), (3, ptr b3 0), (7, sv), (8, ii ((s.length : Int))), (9, ii (((xQ.1 : Nat) : Int)))]) (fun xQ => rowsH 22 xQ.2.2.2 xQ.2.1 xQ.2.2.1 :: cellsH b3 [xQ.2.1] 86 :: cellsH b2 [sN] 86 :: cellsH b1 [sv] 86 :: L) (fun xQ F' => xQ.2.2.2 = F' ∧ F ≤ xQ.2.2.2 ∧ (IsSl xQ.2.1) ∧ (xQ.2.2.1 = trim ((plainGo 0 s).take xQ.1)) ∧ (xQ.1 ≤ s.length)) (fun xQ => s.length - xQ.1) (0, sN, [], F) ⟨rfl, rfl, rfl, rfl, rfl, ⟨⟩⟩ (coH.addNil none (sC (sC (sC sR)))) ⟨rfl, FLe.refl _, (⟨_, _, _, rfl⟩), (rfl), (by (try dsimp only) <;> omega)⟩ ?_)))))))))))))
 rintro ⟨k, ov, os, G1⟩ rE _ _ ⟨rfl, leG, hov, hos, hk⟩
 show X _ _ _ _ (envs [(2, ptr b2 0), (3, ptr b3 0), (7, sv), (8, ii ((s.length : Int))), (9, ii ((k : Int)))] rE) _ (rowsH 22 G1 ov os :: cellsH b3 [ov] 86 :: cellsH b2 [sN] 86 :: cellsH b1 [sv] 86 :: L)
 replace leG : F ≤ G1 := leG
 dsimp only at hov hos hk
 have leG1 := leG
 replace hs := hs.mono leG1
 refine X.open [] rfl (fun cs1 hc1 => ?_)
 replace hc1 : RowsC G1 cs1 os := hc1
 refine qc (qa (cX (qI rfl rfl (qb (qc ?_)))))
 refine qv (p := (k : Int) < (s.length : Int)) rfl (fun h1 => ?_) (fun h1 => ?_)
 ·refine qw (qc (qF (qc (qa (qd (ii ((k : Int))) rfl (cX (qx k qz qA rfl rfl rfl hs.slv (by omega) (Nat.mul_one _) ?_)))))))
  obtain ⟨a1, ha1, hr1⟩ := hs.rd (i := k) (by omega)
  refine cX (qi qK rfl (hr1 _) (qg (ii ((k : Int))) rfl (qg (a1) rfl (qb (qc (qc (qa (qd (a1) rfl (cX (qy qf rfl ha1.slv (cX (XOp.eql rfl rfl (qd (.bool (decide ((((((s.getD k [])).length : Nat) : Int) : Int) = 0))) rfl ?_)))))))))))))
  by_cases h2 : (((((s.getD k [])).length : Nat) : Int) : Int) = 0
  ·refine qp (t := 17) rfl (vT h2) (qp (t := 17) rfl (vT h2) (qp (t := 17) rfl (vT h2) (qp (t := 17) rfl (vT h2) (cX (qM (.bool (true)) (vT h2) rfl (qb (jr rfl (qX (qr (qJ (qa (cX (qG (((k + 1 : Nat) : Int)) rfl rfl (by omega) (by omega) ?_)))))))))))))
   refine qd (ii (((k + 1 : Nat) : Int))) rfl (qb ?_)
   exact ⟨(k + 1, ov, os, G1), _, leG1, rF, ⟨rfl, rfl, rfl, rfl, rfl, ⟨⟩⟩, (coH.close hc1 (by first | rfl | simp) (sC (sC (sC sR)))), ⟨rfl, leG1, (hov), (hos.trans (plain_skip (by omega) (by first | (left; exact List.eq_nil_of_length_eq_zero (by omega)) | (right; assumption))).symm), (by (try dsimp only) <;> omega)⟩, (by omega)⟩
  refine qo (t := 17) rfl (vF h2) (qm (a1) rfl (qo (t := 17) rfl (vF h2) (qm (ii ((k : Int))) rfl (qo (t := 17) rfl (vF h2) (jx <| ql (args := [ii (k : Int)]) call180 rfl (variable_spec (i := k) (hi := (by first | assumption | rfl | omega | simp))) ?_)))))
  rintro v1 _ _ _ ⟨rfl, hs1, rfl⟩
  refine ⟨_, _, rfl, fun F1 le1 hz1 => ?_⟩
  replace hs := hs.mono le1
  replace hc1 := hc1.mono le1
  replace ha1 := ha1.mono le1
  have hf1 : IntsF F1 v1 (([-1 - (k : Int)])) := intsH.fz (xs := ([-1 - (k : Int)])) hz1.fz
  refine qo (t := 17) rfl (vF h2) (ql (args := [a1, v1]) call141 rfl (Equal_spec ha1 hf1 (hbd := (by first | assumption | rfl | omega | (left; simp; done) | (right; simp; done)))) ?_)
  rintro _ _ _ _ ⟨rfl, rfl, rfl⟩
  refine cX (qL (.bool (decide (((s.getD k [])) = (([-1 - (k : Int)]))))) (vF h2) rfl (qb ?_))
  refine qv (p := ((s.getD k [])) = (([-1 - (k : Int)]))) rfl (fun h3 => ?_) (fun h3 => ?_)
  ·refine qX (qr (qJ (qa (cX (qG (((k + 1 : Nat) : Int)) rfl rfl (by omega) (by omega) (qd (ii (((k + 1 : Nat) : Int))) rfl (qb ?_)))))))
   exact ⟨(k + 1, ov, os, F1), _, (qt leG1 le1), rF, ⟨rfl, rfl, rfl, rfl, rfl, ⟨⟩⟩, (coH.close hc1 (by first | rfl | simp) (sC (sC (sC sR)))), ⟨rfl, (qt leG1 le1), (hov), (hos.trans (plain_skip (by omega) (by first | (left; exact List.eq_nil_of_length_eq_zero (by omega)) | (right; assumption))).symm), (by (try dsimp only) <;> omega)⟩, (by omega)⟩
  refine qw (qc (qF (ja (α := Nat × Value × RowL × FH) (fun xQ => [(2, ptr b2 0), (3, ptr b3 0), (4, ii ((k : Int))), (5, a1), (7, sv), (8, ii ((s.length : Int))), (9, ii ((k : Int)))]) (fun xQ => rowsH 22 xQ.2.2.2 xQ.2.1 xQ.2.2.1 :: cellsH b3 [xQ.2.1] 86 :: cellsH b2 [sN] 86 :: cellsH b1 [sv] 86 :: L) (fun xQ F' => xQ.2.2.2 = F' ∧ F1 ≤ xQ.2.2.2 ∧ (IsSl xQ.2.1) ∧ (xQ.2.2.1 = os ++ List.replicate xQ.1 []) ∧ (xQ.2.2.1.length ≤ k)) (fun xQ => k - xQ.2.2.1.length) (0, ov, os, F1) ⟨rfl, rfl, rfl, rfl, rfl, rfl, rfl, ⟨⟩⟩ (coH.close hc1 (by first | rfl | simp) (sC (sC (sC sR)))) ⟨rfl, FLe.refl _, (hov), (by simp), (by have := trim_le ((plainGo 0 s).take k); rw [← hos, List.length_take] at this; (try dsimp only); omega)⟩ ?_)))
  rintro ⟨j, ov2, os2, G2⟩ rE _ _ ⟨rfl, leG, hov2, hos2, hl2⟩
  show X _ _ _ _ (envs [(2, ptr b2 0), (3, ptr b3 0), (4, ii ((k : Int))), (5, a1), (7, sv), (8, ii ((s.length : Int))), (9, ii ((k : Int)))] rE) _ (rowsH 22 G2 ov2 os2 :: cellsH b3 [ov2] 86 :: cellsH b2 [sN] 86 :: cellsH b1 [sv] 86 :: L)
  replace leG : F1 ≤ G2 := leG
  dsimp only at hov2 hos2 hl2
  have leG2 := leG
  replace hs := hs.mono leG2
  replace hc1 := hc1.mono leG2
  replace ha1 := ha1.mono leG2
  refine X.open [] rfl (fun cs2 hc2 => ?_)
  replace hc2 : RowsC G2 cs2 os2 := hc2
  refine qc (qc (qa (cX (qk (0) qN rfl qQ (by decide) rfl rfl (cX (qi jh rfl (Rd.own [_] rfl rfl) (cX (qy qz rfl (SlV.own [] rfl) (qd (ii ((k : Int))) rfl (cX (qI rfl rfl (qb ?_))))))))))))
  refine qv (p := ((os2.length : Int) : Int) < (k : Int)) rfl (fun h4 => ?_) (fun h4 => ?_)
  ·refine qw (qF (qa (cX (qk (0) qN rfl qQ (by decide) rfl rfl (cX (qi jh rfl (Rd.own [_] rfl rfl) (cX (qU (s := 1) [sN] [sN] [(0, [sN])] qz qA zeroValue22 rfl (by decide) rfl (.cons rfl CellsAre.nil) rfl ?_))))))))
   intro v2 hv1
   refine cX (XOp.append (m := 1) (bytes := 24) (cs := cs2) [_] _ [sN] qz typeInfo22 rfl rfl rfl rfl rfl rfl rfl (SlV.own [] rfl) rfl (Rd.lit [] rfl) (qZ rfl jj) (by (try simp only [List.length_append, List.length_nil, List.length_cons, List.length_singleton]); omega) (by (try simp only [List.length_append, List.length_nil, List.length_cons, List.length_singleton]); omega) ?_)
   intro v3 hs2 hn1 hm1
   have hc3 := RowsC.snoc hc2 IntsF.nilV
   refine cX (qk (0) qN rfl qQ (by decide) rfl rfl (cX (jy [_, _] _ [v3] qQ rfl rfl (jf hs2) rfl rfl rfl (qb ?_))))
   exact ⟨(j + 1, v3, os2 ++ [[]], G2), _, leG2, rF, ⟨rfl, rfl, rfl, rfl, rfl, rfl, rfl, ⟨⟩⟩, (sD (coH.close hc3 (by first | rfl | simp) (sC (sC (sC sR))))), ⟨rfl, leG2, (hs2), (by dsimp only; rw [hos2, List.append_assoc, List.replicate_succ']), (by dsimp only; rw [List.length_append]; simp only [List.length_singleton]; omega)⟩, (by dsimp only; rw [List.length_append]; simp only [List.length_singleton]; omega)⟩
  refine qX (qr (qr (qJ ?_)))
  refine X.drawG [slH 22 1 ov2 ((os2).length) cs2, cellsH b3 [ov2] 86, cellsH b2 [sN] 86, cellsH b1 [sv] 86] L 5 [[], [], [], [], [3]] [[], [0], [], [2], [3]] [] (phiG [pe (ptr b3 0), pe ov2, pe a1, fun FF us v => ((v) : Value) = v ∧ (IntsF FF (v) (((s.getD k [])))), fun FF us v => ∃ b, v = .slice (some ⟨b, 0, none⟩) 1 1]) (ownL [o0, o0, o0, o0, fun us v => [slH 22 1 v 1 [((us.getD 0 undef))]]]) mixed rfl rfl (by kernel_rfl) (by kernel_rfl) (MonoG.get (m1 (m1 (m1 (mC (fun le h => ⟨h.1, h.2.mono le⟩) (mC (fun le h => h) MonoG.nil)))))) ?_ ?_
  ·refine gD (fun W Fs R lF z9 => ?_) ?_
   ·refine qj (qk (0) qN rfl qQ (by decide) rfl rfl ?_)
    exact ⟨rfl, rfl⟩
   refine gD (fun W Fs R lF z9 => ?_) ?_
   ·replace hs := hs.mono lF
    replace hc1 := hc1.mono lF
    replace ha1 := ha1.mono lF
    replace hc2 := hc2.mono lF
    rw [eS (l := [(0, _)]) ⟨z9 0 rfl, ⟨⟩⟩]
    refine qj (qi jh rfl (Rd.own [_] rfl rfl) ?_)
    exact ⟨rfl, rfl⟩
   refine gD (fun W Fs R lF z9 => ?_) ?_
   ·refine qj (qm (a1) rfl ?_)
    exact ⟨rfl, rfl⟩
   refine gD (fun W Fs R lF z9 => ?_) ?_
   ·replace hs := hs.mono lF
    replace hc1 := hc1.mono lF
    replace ha1 := ha1.mono lF
    replace hc2 := hc2.mono lF
    rw [eS (l := [(2, _)]) ⟨z9 2 rfl, ⟨⟩⟩]
    refine qj (jx <| ql (args := [a1]) call53 rfl (Clone_spec ha1 (hlt := (hsb k (by omega)))) ?_)
    rintro v6 _ _ _ ⟨rfl, hs4, rfl⟩
    refine ⟨_, _, rfl, fun F2 le2 hz2 => ?_⟩
    replace hc1 := hc1.mono le2
    replace hc2 := hc2.mono le2
    have hf2 : IntsF F2 v6 ((((s.getD k [])))) := intsH.fz (xs := (((s.getD k [])))) hz2.fz
    exact ⟨⟨rfl, hf2⟩, rfl⟩
   refine gD (fun W Fs R lF z9 => ?_) ?_
   ·obtain ⟨e3, f3_1ha⟩ := z9 3 rfl
    replace hc1 := hc1.mono lF
    replace hc2 := hc2.mono lF
    rw [eS (l := [(3, ((W 3)))]) ⟨(e3).symm, ⟨⟩⟩]
    refine qj (qU (s := 1) [((W 3))] [sN] [(0, [((W 3))])] qz qA zeroValue22 rfl (by decide) rfl (.cons (cells_one (qT f3_1ha)) CellsAre.nil) rfl ?_)
    intro v7 hv3
    exact ⟨hv3, rfl⟩
   exact stepsG.nil
  intro W F3 le3 hphi
  obtain ⟨e3, f3_1ha⟩ := hphi 3 (by decide)
  have f4 : ∃ b, (W 4) = .slice (some ⟨b, 0, none⟩) 1 1 := hphi 4 (by decide)
  generalize hu1 : ((W 3)) = u1 at e3 f3_1ha f4
  generalize hu4 : W 4 = u2 at e3 f3_1ha f4
  rw [eS (l := [(1, _), (3, u1), (4, u2)]) ⟨(hphi 1 (by decide)), hu1, hu4, ⟨⟩⟩]
  replace hc1 := hc1.mono le3
  replace hc2 := hc2.mono le3
  show XL _ _ _ _ _ _ _ (slH 22 1 u2 1 [u1] :: slH 22 1 ov2 ((os2).length) cs2 :: cellsH b3 [ov2] 86 :: cellsH b2 [sN] 86 :: cellsH b1 [sv] 86 :: L)
  refine cX (XOp.append (m := 1) (bytes := 24) (cs := cs2) [_] _ [u1] qz typeInfo22 rfl rfl rfl rfl rfl rfl rfl (SlV.own [] rfl) rfl (Rd.lit [] rfl) (qZ (jf (qT f3_1ha)) jj) (by (try simp only [List.length_append, List.length_nil, List.length_cons, List.length_singleton]); omega) (by (try simp only [List.length_append, List.length_nil, List.length_cons, List.length_singleton]); omega) ?_)
  intro v8 hs5 hn2 hm2
  have hc4 := RowsC.snoc hc2 f3_1ha
  refine cX (qk (0) qN rfl qQ (by decide) rfl rfl (cX (jy [_, _] _ [v8] qQ rfl rfl (jf hs5) rfl rfl rfl (qb (qa (cX (qG (((k + 1 : Nat) : Int)) rfl rfl (by omega) (by omega) (qd (ii (((k + 1 : Nat) : Int))) rfl (qb ?_)))))))))
  exact ⟨(k + 1, v8, os2 ++ [(((s.getD k [])))], F3), _, (qt (qt (qt leG1 le1) leG2) le3), rF, ⟨rfl, rfl, rfl, rfl, rfl, ⟨⟩⟩, (sD (coH.close hc4 (by first | rfl | simp) (sC (sC (sC sR))))), ⟨rfl, (qt (qt (qt leG1 le1) leG2) le3), (hs5), (plain_put (m := os2) (by omega) (by intro e; have := congrArg List.length e; simp only [List.length_nil] at this; omega) (by assumption) (by rw [hos2, hos]; exact plain_padded (by rw [← hos, ← hos2, List.length_take, plainGo_length]; omega))), (by (try dsimp only) <;> omega)⟩, (by omega)⟩
 refine qX (qr (qr (qJ (qc (qa (cX (qC [ov] jz jc rfl rfl (Rd.ownN [_] rfl rfl) (cX (jd [_, _] _ [ov] jc rfl rfl rfl (qZ (jf hov) jj) rfl rfl rfl (qb (jv [] _ _ rfl (fun F4 le4 hz3 => ?_))))))))))))
 replace hc1 := hc1.mono le4
 have hf3 : RowsF F4 ov os := CO.fz hc1 (by first | rfl | omega | (rw [List.length_set]; omega) | (simp; done)) hz3.fz
 refine qq (qn (L' := L) [.agg #[ov]] (.agg #[ov]) (.cell rfl (loadNV [ov] jz jc rfl (Rd.ownN [_] rfl rfl)) .nil) rfl (qt leG1 le4) rF (sD (sD (sD sR))) ?_)
 have e : os = plainL s := by rw [hos, show k = s.length from by omega, plain_all]
 exact ⟨_, rfl, by rw [← e]; exact hf3, rfl⟩

/- impl.match -/
theorem match_spec {F : FH} {L : List HP} {arv : Value} {ar : List Int} (har : IntsF F arv ar) {pv : Value} {p : List Int} (hp : IntsF F pv p) {tv : Value} {t : List Int} (ht : IntsF F tv t) (ho : termOk ar t = true) (hpo : termOk ar p = true) :
    Does prog 57 [.agg #[arv], pv, tv] F (L) (fun v F' L' => ∃ (a : Value), (.tuple #[.agg #[a], .bool ((matchB ar p t).isSome)] : Value) = v ∧ (RowsF F' a (matchP ar p t)) ∧ L = L') := by
 refine qB func57 rfl rfl rfl ?_
 have hpl := termOk_len hpo
 have hpg := fun k (hk : k < p.length) => termOk_ge hpo hk
 refine qc (qa (cX (qP [arv] rfl rfl ?_)))
 intro b1
 refine cX (jq [sN] jp rfl ?_)
 intro b2
 refine qg (.bool (false)) rfl (qb (qc (qa (cX (qC [arv] qW qH rfl rfl (Rd.ownN [_] rfl rfl) (qd (pv) rfl (qd (tv) rfl (cX (XOp.build0 (List.replicate 24 (sN)) runUnderlying161 ⟨_, qA⟩ zeroValue161 rfl ?_)))))))))
 have hc1 : BindC F _ _ := BindC.nils 24
 refine cX (ql (args := [.agg #[arv], pv, tv, .agg (List.replicate 24 (sN)).toArray]) call116 rfl (matchInto_spec har hp ht hc1 ((by first | assumption | rfl | simp | omega)) (ho := (by first | assumption | rfl | omega | simp)) (hpl := (by first | assumption | rfl | omega | simp)) (hpg := (by first | assumption | rfl | omega | simp))) ?_)
 rintro _ _ _ _ ⟨rfl, x1, x2, rfl, hr1, hr2, hr3, rfl⟩
 have hbl24 := hr2
 refine qd (.tuple #[.agg (x1).toArray, .bool ((mGo ar t p 0 (List.replicate 24 ([] : List Int))).isSome)]) rfl (cX (jb (.agg (x1).toArray) rfl rfl (cX (jb (.bool ((mGo ar t p 0 (List.replicate 24 ([] : List Int))).isSome)) rfl rfl (cX (jq (List.replicate 24 (sN)) zeroValue161 rfl ?_))))))
 intro b3
 have hc2 : BindC F _ _ := BindC.nils 24
 refine cX (jd [] _ x1 sizeOf161 rfl rfl (by have := CO.len hr1; (try simp only [List.length_set, List.length_replicate] at this ⊢) <;> omega) hr1.ones rfl (Nat.ble_eq_true_of_le (Nat.le_of_eq (by have := CO.len hc2; (try simp only [List.length_set, List.length_replicate] at this ⊢) <;> omega))) (arr_over (by have := CO.len hc2; (try simp only [List.length_set, List.length_replicate] at this ⊢) <;> omega)) (qg (.bool ((mGo ar t p 0 (List.replicate 24 ([] : List Int))).isSome)) rfl (qb (qc (qc (qa (qd (.bool ((mGo ar t p 0 (List.replicate 24 ([] : List Int))).isSome)) rfl (cX (jn rfl (qb ?_))))))))))
 refine X.cond (t := !((mGo ar t p 0 (List.replicate 24 ([] : List Int))).isSome)) rfl (fun h1 => ?_) (fun h1 => ?_)
 ·refine qc (qa (cX (XOp.build [sN] [sN] [(0, 1)] [] qN jp rfl (.cons rfl qQ PlacesAre.nil) rfl CellsAre.nil (cX (jd [_] _ [sN] jc rfl rfl rfl (qZ rfl jj) rfl rfl rfl (qg (.bool (false)) rfl (qb (qq (qh (qn (L' := L) [.agg #[sN], .bool (false)] (.tuple #[.agg #[sN], .bool (false)]) (.cell rfl (loadNV [sN] jz jc rfl (Rd.ownN [_] rfl rfl)) (.tmp rfl .nil)) rfl rF rF (sD (sD (sD sR))) ?_))))))))))
  have hz : matchB ar p t = none := by have h0 := h1; simpa [matchB] using h0
  exact ⟨_, by rw [hz]; rfl, by rw [matchP, hz]; exact SlOf.nilV, rfl⟩
 have hz : ∃ r, matchB ar p t = some r := Option.isSome_iff_exists.1 (by have h0 := h1; simpa [matchB] using h0)
 have hmb : ∀ i, (x2.getD i []).length ≤ t.length := by obtain ⟨r, hz⟩ := hz; have e := hr3 _ hz; rw [e]; exact (matchB_len hz).2
 have htl := termOk_len ho
 refine qw (qc (qa (cX (qC x1 isAgg161 sizeOf161 (by have := CO.len hr1; (try simp only [List.length_set, List.length_replicate] at this ⊢) <;> omega) rfl (Rd.ownN [] rfl take_all) (cX (ql (args := [.agg (x1).toArray]) call118 rfl (subst_spec hr1 ((by first | assumption | rfl | simp | omega))) ?_))))))
 rintro _ F2 _ le2 ⟨x3, rfl, hr4, rfl⟩
 refine cX (ql (args := [.agg #[x3]]) call117 rfl (plain_spec hr4 (hsl := (by first | assumption | rfl | omega | simp)) (hsb := (fun i hi => by have := hmb i; omega))) ?_)
 rintro _ F3 _ le3 ⟨x4, rfl, hr5, rfl⟩
 refine cX (jd [_] _ [x4] jc rfl rfl rfl (qZ (jf (RowsF.isSl hr5)) jj) rfl rfl rfl (qg (.bool (true)) rfl (qb (qq (qn (L' := L) [.agg #[x4], .bool (true)] (.tuple #[.agg #[x4], .bool (true)]) (.cell rfl (loadNV [x4] jz jc rfl (Rd.ownN [_] rfl rfl)) (.tmp rfl .nil)) rfl (qt le2 le3) rF (sD (sD (sD sR))) ?_)))))
 obtain ⟨b0, hz⟩ := Option.isSome_iff_exists.1 (show (matchB ar p t).isSome = true from by have h0 := h1; simpa [matchB] using h0)
 have hb0 := hr3 _ hz
 exact ⟨_, by rw [hz]; rfl, by rw [matchP, hz]; subst hb0; exact hr5, rfl⟩

/- impl.instance -/
theorem instance_spec {F : FH} {L : List HP} {arv : Value} {ar : List Int} (har : IntsF F arv ar) {pv : Value} {p : List Int} (hp : IntsF F pv p) {tv : Value} {t : List Int} (ht : IntsF F tv t) (ho : termOk ar t = true) (hpo : termOk ar p = true) :
    Does prog 115 [.agg #[arv], pv, tv] F (L) (fun v F' L' => (.bool ((matchB ar p t).isSome) : Value) = v ∧ F = F' ∧ L = L') := by
 refine qB func115 rfl rfl rfl (qc (qa (cX (qP [arv] rfl rfl ?_))))
 intro b1
 refine qg (.bool (false)) rfl (qb (qc (qa (cX (qC [arv] qW qH rfl rfl (Rd.ownN [] rfl rfl) (qd (pv) rfl (qd (tv) rfl (cX (ql (args := [.agg #[arv], pv, tv]) call57 rfl (match_spec har hp ht (ho := (by first | assumption | rfl | omega | simp)) (hpo := (by first | assumption | rfl | omega | simp))) ?_)))))))))
 rintro _ F1 _ le1 ⟨x1, rfl, hr1, rfl⟩
 refine qd (.tuple #[.agg #[x1], .bool ((matchB ar p t).isSome)]) rfl (cX (jb (.agg #[x1]) rfl rfl (cX (jb (.bool ((matchB ar p t).isSome)) rfl rfl (cX (jq [sN] jp rfl ?_))))))
 intro b2
 refine cX (jd [] _ [x1] jc rfl rfl rfl (qZ (jf (RowsF.isSl hr1)) jj) rfl rfl rfl (qg (.bool ((matchB ar p t).isSome)) rfl (qb (qc (qa (qd (.bool ((matchB ar p t).isSome)) rfl (qg (.bool ((matchB ar p t).isSome)) rfl (qb (qq (qn (L' := L) [.bool ((matchB ar p t).isSome)] (.bool ((matchB ar p t).isSome)) (.tmp rfl .nil) rfl rF le1 (sD (sD sR)) ?_))))))))))
 exact ⟨rfl, rfl, rfl⟩

/- slices.Grow[[]int64,int64] -/
theorem GrowNil_spec {F : FH} {L : List HP}  {n : Nat} (hg1 : 1 ≤ n) (hn : n ≤ 400000000) :
    Does prog 181 [sN, ii ((n : Int))] F (L) (fun v F' L' => F = F' ∧ IsSl v ∧ intsH 2 v ([]) :: L = L') := by
 refine qB func181 rfl rfl rfl (qc (qa (qg (sN) rfl (qb (qc (qc (qa (qd (ii ((n : Int))) rfl (cX (qI rfl rfl (qb ?_)))))))))))
 refine qv (p := (n : Int) < 0) rfl (fun h1 => ?_) (fun h1 => ?_)
 ·omega
 refine qw (qc (qc (qa (qd (ii ((n : Int))) rfl (qd (sN) rfl (cX (XOp.capNil qf rfl (qd (sN) rfl (cX (qy qf rfl SlV.nil (cX (jg (0 - (((0 : Nat) : Int))) rfl rfl (by omega) (by omega) (cX (jg (((n : Int)) - (0 - (((0 : Nat) : Int)))) rfl rfl (by omega) (by omega) (qg (ii (((n : Int)) - (0 - (((0 : Nat) : Int))))) rfl (qb (qc (qa ?_))))))))))))))))))
 refine qd (ii (((n : Int)) - (0 - (((0 : Nat) : Int))))) rfl (cX (jt rfl rfl (qb ?_)))
 refine qv (p := (((n : Int)) - (0 - (((0 : Nat) : Int))) : Int) > 0) rfl (fun h2 => ?_) (fun h2 => ?_)
 ·refine qa (qd (sN) rfl (qd (sN) rfl (cX (XOp.capNil qf rfl (cX (XOp.sliceNil qf qE rfl ⟨_, rfl⟩ (qd (ii (((n : Int)) - (0 - (((0 : Nat) : Int))))) rfl (cX (XOp.appendZ (s := 1) (bytes := 8) (n := (((n : Int)) - (0 - (((0 : Nat) : Int)))).toNat) [ii (0)] qf runUnderlying3 typeInfo2 rfl rfl rfl rfl rfl (by decide) rfl (by rw [show (((((n : Int)) - (0 - (((0 : Nat) : Int)))).toNat : Nat) : Int) = ((n : Int)) - (0 - (((0 : Nat) : Int))) from by omega]; rfl) (by omega) (by omega) (by omega) ?_)))))))))
  intro v1 hv1
  have hv2 : IsSl v1 := by obtain ⟨b0, c0, h0⟩ := hv1; exact ⟨_, _, _, h0⟩
  rw [intsH_zeros]
  refine qd (sN) rfl (cX (qy qf rfl SlV.nil (cX (XOp.sliceOwn (cs := List.map (Value.int .i64) ((List.replicate ((((n : Int)) - (0 - (((0 : Nat) : Int)))).toNat) 0))) [] _ 0 qf qE rfl rfl ⟨_, rfl⟩ (Nat.zero_le _) ?_))))
  intro v2 hs1
  show XL _ _ _ _ _ _ _ (intsH 2 v2 ([]) :: L)
  refine qg (v2) rfl (qb (qc (qa (qd (v2) rfl (qg (v2) rfl (qb (qq (qn (L' := intsH 2 v2 ([]) :: L) [v2] (v2) (.tmp rfl .nil) rfl rF rF (sC sR) ?_))))))))
  refine ⟨rfl, hs1, ?_⟩
  have hxs : ([] : List Int) = [] := rfl
  exact congrArg (fun z => intsH 2 _ z :: L) hxs
 omega

/- slices.Concat[[]int64,int64] -/
theorem Concat_spec {F : FH} {L : List HP} {xsv : Value} {xs : List (List Int)} (hxs : RowsF F xsv xs) (hg1 : 1 ≤ xs.flatten.length) (hn : xs.length ≤ 10) (hb : ∀ i, i < xs.length → (xs.getD i []).length ≤ 4000000) :
    Does prog 119 [xsv] F (L) (fun v F' L' => F = F' ∧ IsSl v ∧ intsH 2 v xs.flatten :: L = L') := by
 refine qB func119 rfl rfl rfl (qc (qa (qg (sN) rfl (qb (qc (qa (qg (ii (0)) rfl (qb (qc (qc (qa (qd (xsv) rfl (cX (qy qz rfl hxs.slv (qd (ii (0)) rfl (qb (qF ?_)))))))))))))))))
 refine ja (α := Nat × Nat) (fun xQ => [(0, xsv), (3, ii (((xQ.2 : Nat) : Int))), (9, xsv), (10, ii ((xs.length : Int))), (11, ii (((xQ.1 : Nat) : Int)))]) (fun xQ => L) (fun xQ F' => F = F' ∧ (xQ.1 ≤ xs.length) ∧ (xQ.2 = (xs.take xQ.1).flatten.length) ∧ (xQ.2 ≤ xQ.1 * 4000000)) (fun xQ => xs.length - xQ.1) (0, 0) ⟨rfl, rfl, rfl, rfl, rfl, ⟨⟩⟩ sR ⟨rfl, (by (try dsimp only) <;> omega), (rfl), (by (try dsimp only) <;> omega)⟩ ?_
 rintro ⟨k, z⟩ rE _ _ ⟨rfl, hk, hz, hz2⟩
 show X _ _ _ _ (envs [(0, xsv), (3, ii ((z : Int))), (9, xsv), (10, ii ((xs.length : Int))), (11, ii ((k : Int)))] rE) _ (L)
 dsimp only at hk hz hz2
 have hbk := hb k
 have hft := fun h => congrArg List.length (flatten_take (xs := xs) (k := k) h)
 simp only [List.length_append] at hft
 refine qc (qa (cX (qI rfl rfl (qb (qc ?_)))))
 refine qv (p := (k : Int) < (xs.length : Int)) rfl (fun h1 => ?_) (fun h1 => ?_)
 ·refine qw (qc (qF (qc (qa (cX (qx k qz qA rfl rfl rfl hxs.slv (by omega) (Nat.mul_one _) ?_))))))
  obtain ⟨a1, ha1, hr1⟩ := hxs.rd (i := k) (by omega)
  refine cX (qi qK rfl (hr1 _) (qg (a1) rfl (qb (qc (qa (qd (ii ((z : Int))) rfl (qd (a1) rfl (cX (qy qf rfl ha1.slv (cX (qG (((z + (((xs.getD k [])).length) : Nat) : Int)) rfl rfl (by omega) (by omega) (qg (ii (((z + (((xs.getD k [])).length) : Nat) : Int))) rfl (qb (qc (qa (qd (ii (((z + (((xs.getD k [])).length) : Nat) : Int))) rfl ?_))))))))))))))))
  refine cX (qI rfl rfl (qb ?_))
  refine qv (p := (((z + (((xs.getD k [])).length) : Nat) : Int) : Int) < 0) rfl (fun h2 => ?_) (fun h2 => ?_)
  ·omega
  refine qw (qa (cX (qG (((k + 1 : Nat) : Int)) rfl rfl (by omega) (by omega) (qd (ii (((k + 1 : Nat) : Int))) rfl (qb ?_)))))
  exact ⟨(k + 1, z + (((xs.getD k [])).length)), _, FLe.refl _, rF, ⟨rfl, rfl, rfl, rfl, rfl, ⟨⟩⟩, sR, ⟨rfl, (by (try dsimp only) <;> omega), (by (try dsimp only) <;> omega), (by (try dsimp only) <;> omega)⟩, (by omega)⟩
 refine qX (qr (qr (qJ (qc (qa ?_)))))
 have hz1 : 1 ≤ z := by rw [hz, show xs.take k = xs from List.take_of_length_le (by omega)]; exact hg1
 refine qd (ii ((z : Int))) rfl (cX (ql (args := [sN, ii (z : Int)]) call181 rfl (GrowNil_spec (n := z) (hg1 := (hz1)) (hn := (by omega))) ?_))
 rintro v1 _ _ _ ⟨rfl, hs1, rfl⟩
 refine qg (v1) rfl (qb (qc (qc (qa (qd (xsv) rfl (cX (qy qz rfl hxs.slv (qd (ii (0)) rfl (qb (qF (ja (α := Nat × Value × List Int) (fun xQ => [(6, xQ.2.1), (25, xsv), (26, ii ((xs.length : Int))), (27, ii (((xQ.1 : Nat) : Int)))]) (fun xQ => intsH 2 xQ.2.1 xQ.2.2 :: L) (fun xQ F' => F = F' ∧ (IsSl xQ.2.1) ∧ (xQ.1 ≤ xs.length) ∧ (xQ.2.2 = (xs.take xQ.1).flatten)) (fun xQ => xs.length - xQ.1) (0, v1, ([])) ⟨rfl, rfl, rfl, rfl, ⟨⟩⟩ (sC sR) ⟨rfl, (hs1), (by (try dsimp only) <;> omega), (rfl)⟩ ?_)))))))))))
 rintro ⟨k, ov, os⟩ rE _ _ ⟨rfl, hov, hk, hos⟩
 show X _ _ _ _ (envs [(6, ov), (25, xsv), (26, ii ((xs.length : Int))), (27, ii ((k : Int)))] rE) _ (intsH 2 ov os :: L)
 dsimp only at hov hk hos
 have hbk := hb k
 have hol : os.length ≤ k * 4000000 := by rw [hos]; exact flatten_bound hb k (by omega)
 refine qc (qa (cX (qI rfl rfl (qb (qc ?_)))))
 refine qv (p := (k : Int) < (xs.length : Int)) rfl (fun h3 => ?_) (fun h3 => ?_)
 ·refine qw (qc (qF (qc (qa (cX (qx k qz qA rfl rfl rfl hxs.slv (by omega) (Nat.mul_one _) ?_))))))
  obtain ⟨a2, ha2, hr2⟩ := hxs.rd (i := k) (by omega)
  refine cX (qi qK rfl (hr2 _) (qg (a2) rfl (qb (qa (qd (ov) rfl (qd (a2) rfl (cX (XOp.appendI [] _ qf typeInfo2 rfl rfl rfl rfl rfl rfl ha2 (by (try simp only [List.length_append, List.length_nil, List.length_cons, List.length_singleton, List.length_take, List.length_drop]); omega) ?_))))))))
  intro v2 hs2 hn1 hm1
  refine qg (v2) rfl (qb (qa (cX (qG (((k + 1 : Nat) : Int)) rfl rfl (by omega) (by omega) (qd (ii (((k + 1 : Nat) : Int))) rfl (qb ?_))))))
  exact ⟨(k + 1, v2, os ++ ((xs.getD k []))), _, FLe.refl _, rF, ⟨rfl, rfl, rfl, rfl, ⟨⟩⟩, (sC sR), ⟨rfl, (hs2), (by (try dsimp only) <;> omega), ((by dsimp only; rw [hos, flatten_take (by omega)]))⟩, (by omega)⟩
 refine qX (qr (qr (qJ (qc (qa (qd (ov) rfl (qg (ov) rfl (qb (qq (qn (L' := intsH 2 ov os :: L) [ov] (ov) (.tmp rfl .nil) rfl rF rF (sC sR) ?_))))))))))
 refine ⟨rfl, hov, ?_⟩
 have hxs : (xs.flatten : List Int) = os := by rw [hos, List.take_of_length_le (by omega)]
 exact congrArg (fun z => intsH 2 _ z :: L) hxs

/- impl.put -/
theorem put_spec {F : FH} {L : List HP} {arv : Value} {ar : List Int} (har : IntsF F arv ar) {tv : Value} {t : List Int} (ht : IntsF F tv t) {p : Nat} {uv : Value} {u : List Int} (hu : IntsF F uv u) (ho : termOk ar t = true) (hp : p < t.length) (hul : 1 ≤ u.length ∧ u.length ≤ 4000000) :
    Does prog 60 [.agg #[arv], tv, ii ((p : Int)), uv] F (L) (fun v F' L' => ∃ (a : Value), (.tuple #[a, .bool ((putL ar t p u).isSome)] : Value) = v ∧ (IntsF F' a ((putL ar t p u).getD [])) ∧ ((putL ar t p u).isSome = true → isNil a = false) ∧ (Fresh F F' (intsH 2 a ((putL ar t p u).getD []))) ∧ L = L') := by
 refine qB func60 rfl rfl rfl ?_
 have hsig := termOk_sig ho
 have hsl := sigOk_spec hsig
 have htl := termOk_len ho
 have hee := endN_spec ho hp
 refine qc (qa (cX (qP [arv] rfl rfl ?_)))
 intro b1
 refine qg (sN) rfl (qg (.bool (false)) rfl (qb (qc ?_)))
 refine X.drawG [cellsH b1 [arv] 31] L 10 [] [[], [], [0, 1], [], [], [], [], [], [5, 6, 7], [4, 8]] [] (phiG [pe tv, pe (ii ((p : Int)) : Value), fun FF us v => (v : Value) = v ∧ (IntsF FF v ((t.drop 0).take (p - 0))) ∧ (isNil v = isNil tv), pe uv, pe tv, pe (.agg #[arv]), pe tv, pe (ii ((p : Int)) : Value), pe (ii (((endN ar t p : Nat) : Int)) : Value), fun FF us v => (v : Value) = v ∧ (IntsF FF v ((t.drop (endN ar t p)).take (((t).length) - (endN ar t p)))) ∧ (isNil v = isNil tv)]) (ownL []) mixed rfl rfl (by kernel_rfl) (by kernel_rfl) (MonoG.get (m1 (m1 (mC (fun le h => ⟨h.1, h.2.1.mono le, h.2.2⟩) (m1 (m1 (m1 (m1 (m1 (m1 (mC (fun le h => ⟨h.1, h.2.1.mono le, h.2.2⟩) MonoG.nil))))))))))) ?_ ?_
 ·refine gD (fun W Fs R lF z9 => ?_) ?_
  ·refine qj (qm (tv) rfl ?_)
   exact ⟨rfl, rfl⟩
  refine gD (fun W Fs R lF z9 => ?_) ?_
  ·refine qj (qm (ii ((p : Int))) rfl ?_)
   exact ⟨rfl, rfl⟩
  refine gD (fun W Fs R lF z9 => ?_) ?_
  ·replace har := har.mono lF
   replace ht := ht.mono lF
   replace hu := hu.mono lF
   rw [eS (l := [(0, _), (1, _)]) ⟨z9 0 rfl, z9 1 rfl, ⟨⟩⟩]
   refine qj (jw 0 p qf qE rfl ht rfl ⟨_, rfl⟩ (by omega) (by omega) ?_)
   intro v3 hv3 hn3
   exact ⟨⟨rfl, hv3, hn3⟩, rfl⟩
  refine gD (fun W Fs R lF z9 => ?_) ?_
  ·refine qj (qm (uv) rfl ?_)
   exact ⟨rfl, rfl⟩
  refine gD (fun W Fs R lF z9 => ?_) ?_
  ·refine qj (qm (tv) rfl ?_)
   exact ⟨rfl, rfl⟩
  refine gD (fun W Fs R lF z9 => ?_) ?_
  ·replace har := har.mono lF
   replace ht := ht.mono lF
   replace hu := hu.mono lF
   refine qj (qC [arv] qW qH rfl rfl (Rd.ownN [] rfl rfl) ?_)
   exact ⟨rfl, rfl⟩
  refine gD (fun W Fs R lF z9 => ?_) ?_
  ·refine qj (qm (tv) rfl ?_)
   exact ⟨rfl, rfl⟩
  refine gD (fun W Fs R lF z9 => ?_) ?_
  ·refine qj (qm (ii ((p : Int))) rfl ?_)
   exact ⟨rfl, rfl⟩
  refine gD (fun W Fs R lF z9 => ?_) ?_
  ·replace har := har.mono lF
   replace ht := ht.mono lF
   replace hu := hu.mono lF
   rw [eS (l := [(5, _), (6, _), (7, _)]) ⟨z9 5 rfl, z9 6 rfl, z9 7 rfl, ⟨⟩⟩]
   refine qj (ql (args := [.agg #[arv], tv, ii (p : Int)]) call112 rfl (endAt_ok (p := p) har ht (ho := (by first | assumption | rfl | omega | (left; simp; done) | (right; simp; done))) (hp := (by first | assumption | rfl | omega | (left; simp; done) | (right; simp; done)))) ?_)
   rintro _ _ _ _ ⟨rfl, rfl, rfl⟩
   exact ⟨rfl, rfl⟩
  refine gD (fun W Fs R lF z9 => ?_) ?_
  ·replace har := har.mono lF
   replace ht := ht.mono lF
   replace hu := hu.mono lF
   rw [eS (l := [(4, _), (8, _)]) ⟨z9 4 rfl, z9 8 rfl, ⟨⟩⟩]
   refine qj (jw (endN ar t p) ((t).length) qf qE rfl ht ⟨_, rfl⟩ rfl (by omega) (by omega) ?_)
   intro v4 hv4 hn4
   exact ⟨⟨rfl, hv4, hn4⟩, rfl⟩
  exact stepsG.nil
 intro W F1 le1 hphi
 obtain ⟨e2, f2_1hv, f2_1hn⟩ := hphi 2 (by decide)
 obtain ⟨e9, f9_1hv, f9_1hn⟩ := hphi 9 (by decide)
 generalize hu1 : (W 2) = u1 at e2 f2_1hv f2_1hn e9 f9_1hv f9_1hn
 generalize hu2 : (W 9) = u2 at e2 f2_1hv f2_1hn e9 f9_1hv f9_1hn
 rw [eS (l := [(2, u1), (3, _), (9, u2)]) ⟨hu1, (hphi 3 (by decide)), hu2, ⟨⟩⟩]
 replace hu := hu.mono le1
 show XL _ _ _ _ _ _ _ (cellsH b1 [arv] 31 :: L)
 refine cX (qU (s := 1) [u1, uv, u2] [sN] [(0, [u1]), (1, [uv]), (2, [u2])] qz qA zeroValue22 rfl (by decide) rfl (.cons (cells_one (qT f2_1hv)) (.cons (cells_one (qT hu)) (.cons (cells_one (qT f9_1hv)) CellsAre.nil))) rfl ?_)
 intro v5 hv5
 have hc1 : RowsC F1 [u1, uv, u2] ([((t.drop 0).take (p - 0)), u, ((t.drop (endN ar t p)).take (((t).length) - (endN ar t p)))] : List (List Int)) := (RowsC.snoc (RowsC.snoc (RowsC.snoc (CO.nil : RowsC F1 [] []) f2_1hv) hu) f9_1hv)
 refine XL.freezeF [] _ _ rfl (fun F2 le2 hz1 => ?_)
 replace hc1 := hc1.mono le2
 have hf1 : RowsF F2 v5 (([((t.drop 0).take (p - 0)), u, ((t.drop (endN ar t p)).take (((t).length) - (endN ar t p)))] : List (List Int))) := CO.fz hc1 (by first | rfl | omega | (rw [List.length_set]; omega) | (simp; done)) hz1.fz
 refine cX (jx <| ql (args := [v5]) call119 rfl (Concat_spec hf1 (hg1 := (by simp; omega)) (hn := (by first | assumption | rfl | omega | simp)) (hb := (fun i hi => by match i, hi with | 0, _ => simp; omega | 1, _ => simp; omega | 2, _ => simp; omega))) ?_)
 rintro v6 _ _ _ ⟨rfl, hs1, rfl⟩
 refine ⟨_, _, rfl, fun F3 le3 hz2 => ?_⟩
 have hf2 : IntsF F3 v6 (((([((t.drop 0).take (p - 0)), u, ((t.drop (endN ar t p)).take (((t).length) - (endN ar t p)))] : List (List Int))).flatten)) := intsH.fz (xs := ((([((t.drop 0).take (p - 0)), u, ((t.drop (endN ar t p)).take (((t).length) - (endN ar t p)))] : List (List Int))).flatten)) hz2.fz
 refine qg (v6) rfl (qb (qc (qc (qa (qd (v6) rfl (cX (qy qf rfl hf2.slv (cX (jt rfl rfl (qb ?_))))))))))
 refine qv (p := ((((((([((t.drop 0).take (p - 0)), u, ((t.drop (endN ar t p)).take (((t).length) - (endN ar t p)))] : List (List Int))).flatten)).length : Nat) : Int) : Int) > 60) rfl (fun h1 => ?_) (fun h1 => ?_)
 ·refine qc (qa (qg (sN) rfl (qg (.bool (false)) rfl (qb (qq (qh (qn (L' := L) [sN, .bool (false)] (.tuple #[sN, .bool (false)]) (.tmp rfl (.tmp rfl .nil)) rfl (qt (qt le1 le2) le3) rF (sD sR) ?_)))))))
  have hz : putL ar t p u = none := putL_none put_flat (by omega)
  exact ⟨_, by rw [hz]; rfl, by rw [hz]; exact IntsF.nilV, fun h => (by rw [hz] at h; cases h), by rw [hz]; exact Fresh.ofNil _, rfl⟩
 refine qw (qc (qa (qd (v6) rfl (qg (v6) rfl (qg (.bool (true)) rfl (qb (qq (qn (L' := L) [v6, .bool (true)] (.tuple #[v6, .bool (true)]) (.tmp rfl (.tmp rfl .nil)) rfl (qt (qt le1 le2) le3) rF (sD sR) ?_))))))))
 have hz := putL_some (ar := ar) (t := t) (p := p) (u := u) put_flat (by omega)
 exact ⟨_, by rw [hz]; rfl, by rw [hz]; exact hf2, fun _ => notNil_of_pos hf2 (by rw [put_flat]; simp; omega), by rw [hz]; exact (hz2.base (qt le1 le2)), rfl⟩

/- (impl.Subst).byVar -/
theorem byVar_spec {F : FH} {L : List HP} {sv : Value} {s : List (List Int)} (hs : RowsF F sv s) {i : Nat} (hsl : s.length ≤ 4000000) :
    Does prog 183 [.agg #[sv], ii ((i : Int))] F (L) (fun v F' L' => F = F' ∧ ∃ (a : Value), (a : Value) = v ∧ (IntsF F' a (s.getD i [])) ∧ (isNil a = decide (s.getD i [] = [])) ∧ L = L') := by
 refine qB func183 rfl rfl rfl (qc (qa (cX (qP [sv] rfl rfl ?_))))
 intro b1
 refine qg (sN) rfl (qb (qc (qc (qa (qd (ii ((i : Int))) rfl (cX (qk (0) qN rfl qQ (by decide) rfl rfl (cX (qi jh rfl (Rd.own [] rfl rfl) (cX (qy qz rfl hs.slv (cX (XOp.geq rfl rfl (qd (.bool (decide ((i : Int) ≥ (s.length : Int)))) rfl ?_))))))))))))))
 by_cases h1 : (i : Int) ≥ (s.length : Int)
 ·refine qp (t := 10) rfl (vT h1) (qp (t := 10) rfl (vT h1) (qp (t := 10) rfl (vT h1) (qp (t := 10) rfl (vT h1) (qp (t := 10) rfl (vT h1) (qp (t := 10) rfl (vT h1) (qp (t := 10) rfl (vT h1) (cX (qM (.bool (true)) (vT h1) rfl (qb (jr rfl ?_))))))))))
  refine qc (qa (qg (sN) rfl (qb (qq (qh (qn (L' := L) [sN] (sN) (.tmp rfl .nil) rfl rF rF (sD sR) ?_))))))
  have e : s.getD i [] = [] := by first | exact List.eq_nil_of_length_eq_zero (by omega) | (rw [List.getD_eq_getElem?_getD, List.getElem?_eq_none (by omega)]; rfl)
  exact ⟨rfl, _, rfl, by rw [e]; exact IntsF.nilV, by rw [e]; rfl, rfl⟩
 refine qo (t := 10) rfl (vF h1) (qk (0) qN rfl qQ (by decide) rfl rfl (qo (t := 10) rfl (vF h1) (qi jh rfl (Rd.own [] rfl rfl) (qo (t := 10) rfl (vF h1) (qm (ii ((i : Int))) rfl (qo (t := 10) rfl (vF h1) (qx i qz qA rfl rfl rfl hs.slv (by omega) (Nat.mul_one _) ?_)))))))
 obtain ⟨a1, ha1, hr1⟩ := hs.rd (i := i) (by omega)
 refine qo (t := 10) rfl (vF h1) (qi qK rfl (hr1 _) (qo (t := 10) rfl (vF h1) (qy qf rfl ha1.slv (qo (t := 10) rfl (vF h1) (XOp.eql rfl rfl (cX (qL (.bool (decide ((((((s.getD i [])).length : Nat) : Int) : Int) = 0))) (vF h1) rfl (qb ?_))))))))
 refine qv (p := (((((s.getD i [])).length : Nat) : Int) : Int) = 0) rfl (fun h2 => ?_) (fun h2 => ?_)
 ·refine qc (qa (qg (sN) rfl (qb (qq (qh (qn (L' := L) [sN] (sN) (.tmp rfl .nil) rfl rF rF (sD sR) ?_))))))
  have e : s.getD i [] = [] := by first | exact List.eq_nil_of_length_eq_zero (by omega) | (rw [List.getD_eq_getElem?_getD, List.getElem?_eq_none (by omega)]; rfl)
  exact ⟨rfl, _, rfl, by rw [e]; exact IntsF.nilV, by rw [e]; rfl, rfl⟩
 refine qw (qc (qa (cX (qk (0) qN rfl qQ (by decide) rfl rfl (cX (qi jh rfl (Rd.own [] rfl rfl) (qd (ii ((i : Int))) rfl (cX (qx i qz qA rfl rfl rfl hs.slv (by omega) (Nat.mul_one _) (cX (qi qK rfl (hr1 _) (qg (a1) rfl (qb (qq (qn (L' := L) [a1] (a1) (.tmp rfl .nil) rfl rF rF (sD sR) ?_)))))))))))))))
 have e : s.getD i [] ≠ [] := by intro e; have := congrArg List.length e; simp only [List.length_nil] at this; omega
 exact ⟨rfl, _, rfl, ha1, by rw [notNil_of_pos ha1 (List.length_pos_iff.2 e)]; exact (decide_eq_false e).symm, rfl⟩

/- (impl.Subst).lookup$1 -/
theorem lookup1_spec {F : FH} {L : List HP} {n : Int} {sv : Value} {s : List (List Int)} (hs : RowsF F sv s) {b : Nat} (hzb : FzC F b [sv]) (hsl : s.length ≤ 4000000) (hg : -4000000 ≤ n) :
    Does prog 182 [ii (n), ptr b 0] F (L) (fun v F' L' => F = F' ∧ ∃ (a : Value), (a : Value) = v ∧ (IntsF F' a (lkN s n)) ∧ (isNil a = decide (lkN s n = [])) ∧ L = L') := by
 refine qB func182 rfl rfl rfl (qc (qa (qg (sN) rfl (qb (qc (qc (qa (qd (ii (n)) rfl (cX (XOp.geq rfl rfl (qb ?_)))))))))))
 refine qv (p := (n : Int) ≥ 0) rfl (fun h1 => ?_) (fun h1 => ?_)
 ·refine qc (qa (qg (sN) rfl (qb (qq (qh (qn (L' := L) [sN] (sN) (.tmp rfl .nil) rfl rF rF sR ?_))))))
  have e : lkN s n = [] := lkN_pos (by omega)
  exact ⟨rfl, _, rfl, by rw [e]; exact IntsF.nilV, by rw [e]; rfl, rfl⟩
 refine qw (qc (qa (cX (qC [sv] jz jc rfl rfl (FzC.rd hzb rfl) (qd (ii (n)) rfl (cX (jg ((-1) - n) rfl rfl (by omega) (by omega) (cX (ql (args := [.agg #[sv], ii ((((-1) - n).toNat : Nat) : Int)]) call183 (by rw [show ((((-1) - n).toNat : Nat) : Int) = (-1) - n from by omega]; rfl) (byVar_spec (i := ((-1) - n).toNat) hs (hsl := (by first | assumption | rfl | omega | simp))) ?_)))))))))
 rintro _ _ _ _ ⟨rfl, x1, rfl, hr1, hr2, rfl⟩
 refine qg (x1) rfl (qb (qq (qn (L' := L) [x1] (x1) (.tmp rfl .nil) rfl rF rF sR ?_)))
 have e : lkN s n = s.getD (varIx n) [] := lkN_neg (by omega)
 exact ⟨rfl, _, rfl, by rw [e]; exact hr1, by rw [e]; exact hr2, rfl⟩

/- (impl.Subst).lookup -/
theorem lookup_spec {F : FH} {L : List HP} {sv : Value} {s : List (List Int)} (hs : RowsF F sv s) :
    Does prog 120 [.agg #[sv]] F (L) (fun v F' L' => ∃ (b : Nat), (.func (.func 182) #[] #[ptr b 0] : Value) = v ∧ (FzC F' b [sv]) ∧ L = L') := by
 refine qB func120 rfl rfl rfl (qc (qa (cX (qP [sv] rfl rfl ?_))))
 intro b1
 refine qg (.nilFunc) rfl (qb (qc (qa (cX (XOp.makeFuncL [] [ptr b1 0] rfl rfl (qg (.func (.func 182) #[] #[ptr b1 0]) rfl (qb (X.freeze [] _ _ rfl (fun F1 le1 hz1 => ?_)))))))))
 have hf1 : FzC F1 b1 [sv] := Fz.cells hz1
 refine qq (qn (L' := L) [.func (.func 182) #[] #[ptr b1 0]] (.func (.func 182) #[] #[ptr b1 0]) (.tmp rfl .nil) rfl le1 rF sR ?_)
 exact ⟨_, rfl, hf1, rfl⟩

/- impl.fill -/
theorem fill_spec {F : FH} {L : List HP} {sv : Value} {s : List (List Int)} (hs : RowsF F sv s) {tv : Value} {t : List Int} (ht : IntsF F tv t) (hsl : s.length ≤ 4000000) (hsb : ∀ i, (s.getD i []).length ≤ 4000000) (htl : t.length ≤ 4000000) (htg : ∀ k, k < t.length → -4000000 ≤ t.getD k 0) :
    Does prog 59 [.agg #[sv], tv] F (L) (fun v F' L' => ∃ (a : Value), (.tuple #[a, .bool ((fillL s t).isSome)] : Value) = v ∧ (IntsF F' a ((fillL s t).getD [])) ∧ (Fresh F F' (intsH 2 a ((fillL s t).getD []))) ∧ L = L') := by
 refine qB func59 rfl rfl rfl (qc (qa (cX (qP [sv] rfl rfl ?_))))
 intro b1
 refine qg (sN) rfl (qg (.bool (false)) rfl (qb (qc (qa (cX (qC [sv] jz jc rfl rfl (Rd.ownN [] rfl rfl) (cX (ql (args := [.agg #[sv]]) call120 rfl (lookup_spec hs) ?_))))))))
 rintro _ F1 _ le1 ⟨x1, rfl, hr1, rfl⟩
 replace hs := hs.mono le1
 replace ht := ht.mono le1
 refine qg (.func (.func 182) #[] #[ptr x1 0]) rfl (qb (qc (qa (qd (tv) rfl (cX (qy qf rfl ht.slv (cX (XOp.makeSlice0 (n := (t).length) (bytes := 8) [ii (0)] qf qE typeInfo2 rfl jl rfl rfl rfl rfl (by omega) (by omega) ?_))))))))
 intro v1 hv1
 have hs1 : IsSl v1 := by obtain ⟨b0, h0⟩ := hv1; exact ⟨_, _, _, h0⟩
 show XL _ _ _ _ _ _ _ (intsH 2 v1 ([]) :: cellsH b1 [sv] 86 :: L)
 refine qg (v1) rfl (qb (qc (qc (qa (qd (tv) rfl (cX (qy qf rfl ht.slv (qd (ii (0)) rfl (qb (qF (ja (α := Nat × Value × List Int) (fun xQ => [(6, .func (.func 182) #[] #[ptr x1 0]), (7, xQ.2.1), (16, tv), (17, ii ((t.length : Int))), (18, ii (((xQ.1 : Nat) : Int)))]) (fun xQ => intsH 2 xQ.2.1 xQ.2.2 :: cellsH b1 [sv] 86 :: L) (fun xQ F' => F1 = F' ∧ (IsSl xQ.2.1) ∧ (xQ.1 ≤ t.length) ∧ (fillL s t = fillGo s (t.drop xQ.1) xQ.2.2) ∧ (xQ.2.2.length ≤ 60)) (fun xQ => t.length - xQ.1) (0, v1, []) ⟨rfl, rfl, rfl, rfl, rfl, ⟨⟩⟩ (sC (sC sR)) ⟨rfl, (hs1), (by (try dsimp only) <;> omega), (rfl), (by simp)⟩ ?_)))))))))))
 rintro ⟨k, ov, os⟩ rE _ _ ⟨rfl, hov, hk, hm, hol⟩
 show X _ _ _ _ (envs [(6, .func (.func 182) #[] #[ptr x1 0]), (7, ov), (16, tv), (17, ii ((t.length : Int))), (18, ii ((k : Int)))] rE) _ (intsH 2 ov os :: cellsH b1 [sv] 86 :: L)
 dsimp only at hov hk hm hol
 have htk := htg k
 refine qc (qa (cX (qI rfl rfl (qb (qc ?_)))))
 refine qv (p := (k : Int) < (t.length : Int)) rfl (fun h1 => ?_) (fun h1 => ?_)
 ·refine qw (qc (qF (qc (qa (cX (qx k qf qE rfl rfl rfl ht.slv (by omega) (Nat.mul_one _) (cX (qi qS rfl (ht.rd (by omega)) (qg (ii (t.getD k 0)) rfl (qb (qc (qc (qa (qd (.func (.func 182) #[] #[ptr x1 0]) rfl (qd (ii (t.getD k 0)) rfl (cX (XOp.callV (first := []) (captured := [ptr x1 0]) (args := [ii (t.getD k 0), ptr x1 0]) call182 rfl rfl (lookup1_spec (n := t.getD k 0) hs hr1 (hsl := (by first | assumption | rfl | omega | simp)) (hg := (by first | assumption | rfl | omega | simp))) ?_)))))))))))))))))
  rintro _ _ _ _ ⟨rfl, x2, rfl, hr2, hr3, rfl⟩
  skip
  refine qg (x2) rfl (qb (qc (qa (qd (x2) rfl (cX (XOp.eqNil qf rfl rfl (qT hr2) (qb ?_)))))))
  refine X.cond (t := isNil x2) rfl (fun h2 => ?_) (fun h2 => ?_)
  ·refine qa (qd (ov) rfl (qd (ii (t.getD k 0)) rfl (cX (qU (s := 1) [ii (t.getD k 0)] [ii (0)] [(0, [ii (t.getD k 0)])] qf qE jl rfl (by decide) rfl (.cons rfl CellsAre.nil) rfl ?_))))
   intro v2 hv2
   refine cX (XOp.append1 (u := t.getD k 0) [_] _ qf typeInfo2 rfl rfl rfl rfl rfl rfl (SlV.own [] rfl) (Rd.sl [] rfl rfl) (by (try simp only [List.length_append, List.length_nil, List.length_cons, List.length_singleton, List.length_take, List.length_drop]); omega) ?_)
   intro v3 hs2 hn1
   refine qg (v3) rfl (qb (qc (qa (qd (v3) rfl (cX (qy qf rfl (intsH.slv [_] rfl) (cX (jt rfl rfl (qb ?_)))))))))
   refine qv (p := ((((os ++ [t.getD k 0]).length : Nat) : Int) : Int) > 60) rfl (fun h3 => ?_) (fun h3 => ?_)
   ·refine qc (qa (qg (sN) rfl (qg (.bool (false)) rfl (qb (qq (qu (qh (qh (qu (qh (qn (L' := L) [sN, .bool (false)] (.tuple #[sN, .bool (false)]) (.tmp rfl (.tmp rfl .nil)) rfl le1 rF (sD (sD (sD sR))) ?_)))))))))))
    have hz : fillL s t = none := hm.trans (fillGo_long (a := os ++ [t.getD k 0]) (by omega) (by rw [lk_of_nil (of_decide_eq_true (hr3.symm.trans (by assumption)))]) (by omega))
    exact ⟨_, by rw [hz]; rfl, by rw [hz]; exact IntsF.nilV, by rw [hz]; exact Fresh.ofNil _, rfl⟩
   refine qw (qa (cX (qG (((k + 1 : Nat) : Int)) rfl rfl (by omega) (by omega) (qd (ii (((k + 1 : Nat) : Int))) rfl (qb ?_)))))
   exact ⟨(k + 1, v3, os ++ [t.getD k 0]), _, FLe.refl _, rF, ⟨rfl, rfl, rfl, rfl, rfl, ⟨⟩⟩, (sD (sC (sC sR))), ⟨rfl, (hs2), (by (try dsimp only) <;> omega), (by dsimp only; exact hm.trans (fillGo_next (by omega) (by rw [lk_of_nil (of_decide_eq_true (hr3.symm.trans (by assumption)))]) (by omega))), (by dsimp only; omega)⟩, (by omega)⟩
  refine qa ?_
  have hlb : (lkN s (t.getD k 0)).length ≤ 4000000 := lkN_bound hsb
  refine qd (ov) rfl (qd (x2) rfl (cX (XOp.appendI [] _ qf typeInfo2 rfl rfl rfl rfl rfl rfl hr2 (by (try simp only [List.length_append, List.length_nil, List.length_cons, List.length_singleton, List.length_take, List.length_drop]); omega) ?_)))
  intro v4 hs3 hn2 hm1
  refine qg (v4) rfl (qb (qc (qa (qd (v4) rfl (cX (qy qf rfl (intsH.slv [] rfl) (cX (jt rfl rfl (qb ?_)))))))))
  refine qv (p := ((((os ++ (lkN s (t.getD k 0))).length : Nat) : Int) : Int) > 60) rfl (fun h4 => ?_) (fun h4 => ?_)
  ·refine qc (qa (qg (sN) rfl (qg (.bool (false)) rfl (qb (qq (qu (qh (qh (qu (qh (qn (L' := L) [sN, .bool (false)] (.tuple #[sN, .bool (false)]) (.tmp rfl (.tmp rfl .nil)) rfl le1 rF (sD (sD sR)) ?_)))))))))))
   have hz : fillL s t = none := hm.trans (fillGo_long (a := os ++ (lkN s (t.getD k 0))) (by omega) (by rw [lk_of_ne (of_decide_eq_false (hr3.symm.trans (by assumption)))]) (by omega))
   exact ⟨_, by rw [hz]; rfl, by rw [hz]; exact IntsF.nilV, by rw [hz]; exact Fresh.ofNil _, rfl⟩
  refine qw (qa (cX (qG (((k + 1 : Nat) : Int)) rfl rfl (by omega) (by omega) (qd (ii (((k + 1 : Nat) : Int))) rfl (qb ?_)))))
  exact ⟨(k + 1, v4, os ++ (lkN s (t.getD k 0))), _, FLe.refl _, rF, ⟨rfl, rfl, rfl, rfl, rfl, ⟨⟩⟩, (sC (sC sR)), ⟨rfl, (hs3), (by (try dsimp only) <;> omega), (by dsimp only; exact hm.trans (fillGo_next (by omega) (by rw [lk_of_ne (of_decide_eq_false (hr3.symm.trans (by assumption)))]) (by omega))), (by dsimp only; omega)⟩, (by omega)⟩
 refine qX (qr (qr (qJ (qc (qa (qd (ov) rfl (qg (ov) rfl (qg (.bool (true)) rfl (qb (jv [] _ _ rfl (fun F3 le3 hz1 => ?_)))))))))))
 have hf1 : IntsF F3 ov os := intsH.fz (xs := os) hz1.fz
 refine qq (qn (L' := L) [ov, .bool (true)] (.tuple #[ov, .bool (true)]) (.tmp rfl (.tmp rfl .nil)) rfl (qt le1 le3) rF (sD sR) ?_)
 have hz : fillL s t = some os := hm.trans (fillGo_done (by omega))
 exact ⟨_, by rw [hz]; rfl, by rw [hz]; exact hf1, by rw [hz]; exact (hz1.base le1), rfl⟩

/- spec.l2Gives -/
theorem l2Gives_spec {F : FH} {L : List HP} {sv : Value} {s : List (List Int)} (hs : RowsF F sv s) {i : Nat} (hsl : s.length ≤ 4000000) (hi : i ≤ 4000000) (hsb : (s.getD i []).length ≤ 4000000) :
    Does prog 107 [.agg #[sv], ii ((i : Int))] F (L) (fun v F' L' => F = F' ∧ IsSl v ∧ intsH 2 v (lk s (-1 - (i : Int))) :: L = L') := by
 refine qB func107 rfl rfl rfl (qc (qa (cX (qP [sv] rfl rfl ?_))))
 intro b1
 refine qg (sN) rfl (qb (qc (qc (qa (qd (ii ((i : Int))) rfl (cX (qk (0) qN rfl qQ (by decide) rfl rfl (cX (qi jh rfl (Rd.own [] rfl rfl) (cX (qy qz rfl hs.slv (cX (qI rfl rfl (qd (.bool (decide ((i : Int) < (s.length : Int)))) rfl ?_))))))))))))))
 by_cases h1 : (i : Int) < (s.length : Int)
 ·refine qo (t := 10) rfl (vT h1) (qk (0) qN rfl qQ (by decide) rfl rfl (qo (t := 10) rfl (vT h1) (qi jh rfl (Rd.own [] rfl rfl) (qo (t := 10) rfl (vT h1) (qm (ii ((i : Int))) rfl (qo (t := 10) rfl (vT h1) (qx i qz qA rfl rfl rfl hs.slv (by omega) (Nat.mul_one _) ?_)))))))
  obtain ⟨a1, ha1, hr1⟩ := hs.rd (i := i) (by omega)
  refine qo (t := 10) rfl (vT h1) (qi qK rfl (hr1 _) (qo (t := 10) rfl (vT h1) (qy qf rfl ha1.slv (qo (t := 10) rfl (vT h1) (jt rfl rfl (cX (qM (.bool (decide ((((((s.getD i [])).length : Nat) : Int) : Int) > 0))) (vT h1) rfl (qb ?_))))))))
  refine qv (p := (((((s.getD i [])).length : Nat) : Int) : Int) > 0) rfl (fun h2 => ?_) (fun h2 => ?_)
  ·refine qc (qa (cX (qk (0) qN rfl qQ (by decide) rfl rfl (cX (qi jh rfl (Rd.own [] rfl rfl) (qd (ii ((i : Int))) rfl (cX (qx i qz qA rfl rfl rfl hs.slv (by omega) (Nat.mul_one _) (cX (qi qK rfl (hr1 _) (cX (ql (args := [a1]) call42 rfl (l1Copy_spec ha1 (hlt := (by first | assumption | rfl | omega | simp))) ?_))))))))))))
   rintro v1 _ _ _ ⟨rfl, hs1, rfl⟩
   refine qg (v1) rfl (qb (qq (qh (qn (L' := intsH 2 v1 ((((s.getD i [])))) :: L) [v1] (v1) (.tmp rfl .nil) rfl rF rF (sC (sD sR)) ?_))))
   refine ⟨rfl, hs1, ?_⟩
   have hxs : (lk s (-1 - (i : Int)) : List Int) = (((s.getD i []))) := lk_copy (by omega)
   exact congrArg (fun z => intsH 2 _ z :: L) hxs
  refine qw (qc (qa (qd (ii ((i : Int))) rfl (cX (jg ((-1) - ((i : Int))) rfl rfl (by omega) (by omega) (cX (qU (s := 1) [ii ((-1) - ((i : Int)))] [ii (0)] [(0, [ii ((-1) - ((i : Int)))])] qf qE jl rfl (by decide) rfl (.cons rfl CellsAre.nil) rfl ?_)))))))
  intro v2 hv1
  refine qg (v2) rfl (qb (qq (qn (L' := intsH 2 v2 ([(-1) - ((i : Int))]) :: L) [v2] (v2) (.tmp rfl .nil) rfl rF rF (sC (sD sR)) ?_)))
  refine ⟨rfl, (isSl_lit hv1), ?_⟩
  have hxs : (lk s (-1 - (i : Int)) : List Int) = [(-1) - ((i : Int))] := lk_self (by first | omega | (rw [getD_out (by omega)]; simp))
  exact congrArg (fun z => intsH 2 _ z :: L) hxs
 refine qp (t := 10) rfl (vF h1) (qp (t := 10) rfl (vF h1) (qp (t := 10) rfl (vF h1) (qp (t := 10) rfl (vF h1) (qp (t := 10) rfl (vF h1) (qp (t := 10) rfl (vF h1) (qp (t := 10) rfl (vF h1) (cX (qL (.bool (false)) (vF h1) rfl (qb (X.condF rfl ?_))))))))))
 refine qw (qc (qa (qd (ii ((i : Int))) rfl (cX (jg ((-1) - ((i : Int))) rfl rfl (by omega) (by omega) (cX (qU (s := 1) [ii ((-1) - ((i : Int)))] [ii (0)] [(0, [ii ((-1) - ((i : Int)))])] qf qE jl rfl (by decide) rfl (.cons rfl CellsAre.nil) rfl ?_)))))))
 intro v3 hv2
 refine qg (v3) rfl (qb (qq (qn (L' := intsH 2 v3 ([(-1) - ((i : Int))]) :: L) [v3] (v3) (.tmp rfl .nil) rfl rF rF (sC (sD sR)) ?_)))
 refine ⟨rfl, (isSl_lit hv2), ?_⟩
 have hxs : (lk s (-1 - (i : Int)) : List Int) = [(-1) - ((i : Int))] := lk_self (by first | omega | (rw [getD_out (by omega)]; simp))
 exact congrArg (fun z => intsH 2 _ z :: L) hxs

/- spec.l2Plain -/
theorem l2Plain_spec {F : FH} {L : List HP} {sv : Value} {s : List (List Int)} (hs : RowsF F sv s) (hsl : s.length ≤ 24) (hsb : ∀ i, (s.getD i []).length ≤ 4000000) :
    Does prog 176 [.agg #[sv]] F (L) (fun v F' L' => ∃ (a : Value), (.agg #[a] : Value) = v ∧ (RowsF F' a (plainL s)) ∧ L = L') := by
 refine qB func176 rfl rfl rfl (qc (qa (cX (qP [sv] rfl rfl ?_))))
 intro b1
 refine cX (jq [sN] jp rfl ?_)
 intro b2
 refine qb (qc (qa (cX (XOp.build [sN] [sN] [(0, 1)] [] qN jp rfl (.cons rfl qQ PlacesAre.nil) rfl CellsAre.nil (cX (jq [sN] jp rfl ?_))))))
 intro b3
 refine cX (jd [] _ [sN] jc rfl rfl rfl (qZ rfl jj) rfl rfl rfl (qb (qc (qc (qa (qg (ii (0)) rfl (qb (qF (ja (α := Nat × Value × RowL × FH) (fun xQ => [(1, ptr b1 0), (2, ptr b2 0), (3, ptr b3 0), (4, ii (((xQ.1 : Nat) : Int)))]) (fun xQ => rowsH 22 xQ.2.2.2 xQ.2.1 xQ.2.2.1 :: cellsH b3 [xQ.2.1] 86 :: cellsH b2 [sN] 86 :: cellsH b1 [sv] 86 :: L) (fun xQ F' => xQ.2.2.2 = F' ∧ F ≤ xQ.2.2.2 ∧ (IsSl xQ.2.1) ∧ (xQ.2.2.1 = (plainGo 0 s).take xQ.1) ∧ (xQ.1 ≤ s.length)) (fun xQ => s.length - xQ.1) (0, sN, [], F) ⟨rfl, rfl, rfl, rfl, ⟨⟩⟩ (coH.addNil none (sC (sC (sC sR)))) ⟨rfl, FLe.refl _, (⟨_, _, _, rfl⟩), (rfl), (by (try dsimp only) <;> omega)⟩ ?_)))))))))
 rintro ⟨k, ov, os, G1⟩ rE _ _ ⟨rfl, leG, hov, hos, hk⟩
 show X _ _ _ _ (envs [(1, ptr b1 0), (2, ptr b2 0), (3, ptr b3 0), (4, ii ((k : Int)))] rE) _ (rowsH 22 G1 ov os :: cellsH b3 [ov] 86 :: cellsH b2 [sN] 86 :: cellsH b1 [sv] 86 :: L)
 replace leG : F ≤ G1 := leG
 dsimp only at hov hos hk
 have hol : os.length ≤ k := by rw [hos, List.length_take]; omega
 have hsbk := hsb k
 have hlkb : (lk s (-1 - (k : Int))).length ≤ 4000000 := by rw [lk_var]; split <;> simp; exact hsbk
 have leG1 := leG
 replace hs := hs.mono leG1
 refine X.open [] rfl (fun cs1 hc1 => ?_)
 replace hc1 : RowsC G1 cs1 os := hc1
 refine qc (qc (qa (qd (ii ((k : Int))) rfl (cX (qk (0) qN rfl qQ (by decide) rfl rfl (cX (qi jh rfl (Rd.own [_, _, _] rfl rfl) (cX (qy qz rfl hs.slv (cX (qI rfl rfl (qb ?_))))))))))))
 refine qv (p := (k : Int) < (s.length : Int)) rfl (fun h1 => ?_) (fun h1 => ?_)
 ·refine qw (qc (qF (qc (qa (cX (qC [sv] jz jc rfl rfl (Rd.ownN [_, _, _] rfl rfl) (qd (ii ((k : Int))) rfl (cX (jx <| ql (args := [.agg #[sv], ii (k : Int)]) call107 rfl (l2Gives_spec (i := k) hs (hsl := (by first | assumption | rfl | omega | simp)) (hi := (by first | assumption | rfl | omega | simp)) (hsb := (hsb k))) ?_)))))))))
  rintro v1 _ _ _ ⟨rfl, hs1, rfl⟩
  refine ⟨_, _, rfl, fun F1 le1 hz1 => ?_⟩
  replace hc1 := hc1.mono le1
  have hf1 : IntsF F1 v1 ((lk s (-1 - (k : Int)))) := intsH.fz (xs := (lk s (-1 - (k : Int)))) hz1.fz
  refine qg (v1) rfl (qb (qc (qc (qa (qd (v1) rfl (cX (qy qf rfl hf1.slv (cX (XOp.eql rfl rfl (qd (.bool (decide ((((((lk s (-1 - (k : Int)))).length : Nat) : Int) : Int) = 1))) rfl ?_))))))))))
  by_cases h2 : (((((lk s (-1 - (k : Int)))).length : Nat) : Int) : Int) = 1
  ·refine qo (t := 20) rfl (vT h2) (qm (v1) rfl (qo (t := 20) rfl (vT h2) (qx 0 qf qE rfl rfl rfl hf1.slv (by omega) (Nat.mul_one _) (qo (t := 20) rfl (vT h2) (qi qS rfl (hf1.rd (by omega)) (qo (t := 20) rfl (vT h2) (qm (ii ((k : Int))) rfl (qo (t := 20) rfl (vT h2) (jg ((-1) - ((k : Int))) rfl rfl (by omega) (by omega) (qo (t := 20) rfl (vT h2) (XOp.eql rfl rfl (cX (qM (.bool (decide ((((lk s (-1 - (k : Int)))).getD 0 0 : Int) = (-1) - ((k : Int))))) (vT h2) rfl (qb ?_))))))))))))))
   refine qv (p := (((lk s (-1 - (k : Int)))).getD 0 0 : Int) = (-1) - ((k : Int))) rfl (fun h3 => ?_) (fun h3 => ?_)
   ·refine qa (cX (qU (s := 1) [] [ii (0)] [] qf qE jl rfl (by decide) rfl CellsAre.nil rfl ?_))
    intro v2 hv1
    refine qg (v2) rfl (qb (qa (cX (qk (0) qN rfl qQ (by decide) rfl rfl (cX (qi jh rfl (Rd.own [_, _] rfl rfl) (qd (v2) rfl (cX (qU (s := 1) [v2] [sN] [(0, [v2])] qz qA zeroValue22 rfl (by decide) rfl (.cons (cells_one (isSl_lit hv1)) CellsAre.nil) rfl ?_)))))))))
    intro v3 hv2
    show XL _ _ _ _ _ _ _ (slH 22 1 v3 1 [v2] :: intsH 2 v2 ([] : List Int) :: slH 22 1 ov ((os).length) cs1 :: cellsH b3 [ov] 86 :: cellsH b2 [sN] 86 :: cellsH b1 [sv] 86 :: L)
    refine XL.freezeF [_] _ _ rfl (fun F2 le2 hz2 => ?_)
    replace hc1 := hc1.mono le2
    replace hf1 := hf1.mono le2
    have hf2 : IntsF F2 v2 ([]) := intsH.fz (xs := []) hz2.fz
    refine cX (XOp.append (m := 1) (bytes := 24) (cs := cs1) [_] _ [v2] qz typeInfo22 rfl rfl rfl rfl rfl rfl rfl (SlV.own [] rfl) rfl (Rd.lit [] rfl) (qZ (jf (qT hf2)) jj) (by (try simp only [List.length_append, List.length_nil, List.length_cons, List.length_singleton]); omega) (by (try simp only [List.length_append, List.length_nil, List.length_cons, List.length_singleton]); omega) ?_)
    intro v4 hs2 hn1 hm1
    have hc2 := RowsC.snoc hc1 hf2
    refine cX (qk (0) qN rfl qQ (by decide) rfl rfl (cX (jy [_, _] _ [v4] qQ rfl rfl (jf hs2) rfl rfl rfl (qb (qa (qd (ii ((k : Int))) rfl (cX (qG (((k + 1 : Nat) : Int)) rfl rfl (by omega) (by omega) (qg (ii (((k + 1 : Nat) : Int))) rfl (qb ?_))))))))))
    exact ⟨(k + 1, v4, os ++ [[]], F2), _, (qt (qt leG1 le1) le2), rF, ⟨rfl, rfl, rfl, rfl, ⟨⟩⟩, (sD (coH.close hc2 (by first | rfl | simp) (sC (sC (sC sR))))), ⟨rfl, (qt (qt leG1 le1) le2), (hs2), (by dsimp only; rw [hos, plainGo_take (by omega), plainGo_self (one_eq (by omega) (by omega))]), (by (try dsimp only) <;> omega)⟩, (by omega)⟩
   refine qw (qa (cX (qk (0) qN rfl qQ (by decide) rfl rfl (cX (qi jh rfl (Rd.own [_] rfl rfl) (qd (v1) rfl (cX (qU (s := 1) [v1] [sN] [(0, [v1])] qz qA zeroValue22 rfl (by decide) rfl (.cons (cells_one (qT hf1)) CellsAre.nil) rfl ?_))))))))
   intro v5 hv3
   refine cX (XOp.append (m := 1) (bytes := 24) (cs := cs1) [_] _ [v1] qz typeInfo22 rfl rfl rfl rfl rfl rfl rfl (SlV.own [] rfl) rfl (Rd.lit [] rfl) (qZ (jf (qT hf1)) jj) (by (try simp only [List.length_append, List.length_nil, List.length_cons, List.length_singleton]); omega) (by (try simp only [List.length_append, List.length_nil, List.length_cons, List.length_singleton]); omega) ?_)
   intro v6 hs3 hn2 hm2
   have hc3 := RowsC.snoc hc1 hf1
   refine cX (qk (0) qN rfl qQ (by decide) rfl rfl (cX (jy [_, _] _ [v6] qQ rfl rfl (jf hs3) rfl rfl rfl (qb (qa (qd (ii ((k : Int))) rfl (cX (qG (((k + 1 : Nat) : Int)) rfl rfl (by omega) (by omega) (qg (ii (((k + 1 : Nat) : Int))) rfl (qb ?_))))))))))
   exact ⟨(k + 1, v6, os ++ [(lk s (-1 - (k : Int)))], F1), _, (qt leG1 le1), rF, ⟨rfl, rfl, rfl, rfl, ⟨⟩⟩, (sD (coH.close hc3 (by first | rfl | simp) (sC (sC (sC sR))))), ⟨rfl, (qt leG1 le1), (hs3), (by dsimp only; rw [hos, plainGo_take (by omega), plainGo_other (by intro e; have e1 := congrArg List.length e; have e2 := congrArg (fun l => l.getD 0 0) e; simp only [List.length_singleton, List.getD_cons_zero] at e1 e2; omega)]), (by (try dsimp only) <;> omega)⟩, (by omega)⟩
  refine qp (t := 20) rfl (vF h2) (qp (t := 20) rfl (vF h2) (qp (t := 20) rfl (vF h2) (qp (t := 20) rfl (vF h2) (qp (t := 20) rfl (vF h2) (qp (t := 20) rfl (vF h2) (cX (qL (.bool (false)) (vF h2) rfl (qb (X.condF rfl (qw (qa ?_)))))))))))
  refine cX (qk (0) qN rfl qQ (by decide) rfl rfl (cX (qi jh rfl (Rd.own [_] rfl rfl) (qd (v1) rfl (cX (qU (s := 1) [v1] [sN] [(0, [v1])] qz qA zeroValue22 rfl (by decide) rfl (.cons (cells_one (qT hf1)) CellsAre.nil) rfl ?_))))))
  intro v7 hv4
  refine cX (XOp.append (m := 1) (bytes := 24) (cs := cs1) [_] _ [v1] qz typeInfo22 rfl rfl rfl rfl rfl rfl rfl (SlV.own [] rfl) rfl (Rd.lit [] rfl) (qZ (jf (qT hf1)) jj) (by (try simp only [List.length_append, List.length_nil, List.length_cons, List.length_singleton]); omega) (by (try simp only [List.length_append, List.length_nil, List.length_cons, List.length_singleton]); omega) ?_)
  intro v8 hs4 hn3 hm3
  have hc4 := RowsC.snoc hc1 hf1
  refine cX (qk (0) qN rfl qQ (by decide) rfl rfl (cX (jy [_, _] _ [v8] qQ rfl rfl (jf hs4) rfl rfl rfl (qb (qa (qd (ii ((k : Int))) rfl (cX (qG (((k + 1 : Nat) : Int)) rfl rfl (by omega) (by omega) (qg (ii (((k + 1 : Nat) : Int))) rfl (qb ?_))))))))))
  exact ⟨(k + 1, v8, os ++ [(lk s (-1 - (k : Int)))], F1), _, (qt leG1 le1), rF, ⟨rfl, rfl, rfl, rfl, ⟨⟩⟩, (sD (coH.close hc4 (by first | rfl | simp) (sC (sC (sC sR))))), ⟨rfl, (qt leG1 le1), (hs4), (by dsimp only; rw [hos, plainGo_take (by omega), plainGo_other (by intro e; have e1 := congrArg List.length e; have e2 := congrArg (fun l => l.getD 0 0) e; simp only [List.length_singleton, List.getD_cons_zero] at e1 e2; omega)]), (by (try dsimp only) <;> omega)⟩, (by omega)⟩
 refine qX (qr (qr (qJ (qc (qF (ja (α := Value × RowL × FH) (fun xQ => [(2, ptr b2 0), (3, ptr b3 0)]) (fun xQ => rowsH 22 xQ.2.2 xQ.1 xQ.2.1 :: cellsH b3 [xQ.1] 86 :: cellsH b2 [sN] 86 :: cellsH b1 [sv] 86 :: L) (fun xQ F' => xQ.2.2 = F' ∧ G1 ≤ xQ.2.2 ∧ (IsSl xQ.1) ∧ (trim xQ.2.1 = plainL s) ∧ (xQ.2.1.length ≤ 24)) (fun xQ => xQ.2.1.length) (ov, os, G1) ⟨rfl, rfl, ⟨⟩⟩ (coH.close hc1 (by first | rfl | simp) (sC (sC (sC sR)))) ⟨rfl, FLe.refl _, (hov), (by dsimp only; rw [hos, plainL, List.take_of_length_le (by rw [plainGo_length]; omega)]), (by dsimp only; rw [hos, List.length_take, plainGo_length]; omega)⟩ ?_))))))
 rintro ⟨ov2, os2, G2⟩ rE _ _ ⟨rfl, leG, hov2, hos2, hl2⟩
 show X _ _ _ _ (envs [(2, ptr b2 0), (3, ptr b3 0)] rE) _ (rowsH 22 G2 ov2 os2 :: cellsH b3 [ov2] 86 :: cellsH b2 [sN] 86 :: cellsH b1 [sv] 86 :: L)
 replace leG : G1 ≤ G2 := leG
 dsimp only at hov2 hos2 hl2
 have leG2 := leG
 refine X.open [] rfl (fun cs2 hc5 => ?_)
 replace hc5 : RowsC G2 cs2 os2 := hc5
 refine qc (qc (qa (cX (qk (0) qN rfl qQ (by decide) rfl rfl (cX (qi jh rfl (Rd.own [_] rfl rfl) (cX (qy qz rfl (SlV.own [] rfl) (cX (jt rfl rfl (qd (.bool (decide (((os2.length : Int) : Int) > 0))) rfl ?_)))))))))))
 by_cases h4 : ((os2.length : Int) : Int) > 0
 ·refine qo (t := 39) rfl (vT h4) (qk (0) qN rfl qQ (by decide) rfl rfl (qo (t := 39) rfl (vT h4) (qi jh rfl (Rd.own [_] rfl rfl) (qo (t := 39) rfl (vT h4) (qk (0) qN rfl qQ (by decide) rfl rfl (qo (t := 39) rfl (vT h4) (qi jh rfl (Rd.own [_] rfl rfl) (qo (t := 39) rfl (vT h4) (qy qz rfl (SlV.own [] rfl) (qo (t := 39) rfl (vT h4) (jg (((os2.length - 1 : Nat) : Int)) rfl rfl (by omega) (by omega) (qo (t := 39) rfl (vT h4) (qx (os2.length - 1) qz qA rfl rfl rfl (SlV.own [] rfl) (by omega) (Nat.mul_one _) ?_)))))))))))))
  obtain ⟨a1, ha1, he1⟩ := hc5.get (i := os2.length - 1) (by omega)
  refine qo (t := 39) rfl (vT h4) (qi qK rfl (Rd.sl [] rfl he1) (qo (t := 39) rfl (vT h4) (qy qf rfl ha1.slv (qo (t := 39) rfl (vT h4) (XOp.eql rfl rfl (cX (qM (.bool (decide ((((((os2.getD (os2.length - 1) [])).length : Nat) : Int) : Int) = 0))) (vT h4) rfl (qb ?_))))))))
  refine qv (p := (((((os2.getD (os2.length - 1) [])).length : Nat) : Int) : Int) = 0) rfl (fun h5 => ?_) (fun h5 => ?_)
  ·refine qw (qF (qa (cX (qk (0) qN rfl qQ (by decide) rfl rfl (cX (qi jh rfl (Rd.own [_] rfl rfl) (cX (qk (0) qN rfl qQ (by decide) rfl rfl (cX (qi jh rfl (Rd.own [_] rfl rfl) (cX (qy qz rfl (SlV.own [] rfl) (cX (jg (((os2.length - 1 : Nat) : Int)) rfl rfl (by omega) (by omega) (cX (XOp.sliceOwn (cs := cs2) [] _ (os2.length - 1) qz qA rfl rfl ⟨_, rfl⟩ (by omega) ?_))))))))))))))))
   intro v9 hs5
   have hc6 : RowsC G2 _ _ := CO.take hc5 (k := os2.length - 1) (by omega)
   refine cX (qk (0) qN rfl qQ (by decide) rfl rfl (cX (jy [_] _ [v9] qQ rfl rfl (jf hs5) rfl rfl rfl (qb ?_))))
   exact ⟨(v9, (os2.take (os2.length - 1)), G2), _, leG2, rF, ⟨rfl, rfl, ⟨⟩⟩, (coH.close hc6 (by first | rfl | simp) (sC (sC (sC sR)))), ⟨rfl, leG2, (hs5), (by dsimp only; rw [trim_cut (by omega) (List.eq_nil_of_length_eq_zero (by omega))]; exact hos2), (by dsimp only; rw [List.length_take]; omega)⟩, (by dsimp only; rw [List.length_take]; omega)⟩
  refine qX (qr (qr (qJ (qc (qa (cX (qC [ov2] jz jc rfl rfl (Rd.ownN [_] rfl rfl) (cX (jd [_, _] _ [ov2] jc rfl rfl rfl (qZ (jf hov2) jj) rfl rfl rfl (qb (jv [] _ _ rfl (fun F3 le3 hz3 => ?_))))))))))))
  replace hc5 := hc5.mono le3
  have hf3 : RowsF F3 ov2 os2 := CO.fz hc5 (by first | rfl | omega | (rw [List.length_set]; omega) | (simp; done)) hz3.fz
  refine qq (qn (L' := L) [.agg #[ov2]] (.agg #[ov2]) (.cell rfl (loadNV [ov2] jz jc rfl (Rd.ownN [_] rfl rfl)) .nil) rfl (qt (qt leG1 leG2) le3) rF (sD (sD (sD sR))) ?_)
  have e : os2 = plainL s := by rw [← hos2]; exact (trim_last (fun h0 e => by have := congrArg List.length e; simp only [List.length_nil] at this; omega)).symm
  exact ⟨_, rfl, by rw [← e]; exact hf3, rfl⟩
 refine qp (t := 39) rfl (vF h4) (qp (t := 39) rfl (vF h4) (qp (t := 39) rfl (vF h4) (qp (t := 39) rfl (vF h4) (qp (t := 39) rfl (vF h4) (qp (t := 39) rfl (vF h4) (qp (t := 39) rfl (vF h4) (qp (t := 39) rfl (vF h4) (qp (t := 39) rfl (vF h4) (qp (t := 39) rfl (vF h4) ?_)))))))))
 refine cX (qL (.bool (false)) (vF h4) rfl (qb (X.condF rfl (qX (qr (qr (qJ (qc (qa (cX (qC [ov2] jz jc rfl rfl (Rd.ownN [_] rfl rfl) (cX (jd [_, _] _ [ov2] jc rfl rfl rfl (qZ (jf hov2) jj) rfl rfl rfl (qb (jv [] _ _ rfl (fun F4 le4 hz4 => ?_))))))))))))))))
 replace hc5 := hc5.mono le4
 have hf4 : RowsF F4 ov2 os2 := CO.fz hc5 (by first | rfl | omega | (rw [List.length_set]; omega) | (simp; done)) hz4.fz
 refine qq (qn (L' := L) [.agg #[ov2]] (.agg #[ov2]) (.cell rfl (loadNV [ov2] jz jc rfl (Rd.ownN [_] rfl rfl)) .nil) rfl (qt (qt leG1 leG2) le4) rF (sD (sD (sD sR))) ?_)
 have e : os2 = plainL s := by rw [← hos2]; exact (trim_last (fun h0 e => by have := congrArg List.length e; simp only [List.length_nil] at this; omega)).symm
 exact ⟨_, rfl, by rw [← e]; exact hf4, rfl⟩

/- spec.l4Match -/
theorem l4Match_spec {F : FH} {L : List HP} {arv : Value} {ar : List Int} (har : IntsF F arv ar) {pv : Value} {p : List Int} (hp : IntsF F pv p) {tv : Value} {t : List Int} (ht : IntsF F tv t) (ho : termOk ar t = true) (hpo : termOk ar p = true) :
    Does prog 106 [.agg #[arv], pv, tv] F (L) (fun v F' L' => ∃ (a : Value), (.tuple #[.agg #[a], .bool ((matchB ar p t).isSome)] : Value) = v ∧ (RowsF F' a (matchP ar p t)) ∧ L = L') := by
 refine qB func106 rfl rfl rfl ?_
 have hpl := termOk_len hpo
 have hpg := fun k (hk : k < p.length) => termOk_ge hpo hk
 have htl := termOk_len ho
 have hsl := sigOk_spec (termOk_sig ho)
 refine qc (qa (cX (qP [arv] rfl rfl ?_)))
 intro b1
 refine cX (jq [sN] jp rfl ?_)
 intro b2
 refine qg (.bool (false)) rfl (qb (qc (qa (cX (XOp.makeSlice (n := 24) (bytes := 24) [sN] qz qA typeInfo22 rfl zeroValue22 rfl rfl rfl rfl (by omega) (by omega) ?_)))))
 intro v1 hv1
 rw [nils]
 have hc1 : RowsC F _ _ := RowsC.nils 24
 refine cX (XOp.build [v1] [sN] [(0, 1)] [(0, [v1])] qN jp rfl (.cons rfl qQ PlacesAre.nil) rfl (.cons (cells_one (isSl_lit hv1)) CellsAre.nil) (cX (jq [sN] jp rfl ?_)))
 intro b3
 refine cX (jd [] _ [v1] jc rfl rfl rfl (qZ (jf (isSl_lit hv1)) jj) rfl rfl rfl (qb (qc (qa (qg (ii (0)) rfl (qb (qc (qc (qa (qg (ii (0)) rfl (qb (qF (ja (α := Nat × Nat × RowL × FH) (fun xQ => [(1, pv), (2, tv), (3, ptr b1 0), (6, ptr b2 0), (8, ptr b3 0), (9, ii (((xQ.2.1 : Nat) : Int))), (10, ii (((xQ.1 : Nat) : Int)))]) (fun xQ => cellsH b3 [v1] 86 :: rowsH 22 xQ.2.2.2 v1 xQ.2.2.1 :: cellsH b2 [sN] 86 :: cellsH b1 [arv] 31 :: L) (fun xQ F' => xQ.2.2.2 = F' ∧ F ≤ xQ.2.2.2 ∧ (xQ.2.2.1.length = 24) ∧ (xQ.1 ≤ p.length) ∧ (xQ.2.1 ≤ t.length) ∧ (matchB ar p t = mGo ar t (p.drop xQ.1) xQ.2.1 xQ.2.2.1)) (fun xQ => p.length - xQ.1) (0, 0, (List.replicate 24 [] : List (List Int)), F) ⟨rfl, rfl, rfl, rfl, rfl, rfl, rfl, ⟨⟩⟩ (sC (coH.close hc1 (by first | rfl | simp) (sC (sC sR)))) ⟨rfl, FLe.refl _, (by simp), (by (try dsimp only) <;> omega), (by (try dsimp only) <;> omega), (rfl)⟩ ?_)))))))))))))
 rintro ⟨k, i, bl, G1⟩ rE _ _ ⟨rfl, leG, hbl, hk, hi, hm⟩
 show X _ _ _ _ (envs [(1, pv), (2, tv), (3, ptr b1 0), (6, ptr b2 0), (8, ptr b3 0), (9, ii ((i : Int))), (10, ii ((k : Int)))] rE) _ (cellsH b3 [v1] 86 :: rowsH 22 G1 v1 bl :: cellsH b2 [sN] 86 :: cellsH b1 [arv] 31 :: L)
 replace leG : F ≤ G1 := leG
 dsimp only at hbl hk hi hm
 have hpk := hpg k
 have hsl2 := fun h => sub_length (p := i) ho h
 have hee := fun h => endN_spec (p := i) ho h
 have leG1 := leG
 replace har := har.mono leG1
 replace hp := hp.mono leG1
 replace ht := ht.mono leG1
 refine X.open [_] rfl (fun cs1 hc2 => ?_)
 replace hc2 : RowsC G1 cs1 bl := hc2
 refine qc (qc (qa (qd (ii ((k : Int))) rfl (qd (pv) rfl (cX (qy qf rfl hp.slv (cX (qI rfl rfl (qb ?_)))))))))
 refine qv (p := (k : Int) < (p.length : Int)) rfl (fun h1 => ?_) (fun h1 => ?_)
 ·refine qw (qc (qF (qc (qc (qa (qd (ii ((i : Int))) rfl (qd (tv) rfl (cX (qy qf rfl ht.slv (cX (XOp.geq rfl rfl (qb ?_))))))))))))
  refine qv (p := (i : Int) ≥ (t.length : Int)) rfl (fun h2 => ?_) (fun h2 => ?_)
  ·refine qc (qa (cX (XOp.build [sN] [sN] [(0, 1)] [] qN jp rfl (.cons rfl qQ PlacesAre.nil) rfl CellsAre.nil (cX (jd [_, _] _ [sN] jc rfl rfl rfl (qZ rfl jj) rfl rfl rfl (qg (.bool (false)) rfl (qb (qq (qh (qu (qh (qh (qu (qh (qn (L' := L) [.agg #[sN], .bool (false)] (.tuple #[.agg #[sN], .bool (false)]) (.cell rfl (loadNV [sN] jz jc rfl (Rd.ownN [_, _] rfl rfl)) (.tmp rfl .nil)) rfl leG1 rF (sD (sD (sD (sD sR)))) ?_)))))))))))))))
   have hz : matchB ar p t = none := hm.trans (mGo_short (by omega) (by omega))
   exact ⟨_, by rw [hz]; rfl, by rw [matchP, hz]; exact SlOf.nilV, rfl⟩
  refine qw (qc (qc (qa (qd (pv) rfl (qd (ii ((k : Int))) rfl (cX (qx k qf qE rfl rfl rfl hp.slv (by omega) (Nat.mul_one _) (cX (qi qS rfl (hp.rd (by omega)) (cX (XOp.geq rfl rfl (qb ?_))))))))))))
  refine qv (p := (p.getD k 0 : Int) ≥ 0) rfl (fun h3 => ?_) (fun h3 => ?_)
  ·refine qc (qc ?_)
   refine ju [cellsH b3 [v1] 86, slH 22 1 v1 ((bl).length) cs1, cellsH b2 [sN] 86, cellsH b1 [arv] 31] L 8 [] [[], [], [0, 1], [2], [], [], [4, 5], [6]] (phiL [qe pv, qe (ii ((k : Int)) : Value), qe (.pointer (some (elemA pv (k)))), qe (ii (p.getD k 0)), qe tv, qe (ii ((i : Int)) : Value), qe (.pointer (some (elemA tv (i)))), qe (ii (t.getD i 0))]) (ownL []) mixed rfl rfl (by kernel_rfl) ?_ ?_
   ·refine pD (fun W R z9 => ?_) ?_
    ·refine qj (qm (pv) rfl ?_)
     exact ⟨rfl, rfl, rfl⟩
    refine pD (fun W R z9 => ?_) ?_
    ·refine qj (qm (ii ((k : Int))) rfl ?_)
     exact ⟨rfl, rfl, rfl⟩
    refine pD (fun W R z9 => ?_) ?_
    ·rw [eS (l := [(0, _), (1, _)]) ⟨z9 0 rfl, z9 1 rfl, ⟨⟩⟩]
     refine qj (qx k qf qE rfl rfl rfl hp.slv (by omega) (Nat.mul_one _) ?_)
     exact ⟨rfl, rfl, rfl⟩
    refine pD (fun W R z9 => ?_) ?_
    ·rw [eS (l := [(2, _)]) ⟨z9 2 rfl, ⟨⟩⟩]
     refine qj (qi qS rfl (hp.rd (by omega)) ?_)
     exact ⟨rfl, rfl, rfl⟩
    refine pD (fun W R z9 => ?_) ?_
    ·refine qj (qm (tv) rfl ?_)
     exact ⟨rfl, rfl, rfl⟩
    refine pD (fun W R z9 => ?_) ?_
    ·refine qj (qm (ii ((i : Int))) rfl ?_)
     exact ⟨rfl, rfl, rfl⟩
    refine pD (fun W R z9 => ?_) ?_
    ·rw [eS (l := [(4, _), (5, _)]) ⟨z9 4 rfl, z9 5 rfl, ⟨⟩⟩]
     refine qj (qx i qf qE rfl rfl rfl ht.slv (by omega) (Nat.mul_one _) ?_)
     exact ⟨rfl, rfl, rfl⟩
    refine pD (fun W R z9 => ?_) ?_
    ·rw [eS (l := [(6, _)]) ⟨z9 6 rfl, ⟨⟩⟩]
     refine qj (qi qS rfl (ht.rd (by omega)) ?_)
     exact ⟨rfl, rfl, rfl⟩
    exact stepsP.nil
   intro W hphi
   rw [eS (l := [(3, _), (7, _)]) ⟨(hphi 3 (by decide)), (hphi 7 (by decide)), ⟨⟩⟩]
   show XL _ _ _ _ _ _ _ (cellsH b3 [v1] 86 :: slH 22 1 v1 ((bl).length) cs1 :: cellsH b2 [sN] 86 :: cellsH b1 [arv] 31 :: L)
   refine cX (XOp.neq rfl rfl (qb ?_))
   refine qv (p := (p.getD k 0 : Int) ≠ t.getD i 0) rfl (fun h4 => ?_) (fun h4 => ?_)
   ·refine qc (qa (cX (XOp.build [sN] [sN] [(0, 1)] [] qN jp rfl (.cons rfl qQ PlacesAre.nil) rfl CellsAre.nil (cX (jd [_, _] _ [sN] jc rfl rfl rfl (qZ rfl jj) rfl rfl rfl (qg (.bool (false)) rfl (qb (qq (qh (qh (qu (qh (qh (qu (qh (qn (L' := L) [.agg #[sN], .bool (false)] (.tuple #[.agg #[sN], .bool (false)]) (.cell rfl (loadNV [sN] jz jc rfl (Rd.ownN [_, _] rfl rfl)) (.tmp rfl .nil)) rfl leG1 rF (sD (sD (sD (sD sR)))) ?_))))))))))))))))
    have hz : matchB ar p t = none := hm.trans (mGo_ne (by omega) (by omega) (by omega) (by omega))
    exact ⟨_, by rw [hz]; rfl, by rw [matchP, hz]; exact SlOf.nilV, rfl⟩
   refine qw (qc (qa (qd (ii ((i : Int))) rfl (cX (qG (((i + 1 : Nat) : Int)) rfl rfl (by omega) (by omega) (qg (ii (((i + 1 : Nat) : Int))) rfl (qb (qX (qr (qJ (qa (qd (ii ((k : Int))) rfl (cX (qG (((k + 1 : Nat) : Int)) rfl rfl (by omega) (by omega) (qg (ii (((k + 1 : Nat) : Int))) rfl ?_)))))))))))))))
   refine qb ?_
   exact ⟨(k + 1, i + 1, bl, G1), _, leG1, rF, ⟨rfl, rfl, rfl, rfl, rfl, rfl, rfl, ⟨⟩⟩, (sC (coH.close hc2 (by first | rfl | simp) (sC (sC sR)))), ⟨rfl, leG1, (by (try dsimp only); (try simp only [List.length_set]) <;> omega), (by (try dsimp only) <;> omega), (by (try dsimp only) <;> omega), (hm.trans (mGo_sym (by omega) (by omega) (by omega) (by omega)))⟩, (by omega)⟩
  refine qw (qc (qa (cX (qC [arv] qW qH rfl rfl (Rd.ownN [_, _, _] rfl rfl) (qd (tv) rfl (qd (ii ((i : Int))) rfl (cX (jx <| ql (args := [.agg #[arv], tv, ii (i : Int)]) call44 rfl (l1Sub_spec (p := i) har ht (ho := (by first | assumption | rfl | omega | simp)) (hp := (by first | assumption | rfl | omega | simp))) ?_))))))))
  rintro v2 _ _ _ ⟨rfl, hs1, rfl⟩
  refine ⟨_, _, rfl, fun F1 le1 hz1 => ?_⟩
  replace hp := hp.mono le1
  replace hc2 := hc2.mono le1
  have hf1 : IntsF F1 v2 ((sub ar t i)) := intsH.fz (xs := (sub ar t i)) hz1.fz
  refine qg (v2) rfl (qb (qc ?_))
  refine ju [cellsH b3 [v1] 86, slH 22 1 v1 ((bl).length) cs1, cellsH b2 [sN] 86, cellsH b1 [arv] 31] L 7 [] [[], [0], [], [], [2, 3], [4], [5]] (phiL [qe (ptr b3 0), qe v1, qe pv, qe (ii ((k : Int)) : Value), qe (.pointer (some (elemA pv (k)))), qe (ii (p.getD k 0)), qe (ii ((-1) - (p.getD k 0)))]) (ownL []) mixed rfl rfl (by kernel_rfl) ?_ ?_
  ·refine pD (fun W R z9 => ?_) ?_
   ·refine qj (qk (0) qN rfl qQ (by decide) rfl rfl ?_)
    exact ⟨rfl, rfl, rfl⟩
   refine pD (fun W R z9 => ?_) ?_
   ·rw [eS (l := [(0, _)]) ⟨z9 0 rfl, ⟨⟩⟩]
    refine qj (qi jh rfl (Rd.own [] rfl rfl) ?_)
    exact ⟨rfl, rfl, rfl⟩
   refine pD (fun W R z9 => ?_) ?_
   ·refine qj (qm (pv) rfl ?_)
    exact ⟨rfl, rfl, rfl⟩
   refine pD (fun W R z9 => ?_) ?_
   ·refine qj (qm (ii ((k : Int))) rfl ?_)
    exact ⟨rfl, rfl, rfl⟩
   refine pD (fun W R z9 => ?_) ?_
   ·rw [eS (l := [(2, _), (3, _)]) ⟨z9 2 rfl, z9 3 rfl, ⟨⟩⟩]
    refine qj (qx k qf qE rfl rfl rfl hp.slv (by omega) (Nat.mul_one _) ?_)
    exact ⟨rfl, rfl, rfl⟩
   refine pD (fun W R z9 => ?_) ?_
   ·rw [eS (l := [(4, _)]) ⟨z9 4 rfl, ⟨⟩⟩]
    refine qj (qi qS rfl (hp.rd (by omega)) ?_)
    exact ⟨rfl, rfl, rfl⟩
   refine pD (fun W R z9 => ?_) ?_
   ·rw [eS (l := [(5, _)]) ⟨z9 5 rfl, ⟨⟩⟩]
    refine qj (jg ((-1) - (p.getD k 0)) rfl rfl (by omega) (by omega) ?_)
    exact ⟨rfl, rfl, rfl⟩
   exact stepsP.nil
  intro W hphi
  rw [eS (l := [(1, _), (6, _)]) ⟨(hphi 1 (by decide)), (hphi 6 (by decide)), ⟨⟩⟩]
  show XL _ _ _ _ _ _ _ (cellsH b3 [v1] 86 :: slH 22 1 v1 ((bl).length) cs1 :: cellsH b2 [sN] 86 :: cellsH b1 [arv] 31 :: L)
  refine cX (qx (((-1) - (p.getD k 0)).toNat) qz qA rfl rfl (by omega) (SlV.own [_] rfl) (by omega) (Nat.mul_one _) ?_)
  obtain ⟨a1, ha1, he1⟩ := hc2.get (i := ((-1) - (p.getD k 0)).toNat) (by omega)
  refine cX (qi qK rfl (Rd.sl [_] rfl he1) (qg (a1) rfl (qb (qc (qc (qa (qd (a1) rfl (cX (qy qf rfl ha1.slv (cX (jt rfl rfl (qd (.bool (decide ((((((bl.getD (((-1) - (p.getD k 0)).toNat) [])).length : Nat) : Int) : Int) > 0))) rfl ?_))))))))))))
  by_cases h5 : (((((bl.getD (((-1) - (p.getD k 0)).toNat) [])).length : Nat) : Int) : Int) > 0
  ·refine qo (t := 59) rfl (vT h5) (qm (a1) rfl (qo (t := 59) rfl (vT h5) (qm (v2) rfl (qo (t := 59) rfl (vT h5) (ql (args := [a1, v2]) call32 rfl (SameTerm_spec ha1 hf1 (hbd := (by first | assumption | rfl | omega | (left; simp; done) | (right; simp; done)))) ?_)))))
   rintro _ _ _ _ ⟨rfl, rfl, rfl⟩
   refine qo (t := 59) rfl (vT h5) (jo rfl (cX (qM (.bool (decide (¬(((bl.getD (((-1) - (p.getD k 0)).toNat) [])) = ((sub ar t i)))))) (vT h5) rfl (qb ?_))))
   refine qv (p := ¬(((bl.getD (((-1) - (p.getD k 0)).toNat) [])) = ((sub ar t i)))) rfl (fun h6 => ?_) (fun h6 => ?_)
   ·refine qc (qa (cX (XOp.build [sN] [sN] [(0, 1)] [] qN jp rfl (.cons rfl qQ PlacesAre.nil) rfl CellsAre.nil (cX (jd [_, _] _ [sN] jc rfl rfl rfl (qZ rfl jj) rfl rfl rfl (qg (.bool (false)) rfl (qb (qq (qh (qu (qh (qh (qu (qh (qn (L' := L) [.agg #[sN], .bool (false)] (.tuple #[.agg #[sN], .bool (false)]) (.cell rfl (loadNV [sN] jz jc rfl (Rd.ownN [_, _] rfl rfl)) (.tmp rfl .nil)) rfl (qt leG1 le1) rF (sD (sD (sD (sD sR)))) ?_)))))))))))))))
    have hz : matchB ar p t = none := hm.trans (mGo_clash (by omega) (by omega) (by omega) (by intro e; have := congrArg List.length (show bl.getD (-1 - p.getD k 0).toNat [] = [] from e); simp only [List.length_nil] at this; omega) (by assumption))
    exact ⟨_, by rw [hz]; rfl, by rw [matchP, hz]; exact SlOf.nilV, rfl⟩
   refine qw (qc ?_)
   refine ju [cellsH b3 [v1] 86, slH 22 1 v1 ((bl).length) cs1, cellsH b2 [sN] 86, cellsH b1 [arv] 31] L 8 [] [[], [0], [], [], [2, 3], [4], [5]] (phiL [qe (ptr b3 0), qe v1, qe pv, qe (ii ((k : Int)) : Value), qe (.pointer (some (elemA pv (k)))), qe (ii (p.getD k 0)), qe (ii ((-1) - (p.getD k 0))), qe v2]) (ownL []) mixed rfl rfl (by kernel_rfl) ?_ ?_
   ·refine pD (fun W R z9 => ?_) ?_
    ·refine qj (qk (0) qN rfl qQ (by decide) rfl rfl ?_)
     exact ⟨rfl, rfl, rfl⟩
    refine pD (fun W R z9 => ?_) ?_
    ·rw [eS (l := [(0, _)]) ⟨z9 0 rfl, ⟨⟩⟩]
     refine qj (qi jh rfl (Rd.own [] rfl rfl) ?_)
     exact ⟨rfl, rfl, rfl⟩
    refine pD (fun W R z9 => ?_) ?_
    ·refine qj (qm (pv) rfl ?_)
     exact ⟨rfl, rfl, rfl⟩
    refine pD (fun W R z9 => ?_) ?_
    ·refine qj (qm (ii ((k : Int))) rfl ?_)
     exact ⟨rfl, rfl, rfl⟩
    refine pD (fun W R z9 => ?_) ?_
    ·rw [eS (l := [(2, _), (3, _)]) ⟨z9 2 rfl, z9 3 rfl, ⟨⟩⟩]
     refine qj (qx k qf qE rfl rfl rfl hp.slv (by omega) (Nat.mul_one _) ?_)
     exact ⟨rfl, rfl, rfl⟩
    refine pD (fun W R z9 => ?_) ?_
    ·rw [eS (l := [(4, _)]) ⟨z9 4 rfl, ⟨⟩⟩]
     refine qj (qi qS rfl (hp.rd (by omega)) ?_)
     exact ⟨rfl, rfl, rfl⟩
    refine pD (fun W R z9 => ?_) ?_
    ·rw [eS (l := [(5, _)]) ⟨z9 5 rfl, ⟨⟩⟩]
     refine qj (jg ((-1) - (p.getD k 0)) rfl rfl (by omega) (by omega) ?_)
     exact ⟨rfl, rfl, rfl⟩
    refine pD (fun W R z9 => ?_) ?_
    ·refine qj (qm (v2) rfl ?_)
     exact ⟨rfl, rfl, rfl⟩
    exact stepsP.nil
   intro W hphi
   rw [eS (l := [(1, _), (6, _), (7, _)]) ⟨(hphi 1 (by decide)), (hphi 6 (by decide)), (hphi 7 (by decide)), ⟨⟩⟩]
   show XL _ _ _ _ _ _ _ (cellsH b3 [v1] 86 :: slH 22 1 v1 ((bl).length) cs1 :: cellsH b2 [sN] 86 :: cellsH b1 [arv] 31 :: L)
   refine cX (qx (((-1) - (p.getD k 0)).toNat) qz qA rfl rfl (by omega) (SlV.own [_] rfl) (by omega) (Nat.mul_one _) (cX (XOp.storeS (i := ((-1) - (p.getD k 0)).toNat) (cs := cs1) [_] _ qA rfl rfl (jf (qT hf1)) rfl (by have h9 := CO.len hc2; (try simp only [List.length_set, List.length_replicate] at h9 ⊢) <;> omega) ?_)))
   have hc3 := hc2.set (((-1) - (p.getD k 0)).toNat) hf1
   refine qb (qa (qd (ii ((i : Int))) rfl (qd (v2) rfl (cX (qy qf rfl hf1.slv (cX (qG (((i + (((sub ar t i)).length) : Nat) : Int)) rfl rfl (by omega) (by omega) (qg (ii (((i + (((sub ar t i)).length) : Nat) : Int))) rfl (qb (qa (qd (ii ((k : Int))) rfl (cX (qG (((k + 1 : Nat) : Int)) rfl rfl (by omega) (by omega) (qg (ii (((k + 1 : Nat) : Int))) rfl ?_))))))))))))))
   refine qb ?_
   exact ⟨(k + 1, i + (((sub ar t i)).length), (bl.set (((-1) - (p.getD k 0)).toNat) ((sub ar t i))), F1), _, (qt leG1 le1), rF, ⟨rfl, rfl, rfl, rfl, rfl, rfl, rfl, ⟨⟩⟩, (sC (coH.close hc3 (by first | rfl | simp) (sC (sC sR)))), ⟨rfl, (qt leG1 le1), (by (try dsimp only); (try simp only [List.length_set]) <;> omega), (by (try dsimp only) <;> omega), (by (try dsimp only) <;> omega), (hm.trans (m4_next (by omega) (by omega) (by omega) (by first | (left; exact List.eq_nil_of_length_eq_zero (show (bl.getD (-1 - p.getD k 0).toNat []).length = 0 by omega)) | (right; first | assumption | exact Classical.not_not.1 (by assumption)))))⟩, (by omega)⟩
  refine qp (t := 59) rfl (vF h5) (qp (t := 59) rfl (vF h5) (qp (t := 59) rfl (vF h5) (qp (t := 59) rfl (vF h5) (cX (qL (.bool (false)) (vF h5) rfl (qb (X.condF rfl (qw (qc ?_)))))))))
  refine ju [cellsH b3 [v1] 86, slH 22 1 v1 ((bl).length) cs1, cellsH b2 [sN] 86, cellsH b1 [arv] 31] L 8 [] [[], [0], [], [], [2, 3], [4], [5]] (phiL [qe (ptr b3 0), qe v1, qe pv, qe (ii ((k : Int)) : Value), qe (.pointer (some (elemA pv (k)))), qe (ii (p.getD k 0)), qe (ii ((-1) - (p.getD k 0))), qe v2]) (ownL []) mixed rfl rfl (by kernel_rfl) ?_ ?_
  ·refine pD (fun W R z9 => ?_) ?_
   ·refine qj (qk (0) qN rfl qQ (by decide) rfl rfl ?_)
    exact ⟨rfl, rfl, rfl⟩
   refine pD (fun W R z9 => ?_) ?_
   ·rw [eS (l := [(0, _)]) ⟨z9 0 rfl, ⟨⟩⟩]
    refine qj (qi jh rfl (Rd.own [] rfl rfl) ?_)
    exact ⟨rfl, rfl, rfl⟩
   refine pD (fun W R z9 => ?_) ?_
   ·refine qj (qm (pv) rfl ?_)
    exact ⟨rfl, rfl, rfl⟩
   refine pD (fun W R z9 => ?_) ?_
   ·refine qj (qm (ii ((k : Int))) rfl ?_)
    exact ⟨rfl, rfl, rfl⟩
   refine pD (fun W R z9 => ?_) ?_
   ·rw [eS (l := [(2, _), (3, _)]) ⟨z9 2 rfl, z9 3 rfl, ⟨⟩⟩]
    refine qj (qx k qf qE rfl rfl rfl hp.slv (by omega) (Nat.mul_one _) ?_)
    exact ⟨rfl, rfl, rfl⟩
   refine pD (fun W R z9 => ?_) ?_
   ·rw [eS (l := [(4, _)]) ⟨z9 4 rfl, ⟨⟩⟩]
    refine qj (qi qS rfl (hp.rd (by omega)) ?_)
    exact ⟨rfl, rfl, rfl⟩
   refine pD (fun W R z9 => ?_) ?_
   ·rw [eS (l := [(5, _)]) ⟨z9 5 rfl, ⟨⟩⟩]
    refine qj (jg ((-1) - (p.getD k 0)) rfl rfl (by omega) (by omega) ?_)
    exact ⟨rfl, rfl, rfl⟩
   refine pD (fun W R z9 => ?_) ?_
   ·refine qj (qm (v2) rfl ?_)
    exact ⟨rfl, rfl, rfl⟩
   exact stepsP.nil
  intro W hphi
  rw [eS (l := [(1, _), (6, _), (7, _)]) ⟨(hphi 1 (by decide)), (hphi 6 (by decide)), (hphi 7 (by decide)), ⟨⟩⟩]
  show XL _ _ _ _ _ _ _ (cellsH b3 [v1] 86 :: slH 22 1 v1 ((bl).length) cs1 :: cellsH b2 [sN] 86 :: cellsH b1 [arv] 31 :: L)
  refine cX (qx (((-1) - (p.getD k 0)).toNat) qz qA rfl rfl (by omega) (SlV.own [_] rfl) (by omega) (Nat.mul_one _) (cX (XOp.storeS (i := ((-1) - (p.getD k 0)).toNat) (cs := cs1) [_] _ qA rfl rfl (jf (qT hf1)) rfl (by have h9 := CO.len hc2; (try simp only [List.length_set, List.length_replicate] at h9 ⊢) <;> omega) ?_)))
  have hc4 := hc2.set (((-1) - (p.getD k 0)).toNat) hf1
  refine qb (qa (qd (ii ((i : Int))) rfl (qd (v2) rfl (cX (qy qf rfl hf1.slv (cX (qG (((i + (((sub ar t i)).length) : Nat) : Int)) rfl rfl (by omega) (by omega) (qg (ii (((i + (((sub ar t i)).length) : Nat) : Int))) rfl (qb (qa (qd (ii ((k : Int))) rfl (cX (qG (((k + 1 : Nat) : Int)) rfl rfl (by omega) (by omega) (qg (ii (((k + 1 : Nat) : Int))) rfl ?_))))))))))))))
  refine qb ?_
  exact ⟨(k + 1, i + (((sub ar t i)).length), (bl.set (((-1) - (p.getD k 0)).toNat) ((sub ar t i))), F1), _, (qt leG1 le1), rF, ⟨rfl, rfl, rfl, rfl, rfl, rfl, rfl, ⟨⟩⟩, (sC (coH.close hc4 (by first | rfl | simp) (sC (sC sR)))), ⟨rfl, (qt leG1 le1), (by (try dsimp only); (try simp only [List.length_set]) <;> omega), (by (try dsimp only) <;> omega), (by (try dsimp only) <;> omega), (hm.trans (m4_next (by omega) (by omega) (by omega) (by first | (left; exact List.eq_nil_of_length_eq_zero (show (bl.getD (-1 - p.getD k 0).toNat []).length = 0 by omega)) | (right; first | assumption | exact Classical.not_not.1 (by assumption)))))⟩, (by omega)⟩
 refine qX (qr (qr (qJ (qc (qa (cX (qC [v1] jz jc rfl rfl (Rd.ownN [] rfl rfl) ?_)))))))
 have hmb := (matchB_len (hm.trans (mGo_done (by omega)))).2
 refine XL.freezeF [_] _ _ rfl (fun F2 le2 hz2 => ?_)
 replace hc2 := hc2.mono le2
 have hf2 : RowsF F2 v1 bl := CO.fz hc2 (by first | rfl | omega | (rw [List.length_set]; omega) | (simp; done)) hz2.fz
 refine cX (ql (args := [.agg #[v1]]) call176 rfl (l2Plain_spec hf2 (hsl := (by omega)) (hsb := (fun j => by have := hmb j; omega))) ?_)
 rintro _ F3 _ le3 ⟨x1, rfl, hr1, rfl⟩
 refine cX (jd [_] _ [x1] jc rfl rfl rfl (qZ (jf (RowsF.isSl hr1)) jj) rfl rfl rfl (qg (.bool (true)) rfl (qb (qq (qn (L' := L) [.agg #[x1], .bool (true)] (.tuple #[.agg #[x1], .bool (true)]) (.cell rfl (loadNV [x1] jz jc rfl (Rd.ownN [_] rfl rfl)) (.tmp rfl .nil)) rfl (qt (qt leG1 le2) le3) rF (sD (sD (sD sR))) ?_)))))
 have hz : matchB ar p t = some bl := hm.trans (mGo_done (by omega))
 exact ⟨_, by rw [hz]; rfl, by rw [matchP, hz]; exact hr1, rfl⟩

/- spec.l2Filled -/
theorem l2Filled_spec {F : FH} {L : List HP} {sv : Value} {s : List (List Int)} (hs : RowsF F sv s) {tv : Value} {t : List Int} (ht : IntsF F tv t) (hsl : s.length ≤ 4000000) (hsb : ∀ i, (s.getD i []).length ≤ 4000000) (htl : t.length ≤ 4000000) (htg : ∀ k, k < t.length → -4000000 ≤ t.getD k 0) :
    Does prog 48 [.agg #[sv], tv] F (L) (fun v F' L' => ∃ (a : Value), (.tuple #[a, .bool ((fillL s t).isSome)] : Value) = v ∧ (IntsF F' a ((fillL s t).getD [])) ∧ L = L') := by
 refine qB func48 rfl rfl rfl (qc (qa (cX (qP [sv] rfl rfl ?_))))
 intro b1
 refine qg (sN) rfl (qg (.bool (false)) rfl (qb (qc (qa (cX (qU (s := 1) [] [ii (0)] [] qf qE jl rfl (by decide) rfl CellsAre.nil rfl ?_))))))
 intro v1 hv1
 refine qg (v1) rfl (qb (qc (qc (qa (qg (ii (0)) rfl (qb (qF (ja (α := Nat × Value × List Int) (fun xQ => [(1, tv), (2, ptr b1 0), (6, xQ.2.1), (7, ii (((xQ.1 : Nat) : Int)))]) (fun xQ => intsH 2 xQ.2.1 xQ.2.2 :: cellsH b1 [sv] 86 :: L) (fun xQ F' => F = F' ∧ (IsSl xQ.2.1) ∧ (xQ.1 ≤ t.length) ∧ (fillL s t = fillGo s (t.drop xQ.1) xQ.2.2) ∧ (xQ.2.2.length ≤ 60)) (fun xQ => t.length - xQ.1) (0, v1, []) ⟨rfl, rfl, rfl, rfl, ⟨⟩⟩ (sC (sC sR)) ⟨rfl, ((isSl_lit hv1)), (by (try dsimp only) <;> omega), (rfl), (by simp)⟩ ?_))))))))
 rintro ⟨k, ov, os⟩ rE _ _ ⟨rfl, hov, hk, hm, hol⟩
 show X _ _ _ _ (envs [(1, tv), (2, ptr b1 0), (6, ov), (7, ii ((k : Int)))] rE) _ (intsH 2 ov os :: cellsH b1 [sv] 86 :: L)
 dsimp only at hov hk hm hol
 have htk := htg k
 have hlk0 := lk_bound (N := 4000000) (by omega) hsb (-1 - (((-1 - t.getD k 0).toNat : Nat) : Int))
 refine qc (qc (qa (qd (ii ((k : Int))) rfl (qd (tv) rfl (cX (qy qf rfl ht.slv (cX (qI rfl rfl (qb ?_)))))))))
 refine qv (p := (k : Int) < (t.length : Int)) rfl (fun h1 => ?_) (fun h1 => ?_)
 ·refine qw (qc (qF (qc (qc (qa (qd (tv) rfl (qd (ii ((k : Int))) rfl (cX (qx k qf qE rfl rfl rfl ht.slv (by omega) (Nat.mul_one _) (cX (qi qS rfl (ht.rd (by omega)) (cX (qI rfl rfl (qb ?_))))))))))))))
  refine qv (p := (t.getD k 0 : Int) < 0) rfl (fun h2 => ?_) (fun h2 => ?_)
  ·refine X.drawG [intsH 2 ov os, cellsH b1 [sv] 86] L 8 [] [[], [], [], [], [2, 3], [4], [5], [1, 6]] [] (phiG [pe ov, pe (.agg #[sv]), pe tv, pe (ii ((k : Int)) : Value), pe (.pointer (some (elemA tv (k)))), pe (ii (t.getD k 0)), pe (ii ((-1) - (t.getD k 0))), fun FF us v => ((v) : Value) = v ∧ (IntsF FF (v) (lk s (-1 - ((((-1) - (t.getD k 0)).toNat) : Int))))]) (ownL []) mixed rfl rfl (by kernel_rfl) (by kernel_rfl) (MonoG.get (m1 (m1 (m1 (m1 (m1 (m1 (m1 (mC (fun le h => ⟨h.1, h.2.mono le⟩) MonoG.nil))))))))) ?_ ?_
   ·refine gD (fun W Fs R lF z9 => ?_) ?_
    ·refine qj (qm (ov) rfl ?_)
     exact ⟨rfl, rfl⟩
    refine gD (fun W Fs R lF z9 => ?_) ?_
    ·replace hs := hs.mono lF
     replace ht := ht.mono lF
     refine qj (qC [sv] jz jc rfl rfl (Rd.ownN [_] rfl rfl) ?_)
     exact ⟨rfl, rfl⟩
    refine gD (fun W Fs R lF z9 => ?_) ?_
    ·refine qj (qm (tv) rfl ?_)
     exact ⟨rfl, rfl⟩
    refine gD (fun W Fs R lF z9 => ?_) ?_
    ·refine qj (qm (ii ((k : Int))) rfl ?_)
     exact ⟨rfl, rfl⟩
    refine gD (fun W Fs R lF z9 => ?_) ?_
    ·replace hs := hs.mono lF
     replace ht := ht.mono lF
     rw [eS (l := [(2, _), (3, _)]) ⟨z9 2 rfl, z9 3 rfl, ⟨⟩⟩]
     refine qj (qx k qf qE rfl rfl rfl ht.slv (by omega) (Nat.mul_one _) ?_)
     exact ⟨rfl, rfl⟩
    refine gD (fun W Fs R lF z9 => ?_) ?_
    ·replace hs := hs.mono lF
     replace ht := ht.mono lF
     rw [eS (l := [(4, _)]) ⟨z9 4 rfl, ⟨⟩⟩]
     refine qj (qi qS rfl (ht.rd (by omega)) ?_)
     exact ⟨rfl, rfl⟩
    refine gD (fun W Fs R lF z9 => ?_) ?_
    ·rw [eS (l := [(5, _)]) ⟨z9 5 rfl, ⟨⟩⟩]
     refine qj (jg ((-1) - (t.getD k 0)) rfl rfl (by omega) (by omega) ?_)
     exact ⟨rfl, rfl⟩
    refine gD (fun W Fs R lF z9 => ?_) ?_
    ·replace hs := hs.mono lF
     replace ht := ht.mono lF
     rw [eS (l := [(1, _), (6, _)]) ⟨z9 1 rfl, z9 6 rfl, ⟨⟩⟩]
     refine qj (jx <| ql (args := [.agg #[sv], ii ((((-1) - (t.getD k 0)).toNat : Nat) : Int)]) call107 (by rw [show ((((-1) - (t.getD k 0)).toNat : Nat) : Int) = (-1) - (t.getD k 0) from by omega]; rfl) (l2Gives_spec (i := ((-1) - (t.getD k 0)).toNat) hs (hsl := (by first | assumption | rfl | omega | simp)) (hi := (by first | assumption | rfl | omega | simp)) (hsb := (hsb _))) ?_)
     rintro v3 _ _ _ ⟨rfl, hs2, rfl⟩
     refine ⟨_, _, rfl, fun F1 le1 hz1 => ?_⟩
     replace ht := ht.mono le1
     have hf1 : IntsF F1 v3 ((lk s (-1 - ((((-1) - (t.getD k 0)).toNat) : Int)))) := intsH.fz (xs := (lk s (-1 - ((((-1) - (t.getD k 0)).toNat) : Int)))) hz1.fz
     exact ⟨⟨rfl, hf1⟩, rfl⟩
    exact stepsG.nil
   intro W F2 le2 hphi
   obtain ⟨e7, f7_1ha⟩ := hphi 7 (by decide)
   generalize hu1 : ((W 7)) = u1 at e7 f7_1ha
   rw [eS (l := [(0, _), (7, u1)]) ⟨(hphi 0 (by decide)), hu1, ⟨⟩⟩]
   replace ht := ht.mono le2
   show XL _ _ _ _ _ _ _ (intsH 2 ov os :: cellsH b1 [sv] 86 :: L)
   refine cX (XOp.appendI [] _ qf typeInfo2 rfl rfl rfl rfl rfl rfl f7_1ha (by (try simp only [List.length_append, List.length_nil, List.length_cons, List.length_singleton, List.length_take, List.length_drop]); omega) ?_)
   intro v4 hs3 hn1 hm1
   refine qg (v4) rfl (qb (qc (qa (qd (v4) rfl (cX (qy qf rfl (intsH.slv [] rfl) (cX (jt rfl rfl (qb ?_)))))))))
   refine qv (p := ((((os ++ ((lk s (-1 - ((((-1) - (t.getD k 0)).toNat) : Int))))).length : Nat) : Int) : Int) > 60) rfl (fun h3 => ?_) (fun h3 => ?_)
   ·refine qc (qa (cX (qU (s := 1) [] [ii (0)] [] qf qE jl rfl (by decide) rfl CellsAre.nil rfl ?_)))
    intro v5 hv2
    refine qg (v5) rfl (qg (.bool (false)) rfl (qb ?_))
    show X _ _ _ _ _ _ (intsH 2 v5 ([] : List Int) :: intsH 2 v4 (os ++ ((lk s (-1 - ((((-1) - (t.getD k 0)).toNat) : Int))))) :: cellsH b1 [sv] 86 :: L)
    refine jv [] _ _ rfl (fun F3 le3 hz2 => ?_)
    replace ht := ht.mono le3
    have hf2 : IntsF F3 v5 ([]) := intsH.fz (xs := []) hz2.fz
    refine qq (qu (qh (qh (qu (qh (qn (L' := L) [v5, .bool (false)] (.tuple #[v5, .bool (false)]) (.tmp rfl (.tmp rfl .nil)) rfl (qt le2 le3) rF (sD (sD sR)) ?_))))))
    have hz : fillL s t = none := hm.trans (fillGo_long (a := os ++ ((lk s (-1 - ((((-1) - (t.getD k 0)).toNat) : Int))))) (by omega) (by rw [show (-1 - (((-1 - t.getD k 0).toNat : Nat) : Int)) = t.getD k 0 from by omega]) (by omega))
    exact ⟨_, by rw [hz]; rfl, by rw [hz]; exact hf2, rfl⟩
   refine qw (qa (qd (ii ((k : Int))) rfl (cX (qG (((k + 1 : Nat) : Int)) rfl rfl (by omega) (by omega) (qg (ii (((k + 1 : Nat) : Int))) rfl (qb ?_))))))
   exact ⟨(k + 1, v4, os ++ ((lk s (-1 - ((((-1) - (t.getD k 0)).toNat) : Int))))), _, FLe.refl _, le2, ⟨rfl, rfl, rfl, rfl, ⟨⟩⟩, (sC (sC sR)), ⟨rfl, (hs3), (by (try dsimp only) <;> omega), (by dsimp only; exact hm.trans (fillGo_next (by omega) (by rw [show (-1 - (((-1 - t.getD k 0).toNat : Nat) : Int)) = t.getD k 0 from by omega]) (by omega))), (by dsimp only; omega)⟩, (by omega)⟩
  refine qa (qd (ov) rfl (qd (tv) rfl (qd (ii ((k : Int))) rfl (cX (qx k qf qE rfl rfl rfl ht.slv (by omega) (Nat.mul_one _) (cX (qi qS rfl (ht.rd (by omega)) (cX (qU (s := 1) [ii (t.getD k 0)] [ii (0)] [(0, [ii (t.getD k 0)])] qf qE jl rfl (by decide) rfl (.cons rfl CellsAre.nil) rfl ?_)))))))))
  intro v6 hv3
  refine cX (XOp.append1 (u := t.getD k 0) [_] _ qf typeInfo2 rfl rfl rfl rfl rfl rfl (SlV.own [] rfl) (Rd.sl [] rfl rfl) (by (try simp only [List.length_append, List.length_nil, List.length_cons, List.length_singleton, List.length_take, List.length_drop]); omega) ?_)
  intro v7 hs4 hn2
  refine qg (v7) rfl (qb (qc (qa (qd (v7) rfl (cX (qy qf rfl (intsH.slv [_] rfl) (cX (jt rfl rfl (qb ?_)))))))))
  refine qv (p := ((((os ++ [t.getD k 0]).length : Nat) : Int) : Int) > 60) rfl (fun h4 => ?_) (fun h4 => ?_)
  ·refine qc (qa (cX (qU (s := 1) [] [ii (0)] [] qf qE jl rfl (by decide) rfl CellsAre.nil rfl ?_)))
   intro v8 hv4
   refine qg (v8) rfl (qg (.bool (false)) rfl (qb ?_))
   show X _ _ _ _ _ _ (intsH 2 v8 ([] : List Int) :: slH 2 1 v6 1 [ii (t.getD k 0)] :: intsH 2 v7 (os ++ [t.getD k 0]) :: cellsH b1 [sv] 86 :: L)
   refine jv [] _ _ rfl (fun F4 le4 hz3 => ?_)
   have hf3 : IntsF F4 v8 ([]) := intsH.fz (xs := []) hz3.fz
   refine qq (qu (qh (qh (qu (qh (qn (L' := L) [v8, .bool (false)] (.tuple #[v8, .bool (false)]) (.tmp rfl (.tmp rfl .nil)) rfl le4 rF (sD (sD (sD sR))) ?_))))))
   have hz : fillL s t = none := hm.trans (fillGo_long (a := os ++ [t.getD k 0]) (by omega) (by rw [lk_sym (by omega)]) (by omega))
   exact ⟨_, by rw [hz]; rfl, by rw [hz]; exact hf3, rfl⟩
  refine qw (qa (qd (ii ((k : Int))) rfl (cX (qG (((k + 1 : Nat) : Int)) rfl rfl (by omega) (by omega) (qg (ii (((k + 1 : Nat) : Int))) rfl (qb ?_))))))
  exact ⟨(k + 1, v7, os ++ [t.getD k 0]), _, FLe.refl _, rF, ⟨rfl, rfl, rfl, rfl, ⟨⟩⟩, (sD (sC (sC sR))), ⟨rfl, (hs4), (by (try dsimp only) <;> omega), (by dsimp only; exact hm.trans (fillGo_next (by omega) (by rw [lk_sym (by omega)]) (by omega))), (by dsimp only; omega)⟩, (by omega)⟩
 refine qX (qr (qr (qJ (qc (qa (qd (ov) rfl (qg (ov) rfl (qg (.bool (true)) rfl (qb (jv [] _ _ rfl (fun F5 le5 hz4 => ?_)))))))))))
 have hf4 : IntsF F5 ov os := intsH.fz (xs := os) hz4.fz
 refine qq (qn (L' := L) [ov, .bool (true)] (.tuple #[ov, .bool (true)]) (.tmp rfl (.tmp rfl .nil)) rfl le5 rF (sD sR) ?_)
 have hz : fillL s t = some os := hm.trans (fillGo_done (by omega))
 exact ⟨_, by rw [hz]; rfl, by rw [hz]; exact hf4, rfl⟩

/- spec.l3Put -/
theorem l3Put_spec {F : FH} {L : List HP} {arv : Value} {ar : List Int} (har : IntsF F arv ar) {tv : Value} {t : List Int} (ht : IntsF F tv t) {p : Nat} {uv : Value} {u : List Int} (hu : IntsF F uv u) (ho : termOk ar t = true) (hp : p < t.length) (hul : u.length ≤ 4000000) :
    Does prog 49 [.agg #[arv], tv, ii ((p : Int)), uv] F (L) (fun v F' L' => ∃ (a : Value), (.tuple #[a, .bool ((putL ar t p u).isSome)] : Value) = v ∧ (IntsF F' a ((putL ar t p u).getD [])) ∧ L = L') := by
 refine qB func49 rfl rfl rfl ?_
 have hsig := termOk_sig ho
 have hsl := sigOk_spec hsig
 have htl := termOk_len ho
 have hee := endN_spec ho hp
 refine qc (qa (cX (qP [arv] rfl rfl ?_)))
 intro b1
 refine qg (sN) rfl (qg (.bool (false)) rfl (qb (qc (qa (qd (tv) rfl (qd (ii ((p : Int))) rfl (cX (jw 0 p qf qE rfl ht rfl ⟨_, rfl⟩ (by omega) (by omega) ?_))))))))
 intro v1 hv1 hn1
 refine cX (ql (args := [v1]) call42 rfl (l1Copy_spec hv1 (hlt := (by simp; omega))) ?_)
 rintro v2 _ _ _ ⟨rfl, hs1, rfl⟩
 refine qd (uv) rfl (cX (XOp.appendI [] _ qf typeInfo2 rfl rfl rfl rfl rfl rfl hu (by (try simp only [List.length_append, List.length_nil, List.length_cons, List.length_singleton, List.length_take, List.length_drop]); omega) ?_))
 intro v3 hs2 hn2 hm1
 refine qg (v3) rfl (qb (qc (qa (qd (v3) rfl (qd (tv) rfl (cX (qC [arv] qW qH rfl rfl (Rd.ownN [_] rfl rfl) (qd (tv) rfl (qd (ii ((p : Int))) rfl (cX (ql (args := [.agg #[arv], tv, ii (p : Int)]) call102 rfl (l1End_ok (p := p) har ht (ho := (by first | assumption | rfl | omega | (left; simp; done) | (right; simp; done))) (hp := (by first | assumption | rfl | omega | (left; simp; done) | (right; simp; done)))) ?_)))))))))))
 rintro _ _ _ _ ⟨rfl, rfl, rfl⟩
 refine cX (jw (endN ar t p) ((t).length) qf qE rfl ht ⟨_, rfl⟩ rfl (by omega) (by omega) ?_)
 intro v4 hv2 hn3
 refine cX (XOp.appendI [] _ qf typeInfo2 rfl rfl rfl rfl rfl rfl hv2 (by (try simp only [List.length_append, List.length_nil, List.length_cons, List.length_singleton, List.length_take, List.length_drop]); omega) ?_)
 intro v5 hs3 hn4 hm2
 refine qg (v5) rfl (qb (qc (qc (qa (qd (v5) rfl (cX (qy qf rfl (intsH.slv [] rfl) (cX (jt rfl rfl (qb ?_))))))))))
 refine qv (p := ((((((((((t.drop 0).take (p - 0))))) ++ u) ++ (((t.drop (endN ar t p)).take (((t).length) - (endN ar t p))))).length : Nat) : Int) : Int) > 60) rfl (fun h1 => ?_) (fun h1 => ?_)
 ·refine qc (qa (cX (qU (s := 1) [] [ii (0)] [] qf qE jl rfl (by decide) rfl CellsAre.nil rfl ?_)))
  intro v6 hv3
  refine qg (v6) rfl (qg (.bool (false)) rfl (qb ?_))
  show X _ _ _ _ _ _ (intsH 2 v6 ([] : List Int) :: intsH 2 v5 (((((((t.drop 0).take (p - 0))))) ++ u) ++ (((t.drop (endN ar t p)).take (((t).length) - (endN ar t p))))) :: cellsH b1 [arv] 31 :: L)
  refine jv [] _ _ rfl (fun F1 le1 hz1 => ?_)
  have hf1 : IntsF F1 v6 ([]) := intsH.fz (xs := []) hz1.fz
  refine qq (qh (qn (L' := L) [v6, .bool (false)] (.tuple #[v6, .bool (false)]) (.tmp rfl (.tmp rfl .nil)) rfl le1 rF (sD (sD sR)) ?_))
  have hz : putL ar t p u = none := putL_none put_three (by omega)
  exact ⟨_, by rw [hz]; rfl, by rw [hz]; exact hf1, rfl⟩
 refine qw (qc (qa (qd (v5) rfl (qg (v5) rfl (qg (.bool (true)) rfl (qb (jv [] _ _ rfl (fun F2 le2 hz2 => ?_))))))))
 have hf2 : IntsF F2 v5 (((((((t.drop 0).take (p - 0))))) ++ u) ++ (((t.drop (endN ar t p)).take (((t).length) - (endN ar t p))))) := intsH.fz (xs := ((((((t.drop 0).take (p - 0))))) ++ u) ++ (((t.drop (endN ar t p)).take (((t).length) - (endN ar t p))))) hz2.fz
 refine qq (qn (L' := L) [v5, .bool (true)] (.tuple #[v5, .bool (true)]) (.tmp rfl (.tmp rfl .nil)) rfl le2 rF (sD sR) ?_)
 have hz := putL_some (ar := ar) (t := t) (p := p) (u := u) put_three (by omega)
 exact ⟨_, by rw [hz]; rfl, by rw [hz]; exact hf2, rfl⟩

/- laws.szInt64S -/
theorem szInt64S_spec {F : FH} {L : List HP} {xsv : Value} {xs : List Int} (hxs : IntsF F xsv xs) {z : Int} (hz : 0 ≤ z ∧ z ≤ 4000000) (hlx : xs.length ≤ 9223372036854775807) :
    Does prog 38 [xsv, ii (z)] F (L) (fun v F' L' => (ii (dec z xs.length) : Value) = v ∧ F = F' ∧ L = L') := by
 refine qB func38 rfl rfl rfl (qc (qa (qg (ii (0)) rfl (qb (qc (qa (qd (ii (z)) rfl (qd (xsv) rfl (cX (qy qf rfl hxs.slv (cX (jg (z - ((xs.length : Int))) rfl rfl (by omega) (by omega) (qg (ii (z - ((xs.length : Int)))) rfl (qb (qc (qc (qa ?_)))))))))))))))))
 refine qd (ii (z - ((xs.length : Int)))) rfl (cX (qI rfl rfl (qb ?_)))
 refine qv (p := (z - ((xs.length : Int)) : Int) < 0) rfl (fun h1 => ?_) (fun h1 => ?_)
 ·refine qc (qa (qg (ii (-1)) rfl (qb (qq (qh (qn (L' := L) [ii (-1)] (ii (-1)) (.tmp rfl .nil) rfl rF rF sR ?_))))))
  exact ⟨(vI (dec_neg (by omega))), rfl, rfl⟩
 refine qw (qc (qa (qd (ii (z - ((xs.length : Int)))) rfl (qg (ii (z - ((xs.length : Int)))) rfl (qb (qq (qn (L' := L) [ii (z - ((xs.length : Int)))] (ii (z - ((xs.length : Int)))) (.tmp rfl .nil) rfl rF rF sR ?_)))))))
 exact ⟨(vI (dec_pos (by omega))), rfl, rfl⟩

/- laws.szSig -/
theorem szSig_spec {F : FH} {L : List HP} {xsv : Value} {xs : List Int} (hxs : IntsF F xsv xs) {z : Int} (hz : 0 ≤ z ∧ z ≤ 4000000) (hlx : xs.length ≤ 9223372036854775807) :
    Does prog 37 [.agg #[xsv], ii (z)] F (L) (fun v F' L' => (ii (dec z xs.length) : Value) = v ∧ F = F' ∧ L = L') := by
 refine qB func37 rfl rfl rfl ?_
 have hdr := dec_range z xs.length
 refine qc (qa (cX (qP [xsv] rfl rfl ?_)))
 intro b1
 refine qg (ii (0)) rfl (qb (qc (qa (cX (qk (0) runUnderlying24 rfl qA (by decide) rfl rfl (cX (qi qK rfl (Rd.own [] rfl rfl) (qd (ii (z)) rfl (cX (ql (args := [xsv, ii (z)]) call38 rfl (szInt64S_spec (z := z) hxs (hz := (by first | assumption | rfl | omega | simp)) (hlx := (by first | assumption | rfl | omega | simp))) ?_))))))))))
 rintro _ _ _ _ ⟨rfl, rfl, rfl⟩
 refine qg (ii (dec z xs.length)) rfl (qb (qc (qc (qa (qd (ii (dec z xs.length)) rfl (cX (qI rfl rfl (qb ?_))))))))
 refine qv (p := (dec z xs.length : Int) < 0) rfl (fun h1 => ?_) (fun h1 => ?_)
 ·refine qc (qa (qg (ii (-1)) rfl (qb (qq (qh (qn (L' := L) [ii (-1)] (ii (-1)) (.tmp rfl .nil) rfl rF rF (sD sR) ?_))))))
  exact ⟨(vI (by omega)), rfl, rfl⟩
 refine qw (qc (qa (qd (ii (dec z xs.length)) rfl (qg (ii (dec z xs.length)) rfl (qb (qq (qn (L' := L) [ii (dec z xs.length)] (ii (dec z xs.length)) (.tmp rfl .nil) rfl rF rF (sD sR) ?_)))))))
 exact ⟨rfl, rfl, rfl⟩

/- laws.eqSig -/
theorem eqSig_spec {F : FH} {L : List HP} {av : Value} {a : List Int} (ha : IntsF F av a) {bv : Value} {b : List Int} (hb : IntsF F bv b) (hbd : a.length ≤ 9223372036854775807 ∨ b.length ≤ 9223372036854775807) :
    Does prog 61 [.agg #[av], .agg #[bv]] F (L) (fun v F' L' => (.bool (decide (a = b)) : Value) = v ∧ F = F' ∧ L = L') := by
 refine qB func61 rfl rfl rfl (qc (qa (cX (qP [av] rfl rfl ?_))))
 intro b1
 refine cX (qP [bv] rfl rfl ?_)
 intro b2
 refine qg (.bool (false)) rfl (qb (qc (qc (qa (cX (qk (0) je rfl qA (by decide) rfl rfl (cX (qi qK rfl (Rd.own [_] rfl rfl) (cX (qk (0) je rfl qA (by decide) rfl rfl (cX (qi qK rfl (Rd.own [] rfl rfl) (cX (ql (args := [av, bv]) call12 rfl (eqInt64S_spec ha hb (hbd := (by first | assumption | rfl | omega | (left; simp; done) | (right; simp; done)))) ?_))))))))))))))
 rintro _ _ _ _ ⟨rfl, rfl, rfl⟩
 refine cX (jo rfl (qb ?_))
 refine qv (p := ¬(a = b)) rfl (fun h1 => ?_) (fun h1 => ?_)
 ·refine qc (qa (qg (.bool (false)) rfl (qb (qq (qh (qn (L' := L) [.bool (false)] (.bool (false)) (.tmp rfl .nil) rfl rF rF (sD (sD sR)) ?_))))))
  exact ⟨(vB (decide_eq_false (by assumption))), rfl, rfl⟩
 refine qw (qc (qa (qg (.bool (true)) rfl (qb (qq (qn (L' := L) [.bool (true)] (.bool (true)) (.tmp rfl .nil) rfl rF rF (sD (sD sR)) ?_))))))
 exact ⟨(vB (decide_eq_true (by first | assumption | exact Classical.not_not.1 (by assumption)))), rfl, rfl⟩

/- laws.toInt64S -/
theorem toInt64S_spec {F : FH} {L : List HP} {xsv : Value} {xs : List Int} (hxs : IntsF F xsv xs) (hlx : xs.length ≤ 4000000) :
    Does prog 10 [xsv] F (L) (fun v F' L' => F = F' ∧ IsSl v ∧ intsH 2 v xs :: L = L') := by
 refine qB func10 rfl rfl rfl (qc (qa (qg (sN) rfl (qb (qc (qa (qd (xsv) rfl (cX (qy qf rfl hxs.slv (cX (XOp.makeSlice (n := (xs).length) (bytes := 8) [ii (0)] qf qE typeInfo2 rfl jl rfl rfl rfl rfl (by omega) (by omega) ?_)))))))))))
 intro v1 hv1
 rw [intsH_zeros]
 refine qg (v1) rfl (qb (qc (qc (qa (qg (ii (0)) rfl (qb (qF (ja (α := Nat × List Int) (fun xQ => [(0, xsv), (3, v1), (4, ii (((xQ.1 : Nat) : Int)))]) (fun xQ => intsH 2 v1 xQ.2 :: L) (fun xQ F' => F = F' ∧ (xQ.1 ≤ xs.length) ∧ (xQ.2.length = xs.length) ∧ (xQ.2.take xQ.1 = xs.take xQ.1)) (fun xQ => xs.length - xQ.1) (0, (List.replicate xs.length 0)) ⟨rfl, rfl, rfl, ⟨⟩⟩ (sC sR) ⟨rfl, (by (try dsimp only) <;> omega), (by simp), (rfl)⟩ ?_))))))))
 rintro ⟨k, os⟩ rE _ _ ⟨rfl, hk, hol, hos⟩
 show X _ _ _ _ (envs [(0, xsv), (3, v1), (4, ii ((k : Int)))] rE) _ (intsH 2 v1 os :: L)
 dsimp only at hk hol hos
 refine qc (qc (qa (qd (ii ((k : Int))) rfl (qd (xsv) rfl (cX (qy qf rfl hxs.slv (cX (qI rfl rfl (qb ?_)))))))))
 refine qv (p := (k : Int) < (xs.length : Int)) rfl (fun h1 => ?_) (fun h1 => ?_)
 ·refine qw (qc (qF (qa (qd (v1) rfl (qd (ii ((k : Int))) rfl (qd (xsv) rfl (qd (ii ((k : Int))) rfl (cX (qx k qf qE rfl rfl rfl hxs.slv (by omega) (Nat.mul_one _) (cX (qi qS rfl (hxs.rd (by omega)) (cX (qx k qf qE rfl rfl rfl (intsH.slv [] rfl) (by omega) (Nat.mul_one _) (cX (intsH.storeX (i := k) (v := v1) [] _ (os.set k (xs.getD k 0)) qE rfl rfl rfl (by omega) rfl (qb (qa ?_)))))))))))))))))
  refine qd (ii ((k : Int))) rfl (cX (qG (((k + 1 : Nat) : Int)) rfl rfl (by omega) (by omega) (qg (ii (((k + 1 : Nat) : Int))) rfl (qb ?_))))
  exact ⟨(k + 1, (os.set k (xs.getD k 0))), _, FLe.refl _, rF, ⟨rfl, rfl, rfl, ⟨⟩⟩, (sC sR), ⟨rfl, (by (try dsimp only) <;> omega), (by dsimp only; rw [List.length_set]; exact hol), (by dsimp only; rw [take_set_next (by omega) (by omega), hos, take_succ_getD 0 (by omega)])⟩, (by omega)⟩
 refine qX (qr (qr (qJ (qc (qa (qd (v1) rfl (qg (v1) rfl (qb (qq (qn (L' := intsH 2 v1 os :: L) [v1] (v1) (.tmp rfl .nil) rfl rF rF (sC sR) ?_))))))))))
 refine ⟨rfl, (isSl_lit hv1), ?_⟩
 have hxs : (xs : List Int) = os := by rw [← List.take_of_length_le (l := xs) (i := k) (by omega), ← hos, List.take_of_length_le (by omega)]
 exact congrArg (fun z => intsH 2 _ z :: L) hxs

/- laws.toSig -/
theorem toSig_spec {F : FH} {L : List HP} {xsv : Value} {xs : List Int} (hxs : IntsF F xsv xs) (hlx : xs.length ≤ 4000000) :
    Does prog 50 [.agg #[xsv]] F (L) (fun v F' L' => ∃ (a : Value), (.agg #[a] : Value) = v ∧ (IntsF F' a xs) ∧ (Fresh F F' (star [intsH 2 a xs])) ∧ L = L') := by
 refine qB func50 rfl rfl rfl (qc (qa (cX (qP [xsv] rfl rfl ?_))))
 intro b1
 refine cX (jq [sN] zeroValue31 rfl ?_)
 intro b2
 refine qb (qc (qa (cX (jq [sN] zeroValue31 rfl ?_))))
 intro b3
 refine qb (qc (qa (cX (qk (0) runUnderlying24 rfl qA (by decide) rfl rfl (cX (qi qK rfl (Rd.own [_, _] rfl rfl) (cX (jx <| ql (args := [xsv]) call10 rfl (toInt64S_spec hxs (hlx := (by first | assumption | rfl | omega | simp))) ?_))))))))
 rintro v1 _ _ _ ⟨rfl, hs1, rfl⟩
 refine ⟨_, _, rfl, fun F1 le1 hz1 => ?_⟩
 have hf1 : IntsF F1 v1 ((xs)) := intsH.fz (xs := (xs)) hz1.fz
 refine cX (qk (0) je rfl qA (by decide) rfl rfl (cX (jy [] _ [v1] qA rfl rfl (jf (qT hf1)) rfl rfl rfl (qb (qc (qa (cX (qC [v1] qW qH rfl rfl (Rd.ownN [] rfl rfl) (cX (jd [_] _ [v1] qH rfl rfl rfl (qZ (jf (qT hf1)) jj) rfl rfl rfl (qb (qq (qn (L' := L) [.agg #[v1]] (.agg #[v1]) (.cell rfl (loadNV [v1] qW qH rfl (Rd.ownN [_] rfl rfl)) .nil) rfl le1 rF (sD (sD (sD sR))) ?_)))))))))))))
 exact ⟨_, rfl, hf1, (Fresh.one hz1), rfl⟩

/- laws.toInt64SS -/
theorem toInt64SS_spec {F : FH} {L : List HP} {xv : Value} {x : List (List Int)} (hx : RowsF F xv x) (hlx : x.length ≤ 4000000) (hrb : ∀ i, i < x.length → (x.getD i []).length ≤ 4000000) :
    Does prog 177 [xv] F (L) (fun v F' L' => ∃ (a : Value), (a : Value) = v ∧ (RowsF F' a x) ∧ (Fresh F F' (star [rowsD 2 22 a x])) ∧ L = L') := by
 refine qB func177 rfl rfl rfl (qc (qa (qg (sN) rfl (qb (qc (qa (qd (xv) rfl (cX (qy qz rfl hx.slv (cX (XOp.makeSlice (n := (x).length) (bytes := 24) [sN] qz qA typeInfo22 rfl zeroValue22 rfl rfl rfl rfl (by omega) (by omega) ?_)))))))))))
 intro v1 hv1
 rw [nils]
 have hc1 : RowsC F _ _ := RowsC.nils ((x).length)
 refine qg (v1) rfl (qb (qc (qc (qa (qg (ii (0)) rfl (qb (qF ?_)))))))
 obtain ⟨L0, hD0, hS0⟩ := deepNils1 2 x.length
 rw [nils] at hD0
 refine ja (α := Nat × List (List Int) × List Value × List HP × FH) (fun xQ => [(0, xv), (3, v1), (4, ii (((xQ.1 : Nat) : Int)))]) (fun xQ => slH 22 1 v1 x.length xQ.2.2.1 :: L) (fun xQ F' => xQ.2.2.2.2 = F' ∧ F ≤ xQ.2.2.2.2 ∧ (RowsC xQ.2.2.2.2 xQ.2.2.1 xQ.2.1) ∧ (xQ.1 ≤ x.length) ∧ (xQ.2.1.length = x.length) ∧ (xQ.2.1.take xQ.1 = x.take xQ.1) ∧ (DeepL 1 (RowO 2) xQ.2.2.1 xQ.2.1 xQ.2.2.2.1) ∧ (Fresh F xQ.2.2.2.2 (star xQ.2.2.2.1))) (fun xQ => x.length - xQ.1) (0, (List.replicate ((x).length) [] : List (List Int)), (List.replicate ((x).length) (sN)), L0, F) ⟨rfl, rfl, rfl, ⟨⟩⟩ (sC sR) ⟨rfl, FLe.refl _, (hc1), (by (try dsimp only) <;> omega), (by simp), (rfl), (hD0), (Fresh.empty hS0)⟩ ?_
 rintro ⟨k, os, cs, Ls, G1⟩ rE _ _ ⟨rfl, leG, hC, hk, hol, hos, hD, hZ⟩
 show X _ _ _ _ (envs [(0, xv), (3, v1), (4, ii ((k : Int)))] rE) _ (slH 22 1 v1 x.length cs :: L)
 replace leG : F ≤ G1 := leG
 dsimp only at hC hk hol hos hD hZ
 have hrk := hrb k
 have leG1 := leG
 replace hx := hx.mono leG1
 refine qc (qc (qa (qd (ii ((k : Int))) rfl (qd (xv) rfl (cX (qy qz rfl hx.slv (cX (qI rfl rfl (qb ?_)))))))))
 refine qv (p := (k : Int) < (x.length : Int)) rfl (fun h1 => ?_) (fun h1 => ?_)
 ·refine qw (qc (qF (qa (qd (v1) rfl (qd (ii ((k : Int))) rfl (qd (xv) rfl (qd (ii ((k : Int))) rfl (cX (qx k qz qA rfl rfl rfl hx.slv (by omega) (Nat.mul_one _) ?_)))))))))
  obtain ⟨a1, ha1, hr1⟩ := hx.rd (i := k) (by omega)
  refine cX (qi qK rfl (hr1 _) (cX (jx <| ql (args := [a1]) call10 rfl (toInt64S_spec ha1 (hlx := (by first | assumption | rfl | omega | simp))) ?_)))
  rintro v2 _ _ _ ⟨rfl, hs1, rfl⟩
  refine ⟨_, _, rfl, fun F1 le1 hz1 => ?_⟩
  replace hC := hC.mono le1
  have hf1 : IntsF F1 v2 ((((x.getD k [])))) := intsH.fz (xs := (((x.getD k [])))) hz1.fz
  refine cX (qx k qz qA rfl rfl rfl (SlV.own [] rfl) (by omega) (Nat.mul_one _) (cX (XOp.storeS (i := k) (cs := cs) [] _ qA rfl rfl (jf (qT hf1)) rfl (by have h9 := CO.len hC; (try simp only [List.length_set, List.length_replicate] at h9 ⊢) <;> omega) ?_)))
  have hc2 := hC.set k hf1
  refine qb (qa (qd (ii ((k : Int))) rfl (cX (qG (((k + 1 : Nat) : Int)) rfl rfl (by omega) (by omega) (qg (ii (((k + 1 : Nat) : Int))) rfl (qb ?_))))))
  obtain ⟨A, K, B, es, hLs, hel, hR, hg, hput⟩ := hD.at (d := []) (k := k) (by omega)
  rw [hLs] at hZ
  have hDn := hput _ ((((x.getD k [])))) [intsH 2 v2 ((((x.getD k []))))] rfl ⟨_,  rfl, rfl⟩
  have hbd9 := hD.bound (k := k) (by omega)
  rw [Nat.mul_one, ← set_one (List.getElem?_eq_getElem (by omega))] at hDn
  exact ⟨(k + 1, (os.set k ((((x.getD k []))))), (cs.set k v2), A ++ ([intsH 2 v2 ((((x.getD k []))))] ++ B), F1), _, (qt leG1 le1), rF, ⟨rfl, rfl, rfl, ⟨⟩⟩, (sC sR), ⟨rfl, (qt leG1 le1), (hc2), (by (try dsimp only) <;> omega), (by dsimp only; rw [List.length_set]; exact hol), (by dsimp only; rw [take_set_any (by omega), hos, take_succ_getD [] (by omega)]), (hDn), ((Fresh.swap hZ leG1 (Fresh.one hz1) le1))⟩, (by omega)⟩
 refine qX (qr (qr (qJ (qc (qa (qd (v1) rfl (qg (v1) rfl (qb (jv [] _ _ rfl (fun F2 le2 hz2 => ?_))))))))))
 replace hC := hC.mono le2
 have hf2 : RowsF F2 v1 os := CO.fz hC (by first | rfl | omega | (rw [List.length_set]; omega) | (simp; done)) hz2.fz
 refine qq (qn (L' := L) [v1] (v1) (.tmp rfl .nil) rfl (qt leG1 le2) rF sR ?_)
 have e : os = x := by rw [← List.take_of_length_le (l := x) (i := k) (by omega), ← hos, List.take_of_length_le (by omega)]
 subst e
 exact ⟨_, rfl, hf2, Fresh.one (Fresh.deep hD hZ leG1 hz2 rfl le2), rfl⟩
end Go.Proofs.YtcdjpapjjoldeaaGreat
