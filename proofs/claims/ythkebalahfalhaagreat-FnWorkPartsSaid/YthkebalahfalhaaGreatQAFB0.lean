/-
  Walks, one after the other (part 1).
-/
import Derived.Test.YthkebalahfalhaaGreatQAFL1
import Derived.Test.YthkebalahfalhaaGreatProg
import Derived.KernelRfl
set_option linter.unusedSimpArgs false
set_option linter.unusedVariables false
namespace Go.Proofs.YthkebalahfalhaaGreat
open Go X M Tryz
theorem qa : type_of% @X.region := @X.region
theorem qb : type_of% @XL.nil := @XL.nil
theorem qc : type_of% @X.seq := @X.seq
theorem qd : type_of% @XL.mv := @XL.mv
theorem qf : type_of% @runUnderlying24 := @runUnderlying24
theorem qg : type_of% @XG.op := @XG.op
theorem qh : type_of% @XL.as := @XL.as
theorem qi : type_of% @FLe.trans := @FLe.trans
theorem qj : type_of% @XOp.load1 := @XOp.load1
theorem ql : type_of% @XOp.move := @XOp.move
theorem qm : type_of% @ones_cons := @ones_cons
theorem qn : type_of% @XOp.fieldP := @XOp.fieldP
theorem qo : type_of% @thenQ_ret := @thenQ_ret
theorem qp : type_of% @IntsF.isSl := @IntsF.isSl
theorem qq : type_of% @XL.no := @XL.no
theorem qr : type_of% @sizeOf24 := @sizeOf24
theorem qs : type_of% @XL.yes := @XL.yes
theorem qt : type_of% @XOp.call := @XOp.call
theorem qu : type_of% @retEnd := @retEnd
theorem qv : type_of% @XOp.loadN := @XOp.loadN
theorem qw : type_of% @X.ret := @X.ret
theorem qx : type_of% @XOp.indexS := @XOp.indexS
theorem qy : type_of% @one_sl := @one_sl
theorem qz : type_of% @thenQ_exit := @thenQ_exit
theorem qA : type_of% @X.skip := @X.skip
theorem qB : type_of% @sizeOf26 := @sizeOf26
theorem qC : type_of% @sizeOf2 := @sizeOf2
theorem qD : type_of% @XOp.buildSlice := @XOp.buildSlice
theorem qE : type_of% @X.condD := @X.condD
theorem qF : type_of% @blockQ_ret := @blockQ_ret
theorem qG : type_of% @XOp.lenS := @XOp.lenS
theorem qH : type_of% @Does.of_X := @Does.of_X
theorem qI : type_of% @XOp.storeN := @XOp.storeN
theorem qJ : type_of% @X.block := @X.block
theorem qK : type_of% @XOp.extract := @XOp.extract
theorem qL : type_of% @XOp.nilCheck := @XOp.nilCheck
theorem qM : type_of% @XOp.addR := @XOp.addR
theorem qN : type_of% @isAgg24 := @isAgg24
theorem qO : type_of% @ones_nil := @ones_nil
theorem qP : type_of% @XOp.pickF := @XOp.pickF
theorem qQ : type_of% @runUnderlying27 := @runUnderlying27
theorem qR : type_of% @blockQ_exit := @blockQ_exit
theorem qS : type_of% @runUnderlying32 := @runUnderlying32
theorem qT : type_of% @XOp.pickT := @XOp.pickT
theorem qU : type_of% @isAgg26 := @isAgg26
theorem qV : type_of% @runUnderlying30 := @runUnderlying30
theorem qW : type_of% @Sub.trans := @Sub.trans
theorem qX : type_of% @XOp.lss := @XOp.lss
theorem qY : type_of% @XOp.box := @XOp.box
theorem qZ : type_of% @XOp.build := @XOp.build
theorem ja : type_of% @runUnderlying141 := @runUnderlying141
theorem jb : type_of% @sizeOf32 := @sizeOf32
theorem jc : type_of% @runUnderlying77 := @runUnderlying77
theorem jd : type_of% @runUnderlying53 := @runUnderlying53
theorem je : type_of% @XOp.alloc := @XOp.alloc
theorem jf : type_of% @runUnderlying79 := @runUnderlying79
theorem jg : type_of% @Sub.front := @Sub.front
theorem jh : type_of% @isAgg2 := @isAgg2
theorem ji : type_of% @X.freezeF := @X.freezeF
theorem jj : type_of% @zeroValue2 := @zeroValue2
theorem jk : type_of% @runUnderlying26 := @runUnderlying26
theorem jl : type_of% @runUnderlying128 := @runUnderlying128
theorem jm : type_of% @XG.yes := @XG.yes
theorem jn : type_of% @X.exit := @X.exit
theorem jo : type_of% @XOp.eql := @XOp.eql
theorem jp : type_of% @sizeOf79 := @sizeOf79
theorem jq : type_of% @XOp.subR := @XOp.subR
theorem jr : type_of% @runUnderlying121 := @runUnderlying121
theorem js : type_of% @isSl_lit := @isSl_lit
theorem jt : type_of% @XG.no := @XG.no
theorem ju : type_of% @XOp.notB := @XOp.notB
theorem jv : type_of% @X.loop := @X.loop
theorem jw : type_of% @zeroValue53 := @zeroValue53
theorem jx : type_of% @notNil_of_pos := @notNil_of_pos
theorem jy : type_of% @XIL.cons := @XIL.cons
theorem jz : type_of% @XOp.store1 := @XOp.store1
theorem jA : type_of% @loadNV := @loadNV
theorem jB : type_of% @sizeOf30 := @sizeOf30
theorem jC : type_of% @sizeOf3 := @sizeOf3
theorem jD : type_of% @Does.at := @Does.at
theorem jE : type_of% @isAgg32 := @isAgg32
theorem jF : type_of% @sizeOf53 := @sizeOf53
theorem jG : type_of% @X.cond := @X.cond
theorem jH : type_of% @runUnderlying174 := @runUnderlying174
theorem jI : type_of% @runUnderlying109 := @runUnderlying109
theorem jJ : type_of% @sizeOf27 := @sizeOf27
theorem jK : type_of% @XL.weaken := @XL.weaken
theorem jL : type_of% @X.draw := @X.draw
theorem jM : type_of% @zeroValue79 := @zeroValue79
theorem jN : type_of% @XOp.indexA := @XOp.indexA
theorem jO : type_of% @X.condT := @X.condT
theorem jP : type_of% @runUnderlying139 := @runUnderlying139
theorem jQ : type_of% @sizeOf77 := @sizeOf77
theorem jR : type_of% @sizeOf109 := @sizeOf109
theorem jS : type_of% @isAgg30 := @isAgg30
theorem jT : type_of% @XOp.frzF := @XOp.frzF
theorem jU : type_of% @XOp.gtr := @XOp.gtr
theorem jV : type_of% @XOp.geq := @XOp.geq
theorem jW : type_of% @X.condF := @X.condF
theorem jX : type_of% @runUnderlying56 := @runUnderlying56
theorem jY : type_of% @runUnderlying148 := @runUnderlying148
theorem jZ : type_of% @runUnderlying144 := @runUnderlying144
theorem ya : type_of% @runUnderlying172 := @runUnderlying172
theorem yb : type_of% @runUnderlying179 := @runUnderlying179
theorem yc : type_of% @X.drawG := @X.drawG
theorem yd : type_of% @isAgg3 := @isAgg3
theorem ye : type_of% @runUnderlying22 := @runUnderlying22
theorem yf : type_of% @runUnderlying63 := @runUnderlying63
theorem yg : type_of% @XOp.makeFuncL := @XOp.makeFuncL
theorem yh : type_of% @zeroValue32 := @zeroValue32
theorem yi : type_of% @XOp.append := @XOp.append
theorem yj : type_of% @isAgg77 := @isAgg77
theorem yk : type_of% @zeroValue109 := @zeroValue109
theorem yl : type_of% @zeroValue26 := @zeroValue26

theorem mixed : prog.follows .mixedOrders = true := by kernel_rfl

/- impl.arityAt -/
theorem arityAt_spec {F : FH} {L : List HP} {arv : Value} {ar : List Int} (har : IntsF F arv ar) {n : Int} (hn : n < (ar.length : Int)) :
    Does prog 101 [.agg #[arv], ii (n)] F (L) (fun v F' L' => (ii (arity ar n) : Value) = v ∧ F = F' ∧ L = L') := by
 refine qH func101 rfl rfl rfl (qc (qa (cX (qY [arv] rfl rfl ?_))))
 intro b1
 refine qh (ii (0)) rfl (qb (qc (qc (qa (qd (ii (n)) rfl (cX (qX rfl rfl (qb ?_))))))))
 refine qE (p := (n : Int) < 0) rfl (fun h1 => ?_) (fun h1 => ?_)
 ·refine qc (qa (qh (ii (0)) rfl (qb (qw (qo (qu (L' := L) [ii (0)] (ii (0)) (.tmp rfl .nil) rfl rF rF (sD sR) ?_))))))
  exact ⟨(vI (by simp [arity, *])), rfl, rfl⟩
 refine qA (qc (qa (cX (qn (0) jk rfl qr (by decide) rfl rfl (cX (qj qN rfl (Rd.own [] rfl rfl) (qd (ii (n)) rfl (cX (qx ((n).toNat) qf qC rfl rfl (by omega) har.slv (by omega) (Nat.mul_one _) (cX (qj jh rfl (har.rd (by omega)) (qh (ii (ar.getD ((n).toNat) 0)) rfl (qb (qw (qu (L' := L) [ii (ar.getD ((n).toNat) 0)] (ii (ar.getD ((n).toNat) 0)) (.tmp rfl .nil) rfl rF rF (sD sR) ?_)))))))))))))))
 exact ⟨(vI (by simp [arity, *])), rfl, rfl⟩

/- impl.SigOk -/
theorem SigOk_spec {F : FH} {L : List HP} {arv : Value} {ar : List Int} (har : IntsF F arv ar) :
    Does prog 30 [.agg #[arv]] F (L) (fun v F' L' => (.bool (sigOk ar) : Value) = v ∧ F = F' ∧ L = L') := by
 refine qH func30 rfl rfl rfl (qc (qa (cX (qY [arv] rfl rfl ?_))))
 intro b1
 refine qh (.bool (false)) rfl (qb (qc (qc (qa (cX (qn (0) jk rfl qr (by decide) rfl rfl (cX (qj qN rfl (Rd.own [] rfl rfl) (cX (qG qf rfl har.slv (cX (qX rfl rfl (qd (.bool (decide (((ar.length : Int) : Int) < 1))) rfl ?_)))))))))))))
 by_cases h1 : ((ar.length : Int) : Int) < 1
 ·refine qq (t := 9) rfl (vT h1) (qq (t := 9) rfl (vT h1) (qq (t := 9) rfl (vT h1) (qq (t := 9) rfl (vT h1) (cX (qT (.bool (true)) (vT h1) rfl (qb (jO rfl (qc (qa (qh (.bool (false)) rfl (qb ?_)))))))))))
  refine qw (qo (qu (L' := L) [.bool (false)] (.bool (false)) (.tmp rfl .nil) rfl rF rF (sD sR) ?_))
  exact ⟨(vB (sigOk_short (by omega))), rfl, rfl⟩
 refine qs (t := 9) rfl (vF h1) (qn (0) jk rfl qr (by decide) rfl rfl (qs (t := 9) rfl (vF h1) (qj qN rfl (Rd.own [] rfl rfl) (qs (t := 9) rfl (vF h1) (qG qf rfl har.slv (qs (t := 9) rfl (vF h1) (jU rfl rfl (cX (qP (.bool (decide (((ar.length : Int) : Int) > 8))) (vF h1) rfl (qb ?_))))))))))
 refine qE (p := ((ar.length : Int) : Int) > 8) rfl (fun h2 => ?_) (fun h2 => ?_)
 ·refine qc (qa (qh (.bool (false)) rfl (qb (qw (qo (qu (L' := L) [.bool (false)] (.bool (false)) (.tmp rfl .nil) rfl rF rF (sD sR) ?_))))))
  exact ⟨(vB (sigOk_short (by omega))), rfl, rfl⟩
 refine qA (qc (qc (qa (cX (qn (0) jk rfl qr (by decide) rfl rfl (cX (qj qN rfl (Rd.own [] rfl rfl) (cX (qG qf rfl har.slv (qd (ii (0)) rfl (qb (qJ (jv (α := Nat) (fun k => [(16, arv), (17, ii ((ar.length : Int))), (18, ii ((k : Int)))]) (fun k => cellsH b1 [arv] 26 :: L) (fun k F' => F = F' ∧ (k ≤ ar.length) ∧ (∀ i, i < k → 0 ≤ ar.getD i 0 ∧ ar.getD i 0 ≤ 3)) (fun k => ar.length - k) 0 ⟨rfl, rfl, rfl, ⟨⟩⟩ (sC sR) ⟨rfl, (by omega), (fun i hi => absurd hi (by omega))⟩ ?_)))))))))))))
 rintro k rE _ _ ⟨rfl, hk, hall⟩
 show X _ _ _ _ (envs [(16, arv), (17, ii ((ar.length : Int))), (18, ii ((k : Int)))] rE) _ (cellsH b1 [arv] 26 :: L)
 refine qc (qa (cX (qX rfl rfl (qb (qc ?_)))))
 refine qE (p := (k : Int) < (ar.length : Int)) rfl (fun h3 => ?_) (fun h3 => ?_)
 ·refine qA (qc (qJ (qc (qa (cX (qx k qf qC rfl rfl rfl har.slv (by omega) (Nat.mul_one _) (cX (qj jh rfl (har.rd (by omega)) (qh (ii (ar.getD k 0)) rfl (qb (qc (qa (qd (ii (ar.getD k 0)) rfl (cX (qX rfl rfl (qd (.bool (decide ((ar.getD k 0 : Int) < 0))) rfl ?_))))))))))))))))
  by_cases h4 : (ar.getD k 0 : Int) < 0
  ·refine qq (t := 24) rfl (vT h4) (qq (t := 24) rfl (vT h4) (cX (qT (.bool (true)) (vT h4) rfl (qb (jO rfl (qc (qa (qh (.bool (false)) rfl (qb (qw (qF (qo (qo (qF (qo (qu (L' := L) [.bool (false)] (.bool (false)) (.tmp rfl .nil) rfl rF rF (sD sR) ?_))))))))))))))))
   exact ⟨(vB (sigOk_bad (i := k) (by omega) (by omega))), rfl, rfl⟩
  refine qs (t := 24) rfl (vF h4) (ql (ii (ar.getD k 0)) rfl (qs (t := 24) rfl (vF h4) (jU rfl rfl (cX (qP (.bool (decide ((ar.getD k 0 : Int) > 3))) (vF h4) rfl (qb ?_))))))
  refine qE (p := (ar.getD k 0 : Int) > 3) rfl (fun h5 => ?_) (fun h5 => ?_)
  ·refine qc (qa (qh (.bool (false)) rfl (qb (qw (qF (qo (qo (qF (qo (qu (L' := L) [.bool (false)] (.bool (false)) (.tmp rfl .nil) rfl rF rF (sD sR) ?_))))))))))
   exact ⟨(vB (sigOk_bad (i := k) (by omega) (by omega))), rfl, rfl⟩
  refine qA (qa (cX (qM (((k + 1 : Nat) : Int)) rfl rfl (by omega) (by omega) (qd (ii (((k + 1 : Nat) : Int))) rfl (qb ?_)))))
  exact ⟨k + 1, _, FLe.refl _, rF, ⟨rfl, rfl, rfl, ⟨⟩⟩, (sC sR), ⟨rfl, (by omega), (fun i hi => (Nat.lt_or_ge i k).elim (fun h => hall i h) (fun h => by obtain rfl : i = k := (by omega); omega))⟩, (by omega)⟩
 refine jn (qz (qz (qR (qc (qa (qh (.bool (true)) rfl (qb (qw (qu (L' := L) [.bool (true)] (.bool (true)) (.tmp rfl .nil) rfl rF rF (sD sR) ?_)))))))))
 exact ⟨(vB (sigOk_of (by omega) (by omega) (fun i hi => hall i (by omega)))), rfl, rfl⟩

/- (*impl.cursor).next -/
theorem next_spec {F : FH} {L : List HP} {c p : Nat} {arv : Value} {ar : List Int} (har : IntsF F arv ar) {tv : Value} {t : List Int} (ht : IntsF F tv t) (hb : t.length ≤ 4000000) :
    Does prog 89 [ptr c 0] F (cellsH c [arv, tv, ii ((p : Int))] 139 :: L) (fun v F' L' => F = F' ∧ ((p < t.length ∧ t.getD p 0 < (ar.length : Int) ∧ (ii (arity ar (t.getD p 0)) : Value) = v ∧ cellsH c [arv, tv, ii ((p + 1 : Nat) : Int)] 139 :: L = L') ∨ (¬ (p < t.length ∧ t.getD p 0 < (ar.length : Int)) ∧ (ii (-1) : Value) = v ∧ cellsH c [arv, tv, ii (p : Int)] 139 :: L = L'))) := by
 refine qH func89 rfl rfl rfl (qc (qa (qh (ii (0)) rfl (qb (qc (qc ?_))))))
 by_cases h1 : (p : Int) ≥ (t.length : Int)
 ·refine jL [cellsH c [arv, tv, ii ((p : Int))] 139] L 27 [] [[], [0], [1], [2], [], [4], [5], [6], [7], [3, 8], [9], [10], [10, 11], [10, 12], [10, 13], [10], [10, 15], [10, 16], [10, 17], [10, 14, 18], [10, 19], [10], [10, 21], [10, 22], [10, 23], [10, 24], [10, 25]] (phiL [qe (ptr c 0), qe (ptr c 0), qe (ptr c 2), qe (ii ((p : Int)) : Value), qe (ptr c 0), qe (ptr c 0), qe (ptr c 1), qe tv, qe (ii ((t.length : Int)) : Value), qe (.bool (decide ((p : Int) ≥ (t.length : Int))) : Value), qe (.bool (decide ((p : Int) ≥ (t.length : Int))) : Value), qe undef, qe undef, qe undef, qe undef, qe undef, qe undef, qe undef, qe undef, qe undef, qe undef, qe undef, qe undef, qe undef, qe undef, qe undef, qe undef]) (ownL []) mixed rfl rfl (by kernel_rfl) ?_ ?_
  ·refine pD (fun W R z9 => ?_) ?_
   ·refine qg (ql (ptr c 0) rfl ?_)
    exact ⟨rfl, rfl, rfl⟩
   refine pD (fun W R z9 => ?_) ?_
   ·rw [zA 0 (z9 0 rfl)]
    refine qg (qL rfl ?_)
    exact ⟨rfl, rfl, rfl⟩
   refine pD (fun W R z9 => ?_) ?_
   ·rw [zA 1 (z9 1 rfl)]
    refine qg (qn (2) jP rfl jC (by decide) rfl rfl ?_)
    exact ⟨rfl, rfl, rfl⟩
   refine pD (fun W R z9 => ?_) ?_
   ·rw [zA 2 (z9 2 rfl)]
    refine qg (qj yd rfl (Rd.own [] rfl rfl) ?_)
    exact ⟨rfl, rfl, rfl⟩
   refine pD (fun W R z9 => ?_) ?_
   ·refine qg (ql (ptr c 0) rfl ?_)
    exact ⟨rfl, rfl, rfl⟩
   refine pD (fun W R z9 => ?_) ?_
   ·rw [zA 4 (z9 4 rfl)]
    refine qg (qL rfl ?_)
    exact ⟨rfl, rfl, rfl⟩
   refine pD (fun W R z9 => ?_) ?_
   ·rw [zA 5 (z9 5 rfl)]
    refine qg (qn (1) jP rfl qr (by decide) rfl rfl ?_)
    exact ⟨rfl, rfl, rfl⟩
   refine pD (fun W R z9 => ?_) ?_
   ·rw [zA 6 (z9 6 rfl)]
    refine qg (qj qN rfl (Rd.own [] rfl rfl) ?_)
    exact ⟨rfl, rfl, rfl⟩
   refine pD (fun W R z9 => ?_) ?_
   ·rw [zA 7 (z9 7 rfl)]
    refine qg (qG qf rfl ht.slv ?_)
    exact ⟨rfl, rfl, rfl⟩
   refine pD (fun W R z9 => ?_) ?_
   ·rw [zB 3 8 (z9 3 rfl) (z9 8 rfl)]
    refine qg (jV rfl rfl ?_)
    exact ⟨rfl, rfl, rfl⟩
   refine pD (fun W R z9 => ?_) ?_
   ·rw [zA 9 (z9 9 rfl)]
    refine qg (ql (.bool (decide ((p : Int) ≥ (t.length : Int)))) rfl ?_)
    exact ⟨rfl, rfl, rfl⟩
   refine pD (fun W R z9 => ?_) ?_
   ·rw [zA 10 (z9 10 rfl)]
    exact jt (t := 13) rfl (vT h1) ⟨rfl, rfl, rfl⟩
   refine pD (fun W R z9 => ?_) ?_
   ·rw [eS (l := [(10, _), (11, undef)]) ⟨z9 10 rfl, z9 11 rfl, ⟨⟩⟩]
    exact jt (t := 13) rfl (vT h1) ⟨rfl, rfl, rfl⟩
   refine pD (fun W R z9 => ?_) ?_
   ·rw [eS (l := [(10, _), (12, undef)]) ⟨z9 10 rfl, z9 12 rfl, ⟨⟩⟩]
    exact jt (t := 13) rfl (vT h1) ⟨rfl, rfl, rfl⟩
   refine pD (fun W R z9 => ?_) ?_
   ·rw [eS (l := [(10, _), (13, undef)]) ⟨z9 10 rfl, z9 13 rfl, ⟨⟩⟩]
    exact jt (t := 13) rfl (vT h1) ⟨rfl, rfl, rfl⟩
   refine pD (fun W R z9 => ?_) ?_
   ·rw [zA 10 (z9 10 rfl)]
    exact jt (t := 13) rfl (vT h1) ⟨rfl, rfl, rfl⟩
   refine pD (fun W R z9 => ?_) ?_
   ·rw [eS (l := [(10, _), (15, undef)]) ⟨z9 10 rfl, z9 15 rfl, ⟨⟩⟩]
    exact jt (t := 13) rfl (vT h1) ⟨rfl, rfl, rfl⟩
   refine pD (fun W R z9 => ?_) ?_
   ·rw [eS (l := [(10, _), (16, undef)]) ⟨z9 10 rfl, z9 16 rfl, ⟨⟩⟩]
    exact jt (t := 13) rfl (vT h1) ⟨rfl, rfl, rfl⟩
   refine pD (fun W R z9 => ?_) ?_
   ·rw [eS (l := [(10, _), (17, undef)]) ⟨z9 10 rfl, z9 17 rfl, ⟨⟩⟩]
    exact jt (t := 13) rfl (vT h1) ⟨rfl, rfl, rfl⟩
   refine pD (fun W R z9 => ?_) ?_
   ·rw [eS (l := [(10, _), (14, undef), (18, undef)]) ⟨z9 10 rfl, z9 14 rfl, z9 18 rfl, ⟨⟩⟩]
    exact jt (t := 13) rfl (vT h1) ⟨rfl, rfl, rfl⟩
   refine pD (fun W R z9 => ?_) ?_
   ·rw [eS (l := [(10, _), (19, undef)]) ⟨z9 10 rfl, z9 19 rfl, ⟨⟩⟩]
    exact jt (t := 13) rfl (vT h1) ⟨rfl, rfl, rfl⟩
   refine pD (fun W R z9 => ?_) ?_
   ·rw [zA 10 (z9 10 rfl)]
    exact jt (t := 13) rfl (vT h1) ⟨rfl, rfl, rfl⟩
   refine pD (fun W R z9 => ?_) ?_
   ·rw [eS (l := [(10, _), (21, undef)]) ⟨z9 10 rfl, z9 21 rfl, ⟨⟩⟩]
    exact jt (t := 13) rfl (vT h1) ⟨rfl, rfl, rfl⟩
   refine pD (fun W R z9 => ?_) ?_
   ·rw [eS (l := [(10, _), (22, undef)]) ⟨z9 10 rfl, z9 22 rfl, ⟨⟩⟩]
    exact jt (t := 13) rfl (vT h1) ⟨rfl, rfl, rfl⟩
   refine pD (fun W R z9 => ?_) ?_
   ·rw [eS (l := [(10, _), (23, undef)]) ⟨z9 10 rfl, z9 23 rfl, ⟨⟩⟩]
    exact jt (t := 13) rfl (vT h1) ⟨rfl, rfl, rfl⟩
   refine pD (fun W R z9 => ?_) ?_
   ·rw [eS (l := [(10, _), (24, undef)]) ⟨z9 10 rfl, z9 24 rfl, ⟨⟩⟩]
    exact jt (t := 13) rfl (vT h1) ⟨rfl, rfl, rfl⟩
   refine pD (fun W R z9 => ?_) ?_
   ·rw [eS (l := [(10, _), (25, undef)]) ⟨z9 10 rfl, z9 25 rfl, ⟨⟩⟩]
    exact jt (t := 13) rfl (vT h1) ⟨rfl, rfl, rfl⟩
   exact stepsP.nil
  intro W hphi
  rw [eS (l := [(10, _), (20, undef), (26, undef)]) ⟨(hphi 10 (by decide)), (hphi 20 (by decide)), (hphi 26 (by decide)), ⟨⟩⟩]
  show XL _ _ _ _ _ _ _ (cellsH c [arv, tv, ii ((p : Int))] 139 :: L)
  refine qq (t := 13) rfl (vT h1) (cX (qT (.bool (true)) (vT h1) rfl (qb (jO rfl (qc (qa (qh (ii (-1)) rfl (qb (qw (qo (qu (L' := cellsH c [arv, tv, ii ((p : Int))] 139 :: L) [ii (-1)] (ii (-1)) (.tmp rfl .nil) rfl rF rF (sC sR) ?_)))))))))))
  exact ⟨rfl, .inr ⟨by omega, rfl, rfl⟩⟩
 refine jL [cellsH c [arv, tv, ii ((p : Int))] 139] L 27 [] [[], [0], [1], [2], [], [4], [5], [6], [7], [3, 8], [9], [10], [10, 11], [10, 12], [10, 13], [10], [10, 15], [10, 16], [10, 17], [10, 14, 18], [10, 19], [10], [10, 21], [10, 22], [10, 23], [10, 24], [10, 25]] (phiL [qe (ptr c 0), qe (ptr c 0), qe (ptr c 2), qe (ii ((p : Int)) : Value), qe (ptr c 0), qe (ptr c 0), qe (ptr c 1), qe tv, qe (ii ((t.length : Int)) : Value), qe (.bool (decide ((p : Int) ≥ (t.length : Int))) : Value), qe (.bool (decide ((p : Int) ≥ (t.length : Int))) : Value), qe (ptr c 0), qe (ptr c 0), qe (ptr c 1), qe tv, qe (ptr c 0), qe (ptr c 0), qe (ptr c 2), qe (ii ((p : Int)) : Value), qe (.pointer (some (elemA tv (p)))), qe (ii (t.getD p 0)), qe (ptr c 0), qe (ptr c 0), qe (ptr c 0), qe (ptr c 0), qe arv, qe (ii ((ar.length : Int)) : Value)]) (ownL []) mixed rfl rfl (by kernel_rfl) ?_ ?_
 ·refine pD (fun W R z9 => ?_) ?_
  ·refine qg (ql (ptr c 0) rfl ?_)
   exact ⟨rfl, rfl, rfl⟩
  refine pD (fun W R z9 => ?_) ?_
  ·rw [zA 0 (z9 0 rfl)]
   refine qg (qL rfl ?_)
   exact ⟨rfl, rfl, rfl⟩
  refine pD (fun W R z9 => ?_) ?_
  ·rw [zA 1 (z9 1 rfl)]
   refine qg (qn (2) jP rfl jC (by decide) rfl rfl ?_)
   exact ⟨rfl, rfl, rfl⟩
  refine pD (fun W R z9 => ?_) ?_
  ·rw [zA 2 (z9 2 rfl)]
   refine qg (qj yd rfl (Rd.own [] rfl rfl) ?_)
   exact ⟨rfl, rfl, rfl⟩
  refine pD (fun W R z9 => ?_) ?_
  ·refine qg (ql (ptr c 0) rfl ?_)
   exact ⟨rfl, rfl, rfl⟩
  refine pD (fun W R z9 => ?_) ?_
  ·rw [zA 4 (z9 4 rfl)]
   refine qg (qL rfl ?_)
   exact ⟨rfl, rfl, rfl⟩
  refine pD (fun W R z9 => ?_) ?_
  ·rw [zA 5 (z9 5 rfl)]
   refine qg (qn (1) jP rfl qr (by decide) rfl rfl ?_)
   exact ⟨rfl, rfl, rfl⟩
  refine pD (fun W R z9 => ?_) ?_
  ·rw [zA 6 (z9 6 rfl)]
   refine qg (qj qN rfl (Rd.own [] rfl rfl) ?_)
   exact ⟨rfl, rfl, rfl⟩
  refine pD (fun W R z9 => ?_) ?_
  ·rw [zA 7 (z9 7 rfl)]
   refine qg (qG qf rfl ht.slv ?_)
   exact ⟨rfl, rfl, rfl⟩
  refine pD (fun W R z9 => ?_) ?_
  ·rw [zB 3 8 (z9 3 rfl) (z9 8 rfl)]
   refine qg (jV rfl rfl ?_)
   exact ⟨rfl, rfl, rfl⟩
  refine pD (fun W R z9 => ?_) ?_
  ·rw [zA 9 (z9 9 rfl)]
   refine qg (ql (.bool (decide ((p : Int) ≥ (t.length : Int)))) rfl ?_)
   exact ⟨rfl, rfl, rfl⟩
  refine pD (fun W R z9 => ?_) ?_
  ·rw [zA 10 (z9 10 rfl)]
   refine jm (t := 13) rfl (vF h1) (ql (ptr c 0) rfl ?_)
   exact ⟨rfl, rfl, rfl⟩
  refine pD (fun W R z9 => ?_) ?_
  ·rw [zB 10 11 (z9 10 rfl) (z9 11 rfl)]
   refine jm (t := 13) rfl (vF h1) (qL rfl ?_)
   exact ⟨rfl, rfl, rfl⟩
  refine pD (fun W R z9 => ?_) ?_
  ·rw [zB 10 12 (z9 10 rfl) (z9 12 rfl)]
   refine jm (t := 13) rfl (vF h1) (qn (1) jP rfl qr (by decide) rfl rfl ?_)
   exact ⟨rfl, rfl, rfl⟩
  refine pD (fun W R z9 => ?_) ?_
  ·rw [zB 10 13 (z9 10 rfl) (z9 13 rfl)]
   refine jm (t := 13) rfl (vF h1) (qj qN rfl (Rd.own [] rfl rfl) ?_)
   exact ⟨rfl, rfl, rfl⟩
  refine pD (fun W R z9 => ?_) ?_
  ·rw [zA 10 (z9 10 rfl)]
   refine jm (t := 13) rfl (vF h1) (ql (ptr c 0) rfl ?_)
   exact ⟨rfl, rfl, rfl⟩
  refine pD (fun W R z9 => ?_) ?_
  ·rw [zB 10 15 (z9 10 rfl) (z9 15 rfl)]
   refine jm (t := 13) rfl (vF h1) (qL rfl ?_)
   exact ⟨rfl, rfl, rfl⟩
  refine pD (fun W R z9 => ?_) ?_
  ·rw [zB 10 16 (z9 10 rfl) (z9 16 rfl)]
   refine jm (t := 13) rfl (vF h1) (qn (2) jP rfl jC (by decide) rfl rfl ?_)
   exact ⟨rfl, rfl, rfl⟩
  refine pD (fun W R z9 => ?_) ?_
  ·rw [zB 10 17 (z9 10 rfl) (z9 17 rfl)]
   refine jm (t := 13) rfl (vF h1) (qj yd rfl (Rd.own [] rfl rfl) ?_)
   exact ⟨rfl, rfl, rfl⟩
  refine pD (fun W R z9 => ?_) ?_
  ·rw [eS (l := [(10, _), (14, _), (18, _)]) ⟨z9 10 rfl, z9 14 rfl, z9 18 rfl, ⟨⟩⟩]
   refine jm (t := 13) rfl (vF h1) (qx p qf qC rfl rfl rfl ht.slv (by omega) (Nat.mul_one _) ?_)
   exact ⟨rfl, rfl, rfl⟩
  refine pD (fun W R z9 => ?_) ?_
  ·rw [zB 10 19 (z9 10 rfl) (z9 19 rfl)]
   refine jm (t := 13) rfl (vF h1) (qj jh rfl (ht.rd (by omega)) ?_)
   exact ⟨rfl, rfl, rfl⟩
  refine pD (fun W R z9 => ?_) ?_
  ·rw [zA 10 (z9 10 rfl)]
   refine jm (t := 13) rfl (vF h1) (ql (ptr c 0) rfl ?_)
   exact ⟨rfl, rfl, rfl⟩
  refine pD (fun W R z9 => ?_) ?_
  ·rw [zB 10 21 (z9 10 rfl) (z9 21 rfl)]
   refine jm (t := 13) rfl (vF h1) (qL rfl ?_)
   exact ⟨rfl, rfl, rfl⟩
  refine pD (fun W R z9 => ?_) ?_
  ·rw [zB 10 22 (z9 10 rfl) (z9 22 rfl)]
   refine jm (t := 13) rfl (vF h1) (qn (0) jP rfl qB (by decide) rfl rfl ?_)
   exact ⟨rfl, rfl, rfl⟩
  refine pD (fun W R z9 => ?_) ?_
  ·rw [zB 10 23 (z9 10 rfl) (z9 23 rfl)]
   refine jm (t := 13) rfl (vF h1) (qn (0) jk rfl qr (by decide) rfl rfl ?_)
   exact ⟨rfl, rfl, rfl⟩
  refine pD (fun W R z9 => ?_) ?_
  ·rw [zB 10 24 (z9 10 rfl) (z9 24 rfl)]
   refine jm (t := 13) rfl (vF h1) (qj qN rfl (Rd.own [] rfl rfl) ?_)
   exact ⟨rfl, rfl, rfl⟩
  refine pD (fun W R z9 => ?_) ?_
  ·rw [zB 10 25 (z9 10 rfl) (z9 25 rfl)]
   refine jm (t := 13) rfl (vF h1) (qG qf rfl har.slv ?_)
   exact ⟨rfl, rfl, rfl⟩
  exact stepsP.nil
 intro W hphi
 rw [eS (l := [(10, _), (20, _), (26, _)]) ⟨(hphi 10 (by decide)), (hphi 20 (by decide)), (hphi 26 (by decide)), ⟨⟩⟩]
 show XL _ _ _ _ _ _ _ (cellsH c [arv, tv, ii ((p : Int))] 139 :: L)
 refine qs (t := 13) rfl (vF h1) (jV rfl rfl (cX (qP (.bool (decide ((t.getD p 0 : Int) ≥ (ar.length : Int)))) (vF h1) rfl (qb ?_))))
 refine qE (p := (t.getD p 0 : Int) ≥ (ar.length : Int)) rfl (fun h2 => ?_) (fun h2 => ?_)
 ·refine qc (qa (qh (ii (-1)) rfl (qb (qw (qo (qu (L' := cellsH c [arv, tv, ii ((p : Int))] 139 :: L) [ii (-1)] (ii (-1)) (.tmp rfl .nil) rfl rF rF (sC sR) ?_))))))
  exact ⟨rfl, .inr ⟨by omega, rfl, rfl⟩⟩
 refine qA (qc (qa (qd (ptr c 0) rfl (cX (qL rfl (cX (qn (2) jP rfl jC (by decide) rfl rfl (cX (qj yd rfl (Rd.own [] rfl rfl) (cX (qM (((p + 1 : Nat) : Int)) rfl rfl (by omega) (by omega) (cX (qL rfl (cX (qn (2) jP rfl jC (by decide) rfl rfl (cX (jz [] _ [arv, tv, ii (((p + 1 : Nat) : Int))] jC rfl rfl rfl rfl rfl rfl (qb (qc ?_)))))))))))))))))))
 refine jL [cellsH c [arv, tv, ii (((p + 1 : Nat) : Int))] 139] L 15 [] [[], [0], [1], [2], [], [4], [5], [6], [], [8], [9], [10], [11], [7, 12], [13]] (phiL [qe (ptr c 0), qe (ptr c 0), qe (ptr c 0), qe (.agg #[arv]), qe (ptr c 0), qe (ptr c 0), qe (ptr c 1), qe tv, qe (ptr c 0), qe (ptr c 0), qe (ptr c 2), qe (ii (((p + 1 : Nat) : Int)) : Value), qe (ii ((p : Int)) : Value), qe (.pointer (some (elemA tv (p)))), qe (ii (t.getD p 0))]) (ownL []) mixed rfl rfl (by kernel_rfl) ?_ ?_
 ·refine pD (fun W R z9 => ?_) ?_
  ·refine qg (ql (ptr c 0) rfl ?_)
   exact ⟨rfl, rfl, rfl⟩
  refine pD (fun W R z9 => ?_) ?_
  ·rw [zA 0 (z9 0 rfl)]
   refine qg (qL rfl ?_)
   exact ⟨rfl, rfl, rfl⟩
  refine pD (fun W R z9 => ?_) ?_
  ·rw [zA 1 (z9 1 rfl)]
   refine qg (qn (0) jP rfl qB (by decide) rfl rfl ?_)
   exact ⟨rfl, rfl, rfl⟩
  refine pD (fun W R z9 => ?_) ?_
  ·rw [zA 2 (z9 2 rfl)]
   refine qg (qv [arv] qU qB rfl rfl (Rd.ownN [] rfl rfl) ?_)
   exact ⟨rfl, rfl, rfl⟩
  refine pD (fun W R z9 => ?_) ?_
  ·refine qg (ql (ptr c 0) rfl ?_)
   exact ⟨rfl, rfl, rfl⟩
  refine pD (fun W R z9 => ?_) ?_
  ·rw [zA 4 (z9 4 rfl)]
   refine qg (qL rfl ?_)
   exact ⟨rfl, rfl, rfl⟩
  refine pD (fun W R z9 => ?_) ?_
  ·rw [zA 5 (z9 5 rfl)]
   refine qg (qn (1) jP rfl qr (by decide) rfl rfl ?_)
   exact ⟨rfl, rfl, rfl⟩
  refine pD (fun W R z9 => ?_) ?_
  ·rw [zA 6 (z9 6 rfl)]
   refine qg (qj qN rfl (Rd.own [] rfl rfl) ?_)
   exact ⟨rfl, rfl, rfl⟩
  refine pD (fun W R z9 => ?_) ?_
  ·refine qg (ql (ptr c 0) rfl ?_)
   exact ⟨rfl, rfl, rfl⟩
  refine pD (fun W R z9 => ?_) ?_
  ·rw [zA 8 (z9 8 rfl)]
   refine qg (qL rfl ?_)
   exact ⟨rfl, rfl, rfl⟩
  refine pD (fun W R z9 => ?_) ?_
  ·rw [zA 9 (z9 9 rfl)]
   refine qg (qn (2) jP rfl jC (by decide) rfl rfl ?_)
   exact ⟨rfl, rfl, rfl⟩
  refine pD (fun W R z9 => ?_) ?_
  ·rw [zA 10 (z9 10 rfl)]
   refine qg (qj yd rfl (Rd.own [] rfl rfl) ?_)
   exact ⟨rfl, rfl, rfl⟩
  refine pD (fun W R z9 => ?_) ?_
  ·rw [zA 11 (z9 11 rfl)]
   refine qg (jq ((p : Int)) rfl rfl (by omega) (by omega) ?_)
   exact ⟨rfl, rfl, rfl⟩
  refine pD (fun W R z9 => ?_) ?_
  ·rw [zB 7 12 (z9 7 rfl) (z9 12 rfl)]
   refine qg (qx p qf qC rfl rfl rfl ht.slv (by omega) (Nat.mul_one _) ?_)
   exact ⟨rfl, rfl, rfl⟩
  refine pD (fun W R z9 => ?_) ?_
  ·rw [zA 13 (z9 13 rfl)]
   refine qg (qj jh rfl (ht.rd (by omega)) ?_)
   exact ⟨rfl, rfl, rfl⟩
  exact stepsP.nil
 intro W hphi
 rw [zB 3 14 (hphi 3 (by decide)) (hphi 14 (by decide))]
 show XL _ _ _ _ _ _ _ (cellsH c [arv, tv, ii (((p + 1 : Nat) : Int))] 139 :: L)
 refine cX (qt (args := [.agg #[arv], ii (t.getD p 0)]) call101 rfl (arityAt_spec (n := t.getD p 0) har (hn := (by first | assumption | rfl | omega | simp))) ?_)
 rintro _ _ _ _ ⟨rfl, rfl, rfl⟩
 refine qh (ii (arity ar (t.getD p 0))) rfl (qb (qw (qu (L' := cellsH c [arv, tv, ii (((p + 1 : Nat) : Int))] 139 :: L) [ii (arity ar (t.getD p 0))] (ii (arity ar (t.getD p 0))) (.tmp rfl .nil) rfl rF rF (sC sR) ?_)))
 exact ⟨rfl, .inl ⟨by omega, by omega, rfl, rfl⟩⟩

/- (*impl.cursor).skip -/
theorem skip_spec {F : FH} {L : List HP} {c p0 : Nat} {arv : Value} {ar : List Int} (har : IntsF F arv ar) {tv : Value} {t : List Int} (ht : IntsF F tv t) (hb : t.length ≤ 4000000) (hs : sigOk ar = true) (hp : p0 ≤ t.length) :
    Does prog 74 [ptr c 0] F (cellsH c [arv, tv, ii ((p0 : Int))] 139 :: L) (fun v F' L' => F = F' ∧ ∃ q : Nat, (.bool (endGo ar (t.drop p0) 1).isSome : Value) = v ∧ (∀ e, endGo ar (t.drop p0) 1 = some e → q = p0 + e) ∧ cellsH c [arv, tv, ii (q : Int)] 139 :: L = L') := by
 refine qH func74 rfl rfl rfl (qc (qa (qh (.bool (false)) rfl (qb (qc (qc (qa (qh (ii (1)) rfl (qb (qJ (jv (α := Nat × Nat) (fun xQ => [(0, ptr c 0), (3, ii (((xQ.1 : Nat) : Int)))]) (fun xQ => cellsH c [arv, tv, ii (((xQ.2 : Nat) : Int))] 139 :: L) (fun xQ F' => F = F' ∧ (endGo ar (t.drop p0) 1 = (endGo ar (t.drop xQ.2) xQ.1).map (· + (xQ.2 - p0))) ∧ (p0 ≤ xQ.2 ∧ xQ.2 ≤ t.length) ∧ (xQ.1 ≤ 1 + 3 * xQ.2)) (fun xQ => t.length - xQ.2) (1, p0) ⟨rfl, rfl, ⟨⟩⟩ (sC sR) ⟨rfl, (by simp), (by omega), (by omega)⟩ ?_)))))))))))
 rintro ⟨k, p⟩ rE _ _ ⟨rfl, hi, h1, h2⟩
 show X _ _ _ _ (envs [(0, ptr c 0), (3, ii ((k : Int)))] rE) _ (cellsH c [arv, tv, ii ((p : Int))] 139 :: L)
 dsimp only at hi h1 h2
 refine qc (qc (qa (qd (ii ((k : Int))) rfl (cX (jU rfl rfl (qb ?_))))))
 refine qE (p := (k : Int) > 0) rfl (fun h1 => ?_) (fun h1 => ?_)
 ·refine qA (qc (qJ (qc (qa (qd (ptr c 0) rfl (cX (qt (args := [ptr c 0]) call89 rfl (next_spec (p := p) har ht (by omega)) ?_)))))))
  rintro _ _ _ _ ⟨rfl, ⟨hn1a, hn1b, rfl, rfl⟩ | ⟨hn1c, rfl, rfl⟩⟩
  ·have hA := arity_le hs hn1b
   refine qh (ii (arity ar ((t).getD p 0))) rfl (qb (qc (qc (qa (qd (ii (arity ar ((t).getD p 0))) rfl (cX (qX rfl rfl (qb ?_))))))))
   refine qE (p := (arity ar ((t).getD p 0) : Int) < 0) rfl (fun h2 => ?_) (fun h2 => ?_)
   ·omega
   refine qA (qa (qd (ii ((k : Int))) rfl (qd (ii (arity ar ((t).getD p 0))) rfl (cX (qM (((k + (arity ar (t.getD p 0)).toNat : Nat) : Int)) rfl rfl (by omega) (by omega) (qh (ii (((k + (arity ar (t.getD p 0)).toNat : Nat) : Int))) rfl (qb (qa (qd (ii (((k + (arity ar (t.getD p 0)).toNat : Nat) : Int))) rfl (cX (jq (((k - 1 + (arity ar (t.getD p 0)).toNat : Nat) : Int)) rfl rfl (by omega) (by omega) (qh (ii (((k - 1 + (arity ar (t.getD p 0)).toNat : Nat) : Int))) rfl (qb ?_)))))))))))))
   exact ⟨(k - 1 + (arity ar (t.getD p 0)).toNat, p + 1), _, FLe.refl _, rF, ⟨rfl, rfl, ⟨⟩⟩, (sC sR), ⟨rfl, (by rw [hi, endGo_step (by omega) (by omega) (by omega), Option.map_map]; congr 1; funext e; simp; omega), (by omega), (by omega)⟩, (by omega)⟩
  refine qh (ii (-1)) rfl (qb (qc (qc (qa (qd (ii (-1)) rfl (cX (qX rfl rfl (qb (jO rfl (qc (qa (qh (.bool (false)) rfl (qb (qw (qo (qF (qo (qo (qF (qo (qu (L' := cellsH c [arv, tv, ii ((p : Int))] 139 :: L) [.bool (false)] (.bool (false)) (.tmp rfl .nil) rfl rF rF (sC sR) ?_)))))))))))))))))))))
  have hz : endGo ar (t.drop p0) 1 = none := by rw [hi, endGo_none (by omega) (by omega)]; rfl
  refine ⟨rfl, p, ?_, ?_, rfl⟩
  · rw [hz]; rfl
  · intro e he; rw [hz] at he; cases he
 refine jn (qz (qz (qR (qc (qa (qh (.bool (true)) rfl (qb (qw (qu (L' := cellsH c [arv, tv, ii ((p : Int))] 139 :: L) [.bool (true)] (.bool (true)) (.tmp rfl .nil) rfl rF rF (sC sR) ?_)))))))))
 obtain rfl : k = 0 := by omega
 have hz : endGo ar (t.drop p0) 1 = some (p - p0) := by rw [hi]; simp [endGo]
 refine ⟨rfl, p, ?_, ?_, rfl⟩
 · rw [hz]; rfl
 · intro e he; rw [hz] at he; cases he; omega

/- impl.endAt -/
theorem endAt_spec {F : FH} {L : List HP} {arv : Value} {ar : List Int} (har : IntsF F arv ar) {tv : Value} {t : List Int} (ht : IntsF F tv t) {p : Nat} (hs : sigOk ar = true) (hb : t.length ≤ 4000000) (hp : p ≤ t.length) :
    Does prog 63 [.agg #[arv], tv, ii ((p : Int))] F (L) (fun v F' L' => (ii (endZ ar t p) : Value) = v ∧ F = F' ∧ L = L') := by
 refine qH func63 rfl rfl rfl (qc (qa (cX (qY [arv] rfl rfl ?_))))
 intro b1
 refine qh (ii (0)) rfl (qb (qc (qa (cX (qv [arv] qU qB rfl rfl (Rd.ownN [] rfl rfl) (qd (tv) rfl (qd (ii ((p : Int))) rfl (cX (qZ [arv, tv, ii ((p : Int))] [sN, sN, ii (0)] [(0, 1), (1, 1), (2, 1)] [(0, [arv]), (1, [tv]), (2, [ii ((p : Int))])] jP zeroValue139 rfl (.cons rfl qB (.cons rfl qr (.cons rfl jC PlacesAre.nil))) rfl (.cons rfl (.cons (cells_one (qp ht)) (.cons rfl CellsAre.nil))) (cX (je [sN, sN, ii (0)] zeroValue139 rfl ?_)))))))))))
 intro b2
 refine cX (qI [] _ [arv, tv, ii ((p : Int))] sizeOf139 rfl rfl rfl (qm (qy (qp har)) (qm (qy (qp ht)) (qm rfl qO))) rfl rfl rfl (qb (qc (qc (qa (cX (qt (args := [ptr b2 0]) call74 rfl (skip_spec (p0 := p) har ht (by omega) hs (by omega)) ?_)))))))
 rintro _ _ _ _ ⟨rfl, q1, rfl, hq1, rfl⟩
 refine cX (ju rfl (qb ?_))
 refine jG (t := !((endGo ar (t.drop p) 1).isSome)) rfl (fun h1 => ?_) (fun h1 => ?_)
 ·refine qc (qa (qh (ii (-1)) rfl (qb (qw (qo (qu (L' := L) [ii (-1)] (ii (-1)) (.tmp rfl .nil) rfl rF rF (sD (sD sR)) ?_))))))
  exact ⟨(vI (endZ_none (by rw [Bool.eq_false_iff] at *; simpa using h1))), rfl, rfl⟩
 refine qA (qc (qa (cX (qn (2) jP rfl jC (by decide) rfl rfl (cX (qj yd rfl (Rd.own [] rfl rfl) (qh (ii ((q1 : Int))) rfl (qb (qw (qu (L' := L) [ii ((q1 : Int))] (ii ((q1 : Int))) (.tmp rfl .nil) rfl rF rF (sD (sD sR)) ?_))))))))))
 exact ⟨(vI (endZ_some hq1 (by simpa using h1))), rfl, rfl⟩

/- slices.Min[[]int64,int64] -/
theorem Min_spec {F : FH} {L : List HP} {xsv : Value} {xs : List Int} (hxs : IntsF F xsv xs) (h1 : 1 ≤ xs.length) (hbd : xs.length ≤ 4000000) :
    Does prog 62 [xsv] F (L) (fun v F' L' => (ii (minL xs) : Value) = v ∧ F = F' ∧ L = L') := by
 refine qH func62 rfl rfl rfl (qc (qa (qh (ii (0)) rfl (qb (qc (qc (qa (qd (xsv) rfl (cX (qG qf rfl hxs.slv (cX (qX rfl rfl (qb ?_)))))))))))))
 refine qE (p := ((xs.length : Int) : Int) < 1) rfl (fun h1 => ?_) (fun h1 => ?_)
 ·omega
 refine qA (qc (qa (qd (xsv) rfl (cX (qx 0 qf qC rfl rfl rfl hxs.slv (by omega) (Nat.mul_one _) (cX (qj jh rfl (hxs.rd (by omega)) (qh (ii (xs.getD 0 0)) rfl (qb (qc (qc (qa (qh (ii (1)) rfl (qb (qJ (jv (α := Nat) (fun k => [(0, xsv), (3, ii (minL (xs.take k))), (4, ii ((k : Int)))]) (fun k => L) (fun k F' => F = F' ∧ (1 ≤ k ∧ k ≤ xs.length)) (fun k => xs.length - k) 1 ⟨rfl, (vI (minL_take1 (xs := xs) (by omega)).symm), rfl, ⟨⟩⟩ sR ⟨rfl, (by omega)⟩ ?_))))))))))))))))
 rintro k rE _ _ ⟨rfl, hk⟩
 show X _ _ _ _ (envs [(0, xsv), (3, ii (minL (xs.take k))), (4, ii ((k : Int)))] rE) _ (L)
 refine qc (qc (qa (qd (ii ((k : Int))) rfl (qd (xsv) rfl (cX (qG qf rfl hxs.slv (cX (qX rfl rfl (qb ?_)))))))))
 refine qE (p := (k : Int) < (xs.length : Int)) rfl (fun h2 => ?_) (fun h2 => ?_)
 ·refine qA (qc (qJ (qa (qd (ii (minL (xs.take k))) rfl (qd (xsv) rfl (qd (ii ((k : Int))) rfl (cX (qx k qf qC rfl rfl rfl hxs.slv (by omega) (Nat.mul_one _) (cX (qj jh rfl (hxs.rd (by omega)) (cX (XOp.min2R (a := minL (xs.take k)) (b := xs.getD k 0) (minL (xs.take (k + 1))) rfl rfl ((minL_step (by omega) (by omega)).symm) (qh (ii (minL (xs.take (k + 1)))) rfl (qb (qa (qd (ii ((k : Int))) rfl ?_))))))))))))))))
  refine cX (qM (((k + 1 : Nat) : Int)) rfl rfl (by omega) (by omega) (qh (ii (((k + 1 : Nat) : Int))) rfl (qb ?_)))
  exact ⟨k + 1, _, FLe.refl _, rF, ⟨rfl, rfl, rfl, ⟨⟩⟩, sR, ⟨rfl, (by omega)⟩, (by omega)⟩
 refine jn (qz (qz (qR (qc (qa (qd (ii (minL (xs.take k))) rfl (qh (ii (minL (xs.take k))) rfl (qb (qw (qu (L' := L) [ii (minL (xs.take k))] (ii (minL (xs.take k))) (.tmp rfl .nil) rfl rF rF sR ?_))))))))))
 exact ⟨(vI (by rw [minL_take_all (by omega)])), rfl, rfl⟩

/- slices.Equal[[]int64,int64] -/
theorem Equal_spec {F : FH} {L : List HP} {av : Value} {a : List Int} (ha : IntsF F av a) {bv : Value} {b : List Int} (hb : IntsF F bv b) (hbd : a.length ≤ 9223372036854775807 ∨ b.length ≤ 9223372036854775807) :
    Does prog 46 [av, bv] F (L) (fun v F' L' => (.bool (decide (a = b)) : Value) = v ∧ F = F' ∧ L = L') := by
 refine qH func46 rfl rfl rfl (qc (qa (qh (.bool (false)) rfl (qb (qc (qc (qa (qd (av) rfl (cX (qG qf rfl ha.slv (qd (bv) rfl (cX (qG qf rfl hb.slv (cX (XOp.neq rfl rfl (qb ?_))))))))))))))))
 refine qE (p := ((a.length : Int) : Int) ≠ (b.length : Int)) rfl (fun h1 => ?_) (fun h1 => ?_)
 ·refine qc (qa (qh (.bool (false)) rfl (qb (qw (qo (qu (L' := L) [.bool (false)] (.bool (false)) (.tmp rfl .nil) rfl rF rF sR ?_))))))
  exact ⟨(vB (decide_eq_false (fun e => by rw [e] at h1; omega))), rfl, rfl⟩
 refine qA (qc (qc (qa (qd (av) rfl (cX (qG qf rfl ha.slv (qd (ii (0)) rfl (qb (qJ (jv (α := Nat) (fun k => [(0, av), (1, bv), (12, ii ((a.length : Int))), (13, ii ((k : Int)))]) (fun k => L) (fun k F' => F = F' ∧ (k ≤ a.length) ∧ (∀ i, i < k → a.getD i 0 = b.getD i 0)) (fun k => a.length - k) 0 ⟨rfl, rfl, rfl, rfl, ⟨⟩⟩ sR ⟨rfl, (by omega), (fun i hi => absurd hi (by omega))⟩ ?_))))))))))
 rintro k rE _ _ ⟨rfl, hk, hall⟩
 show X _ _ _ _ (envs [(0, av), (1, bv), (12, ii ((a.length : Int))), (13, ii ((k : Int)))] rE) _ (L)
 refine qc (qa (cX (qX rfl rfl (qb (qc ?_)))))
 refine qE (p := (k : Int) < (a.length : Int)) rfl (fun h2 => ?_) (fun h2 => ?_)
 ·refine qA (qc (qJ (qc (qa (qd (ii ((k : Int))) rfl (qh (ii ((k : Int))) rfl (qb (qc ?_))))))))
  refine jL [] L 8 [] [[], [], [0, 1], [2], [], [], [4, 5], [6]] (phiL [qe av, qe (ii ((k : Int)) : Value), qe (.pointer (some (elemA av (k)))), qe (ii (a.getD k 0)), qe bv, qe (ii ((k : Int)) : Value), qe (.pointer (some (elemA bv (k)))), qe (ii (b.getD k 0))]) (ownL []) mixed rfl rfl (by kernel_rfl) ?_ ?_
  ·refine pD (fun W R z9 => ?_) ?_
   ·refine qg (ql (av) rfl ?_)
    exact ⟨rfl, rfl, rfl⟩
   refine pD (fun W R z9 => ?_) ?_
   ·refine qg (ql (ii ((k : Int))) rfl ?_)
    exact ⟨rfl, rfl, rfl⟩
   refine pD (fun W R z9 => ?_) ?_
   ·rw [zB 0 1 (z9 0 rfl) (z9 1 rfl)]
    refine qg (qx k qf qC rfl rfl rfl ha.slv (by omega) (Nat.mul_one _) ?_)
    exact ⟨rfl, rfl, rfl⟩
   refine pD (fun W R z9 => ?_) ?_
   ·rw [zA 2 (z9 2 rfl)]
    refine qg (qj jh rfl (ha.rd (by omega)) ?_)
    exact ⟨rfl, rfl, rfl⟩
   refine pD (fun W R z9 => ?_) ?_
   ·refine qg (ql (bv) rfl ?_)
    exact ⟨rfl, rfl, rfl⟩
   refine pD (fun W R z9 => ?_) ?_
   ·refine qg (ql (ii ((k : Int))) rfl ?_)
    exact ⟨rfl, rfl, rfl⟩
   refine pD (fun W R z9 => ?_) ?_
   ·rw [zB 4 5 (z9 4 rfl) (z9 5 rfl)]
    refine qg (qx k qf qC rfl rfl rfl hb.slv (by omega) (Nat.mul_one _) ?_)
    exact ⟨rfl, rfl, rfl⟩
   refine pD (fun W R z9 => ?_) ?_
   ·rw [zA 6 (z9 6 rfl)]
    refine qg (qj jh rfl (hb.rd (by omega)) ?_)
    exact ⟨rfl, rfl, rfl⟩
   exact stepsP.nil
  intro W hphi
  rw [zB 3 7 (hphi 3 (by decide)) (hphi 7 (by decide))]
  show XL _ _ _ _ _ _ _ (L)
  refine cX (XOp.neq rfl rfl (qb ?_))
  refine qE (p := (a.getD k 0 : Int) ≠ b.getD k 0) rfl (fun h3 => ?_) (fun h3 => ?_)
  ·refine qc (qa (qh (.bool (false)) rfl (qb (qw (qF (qo (qo (qF (qo (qu (L' := L) [.bool (false)] (.bool (false)) (.tmp rfl .nil) rfl rF rF sR ?_))))))))))
   exact ⟨(vB (decide_eq_false (ne_of_getD (i := k) (by omega)))), rfl, rfl⟩
  refine qA (qa (cX (qM (((k + 1 : Nat) : Int)) rfl rfl (by omega) (by omega) (qd (ii (((k + 1 : Nat) : Int))) rfl (qb ?_)))))
  exact ⟨k + 1, _, FLe.refl _, rF, ⟨rfl, rfl, rfl, rfl, ⟨⟩⟩, sR, ⟨rfl, (by omega), (fun i hi => (Nat.lt_or_ge i k).elim (fun h => hall i h) (fun h => by obtain rfl : i = k := (by omega); omega))⟩, (by omega)⟩
 refine jn (qz (qz (qR (qc (qa (qh (.bool (true)) rfl (qb (qw (qu (L' := L) [.bool (true)] (.bool (true)) (.tmp rfl .nil) rfl rF rF sR ?_)))))))))
 exact ⟨(vB (decide_eq_true (ext_getD (by omega) (fun i hi => hall i (by omega))))), rfl, rfl⟩

/- slices.Index[[]int64,int64] -/
theorem Index_spec {F : FH} {L : List HP} {xsv : Value} {xs : List Int} (hxs : IntsF F xsv xs) {n : Int} (hbd : xs.length ≤ 9223372036854775807) :
    Does prog 52 [xsv, ii (n)] F (L) (fun v F' L' => (ii (indexZ xs n) : Value) = v ∧ F = F' ∧ L = L') := by
 refine qH func52 rfl rfl rfl (qc (qa (qh (ii (0)) rfl (qb (qc (qc (qa (qd (xsv) rfl (cX (qG qf rfl hxs.slv (qd (ii (0)) rfl (qb (qJ (jv (α := Nat) (fun k => [(0, xsv), (1, ii (n)), (7, ii ((xs.length : Int))), (8, ii ((k : Int)))]) (fun k => L) (fun k F' => F = F' ∧ (k ≤ xs.length) ∧ (∀ i, i < k → xs.getD i 0 ≠ n)) (fun k => xs.length - k) 0 ⟨rfl, rfl, rfl, rfl, ⟨⟩⟩ sR ⟨rfl, (by omega), (fun i hi => absurd hi (by omega))⟩ ?_))))))))))))))
 rintro k rE _ _ ⟨rfl, hk, hall⟩
 show X _ _ _ _ (envs [(0, xsv), (1, ii (n)), (7, ii ((xs.length : Int))), (8, ii ((k : Int)))] rE) _ (L)
 refine qc (qa (cX (qX rfl rfl (qb (qc ?_)))))
 refine qE (p := (k : Int) < (xs.length : Int)) rfl (fun h1 => ?_) (fun h1 => ?_)
 ·refine qA (qc (qJ (qc (qa (qd (ii ((k : Int))) rfl (qh (ii ((k : Int))) rfl (qb (qc (qa (qd (ii (n)) rfl (qd (xsv) rfl (qd (ii ((k : Int))) rfl (cX (qx k qf qC rfl rfl rfl hxs.slv (by omega) (Nat.mul_one _) (cX (qj jh rfl (hxs.rd (by omega)) (cX (jo rfl rfl ?_))))))))))))))))))
  refine qb ?_
  refine qE (p := (n : Int) = xs.getD k 0) rfl (fun h2 => ?_) (fun h2 => ?_)
  ·refine qc (qa (qd (ii ((k : Int))) rfl (qh (ii ((k : Int))) rfl (qb (qw (qF (qo (qo (qF (qo (qu (L' := L) [ii ((k : Int))] (ii ((k : Int))) (.tmp rfl .nil) rfl rF rF sR ?_)))))))))))
   exact ⟨(vI (indexZ_some (by omega) (by omega) hall)), rfl, rfl⟩
  refine qA (qa (cX (qM (((k + 1 : Nat) : Int)) rfl rfl (by omega) (by omega) (qd (ii (((k + 1 : Nat) : Int))) rfl (qb ?_)))))
  exact ⟨k + 1, _, FLe.refl _, rF, ⟨rfl, rfl, rfl, rfl, ⟨⟩⟩, sR, ⟨rfl, (by omega), (fun i hi => (Nat.lt_or_ge i k).elim (fun h => hall i h) (fun h => by obtain rfl : i = k := (by omega); omega))⟩, (by omega)⟩
 refine jn (qz (qz (qR (qc (qa (qh (ii (-1)) rfl (qb (qw (qu (L' := L) [ii (-1)] (ii (-1)) (.tmp rfl .nil) rfl rF rF sR ?_)))))))))
 exact ⟨(vI (indexZ_none (fun i hi => hall i (by omega)))), rfl, rfl⟩

/- slices.Contains[[]int64,int64] -/
theorem Contains_spec {F : FH} {L : List HP} {xsv : Value} {xs : List Int} (hxs : IntsF F xsv xs) {n : Int} (hbd : xs.length ≤ 9223372036854775807) :
    Does prog 34 [xsv, ii (n)] F (L) (fun v F' L' => (.bool (decide (n ∈ xs)) : Value) = v ∧ F = F' ∧ L = L') := by
 refine qH func34 rfl rfl rfl (qc (qa (qh (.bool (false)) rfl (qb (qc (qa (qd (xsv) rfl (qd (ii (n)) rfl (cX (qt (args := [xsv, ii (n)]) call52 rfl (Index_spec (n := n) hxs (hbd := (by first | assumption | rfl | omega | simp))) ?_))))))))))
 rintro _ _ _ _ ⟨rfl, rfl, rfl⟩
 refine cX (jV rfl rfl (qh (.bool (decide ((indexZ xs n : Int) ≥ 0))) rfl (qb (qw (qu (L' := L) [.bool (decide ((indexZ xs n : Int) ≥ 0))] (.bool (decide ((indexZ xs n : Int) ≥ 0))) (.tmp rfl .nil) rfl rF rF sR ?_)))))
 exact ⟨(vB (decide_eq_decide.2 indexZ_mem.symm)), rfl, rfl⟩

/- spec.l1In -/
theorem l1In_spec {F : FH} {L : List HP} {n : Int} {a : Int} {b : Int} :
    Does prog 21 [ii (n), ii (a), ii (b)] F (L) (fun v F' L' => (.bool (decide (a ≤ n ∧ n ≤ b)) : Value) = v ∧ F = F' ∧ L = L') := by
 refine qH func21 rfl rfl rfl (qc (qa (qh (.bool (false)) rfl (qb (qc (qa (qd (ii (n)) rfl (qd (ii (a)) rfl (cX (jV rfl rfl (qd (.bool (decide ((n : Int) ≥ a))) rfl ?_)))))))))))
 by_cases h1 : (n : Int) ≥ a
 ·refine qs (t := 10) rfl (vT h1) (ql (ii (n)) rfl (qs (t := 10) rfl (vT h1) (ql (ii (b)) rfl (qs (t := 10) rfl (vT h1) (XOp.leq rfl rfl (cX (qT (.bool (decide ((n : Int) ≤ b))) (vT h1) rfl (qh (.bool (decide ((n : Int) ≤ b))) rfl (qb (qw (qu (L' := L) [.bool (decide ((n : Int) ≤ b))] (.bool (decide ((n : Int) ≤ b))) (.tmp rfl .nil) rfl rF rF sR ?_)))))))))))
  exact ⟨(vB (decide_eq_decide.2 (by omega))), rfl, rfl⟩
 refine qq (t := 10) rfl (vF h1) (qq (t := 10) rfl (vF h1) (qq (t := 10) rfl (vF h1) (cX (qP (.bool (false)) (vF h1) rfl (qh (.bool (false)) rfl (qb (qw (qu (L' := L) [.bool (false)] (.bool (false)) (.tmp rfl .nil) rfl rF rF sR ?_))))))))
 exact ⟨(vB (decide_eq_false (by omega))), rfl, rfl⟩

/- spec.l1Arity -/
theorem l1Arity_spec {F : FH} {L : List HP} {arv : Value} {ar : List Int} (har : IntsF F arv ar) {n : Int} (hla : ar.length ≤ 4000000) :
    Does prog 64 [.agg #[arv], ii (n)] F (L) (fun v F' L' => (ii (sArity ar n) : Value) = v ∧ F = F' ∧ L = L') := by
 refine qH func64 rfl rfl rfl (qc (qa (cX (qY [arv] rfl rfl ?_))))
 intro b1
 refine qh (ii (0)) rfl (qb (qc (qJ (qc (qa (qd (ii (n)) rfl (cX (qt (args := [ii (n), ii (-24), ii (-1)]) call21 rfl (l1In_spec (n := n) (a := -24) (b := -1)) ?_))))))))
 rintro _ _ _ _ ⟨rfl, rfl, rfl⟩
 refine qh (.bool (decide ((-24) ≤ n ∧ n ≤ (-1)))) rfl (qb ?_)
 refine qE (p := (-24) ≤ n ∧ n ≤ (-1)) rfl (fun h1 => ?_) (fun h1 => ?_)
 ·refine qc (qa (qh (ii (0)) rfl (qb (qw (qF (qo (qu (L' := L) [ii (0)] (ii (0)) (.tmp rfl .nil) rfl rF rF (sD sR) ?_)))))))
  exact ⟨(vI (by unfold sArity; split <;> (try split) <;> first | rfl | omega)), rfl, rfl⟩
 refine qc (qa (qd (ii (n)) rfl (cX (qn (0) jk rfl qr (by decide) rfl rfl (cX (qj qN rfl (Rd.own [] rfl rfl) (cX (qG qf rfl har.slv (cX (jq (((ar.length : Int)) - 1) rfl rfl (by omega) (by omega) (cX (qt (args := [ii (n), ii (0), ii (((ar.length : Int)) - 1)]) call21 rfl (l1In_spec (n := n) (a := 0) (b := ((ar.length : Int)) - 1)) ?_))))))))))))
 rintro _ _ _ _ ⟨rfl, rfl, rfl⟩
 refine qh (.bool (decide (0 ≤ n ∧ n ≤ (((ar.length : Int)) - 1)))) rfl (qb ?_)
 refine qE (p := 0 ≤ n ∧ n ≤ (((ar.length : Int)) - 1)) rfl (fun h2 => ?_) (fun h2 => ?_)
 ·refine qc (qa (cX (qn (0) jk rfl qr (by decide) rfl rfl (cX (qj qN rfl (Rd.own [] rfl rfl) (qd (ii (n)) rfl (cX (qx ((n).toNat) qf qC rfl rfl (by omega) har.slv (by omega) (Nat.mul_one _) (cX (qj jh rfl (har.rd (by omega)) (qh (ii (ar.getD ((n).toNat) 0)) rfl (qb (qw (qF (qo (qu (L' := L) [ii (ar.getD ((n).toNat) 0)] (ii (ar.getD ((n).toNat) 0)) (.tmp rfl .nil) rfl rF rF (sD sR) ?_))))))))))))))))
  exact ⟨(vI (by unfold sArity; split <;> (try split) <;> first | rfl | omega)), rfl, rfl⟩
 refine qA (qc (qa (qh (ii (-1)) rfl (qb (qw (qu (L' := L) [ii (-1)] (ii (-1)) (.tmp rfl .nil) rfl rF rF (sD sR) ?_))))))
 exact ⟨(vI (by unfold sArity; split <;> (try split) <;> first | rfl | omega)), rfl, rfl⟩

/- spec.SigOk -/
theorem sSigOk_spec {F : FH} {L : List HP} {arv : Value} {ar : List Int} (har : IntsF F arv ar) (hla : ar.length ≤ 4000000) :
    Does prog 19 [.agg #[arv]] F (L) (fun v F' L' => (.bool (sigOk ar) : Value) = v ∧ F = F' ∧ L = L') := by
 refine qH func19 rfl rfl rfl (qc (qa (cX (qY [arv] rfl rfl ?_))))
 intro b1
 refine qh (.bool (false)) rfl (qb (qc (qc (qa (cX (qn (0) jk rfl qr (by decide) rfl rfl (cX (qj qN rfl (Rd.own [] rfl rfl) (cX (qG qf rfl har.slv (cX (qt (args := [ii ((ar.length : Int)), ii (1), ii (8)]) call21 rfl (l1In_spec (n := (ar.length : Int)) (a := 1) (b := 8)) ?_))))))))))))
 rintro _ _ _ _ ⟨rfl, rfl, rfl⟩
 refine cX (XOp.notD rfl (qb ?_))
 refine qE (p := ¬(1 ≤ ((ar.length : Int)) ∧ ((ar.length : Int)) ≤ 8)) rfl (fun h1 => ?_) (fun h1 => ?_)
 ·refine qc (qa (qh (.bool (false)) rfl (qb (qw (qo (qu (L' := L) [.bool (false)] (.bool (false)) (.tmp rfl .nil) rfl rF rF (sD sR) ?_))))))
  exact ⟨(vB (sigOk_short (by omega))), rfl, rfl⟩
 refine qA (qc (qc (qa (qh (ii (0)) rfl (qb (qJ (jv (α := Nat) (fun k => [(1, ptr b1 0), (3, ii ((k : Int)))]) (fun k => cellsH b1 [arv] 26 :: L) (fun k F' => F = F' ∧ (k ≤ ar.length) ∧ (∀ i, i < k → 0 ≤ ar.getD i 0 ∧ ar.getD i 0 ≤ 3)) (fun k => ar.length - k) 0 ⟨rfl, rfl, ⟨⟩⟩ (sC sR) ⟨rfl, (by omega), (fun i hi => absurd hi (by omega))⟩ ?_)))))))
 rintro k rE _ _ ⟨rfl, hk, hall⟩
 show X _ _ _ _ (envs [(1, ptr b1 0), (3, ii ((k : Int)))] rE) _ (cellsH b1 [arv] 26 :: L)
 refine qc (qc (qa (qd (ii ((k : Int))) rfl (cX (qn (0) jk rfl qr (by decide) rfl rfl (cX (qj qN rfl (Rd.own [] rfl rfl) (cX (qG qf rfl har.slv (cX (qX rfl rfl (qb ?_))))))))))))
 refine qE (p := (k : Int) < (ar.length : Int)) rfl (fun h2 => ?_) (fun h2 => ?_)
 ·refine qA (qc (qJ (qc (qa (cX (qn (0) jk rfl qr (by decide) rfl rfl (cX (qj qN rfl (Rd.own [] rfl rfl) (qd (ii ((k : Int))) rfl (cX (qx k qf qC rfl rfl rfl har.slv (by omega) (Nat.mul_one _) (cX (qj jh rfl (har.rd (by omega)) (cX (qt (args := [ii (ar.getD k 0), ii (0), ii (3)]) call21 rfl (l1In_spec (n := ar.getD k 0) (a := 0) (b := 3)) ?_)))))))))))))))
  rintro _ _ _ _ ⟨rfl, rfl, rfl⟩
  refine cX (XOp.notD rfl (qb ?_))
  refine qE (p := ¬(0 ≤ (ar.getD k 0) ∧ (ar.getD k 0) ≤ 3)) rfl (fun h3 => ?_) (fun h3 => ?_)
  ·refine qc (qa (qh (.bool (false)) rfl (qb (qw (qF (qo (qo (qF (qo (qu (L' := L) [.bool (false)] (.bool (false)) (.tmp rfl .nil) rfl rF rF (sD sR) ?_))))))))))
   exact ⟨(vB (sigOk_bad (i := k) (by omega) (by omega))), rfl, rfl⟩
  refine qA (qa (qd (ii ((k : Int))) rfl (cX (qM (((k + 1 : Nat) : Int)) rfl rfl (by omega) (by omega) (qh (ii (((k + 1 : Nat) : Int))) rfl (qb ?_))))))
  exact ⟨k + 1, _, FLe.refl _, rF, ⟨rfl, rfl, ⟨⟩⟩, (sC sR), ⟨rfl, (by omega), (fun i hi => (Nat.lt_or_ge i k).elim (fun h => hall i h) (fun h => by obtain rfl : i = k := (by omega); omega))⟩, (by omega)⟩
 refine jn (qz (qz (qR (qc (qa (qh (.bool (true)) rfl (qb (qw (qu (L' := L) [.bool (true)] (.bool (true)) (.tmp rfl .nil) rfl rF rF (sD sR) ?_)))))))))
 exact ⟨(vB (sigOk_of (by omega) (by omega) (fun i hi => hall i (by omega)))), rfl, rfl⟩

/- spec.l1End -/
theorem l1End_spec {F : FH} {L : List HP} {arv : Value} {ar : List Int} (har : IntsF F arv ar) {tv : Value} {t : List Int} (ht : IntsF F tv t) {p0 : Nat} (hs : sigOk ar = true) (hlt : t.length ≤ 4000000) (hp : p0 ≤ t.length) :
    Does prog 53 [.agg #[arv], tv, ii ((p0 : Int))] F (L) (fun v F' L' => (ii (sEndZ ar t p0) : Value) = v ∧ F = F' ∧ L = L') := by
 refine qH func53 rfl rfl rfl ?_
 have hsl := sigOk_spec hs
 refine qc (qa (cX (qY [arv] rfl rfl ?_)))
 intro b1
 refine qh (ii (0)) rfl (qb (qc (qa (qh (ii (1)) rfl (qb (qc (qc (qa (qd (ii ((p0 : Int))) rfl (qh (ii ((p0 : Int))) rfl (qb (qJ (jv (α := Nat × Nat) (fun xQ => [(1, tv), (3, ptr b1 0), (7, ii (((xQ.1 : Nat) : Int))), (8, ii (((xQ.2 : Nat) : Int)))]) (fun xQ => cellsH b1 [arv] 26 :: L) (fun xQ F' => F = F' ∧ (sEndGo ar (t.drop p0) 1 = (sEndGo ar (t.drop xQ.2) xQ.1).map (· + (xQ.2 - p0))) ∧ (p0 ≤ xQ.2 ∧ xQ.2 ≤ t.length) ∧ (1 ≤ xQ.1 ∧ xQ.1 ≤ 1 + 3 * xQ.2)) (fun xQ => t.length - xQ.2) (1, p0) ⟨rfl, rfl, rfl, rfl, ⟨⟩⟩ (sC sR) ⟨rfl, (by simp), (by omega), (by omega)⟩ ?_)))))))))))))
 rintro ⟨k, p⟩ rE _ _ ⟨rfl, hi, h1, h2⟩
 show X _ _ _ _ (envs [(1, tv), (3, ptr b1 0), (7, ii ((k : Int))), (8, ii ((p : Int)))] rE) _ (cellsH b1 [arv] 26 :: L)
 dsimp only at hi h1 h2
 refine qc (qc (qa (qd (ii ((p : Int))) rfl (qd (tv) rfl (cX (qG qf rfl ht.slv (cX (qX rfl rfl (qb ?_)))))))))
 refine qE (p := (p : Int) < (t.length : Int)) rfl (fun h1 => ?_) (fun h1 => ?_)
 ·refine qA (qc (qJ (qc ?_)))
  refine jL [cellsH b1 [arv] 26] L 5 [] [[], [], [], [1, 2], [3]] (phiL [qe (.agg #[arv]), qe tv, qe (ii ((p : Int)) : Value), qe (.pointer (some (elemA tv (p)))), qe (ii (t.getD p 0))]) (ownL []) mixed rfl rfl (by kernel_rfl) ?_ ?_
  ·refine pD (fun W R z9 => ?_) ?_
   ·refine qg (qv [arv] qU qB rfl rfl (Rd.ownN [] rfl rfl) ?_)
    exact ⟨rfl, rfl, rfl⟩
   refine pD (fun W R z9 => ?_) ?_
   ·refine qg (ql (tv) rfl ?_)
    exact ⟨rfl, rfl, rfl⟩
   refine pD (fun W R z9 => ?_) ?_
   ·refine qg (ql (ii ((p : Int))) rfl ?_)
    exact ⟨rfl, rfl, rfl⟩
   refine pD (fun W R z9 => ?_) ?_
   ·rw [zB 1 2 (z9 1 rfl) (z9 2 rfl)]
    refine qg (qx p qf qC rfl rfl rfl ht.slv (by omega) (Nat.mul_one _) ?_)
    exact ⟨rfl, rfl, rfl⟩
   refine pD (fun W R z9 => ?_) ?_
   ·rw [zA 3 (z9 3 rfl)]
    refine qg (qj jh rfl (ht.rd (by omega)) ?_)
    exact ⟨rfl, rfl, rfl⟩
   exact stepsP.nil
  intro W hphi
  rw [zB 0 4 (hphi 0 (by decide)) (hphi 4 (by decide))]
  show XL _ _ _ _ _ _ _ (cellsH b1 [arv] 26 :: L)
  refine cX (qt (args := [.agg #[arv], ii (t.getD p 0)]) call64 rfl (l1Arity_spec (n := t.getD p 0) har (hla := (by first | assumption | rfl | omega | simp))) ?_)
  rintro _ _ _ _ ⟨rfl, rfl, rfl⟩
  refine qh (ii (sArity ar (t.getD p 0))) rfl (qb (qc (qc (qa (qd (ii (sArity ar (t.getD p 0))) rfl (cX (qX rfl rfl (qb ?_))))))))
  refine qE (p := (sArity ar (t.getD p 0) : Int) < 0) rfl (fun h2 => ?_) (fun h2 => ?_)
  ·rw [sArity_neg hs] at h2
   refine qc (qa (qh (ii (-1)) rfl (qb (qw (qo (qF (qo (qo (qF (qo (qu (L' := L) [ii (-1)] (ii (-1)) (.tmp rfl .nil) rfl rF rF (sD sR) ?_)))))))))))
   exact ⟨(vI (by unfold sEndZ; rw [hi, sEndGo_none (by omega) (by omega)]; rfl)), rfl, rfl⟩
  have hA : -24 ≤ t.getD p 0 ∧ t.getD p 0 < ar.length := by rw [sArity_neg hs] at h2; omega
  have hB := arity_le hs hA.2
  have hC := sArity_eq hA
  refine qA (qc (qa (qd (ii ((k : Int))) rfl (qd (ii (sArity ar (t.getD p 0))) rfl (cX (qM (((k + (arity ar (t.getD p 0)).toNat : Nat) : Int)) rfl rfl (by omega) (by omega) (cX (jq (((k - 1 + (arity ar (t.getD p 0)).toNat : Nat) : Int)) rfl rfl (by omega) (by omega) (qh (ii (((k - 1 + (arity ar (t.getD p 0)).toNat : Nat) : Int))) rfl (qb (qc (qa (qd (ii (((k - 1 + (arity ar (t.getD p 0)).toNat : Nat) : Int))) rfl (cX (jo rfl rfl (qb ?_))))))))))))))))
  refine qE (p := (((k - 1 + (arity ar (t.getD p 0)).toNat : Nat) : Int) : Int) = 0) rfl (fun h3 => ?_) (fun h3 => ?_)
  ·refine qc (qa (qd (ii ((p : Int))) rfl (cX (qM (((p + 1 : Nat) : Int)) rfl rfl (by omega) (by omega) (qh (ii (((p + 1 : Nat) : Int))) rfl (qb (qw (qF (qo (qo (qF (qo (qu (L' := L) [ii (((p + 1 : Nat) : Int))] (ii (((p + 1 : Nat) : Int))) (.tmp rfl .nil) rfl rF rF (sD sR) ?_)))))))))))))
   exact ⟨(vI (by have hz := sEndGo_step (ar := ar) (t := t) (p := p) (k := k) (by omega) (by omega) hA; rw [show k - 1 + (arity ar (t.getD p 0)).toNat = 0 from by omega] at hz; unfold sEndZ; rw [hi, hz]; simp [sEndGo]; omega)), rfl, rfl⟩
  refine qA (qa (qd (ii ((p : Int))) rfl (cX (qM (((p + 1 : Nat) : Int)) rfl rfl (by omega) (by omega) (qh (ii (((p + 1 : Nat) : Int))) rfl (qb ?_))))))
  exact ⟨(k - 1 + (arity ar (t.getD p 0)).toNat, p + 1), _, FLe.refl _, rF, ⟨rfl, rfl, rfl, rfl, ⟨⟩⟩, (sC sR), ⟨rfl, (by rw [hi, sEndGo_step (by omega) (by omega) (by omega), Option.map_map]; congr 1; funext e; simp; omega), (by omega), (by omega)⟩, (by omega)⟩
 refine jn (qz (qz (qR (qc (qa (qh (ii (-1)) rfl (qb (qw (qu (L' := L) [ii (-1)] (ii (-1)) (.tmp rfl .nil) rfl rF rF (sD sR) ?_)))))))))
 exact ⟨(vI (by unfold sEndZ; rw [hi, sEndGo_none (by omega) (by omega)]; rfl)), rfl, rfl⟩

/- impl.TermOk -/
theorem TermOk_spec {F : FH} {L : List HP} {arv : Value} {ar : List Int} (har : IntsF F arv ar) {tv : Value} {t : List Int} (ht : IntsF F tv t) :
    Does prog 51 [.agg #[arv], tv] F (L) (fun v F' L' => (.bool (termOk ar t) : Value) = v ∧ F = F' ∧ L = L') := by
 refine qH func51 rfl rfl rfl (qc (qa (cX (qY [arv] rfl rfl ?_))))
 intro b1
 refine qh (.bool (false)) rfl (qb (qc (qa (cX (qv [arv] qU qB rfl rfl (Rd.ownN [] rfl rfl) (cX (qt (args := [.agg #[arv]]) call30 rfl (SigOk_spec har) ?_)))))))
 rintro _ _ _ _ ⟨rfl, rfl, rfl⟩
 refine qd (.bool (sigOk ar)) rfl ?_
 by_cases h1 : (sigOk ar) = true
 ·refine qs (t := 7) rfl (vB h1) (ql (tv) rfl (qs (t := 7) rfl (vB h1) (qG qf rfl ht.slv (qs (t := 7) rfl (vB h1) (jU rfl rfl (cX (qT (.bool (decide (((t.length : Int) : Int) > 0))) (vB h1) rfl (qd (.bool (decide (((t.length : Int) : Int) > 0))) rfl ?_))))))))
  by_cases h2 : ((t.length : Int) : Int) > 0
  ·refine qs (t := 12) rfl (vT h2) (ql (tv) rfl (qs (t := 12) rfl (vT h2) (qG qf rfl ht.slv (qs (t := 12) rfl (vT h2) (XOp.leq rfl rfl (cX (qT (.bool (decide (((t.length : Int) : Int) ≤ 60))) (vT h2) rfl (qd (.bool (decide (((t.length : Int) : Int) ≤ 60))) rfl ?_))))))))
   by_cases h3 : ((t.length : Int) : Int) ≤ 60
   ·refine qs (t := 17) rfl (vT h3) (ql (tv) rfl (qs (t := 17) rfl (vT h3) (qt (args := [tv]) call62 rfl (Min_spec ht (h1 := (by first | assumption | rfl | omega | simp)) (hbd := (by first | assumption | rfl | omega | simp))) ?_)))
    rintro _ _ _ _ ⟨rfl, rfl, rfl⟩
    refine qs (t := 17) rfl (vT h3) (jV rfl rfl (cX (qT (.bool (decide ((minL t : Int) ≥ -24))) (vT h3) rfl (qd (.bool (decide ((minL t : Int) ≥ -24))) rfl ?_))))
    by_cases h4 : (minL t : Int) ≥ -24
    ·refine qs (t := 22) rfl (vT h4) (qv [arv] qU qB rfl rfl (Rd.ownN [] rfl rfl) (qs (t := 22) rfl (vT h4) (ql (tv) rfl (qs (t := 22) rfl (vT h4) (qt (args := [.agg #[arv], tv, ii ((0 : Nat) : Int)]) call63 rfl (endAt_spec (p := 0) har ht (hs := (by first | assumption | rfl | omega | simp)) (hb := (by first | assumption | rfl | omega | simp)) (hp := (by first | assumption | rfl | omega | simp))) ?_)))))
     rintro _ _ _ _ ⟨rfl, rfl, rfl⟩
     refine qs (t := 22) rfl (vT h4) (ql (tv) rfl (qs (t := 22) rfl (vT h4) (qG qf rfl ht.slv (qs (t := 22) rfl (vT h4) (jo rfl rfl (cX (qT (.bool (decide ((endZ ar t 0 : Int) = (t.length : Int)))) (vT h4) rfl (qh (.bool (decide ((endZ ar t 0 : Int) = (t.length : Int)))) rfl (qb (qw (qu (L' := L) [.bool (decide ((endZ ar t 0 : Int) = (t.length : Int)))] (.bool (decide ((endZ ar t 0 : Int) = (t.length : Int)))) (.tmp rfl .nil) rfl rF rF (sD sR) ?_)))))))))))
     exact ⟨(vB (termOk_of (by assumption) (by omega) (by omega) (by omega))), rfl, rfl⟩
    refine qq (t := 22) rfl (vF h4) (qq (t := 22) rfl (vF h4) (qq (t := 22) rfl (vF h4) (qq (t := 22) rfl (vF h4) (qq (t := 22) rfl (vF h4) (qq (t := 22) rfl (vF h4) (cX (qP (.bool (false)) (vF h4) rfl (qh (.bool (false)) rfl (qb (qw (qu (L' := L) [.bool (false)] (.bool (false)) (.tmp rfl .nil) rfl rF rF (sD sR) ?_)))))))))))
    exact ⟨(vB (by first | (refine termOk_nosig ?_; assumption) | (refine termOk_short ?_; omega) | (refine termOk_min ?_ ?_ <;> omega))), rfl, rfl⟩
   refine qq (t := 17) rfl (vF h3) (qq (t := 17) rfl (vF h3) (qq (t := 17) rfl (vF h3) (cX (qP (.bool (false)) (vF h3) rfl (qd (.bool (false)) rfl (qq (t := 22) rfl rfl (qq (t := 22) rfl rfl (qq (t := 22) rfl rfl (qq (t := 22) rfl rfl (qq (t := 22) rfl rfl ?_))))))))))
   refine qq (t := 22) rfl rfl (cX (qP (.bool (false)) rfl rfl (qh (.bool (false)) rfl (qb (qw (qu (L' := L) [.bool (false)] (.bool (false)) (.tmp rfl .nil) rfl rF rF (sD sR) ?_))))))
   exact ⟨(vB (by first | (refine termOk_nosig ?_; assumption) | (refine termOk_short ?_; omega) | (refine termOk_min ?_ ?_ <;> omega))), rfl, rfl⟩
  refine qq (t := 12) rfl (vF h2) (qq (t := 12) rfl (vF h2) (qq (t := 12) rfl (vF h2) (cX (qP (.bool (false)) (vF h2) rfl (qd (.bool (false)) rfl (qq (t := 17) rfl rfl (qq (t := 17) rfl rfl (qq (t := 17) rfl rfl (cX (qP (.bool (false)) rfl rfl (qd (.bool (false)) rfl ?_)))))))))))
  refine qq (t := 22) rfl rfl (qq (t := 22) rfl rfl (qq (t := 22) rfl rfl (qq (t := 22) rfl rfl (qq (t := 22) rfl rfl (qq (t := 22) rfl rfl (cX (qP (.bool (false)) rfl rfl (qh (.bool (false)) rfl (qb (qw (qu (L' := L) [.bool (false)] (.bool (false)) (.tmp rfl .nil) rfl rF rF (sD sR) ?_)))))))))))
  exact ⟨(vB (by first | (refine termOk_nosig ?_; assumption) | (refine termOk_short ?_; omega) | (refine termOk_min ?_ ?_ <;> omega))), rfl, rfl⟩
 rw [Bool.not_eq_true] at h1
 refine qq (t := 7) rfl (vB h1) (qq (t := 7) rfl (vB h1) (qq (t := 7) rfl (vB h1) (cX (qP (.bool (false)) (vB h1) rfl (qd (.bool (false)) rfl (qq (t := 12) rfl rfl (qq (t := 12) rfl rfl (qq (t := 12) rfl rfl (cX (qP (.bool (false)) rfl rfl (qd (.bool (false)) rfl ?_)))))))))))
 refine qq (t := 17) rfl rfl (qq (t := 17) rfl rfl (qq (t := 17) rfl rfl (cX (qP (.bool (false)) rfl rfl (qd (.bool (false)) rfl (qq (t := 22) rfl rfl (qq (t := 22) rfl rfl (qq (t := 22) rfl rfl (qq (t := 22) rfl rfl (qq (t := 22) rfl rfl ?_))))))))))
 refine qq (t := 22) rfl rfl (cX (qP (.bool (false)) rfl rfl (qh (.bool (false)) rfl (qb (qw (qu (L' := L) [.bool (false)] (.bool (false)) (.tmp rfl .nil) rfl rF rF (sD sR) ?_))))))
 exact ⟨(vB (by first | (refine termOk_nosig ?_; assumption) | (refine termOk_short ?_; omega) | (refine termOk_min ?_ ?_ <;> omega))), rfl, rfl⟩

/- spec.TermOk -/
theorem sTermOk_spec {F : FH} {L : List HP} {arv : Value} {ar : List Int} (har : IntsF F arv ar) {tv : Value} {t : List Int} (ht : IntsF F tv t) (hla : ar.length ≤ 4000000) (hlt : t.length ≤ 4000000) :
    Does prog 38 [.agg #[arv], tv] F (L) (fun v F' L' => (.bool (termOk ar t) : Value) = v ∧ F = F' ∧ L = L') := by
 refine qH func38 rfl rfl rfl (qc (qa (cX (qY [arv] rfl rfl ?_))))
 intro b1
 refine qh (.bool (false)) rfl (qb (qc (qa (cX (qv [arv] qU qB rfl rfl (Rd.ownN [] rfl rfl) (cX (qt (args := [.agg #[arv]]) call19 rfl (sSigOk_spec har (hla := (by first | assumption | rfl | omega | simp))) ?_)))))))
 rintro _ _ _ _ ⟨rfl, rfl, rfl⟩
 refine qd (.bool (sigOk ar)) rfl ?_
 by_cases h1 : (sigOk ar) = true
 ·refine qs (t := 7) rfl (vB h1) (ql (tv) rfl (qs (t := 7) rfl (vB h1) (qG qf rfl ht.slv (qs (t := 7) rfl (vB h1) (qt (args := [ii ((t.length : Int)), ii (1), ii (60)]) call21 rfl (l1In_spec (n := (t.length : Int)) (a := 1) (b := 60)) ?_)))))
  rintro _ _ _ _ ⟨rfl, rfl, rfl⟩
  refine cX (qT (.bool (decide (1 ≤ ((t.length : Int)) ∧ ((t.length : Int)) ≤ 60))) (vB h1) rfl (qd (.bool (decide (1 ≤ ((t.length : Int)) ∧ ((t.length : Int)) ≤ 60))) rfl ?_))
  by_cases h2 : 1 ≤ ((t.length : Int)) ∧ ((t.length : Int)) ≤ 60
  ·refine qs (t := 12) rfl (vT h2) (qv [arv] qU qB rfl rfl (Rd.ownN [] rfl rfl) (qs (t := 12) rfl (vT h2) (ql (tv) rfl (qs (t := 12) rfl (vT h2) (qt (args := [.agg #[arv], tv, ii ((0 : Nat) : Int)]) call53 rfl (l1End_spec (p0 := 0) har ht (hs := (by first | assumption | rfl | omega | simp)) (hlt := (by first | assumption | rfl | omega | simp)) (hp := (by first | assumption | rfl | omega | simp))) ?_)))))
   rintro _ _ _ _ ⟨rfl, rfl, rfl⟩
   refine qs (t := 12) rfl (vT h2) (ql (tv) rfl (qs (t := 12) rfl (vT h2) (qG qf rfl ht.slv (qs (t := 12) rfl (vT h2) (jo rfl rfl (cX (qT (.bool (decide ((sEndZ ar t 0 : Int) = (t.length : Int)))) (vT h2) rfl (qh (.bool (decide ((sEndZ ar t 0 : Int) = (t.length : Int)))) rfl (qb (qw (qu (L' := L) [.bool (decide ((sEndZ ar t 0 : Int) = (t.length : Int)))] (.bool (decide ((sEndZ ar t 0 : Int) = (t.length : Int)))) (.tmp rfl .nil) rfl rF rF (sD sR) ?_)))))))))))
   exact ⟨(vB (termOk_s (by assumption) (by omega))), rfl, rfl⟩
  refine qq (t := 12) rfl (vF h2) (qq (t := 12) rfl (vF h2) (qq (t := 12) rfl (vF h2) (qq (t := 12) rfl (vF h2) (qq (t := 12) rfl (vF h2) (qq (t := 12) rfl (vF h2) (cX (qP (.bool (false)) (vF h2) rfl (qh (.bool (false)) rfl (qb (qw (qu (L' := L) [.bool (false)] (.bool (false)) (.tmp rfl .nil) rfl rF rF (sD sR) ?_)))))))))))
  exact ⟨(vB (by first | (refine termOk_nosig ?_; assumption) | (refine termOk_short ?_; omega))), rfl, rfl⟩
 rw [Bool.not_eq_true] at h1
 refine qq (t := 7) rfl (vB h1) (qq (t := 7) rfl (vB h1) (qq (t := 7) rfl (vB h1) (cX (qP (.bool (false)) (vB h1) rfl (qd (.bool (false)) rfl (qq (t := 12) rfl rfl (qq (t := 12) rfl rfl (qq (t := 12) rfl rfl (qq (t := 12) rfl rfl (qq (t := 12) rfl rfl ?_))))))))))
 refine qq (t := 12) rfl rfl (cX (qP (.bool (false)) rfl rfl (qh (.bool (false)) rfl (qb (qw (qu (L' := L) [.bool (false)] (.bool (false)) (.tmp rfl .nil) rfl rF rF (sD sR) ?_))))))
 exact ⟨(vB (by first | (refine termOk_nosig ?_; assumption) | (refine termOk_short ?_; omega))), rfl, rfl⟩

theorem endAt_ok {F : FH} {L : List HP} {p : Nat} {arv : Value} {ar : List Int} (har : IntsF F arv ar) {tv : Value} {t : List Int} (ht : IntsF F tv t) (ho : termOk ar t = true) (hp : p < t.length) :
    Does prog 63 [.agg #[arv], tv, ii (p : Int)] F L (fun v F' L' => (ii ((endN ar t p : Nat) : Int) : Value) = v ∧ F = F' ∧ L = L') := by
  have hl := termOk_len ho
  have h := endAt_spec (F := F) (L := L) (p := p) har ht (termOk_sig ho) (by omega) (by omega)
  rw [endZ_endN ho hp] at h
  exact h

theorem l1End_ok {F : FH} {L : List HP} {p : Nat} {arv : Value} {ar : List Int} (har : IntsF F arv ar) {tv : Value} {t : List Int} (ht : IntsF F tv t) (ho : termOk ar t = true) (hp : p < t.length) :
    Does prog 53 [.agg #[arv], tv, ii (p : Int)] F L (fun v F' L' => (ii ((endN ar t p : Nat) : Int) : Value) = v ∧ F = F' ∧ L = L') := by
  have hl := termOk_len ho
  have h := l1End_spec (F := F) (L := L) (p0 := p) har ht (termOk_sig ho) (by omega) (by omega)
  rw [sEndZ_endN ho hp] at h
  exact h


/- impl.inside -/
theorem inside_spec {F : FH} {L : List HP} {arv : Value} {ar : List Int} (har : IntsF F arv ar) {tv : Value} {t : List Int} (ht : IntsF F tv t) {p : Nat} {q : Int} (ho : termOk ar t = true) (hp : p < t.length) :
    Does prog 102 [.agg #[arv], tv, ii ((p : Int)), ii (q)] F (L) (fun v F' L' => (.bool (decide ((p : Int) ≤ q ∧ q < (endN ar t p : Int))) : Value) = v ∧ F = F' ∧ L = L') := by
 refine qH func102 rfl rfl rfl ?_
 have hsl := sigOk_spec (termOk_sig ho)
 have htl := termOk_len ho
 have hsig := termOk_sig ho
 refine qc (qa (cX (qY [arv] rfl rfl ?_)))
 intro b1
 refine qh (.bool (false)) rfl (qb (qc (qa (qd (ii (q)) rfl (qd (ii ((p : Int))) rfl (cX (jV rfl rfl (qd (.bool (decide ((q : Int) ≥ (p : Int)))) rfl ?_))))))))
 by_cases h1 : (q : Int) ≥ (p : Int)
 ·refine qs (t := 12) rfl (vT h1) (ql (ii (q)) rfl (qs (t := 12) rfl (vT h1) (qv [arv] qU qB rfl rfl (Rd.ownN [] rfl rfl) (qs (t := 12) rfl (vT h1) (ql (tv) rfl (qs (t := 12) rfl (vT h1) (ql (ii ((p : Int))) rfl (qs (t := 12) rfl (vT h1) (qt (args := [.agg #[arv], tv, ii (p : Int)]) call63 rfl (endAt_ok (p := p) har ht (ho := (by first | assumption | rfl | omega | (left; simp; done) | (right; simp; done))) (hp := (by first | assumption | rfl | omega | (left; simp; done) | (right; simp; done)))) ?_)))))))))
  rintro _ _ _ _ ⟨rfl, rfl, rfl⟩
  refine qs (t := 12) rfl (vT h1) (qX rfl rfl (cX (qT (.bool (decide ((q : Int) < ((endN ar t p : Nat) : Int)))) (vT h1) rfl (qh (.bool (decide ((q : Int) < ((endN ar t p : Nat) : Int)))) rfl (qb (qw (qu (L' := L) [.bool (decide ((q : Int) < ((endN ar t p : Nat) : Int)))] (.bool (decide ((q : Int) < ((endN ar t p : Nat) : Int)))) (.tmp rfl .nil) rfl rF rF (sD sR) ?_)))))))
  exact ⟨(vB (decide_eq_decide.2 (by omega))), rfl, rfl⟩
 refine qq (t := 12) rfl (vF h1) (qq (t := 12) rfl (vF h1) (qq (t := 12) rfl (vF h1) (qq (t := 12) rfl (vF h1) (qq (t := 12) rfl (vF h1) (qq (t := 12) rfl (vF h1) (cX (qP (.bool (false)) (vF h1) rfl (qh (.bool (false)) rfl (qb (qw (qu (L' := L) [.bool (false)] (.bool (false)) (.tmp rfl .nil) rfl rF rF (sD sR) ?_)))))))))))
 exact ⟨(vB (decide_eq_false (by omega))), rfl, rfl⟩

/- impl.subAt -/
theorem subAt_spec {F : FH} {L : List HP} {arv : Value} {ar : List Int} (har : IntsF F arv ar) {tv : Value} {t : List Int} (ht : IntsF F tv t) {p : Nat} (ho : termOk ar t = true) (hp : p < t.length) (hnn : isNil tv = false) :
    Does prog 71 [.agg #[arv], tv, ii ((p : Int))] F (L) (fun v F' L' => F = F' ∧ L = L' ∧ IntsF F v (sub ar t p) ∧ isNil v = false) := by
 refine qH func71 rfl rfl rfl ?_
 have hsl := sigOk_spec (termOk_sig ho)
 have htl := termOk_len ho
 have hsig := termOk_sig ho
 have hee := endN_spec ho hp
 refine qc (qa (cX (qY [arv] rfl rfl ?_)))
 intro b1
 refine qh (sN) rfl (qb (qc (qa (qd (tv) rfl (qd (ii ((p : Int))) rfl (cX (qv [arv] qU qB rfl rfl (Rd.ownN [] rfl rfl) (qd (tv) rfl (qd (ii ((p : Int))) rfl (cX (qt (args := [.agg #[arv], tv, ii (p : Int)]) call63 rfl (endAt_ok (p := p) har ht (ho := (by first | assumption | rfl | omega | (left; simp; done) | (right; simp; done))) (hp := (by first | assumption | rfl | omega | (left; simp; done) | (right; simp; done)))) ?_)))))))))))
 rintro _ _ _ _ ⟨rfl, rfl, rfl⟩
 refine cX (XOp.sliceI p (endN ar t p) qf qC rfl ht ⟨_, rfl⟩ ⟨_, rfl⟩ (by omega) (by omega) ?_)
 intro v1 hv1 hn1
 refine qh (v1) rfl (qb (qw (qu (L' := L) [v1] (v1) (.tmp rfl .nil) rfl rF rF (sD sR) ?_)))
 exact ⟨rfl, rfl, hv1, by rw [hn1]; exact hnn⟩

/- slices.Clone[[]int64,int64] -/
theorem Clone_spec {F : FH} {L : List HP} {tv : Value} {t : List Int} (ht : IntsF F tv t) (hlt : t.length ≤ 4000000) :
    Does prog 35 [tv] F (L) (fun v F' L' => F = F' ∧ IsSl v ∧ intsH 2 v t :: L = L') := by
 refine qH func35 rfl rfl rfl (qc (qa (qh (sN) rfl (qb (qc (qc (qa (qd (tv) rfl (cX (XOp.eqNil qf rfl rfl (qp ht) (qb ?_)))))))))))
 refine jG (t := isNil tv) rfl (fun h1 => ?_) (fun h1 => ?_)
 ·refine qc (qa (qh (sN) rfl (qb (qw (qo (qu (L' := intsH 2 (sN) ([]) :: L) [sN] (sN) (.tmp rfl .nil) rfl rF rF (qW (intsH.addNil 2 none _) (sC sR)) ?_))))))
  refine ⟨rfl, ⟨_, _, _, rfl⟩, ?_⟩
  have hxs : (t : List Int) = [] := by exact nil_of_isNil ht h1
  exact congrArg (fun z => intsH 2 _ z :: L) hxs
 refine qA (qc (qa (cX (qD (s := 1) [] [ii (0)] [] qf qC jj rfl (by decide) rfl CellsAre.nil rfl ?_))))
 intro v1 hv1
 refine qd (tv) rfl ?_
 show XL _ _ _ _ _ _ _ (intsH 2 v1 ([] : List Int) :: L)
 refine cX (XOp.appendI [] _ qf typeInfo2 rfl rfl rfl rfl rfl rfl ht (by (try simp only [List.length_append, List.length_nil, List.length_cons, List.length_singleton, List.length_take, List.length_drop]); omega) ?_)
 intro v2 hs1 hn1 hm1
 refine qh (v2) rfl (qb (qw (qu (L' := intsH 2 v2 (([] : List Int) ++ t) :: L) [v2] (v2) (.tmp rfl .nil) rfl rF rF (sC sR) ?_)))
 refine ⟨rfl, hs1, ?_⟩
 have hxs : (t : List Int) = ([] : List Int) ++ t := by simp
 exact congrArg (fun z => intsH 2 _ z :: L) hxs

/- impl.RuleOk -/
theorem RuleOk_spec {F : FH} {L : List HP} {arv : Value} {ar : List Int} (har : IntsF F arv ar) {lv : Value} {l : List Int} (hl : IntsF F lv l) {rv : Value} {r : List Int} (hr : IntsF F rv r) :
    Does prog 54 [.agg #[arv], .agg #[lv, rv]] F (L) (fun v F' L' => (.bool (ruleOk ar l r) : Value) = v ∧ F = F' ∧ L = L') := by
 refine qH func54 rfl rfl rfl (qc (qa (cX (qY [arv] rfl rfl ?_))))
 intro b1
 refine cX (qY [lv, rv] rfl rfl ?_)
 intro b2
 refine qh (.bool (false)) rfl (qb (qc (qc (qa (cX (qv [arv] qU qB rfl rfl (Rd.ownN [_] rfl rfl) (cX (qn (0) jf rfl qr (by decide) rfl rfl (cX (qj qN rfl (Rd.own [] rfl rfl) (cX (qt (args := [.agg #[arv], lv]) call51 rfl (TermOk_spec har hl) ?_))))))))))))
 rintro _ _ _ _ ⟨rfl, rfl, rfl⟩
 refine cX (ju rfl (qd (.bool (!(termOk ar l))) rfl ?_))
 by_cases h1 : (!(termOk ar l)) = true
 ·refine qq (t := 12) rfl (vB h1) (qq (t := 12) rfl (vB h1) (qq (t := 12) rfl (vB h1) (qq (t := 12) rfl (vB h1) (qq (t := 12) rfl (vB h1) (cX (qT (.bool (true)) (vB h1) rfl (qd (.bool (true)) rfl (qq (t := 19) rfl rfl (qq (t := 19) rfl rfl (qq (t := 19) rfl rfl ?_))))))))))
  refine qq (t := 19) rfl rfl (qq (t := 19) rfl rfl (cX (qT (.bool (true)) rfl rfl (qb (jO rfl (qc (qa (qh (.bool (false)) rfl (qb (qw (qo (qu (L' := L) [.bool (false)] (.bool (false)) (.tmp rfl .nil) rfl rF rF (sD (sD sR)) ?_))))))))))))
  exact ⟨(vB (ruleOk_false (fun h => by have := h.left; have := h.right; have := h.head; simp_all <;> omega))), rfl, rfl⟩
 rw [Bool.not_eq_true] at h1
 have hlo : termOk ar l = true := by simpa using h1
 have hl60 := termOk_len hlo
 refine qs (t := 12) rfl (vB h1) (qv [arv] qU qB rfl rfl (Rd.ownN [_] rfl rfl) (qs (t := 12) rfl (vB h1) (qn (1) jf rfl qr (by decide) rfl rfl (qs (t := 12) rfl (vB h1) (qj qN rfl (Rd.own [] rfl rfl) (qs (t := 12) rfl (vB h1) (qt (args := [.agg #[arv], rv]) call51 rfl (TermOk_spec har hr) ?_)))))))
 rintro _ _ _ _ ⟨rfl, rfl, rfl⟩
 refine qs (t := 12) rfl (vB h1) (ju rfl (cX (qP (.bool (!(termOk ar r))) (vB h1) rfl (qd (.bool (!(termOk ar r))) rfl ?_))))
 by_cases h2 : (!(termOk ar r)) = true
 ·refine qq (t := 19) rfl (vB h2) (qq (t := 19) rfl (vB h2) (qq (t := 19) rfl (vB h2) (qq (t := 19) rfl (vB h2) (qq (t := 19) rfl (vB h2) (cX (qT (.bool (true)) (vB h2) rfl (qb (jO rfl (qc (qa (qh (.bool (false)) rfl ?_)))))))))))
  refine qb (qw (qo (qu (L' := L) [.bool (false)] (.bool (false)) (.tmp rfl .nil) rfl rF rF (sD (sD sR)) ?_)))
  exact ⟨(vB (ruleOk_false (fun h => by have := h.left; have := h.right; have := h.head; simp_all <;> omega))), rfl, rfl⟩
 rw [Bool.not_eq_true] at h2
 have hro : termOk ar r = true := by simpa using h2
 have hr60 := termOk_len hro
 refine qs (t := 19) rfl (vB h2) (qn (0) jf rfl qr (by decide) rfl rfl (qs (t := 19) rfl (vB h2) (qj qN rfl (Rd.own [] rfl rfl) (qs (t := 19) rfl (vB h2) (qx 0 qf qC rfl rfl rfl hl.slv (by omega) (Nat.mul_one _) (qs (t := 19) rfl (vB h2) (qj jh rfl (hl.rd (by omega)) (qs (t := 19) rfl (vB h2) (qX rfl rfl (cX (qP (.bool (decide ((l.getD 0 0 : Int) < 0))) (vB h2) rfl (qb ?_))))))))))))
 refine qE (p := (l.getD 0 0 : Int) < 0) rfl (fun h3 => ?_) (fun h3 => ?_)
 ·refine qc (qa (qh (.bool (false)) rfl (qb (qw (qo (qu (L' := L) [.bool (false)] (.bool (false)) (.tmp rfl .nil) rfl rF rF (sD (sD sR)) ?_))))))
  exact ⟨(vB (ruleOk_false (fun h => by have := h.left; have := h.right; have := h.head; simp_all <;> omega))), rfl, rfl⟩
 refine qA (qc (qc (qa (cX (qn (1) jf rfl qr (by decide) rfl rfl (cX (qj qN rfl (Rd.own [] rfl rfl) (cX (qG qf rfl hr.slv (qd (ii (0)) rfl (qb (qJ (jv (α := Nat) (fun k => [(3, ptr b2 0), (27, rv), (28, ii ((r.length : Int))), (29, ii ((k : Int)))]) (fun k => cellsH b2 [lv, rv] 79 :: cellsH b1 [arv] 26 :: L) (fun k F' => F = F' ∧ (k ≤ r.length) ∧ (∀ i, i < k → r.getD i 0 < 0 → r.getD i 0 ∈ l)) (fun k => r.length - k) 0 ⟨rfl, rfl, rfl, rfl, ⟨⟩⟩ (sC (sC sR)) ⟨rfl, (by omega), (fun i hi => absurd hi (by omega))⟩ ?_)))))))))))))
 rintro k rE _ _ ⟨rfl, hk, hall⟩
 show X _ _ _ _ (envs [(3, ptr b2 0), (27, rv), (28, ii ((r.length : Int))), (29, ii ((k : Int)))] rE) _ (cellsH b2 [lv, rv] 79 :: cellsH b1 [arv] 26 :: L)
 refine qc (qa (cX (qX rfl rfl (qb (qc ?_)))))
 refine qE (p := (k : Int) < (r.length : Int)) rfl (fun h4 => ?_) (fun h4 => ?_)
 ·refine qA (qc (qJ (qc (qa (cX (qx k qf qC rfl rfl rfl hr.slv (by omega) (Nat.mul_one _) (cX (qj jh rfl (hr.rd (by omega)) (qh (ii (r.getD k 0)) rfl (qb (qc (qa (qd (ii (r.getD k 0)) rfl (cX (qX rfl rfl (qd (.bool (decide ((r.getD k 0 : Int) < 0))) rfl ?_))))))))))))))))
  by_cases h5 : (r.getD k 0 : Int) < 0
  ·refine qs (t := 35) rfl (vT h5) (qn (0) jf rfl qr (by decide) rfl rfl (qs (t := 35) rfl (vT h5) (qj qN rfl (Rd.own [] rfl rfl) (qs (t := 35) rfl (vT h5) (ql (ii (r.getD k 0)) rfl (qs (t := 35) rfl (vT h5) (qt (args := [lv, ii (r.getD k 0)]) call34 rfl (Contains_spec (n := r.getD k 0) hl (hbd := (by first | assumption | rfl | omega | simp))) ?_)))))))
   rintro _ _ _ _ ⟨rfl, rfl, rfl⟩
   refine qs (t := 35) rfl (vT h5) (XOp.notD rfl (cX (qT (.bool (decide (¬((r.getD k 0) ∈ l)))) (vT h5) rfl (qb ?_))))
   refine qE (p := ¬((r.getD k 0) ∈ l)) rfl (fun h6 => ?_) (fun h6 => ?_)
   ·refine qc (qa (qh (.bool (false)) rfl (qb (qw (qF (qo (qo (qF (qo (qu (L' := L) [.bool (false)] (.bool (false)) (.tmp rfl .nil) rfl rF rF (sD (sD sR)) ?_))))))))))
    exact ⟨(vB (ruleOk_false (fun h => by have := h.vars (r.getD k 0) (mem_of_getD (k := k) (by omega) rfl); simp_all))), rfl, rfl⟩
   refine qA (qa (cX (qM (((k + 1 : Nat) : Int)) rfl rfl (by omega) (by omega) (qd (ii (((k + 1 : Nat) : Int))) rfl (qb ?_)))))
   exact ⟨k + 1, _, FLe.refl _, rF, ⟨rfl, rfl, rfl, rfl, ⟨⟩⟩, (sC (sC sR)), ⟨rfl, (by omega), (fun i hi h0 => (Nat.lt_or_ge i k).elim (fun h => hall i h h0) (fun h => by obtain rfl : i = k := (by omega); first | assumption | (exfalso; omega) | simp_all))⟩, (by omega)⟩
  refine qq (t := 35) rfl (vF h5) (qq (t := 35) rfl (vF h5) (qq (t := 35) rfl (vF h5) (qq (t := 35) rfl (vF h5) (qq (t := 35) rfl (vF h5) (cX (qP (.bool (false)) (vF h5) rfl (qb (jW rfl (qA (qa (cX (qM (((k + 1 : Nat) : Int)) rfl rfl (by omega) (by omega) ?_))))))))))))
  refine qd (ii (((k + 1 : Nat) : Int))) rfl (qb ?_)
  exact ⟨k + 1, _, FLe.refl _, rF, ⟨rfl, rfl, rfl, rfl, ⟨⟩⟩, (sC (sC sR)), ⟨rfl, (by omega), (fun i hi h0 => (Nat.lt_or_ge i k).elim (fun h => hall i h h0) (fun h => by obtain rfl : i = k := (by omega); first | assumption | (exfalso; omega) | simp_all))⟩, (by omega)⟩
 refine jn (qz (qz (qR (qc (qa (qh (.bool (true)) rfl (qb (qw (qu (L' := L) [.bool (true)] (.bool (true)) (.tmp rfl .nil) rfl rF rF (sD (sD sR)) ?_)))))))))
 exact ⟨(vB (ruleOk_iff.2 ⟨hlo, hro, by omega, fun n hn h0 => by obtain ⟨i, hi, rfl⟩ := List.getElem_of_mem hn; have := hall i (by omega); simp [List.getD, hi] at this; exact this h0⟩)), rfl, rfl⟩

/- impl.SystemOk -/
theorem SystemOk_spec {F : FH} {L : List HP} {arv : Value} {ar : List Int} (har : IntsF F arv ar) {rsv : Value} {rs : List (List Int × List Int)} (hrs : PairsF F rsv rs) :
    Does prog 39 [.agg #[arv, rsv]] F (L) (fun v F' L' => (.bool (sysOk ar rs) : Value) = v ∧ F = F' ∧ L = L') := by
 refine qH func39 rfl rfl rfl (qc (qa (cX (qY [arv, rsv] rfl rfl ?_))))
 intro b1
 refine qh (.bool (false)) rfl (qb (qc (qc (qa (cX (qn (0) jc rfl qB (by decide) rfl rfl (cX (qv [arv] qU qB rfl rfl (Rd.ownN [] rfl rfl) (cX (qt (args := [.agg #[arv]]) call30 rfl (SigOk_spec har) ?_))))))))))
 rintro _ _ _ _ ⟨rfl, rfl, rfl⟩
 refine cX (ju rfl (qd (.bool (!(sigOk ar))) rfl ?_))
 by_cases h1 : (!(sigOk ar)) = true
 ·refine qq (t := 9) rfl (vB h1) (qq (t := 9) rfl (vB h1) (qq (t := 9) rfl (vB h1) (qq (t := 9) rfl (vB h1) (cX (qT (.bool (true)) (vB h1) rfl (qb (jO rfl (qc (qa (qh (.bool (false)) rfl (qb ?_)))))))))))
  refine qw (qo (qu (L' := L) [.bool (false)] (.bool (false)) (.tmp rfl .nil) rfl rF rF (sD sR) ?_))
  exact ⟨(vB (sysOk_false (fun h => by have := h.1; have := h.2.1; simp_all <;> omega))), rfl, rfl⟩
 rw [Bool.not_eq_true] at h1
 refine qs (t := 9) rfl (vB h1) (qn (1) jc rfl jB (by decide) rfl rfl (qs (t := 9) rfl (vB h1) (qj jS rfl (Rd.own [] rfl rfl) (qs (t := 9) rfl (vB h1) (qG qV rfl hrs.slv (qs (t := 9) rfl (vB h1) (jU rfl rfl (cX (qP (.bool (decide (((rs.length : Int) : Int) > 12))) (vB h1) rfl (qb ?_))))))))))
 refine qE (p := ((rs.length : Int) : Int) > 12) rfl (fun h2 => ?_) (fun h2 => ?_)
 ·refine qc (qa (qh (.bool (false)) rfl (qb (qw (qo (qu (L' := L) [.bool (false)] (.bool (false)) (.tmp rfl .nil) rfl rF rF (sD sR) ?_))))))
  exact ⟨(vB (sysOk_false (fun h => by have := h.1; have := h.2.1; simp_all <;> omega))), rfl, rfl⟩
 refine qA (qc (qc (qa (cX (qn (1) jc rfl jB (by decide) rfl rfl (cX (qj jS rfl (Rd.own [] rfl rfl) (cX (qG qV rfl hrs.slv (qd (ii (0)) rfl (qb (qJ (jv (α := Nat) (fun k => [(1, ptr b1 0), (16, rsv), (17, ii ((rs.length : Int))), (18, ii ((k : Int)))]) (fun k => cellsH b1 [arv, rsv] 77 :: L) (fun k F' => F = F' ∧ (k ≤ rs.length) ∧ (∀ i, i < k → ruleOk ar (rs.getD i ([], [])).1 (rs.getD i ([], [])).2 = true)) (fun k => rs.length - k) 0 ⟨rfl, rfl, rfl, rfl, ⟨⟩⟩ (sC sR) ⟨rfl, (by omega), (fun i hi => absurd hi (by omega))⟩ ?_)))))))))))))
 rintro k rE _ _ ⟨rfl, hk, hall⟩
 show X _ _ _ _ (envs [(1, ptr b1 0), (16, rsv), (17, ii ((rs.length : Int))), (18, ii ((k : Int)))] rE) _ (cellsH b1 [arv, rsv] 77 :: L)
 refine qc (qa (cX (qX rfl rfl (qb (qc ?_)))))
 refine qE (p := (k : Int) < (rs.length : Int)) rfl (fun h3 => ?_) (fun h3 => ?_)
 ·refine qA (qc (qJ (qc (qa (cX (qx k qV jp rfl rfl rfl hrs.slv (by omega) rfl ?_))))))
  obtain ⟨a1, a2, ha1, ha2, hr1, hr2⟩ := hrs.rd (i := k) (by omega)
  refine cX (qv [a1, a2] isAgg79 jp rfl rfl (Rd.two (hr1 _) (hr2 _)) (cX (je [sN, sN] jM rfl ?_)))
  intro b2
  refine cX (qI [] _ [a1, a2] jp rfl rfl rfl (qm (qy (qp ha1)) (qm (qy (qp ha2)) qO)) rfl rfl rfl (qb (qc (qa (cX (qn (0) jc rfl qB (by decide) rfl rfl (cX (qv [arv] qU qB rfl rfl (Rd.ownN [_] rfl rfl) (cX (qv [a1, a2] isAgg79 jp rfl rfl (Rd.ownN [] rfl rfl) (cX (qt (args := [.agg #[arv], .agg #[a1, a2]]) call54 rfl (RuleOk_spec har ha1 ha2) ?_))))))))))))
  rintro _ _ _ _ ⟨rfl, rfl, rfl⟩
  refine cX (ju rfl (qb ?_))
  refine jG (t := !(ruleOk ar ((rs.getD k ([], [])).1) ((rs.getD k ([], [])).2))) rfl (fun h4 => ?_) (fun h4 => ?_)
  ·refine qc (qa (qh (.bool (false)) rfl (qb (qw (qF (qo (qo (qF (qo (qu (L' := L) [.bool (false)] (.bool (false)) (.tmp rfl .nil) rfl rF rF (sD (sD sR)) ?_))))))))))
   exact ⟨(vB (sysOk_false (fun h => by have := h.2.2 k (by omega); simp_all))), rfl, rfl⟩
  refine qA (qa (cX (qM (((k + 1 : Nat) : Int)) rfl rfl (by omega) (by omega) (qd (ii (((k + 1 : Nat) : Int))) rfl (qb ?_)))))
  exact ⟨k + 1, _, FLe.refl _, rF, ⟨rfl, rfl, rfl, rfl, ⟨⟩⟩, (sD (sC sR)), ⟨rfl, (by omega), (fun i hi => (Nat.lt_or_ge i k).elim (fun h => hall i h) (fun h => by obtain rfl : i = k := (by omega); first | assumption | simp_all))⟩, (by omega)⟩
 refine jn (qz (qz (qR (qc (qa (qh (.bool (true)) rfl (qb (qw (qu (L' := L) [.bool (true)] (.bool (true)) (.tmp rfl .nil) rfl rF rF (sD sR) ?_)))))))))
 exact ⟨(vB (sysOk_iff.2 ⟨by first | assumption | simp_all, by omega, fun i hi => hall i (by omega)⟩)), rfl, rfl⟩

/- impl.matchInto -/
theorem matchInto_spec {F : FH} {L : List HP} {arv : Value} {ar : List Int} (har : IntsF F arv ar) {pv : Value} {p : List Int} (hp : IntsF F pv p) {tv : Value} {t : List Int} (ht : IntsF F tv t) {bs : List Value} {b : RowL} (hb : BindC F bs b) (hbl : b.length = 24) (ho : termOk ar t = true) (hpl : p.length ≤ 4000000) (hpg : ∀ k, k < p.length → -24 ≤ p.getD k 0) :
    Does prog 95 [.agg #[arv], pv, tv, .agg (bs).toArray] F (L) (fun v F' L' => F = F' ∧ ∃ (bs : List Value), ∃ (bl : RowL), (.tuple #[.agg (bs).toArray, .bool ((mGo ar t p 0 b).isSome)] : Value) = v ∧ (BindC F' bs bl) ∧ (bl.length = 24) ∧ (∀ r, mGo ar t p 0 b = some r → bl = r) ∧ L = L') := by
 refine qH func95 rfl rfl rfl ?_
 have hsl := sigOk_spec (termOk_sig ho)
 have htl := termOk_len ho
 have hnn := jx ht (by omega)
 refine qc (qa (cX (qY [arv] rfl rfl ?_)))
 intro b1
 refine cX (qY bs rfl rfl ?_)
 intro b2
 refine cX (je (List.replicate 24 (sN)) zeroValue164 rfl ?_)
 intro b3
 have hc1 : BindC F _ _ := BindC.nils 24
 refine qh (.bool (false)) rfl (qb (qc (qa (qh (ii (0)) rfl (qb (qc (qc (qa (qd (pv) rfl (cX (qG qf rfl hp.slv (qd (ii (0)) rfl (qb (qJ (jv (α := Nat × Nat × List Value × RowL) (fun xQ => [(2, tv), (4, ptr b1 0), (7, ptr b2 0), (8, ptr b3 0), (10, ii (((xQ.2.1 : Nat) : Int))), (14, pv), (15, ii ((p.length : Int))), (16, ii (((xQ.1 : Nat) : Int)))]) (fun xQ => cellsH b3 (List.replicate 24 (sN)) 164 :: cellsH b2 xQ.2.2.1 164 :: cellsH b1 [arv] 26 :: L) (fun xQ F' => F = F' ∧ (BindC F xQ.2.2.1 xQ.2.2.2) ∧ (xQ.2.2.2.length = 24) ∧ (xQ.1 ≤ p.length) ∧ (xQ.2.1 ≤ t.length) ∧ (mGo ar t p 0 b = mGo ar t (p.drop xQ.1) xQ.2.1 xQ.2.2.2)) (fun xQ => p.length - xQ.1) (0, 0, bs, b) ⟨rfl, rfl, rfl, rfl, rfl, rfl, rfl, rfl, ⟨⟩⟩ (sC (sC (sC sR))) ⟨rfl, (hb), (hbl), (by (try dsimp only) <;> omega), (by (try dsimp only) <;> omega), (rfl)⟩ ?_)))))))))))))))
 rintro ⟨k, i, bs, bl⟩ rE _ _ ⟨rfl, hbc, hbl2, hk, hi, hm⟩
 show X _ _ _ _ (envs [(2, tv), (4, ptr b1 0), (7, ptr b2 0), (8, ptr b3 0), (10, ii ((i : Int))), (14, pv), (15, ii ((p.length : Int))), (16, ii ((k : Int)))] rE) _ (cellsH b3 (List.replicate 24 (sN)) 164 :: cellsH b2 bs 164 :: cellsH b1 [arv] 26 :: L)
 dsimp only at hbc hbl2 hk hi hm
 have hpk := hpg k
 have hsl2 := fun h => sub_length (p := i) ho h
 have hee := fun h => endN_spec (p := i) ho h
 refine qc (qa (cX (qX rfl rfl (qb (qc ?_)))))
 refine qE (p := (k : Int) < (p.length : Int)) rfl (fun h1 => ?_) (fun h1 => ?_)
 ·refine qA (qc (qJ (qc (qa (cX (qx k qf qC rfl rfl rfl hp.slv (by omega) (Nat.mul_one _) (cX (qj jh rfl (hp.rd (by omega)) (qh (ii (p.getD k 0)) rfl (qb (qc (qc (qa (qd (ii ((i : Int))) rfl (qd (tv) rfl (cX (qG qf rfl ht.slv (cX (jV rfl rfl (qb ?_))))))))))))))))))))
  refine qE (p := (i : Int) ≥ (t.length : Int)) rfl (fun h2 => ?_) (fun h2 => ?_)
  ·refine qc (qa (cX (qv bs isAgg164 sizeOf164 (by have := CO.len hbc; (try simp only [List.length_set, List.length_replicate] at this ⊢) <;> omega) rfl (Rd.ownN [_] rfl take_all) (cX (qI [] _ bs sizeOf164 rfl rfl (by have := CO.len hbc; (try simp only [List.length_set, List.length_replicate] at this ⊢) <;> omega) hbc.ones rfl (Nat.ble_eq_true_of_le (Nat.le_of_eq (by have := CO.len hc1; (try simp only [List.length_set, List.length_replicate] at this ⊢) <;> omega))) (arr_over (by have := CO.len hc1; (try simp only [List.length_set, List.length_replicate] at this ⊢) <;> omega)) (qh (.bool (false)) rfl (qb (qw (qo (qF (qo (qo (qF (qo (qu (L' := L) [.agg (bs).toArray, .bool (false)] (.tuple #[.agg (bs).toArray, .bool (false)]) (.cell rfl (jA bs isAgg164 sizeOf164 (by have := CO.len hbc; (try simp only [List.length_set, List.length_replicate] at this ⊢) <;> omega) (Rd.ownN [] rfl take_all)) (.tmp rfl .nil)) rfl rF rF (sD (sD (sD sR))) ?_)))))))))))))))
   have hz : mGo ar t p 0 b = none := hm.trans (mGo_short (by omega) (by omega))
   refine ⟨rfl, _, _, by rw [hz]; rfl, hbc, by (try simp only [List.length_set]) <;> omega, fun r hr => ?_, rfl⟩
   rw [hz] at hr; cases hr
  refine qA (qc (qc (qa (qd (ii (p.getD k 0)) rfl (cX (jV rfl rfl (qb ?_)))))))
  refine qE (p := (p.getD k 0 : Int) ≥ 0) rfl (fun h3 => ?_) (fun h3 => ?_)
  ·refine qc (qc (qa (qd (tv) rfl (qd (ii ((i : Int))) rfl (cX (qx i qf qC rfl rfl rfl ht.slv (by omega) (Nat.mul_one _) (cX (qj jh rfl (ht.rd (by omega)) (qd (ii (p.getD k 0)) rfl (cX (XOp.neq rfl rfl (qb ?_))))))))))))
   refine qE (p := (t.getD i 0 : Int) ≠ p.getD k 0) rfl (fun h4 => ?_) (fun h4 => ?_)
   ·refine qc (qa (cX (qv bs isAgg164 sizeOf164 (by have := CO.len hbc; (try simp only [List.length_set, List.length_replicate] at this ⊢) <;> omega) rfl (Rd.ownN [_] rfl take_all) (cX (qI [] _ bs sizeOf164 rfl rfl (by have := CO.len hbc; (try simp only [List.length_set, List.length_replicate] at this ⊢) <;> omega) hbc.ones rfl (Nat.ble_eq_true_of_le (Nat.le_of_eq (by have := CO.len hc1; (try simp only [List.length_set, List.length_replicate] at this ⊢) <;> omega))) (arr_over (by have := CO.len hc1; (try simp only [List.length_set, List.length_replicate] at this ⊢) <;> omega)) (qh (.bool (false)) rfl (qb (qw (qo (qo (qF (qo (qo (qF (qo (qu (L' := L) [.agg (bs).toArray, .bool (false)] (.tuple #[.agg (bs).toArray, .bool (false)]) (.cell rfl (jA bs isAgg164 sizeOf164 (by have := CO.len hbc; (try simp only [List.length_set, List.length_replicate] at this ⊢) <;> omega) (Rd.ownN [] rfl take_all)) (.tmp rfl .nil)) rfl rF rF (sD (sD (sD sR))) ?_))))))))))))))))
    have hz : mGo ar t p 0 b = none := hm.trans (mGo_ne (by omega) (by omega) (by omega) (by assumption))
    refine ⟨rfl, _, _, by rw [hz]; rfl, hbc, by (try simp only [List.length_set]) <;> omega, fun r hr => ?_, rfl⟩
    rw [hz] at hr; cases hr
   refine qA (qc (qa (qd (ii ((i : Int))) rfl (cX (qM (((i + 1 : Nat) : Int)) rfl rfl (by omega) (by omega) (qh (ii (((i + 1 : Nat) : Int))) rfl (qb (jn (qz (qR (qa (cX (qM (((k + 1 : Nat) : Int)) rfl rfl (by omega) (by omega) (qd (ii (((k + 1 : Nat) : Int))) rfl (qb ?_)))))))))))))))
   exact ⟨(k + 1, i + 1, bs, bl), _, FLe.refl _, rF, ⟨rfl, rfl, rfl, rfl, rfl, rfl, rfl, rfl, ⟨⟩⟩, (sC (sC (sC sR))), ⟨rfl, (hbc), (by (try simp only [List.length_set]) <;> omega), (by (try dsimp only) <;> omega), (by (try dsimp only) <;> omega), (hm.trans (mGo_sym (by omega) (by omega) (by omega) (by omega)))⟩, (by omega)⟩
  refine qA (qc (qa (cX (qv [arv] qU qB rfl rfl (Rd.ownN [_, _] rfl rfl) (qd (tv) rfl (qd (ii ((i : Int))) rfl (cX (qt (args := [.agg #[arv], tv, ii (i : Int)]) call71 rfl (subAt_spec (p := i) har ht (ho := (by first | assumption | rfl | omega | simp)) (hp := (by first | assumption | rfl | omega | simp)) (hnn := (by first | assumption | rfl | omega | simp))) ?_))))))))
  rintro v1 _ _ _ ⟨rfl, rfl, hv1, hn1⟩
  refine qh (v1) rfl (qb (qc (qc (qa (qd (ii (p.getD k 0)) rfl (cX (jq ((-1) - (p.getD k 0)) rfl rfl (by omega) (by omega) (cX (jN (i := (-1) - (p.getD k 0)) (((-1) - (p.getD k 0)).toNat) (((-1) - (p.getD k 0)).toNat) runUnderlying164 qr rfl rfl (by omega) (by omega) (by omega) ?_)))))))))
  obtain ⟨a1, ha1, hn2, he1⟩ := hbc.get (i := ((-1) - (p.getD k 0)).toNat) (by omega)
  refine cX (qj qN rfl (Rd.own [_] rfl he1) (cX (XOp.eqNil qf rfl rfl (qp ha1) (qb ?_))))
  refine jG (t := isNil a1) rfl (fun h5 => ?_) (fun h5 => ?_)
  ·refine qa (qd (ii (p.getD k 0)) rfl (cX (jq ((-1) - (p.getD k 0)) rfl rfl (by omega) (by omega) (qd (v1) rfl (cX (jN (i := (-1) - (p.getD k 0)) (((-1) - (p.getD k 0)).toNat) (((-1) - (p.getD k 0)).toNat) runUnderlying164 qr rfl rfl (by omega) (by omega) (by omega) (cX (jz [_] _ (bs.set (((-1) - (p.getD k 0)).toNat) v1) qr rfl rfl (qy (qp hv1)) rfl (blt_of (by have := CO.len hbc; (try simp only [List.length_set, List.length_replicate] at this ⊢) <;> omega)) rfl ?_))))))))
   have hc2 := hbc.set (((-1) - (p.getD k 0)).toNat) hv1 (by simp [*, sub_ne ho (show i < t.length by omega)])
   refine qb (qa (qd (ii ((i : Int))) rfl (qd (v1) rfl (cX (qG qf rfl hv1.slv (cX (qM (((i + (((sub ar t i)).length) : Nat) : Int)) rfl rfl (by omega) (by omega) (qh (ii (((i + (((sub ar t i)).length) : Nat) : Int))) rfl (qb (qa (cX (qM (((k + 1 : Nat) : Int)) rfl rfl (by omega) (by omega) (qd (ii (((k + 1 : Nat) : Int))) rfl (qb ?_))))))))))))))
   exact ⟨(k + 1, i + (((sub ar t i)).length), (bs.set (((-1) - (p.getD k 0)).toNat) v1), (bl.set (((-1) - (p.getD k 0)).toNat) ((sub ar t i)))), _, FLe.refl _, rF, ⟨rfl, rfl, rfl, rfl, rfl, rfl, rfl, rfl, ⟨⟩⟩, (sC (sC (sC sR))), ⟨rfl, (hc2), (by (try simp only [List.length_set]) <;> omega), (by (try dsimp only) <;> omega), (by (try dsimp only) <;> omega), (hm.trans (mGo_new (by omega) (by omega) (by omega) (of_decide_eq_true (hn2.symm.trans (by assumption)))))⟩, (by omega)⟩
  refine qc (qa (qd (ii (p.getD k 0)) rfl (cX (jq ((-1) - (p.getD k 0)) rfl rfl (by omega) (by omega) (cX (jN (i := (-1) - (p.getD k 0)) (((-1) - (p.getD k 0)).toNat) (((-1) - (p.getD k 0)).toNat) runUnderlying164 qr rfl rfl (by omega) (by omega) (by omega) (cX (qj qN rfl (Rd.own [_] rfl he1) (qd (v1) rfl (cX (qt (args := [a1, v1]) call46 rfl (Equal_spec ha1 hv1 (hbd := (by first | assumption | rfl | omega | (left; simp; done) | (right; simp; done)))) ?_)))))))))))
  rintro _ _ _ _ ⟨rfl, rfl, rfl⟩
  refine cX (XOp.notD rfl (qb ?_))
  refine qE (p := ¬(((bl.getD (((-1) - (p.getD k 0)).toNat) [])) = ((sub ar t i)))) rfl (fun h6 => ?_) (fun h6 => ?_)
  ·refine qc (qa (cX (qv bs isAgg164 sizeOf164 (by have := CO.len hbc; (try simp only [List.length_set, List.length_replicate] at this ⊢) <;> omega) rfl (Rd.ownN [_] rfl take_all) (cX (qI [] _ bs sizeOf164 rfl rfl (by have := CO.len hbc; (try simp only [List.length_set, List.length_replicate] at this ⊢) <;> omega) hbc.ones rfl (Nat.ble_eq_true_of_le (Nat.le_of_eq (by have := CO.len hc1; (try simp only [List.length_set, List.length_replicate] at this ⊢) <;> omega))) (arr_over (by have := CO.len hc1; (try simp only [List.length_set, List.length_replicate] at this ⊢) <;> omega)) (qh (.bool (false)) rfl (qb (qw (qo (qF (qo (qo (qF (qo (qu (L' := L) [.agg (bs).toArray, .bool (false)] (.tuple #[.agg (bs).toArray, .bool (false)]) (.cell rfl (jA bs isAgg164 sizeOf164 (by have := CO.len hbc; (try simp only [List.length_set, List.length_replicate] at this ⊢) <;> omega) (Rd.ownN [] rfl take_all)) (.tmp rfl .nil)) rfl rF rF (sD (sD (sD sR))) ?_)))))))))))))))
   have hz : mGo ar t p 0 b = none := hm.trans (mGo_clash (by omega) (by omega) (by omega) (of_decide_eq_false (hn2.symm.trans (by assumption))) (by assumption))
   refine ⟨rfl, _, _, by rw [hz]; rfl, hbc, by (try simp only [List.length_set]) <;> omega, fun r hr => ?_, rfl⟩
   rw [hz] at hr; cases hr
  refine qA (qa (qd (ii ((i : Int))) rfl (qd (v1) rfl (cX (qG qf rfl hv1.slv (cX (qM (((i + (((sub ar t i)).length) : Nat) : Int)) rfl rfl (by omega) (by omega) (qh (ii (((i + (((sub ar t i)).length) : Nat) : Int))) rfl (qb (qa (cX (qM (((k + 1 : Nat) : Int)) rfl rfl (by omega) (by omega) (qd (ii (((k + 1 : Nat) : Int))) rfl (qb ?_))))))))))))))
  exact ⟨(k + 1, i + (((sub ar t i)).length), bs, bl), _, FLe.refl _, rF, ⟨rfl, rfl, rfl, rfl, rfl, rfl, rfl, rfl, ⟨⟩⟩, (sC (sC (sC sR))), ⟨rfl, (hbc), (by (try simp only [List.length_set]) <;> omega), (by (try dsimp only) <;> omega), (by (try dsimp only) <;> omega), (hm.trans (mGo_same (by omega) (by omega) (by omega) (of_decide_eq_false (hn2.symm.trans (by assumption))) (by first | assumption | exact Classical.not_not.1 (by assumption))))⟩, (by omega)⟩
 refine jn (qz (qz (qR (qc (qa (cX (qv bs isAgg164 sizeOf164 (by have := CO.len hbc; (try simp only [List.length_set, List.length_replicate] at this ⊢) <;> omega) rfl (Rd.ownN [_] rfl take_all) (cX (qI [] _ bs sizeOf164 rfl rfl (by have := CO.len hbc; (try simp only [List.length_set, List.length_replicate] at this ⊢) <;> omega) hbc.ones rfl (Nat.ble_eq_true_of_le (Nat.le_of_eq (by have := CO.len hc1; (try simp only [List.length_set, List.length_replicate] at this ⊢) <;> omega))) (arr_over (by have := CO.len hc1; (try simp only [List.length_set, List.length_replicate] at this ⊢) <;> omega)) (qh (.bool (true)) rfl (qb (qw (qu (L' := L) [.agg (bs).toArray, .bool (true)] (.tuple #[.agg (bs).toArray, .bool (true)]) (.cell rfl (jA bs isAgg164 sizeOf164 (by have := CO.len hbc; (try simp only [List.length_set, List.length_replicate] at this ⊢) <;> omega) (Rd.ownN [] rfl take_all)) (.tmp rfl .nil)) rfl rF rF (sD (sD (sD sR))) ?_)))))))))))))
 have hz : mGo ar t p 0 b = some bl := hm.trans (mGo_done (by omega))
 refine ⟨rfl, _, _, by rw [hz]; rfl, hbc, by (try simp only [List.length_set]) <;> omega, fun r hr => ?_, rfl⟩
 rw [hz] at hr; exact Option.some.inj hr

/- impl.variable -/
theorem variable_spec {F : FH} {L : List HP} {i : Nat} (hi : i ≤ 1000) :
    Does prog 103 [ii ((i : Int))] F (L) (fun v F' L' => F = F' ∧ IsSl v ∧ intsH 2 v ([-1 - (i : Int)]) :: L = L') := by
 refine qH func103 rfl rfl rfl (qc (qa (qh (sN) rfl (qb (qc (qa (qd (ii ((i : Int))) rfl (cX (jq ((-1) - ((i : Int))) rfl rfl (by omega) (by omega) (cX (qD (s := 1) [ii ((-1) - ((i : Int)))] [ii (0)] [(0, [ii ((-1) - ((i : Int)))])] qf qC jj rfl (by decide) rfl (.cons rfl CellsAre.nil) rfl ?_)))))))))))
 intro v1 hv1
 refine qh (v1) rfl (qb (qw (qu (L' := intsH 2 v1 ([(-1) - ((i : Int))]) :: L) [v1] (v1) (.tmp rfl .nil) rfl rF rF (sC sR) ?_)))
 refine ⟨rfl, (js hv1), ?_⟩
 have hxs : ([-1 - (i : Int)] : List Int) = [(-1) - ((i : Int))] := rfl
 exact congrArg (fun z => intsH 2 _ z :: L) hxs

/- (impl.bindings).subst -/
theorem subst_spec {F : FH} {L : List HP} {bs : List Value} {b : RowL} (hb : BindC F bs b) (hbl : b.length = 24) :
    Does prog 97 [.agg (bs).toArray] F (L) (fun v F' L' => ∃ (a : Value), (.agg #[a] : Value) = v ∧ (RowsF F' a b) ∧ L = L') := by
 refine qH func97 rfl rfl rfl (qc (qa (cX (qY bs rfl rfl ?_))))
 intro b1
 refine cX (je [sN] zeroValue148 rfl ?_)
 intro b2
 refine qb (qc (qa (cX (XOp.sliceArr (cs := bs) [_] _ runUnderlying164 qr rfl (by have := CO.len hb; (try simp only [List.length_set, List.length_replicate] at this ⊢) <;> omega) rfl ?_))))
 intro v1 hv1
 have hc1 := BindC.rows hb
 refine cX (qZ [v1] [sN] [(0, 1)] [(0, [v1])] jY zeroValue148 rfl (.cons rfl sizeOf128 PlacesAre.nil) rfl (.cons (cells_one ⟨_, _, _, hv1⟩) CellsAre.nil) (cX (qI [] _ [v1] sizeOf148 rfl rfl rfl (qm (qy ⟨_, _, _, hv1⟩) qO) rfl rfl rfl (qb (ji [_] _ _ rfl (fun F1 le1 hz1 => ?_))))))
 replace hc1 := hc1.mono le1
 have hf1 : RowsF F1 v1 b := CO.fz hc1 (by first | rfl | omega | (rw [List.length_set]; omega) | (simp; done) | (rw [List.length_append]; simp only [List.length_singleton]; omega)) hz1.fz
 refine qw (qu (L' := L) [.agg #[v1]] (.agg #[v1]) (.cell rfl (jA [v1] isAgg148 sizeOf148 rfl (Rd.ownN [] rfl rfl)) .nil) rfl le1 rF (sD sR) ?_)
 exact ⟨_, rfl, hf1, rfl⟩

/- impl.plain -/
theorem plain_spec {F : FH} {L : List HP} {sv : Value} {s : List (List Int)} (hs : RowsF F sv s) (hsl : s.length ≤ 24) (hsb : ∀ i, i < s.length → (s.getD i []).length ≤ 4000000) :
    Does prog 96 [.agg #[sv]] F (L) (fun v F' L' => ∃ (a : Value), (.agg #[a] : Value) = v ∧ (RowsF F' a (plainL s)) ∧ L = L') := by
 refine qH func96 rfl rfl rfl (qc (qa (cX (qY [sv] rfl rfl ?_))))
 intro b1
 refine cX (je [sN] zeroValue148 rfl ?_)
 intro b2
 refine qb (qc (qa (cX (je [sN] zeroValue148 rfl ?_))))
 intro b3
 refine qb (qc (qc (qa (cX (qn (0) jY rfl sizeOf128 (by decide) rfl rfl (cX (qj isAgg128 rfl (Rd.own [_, _] rfl rfl) (cX (qG jl rfl hs.slv (qd (ii (0)) rfl (qb (qJ (jv (α := Nat × Value × RowL × FH) (fun xQ => [(2, ptr b2 0), (3, ptr b3 0), (7, sv), (8, ii ((s.length : Int))), (9, ii (((xQ.1 : Nat) : Int)))]) (fun xQ => rowsH 24 xQ.2.2.2 xQ.2.1 xQ.2.2.1 :: cellsH b3 [xQ.2.1] 148 :: cellsH b2 [sN] 148 :: cellsH b1 [sv] 148 :: L) (fun xQ F' => xQ.2.2.2 = F' ∧ F ≤ xQ.2.2.2 ∧ (IsSl xQ.2.1) ∧ (xQ.2.2.1 = trim ((plainGo 0 s).take xQ.1)) ∧ (xQ.1 ≤ s.length)) (fun xQ => s.length - xQ.1) (0, sN, [], F) ⟨rfl, rfl, rfl, rfl, rfl, ⟨⟩⟩ (coH.addNil none (sC (sC (sC sR)))) ⟨rfl, FLe.refl _, (⟨_, _, _, rfl⟩), (rfl), (by (try dsimp only) <;> omega)⟩ ?_)))))))))))))
 rintro ⟨k, ov, os, G1⟩ rE _ _ ⟨rfl, leG, hov, hos, hk⟩
 show X _ _ _ _ (envs [(2, ptr b2 0), (3, ptr b3 0), (7, sv), (8, ii ((s.length : Int))), (9, ii ((k : Int)))] rE) _ (rowsH 24 G1 ov os :: cellsH b3 [ov] 148 :: cellsH b2 [sN] 148 :: cellsH b1 [sv] 148 :: L)
 replace leG : F ≤ G1 := leG
 dsimp only at hov hos hk
 have leG1 := leG
 replace hs := hs.mono leG1
 refine X.open [] rfl (fun cs1 hc1 => ?_)
 replace hc1 : RowsC G1 cs1 os := hc1
 refine qc (qa (cX (qX rfl rfl (qb (qc ?_)))))
 refine qE (p := (k : Int) < (s.length : Int)) rfl (fun h1 => ?_) (fun h1 => ?_)
 ·refine qA (qc (qJ (qc (qa (qd (ii ((k : Int))) rfl (cX (qx k jl qr rfl rfl rfl hs.slv (by omega) (Nat.mul_one _) ?_)))))))
  obtain ⟨a1, ha1, hr1⟩ := hs.rd (i := k) (by omega)
  refine cX (qj qN rfl (hr1 _) (qh (ii ((k : Int))) rfl (qh (a1) rfl (qb (qc (qc (qa (qd (a1) rfl (cX (qG qf rfl ha1.slv (cX (jo rfl rfl (qd (.bool (decide ((((((s.getD k [])).length : Nat) : Int) : Int) = 0))) rfl ?_)))))))))))))
  by_cases h2 : (((((s.getD k [])).length : Nat) : Int) : Int) = 0
  ·refine qq (t := 17) rfl (vT h2) (qq (t := 17) rfl (vT h2) (qq (t := 17) rfl (vT h2) (qq (t := 17) rfl (vT h2) (cX (qT (.bool (true)) (vT h2) rfl (qb (jO rfl (jn (qz (qR (qa (cX (qM (((k + 1 : Nat) : Int)) rfl rfl (by omega) (by omega) ?_)))))))))))))
   refine qd (ii (((k + 1 : Nat) : Int))) rfl (qb ?_)
   exact ⟨(k + 1, ov, os, G1), _, leG1, rF, ⟨rfl, rfl, rfl, rfl, rfl, ⟨⟩⟩, (coH.close hc1 (by first | rfl | simp) (sC (sC (sC sR)))), ⟨rfl, leG1, (hov), (hos.trans (plain_skip (by omega) (by first | (left; exact List.eq_nil_of_length_eq_zero (by omega)) | (right; assumption))).symm), (by (try dsimp only) <;> omega)⟩, (by omega)⟩
  refine qs (t := 17) rfl (vF h2) (ql (a1) rfl (qs (t := 17) rfl (vF h2) (ql (ii ((k : Int))) rfl (qs (t := 17) rfl (vF h2) (jT <| qt (args := [ii (k : Int)]) call103 rfl (variable_spec (i := k) (hi := (by first | assumption | rfl | omega | simp))) ?_)))))
  rintro v1 _ _ _ ⟨rfl, hs1, rfl⟩
  refine ⟨_, _, rfl, fun F1 le1 hz1 => ?_⟩
  replace hs := hs.mono le1
  replace hc1 := hc1.mono le1
  replace ha1 := ha1.mono le1
  have hf1 : IntsF F1 v1 (([-1 - (k : Int)])) := intsH.fz (xs := ([-1 - (k : Int)])) hz1.fz
  refine qs (t := 17) rfl (vF h2) (qt (args := [a1, v1]) call46 rfl (Equal_spec ha1 hf1 (hbd := (by first | assumption | rfl | omega | (left; simp; done) | (right; simp; done)))) ?_)
  rintro _ _ _ _ ⟨rfl, rfl, rfl⟩
  refine cX (qP (.bool (decide (((s.getD k [])) = (([-1 - (k : Int)]))))) (vF h2) rfl (qb ?_))
  refine qE (p := ((s.getD k [])) = (([-1 - (k : Int)]))) rfl (fun h3 => ?_) (fun h3 => ?_)
  ·refine jn (qz (qR (qa (cX (qM (((k + 1 : Nat) : Int)) rfl rfl (by omega) (by omega) (qd (ii (((k + 1 : Nat) : Int))) rfl (qb ?_)))))))
   exact ⟨(k + 1, ov, os, F1), _, (qi leG1 le1), rF, ⟨rfl, rfl, rfl, rfl, rfl, ⟨⟩⟩, (coH.close hc1 (by first | rfl | simp) (sC (sC (sC sR)))), ⟨rfl, (qi leG1 le1), (hov), (hos.trans (plain_skip (by omega) (by first | (left; exact List.eq_nil_of_length_eq_zero (by omega)) | (right; assumption))).symm), (by (try dsimp only) <;> omega)⟩, (by omega)⟩
  refine qA (qc (qJ (jv (α := Nat × Value × RowL × FH) (fun xQ => [(2, ptr b2 0), (3, ptr b3 0), (4, ii ((k : Int))), (5, a1), (7, sv), (8, ii ((s.length : Int))), (9, ii ((k : Int)))]) (fun xQ => rowsH 24 xQ.2.2.2 xQ.2.1 xQ.2.2.1 :: cellsH b3 [xQ.2.1] 148 :: cellsH b2 [sN] 148 :: cellsH b1 [sv] 148 :: L) (fun xQ F' => xQ.2.2.2 = F' ∧ F1 ≤ xQ.2.2.2 ∧ (IsSl xQ.2.1) ∧ (xQ.2.2.1 = os ++ List.replicate xQ.1 []) ∧ (xQ.2.2.1.length ≤ k)) (fun xQ => k - xQ.2.2.1.length) (0, ov, os, F1) ⟨rfl, rfl, rfl, rfl, rfl, rfl, rfl, ⟨⟩⟩ (coH.close hc1 (by first | rfl | simp) (sC (sC (sC sR)))) ⟨rfl, FLe.refl _, (hov), (by simp), (by have := trim_le ((plainGo 0 s).take k); rw [← hos, List.length_take] at this; (try dsimp only); omega)⟩ ?_)))
  rintro ⟨j, ov2, os2, G2⟩ rE _ _ ⟨rfl, leG, hov2, hos2, hl2⟩
  show X _ _ _ _ (envs [(2, ptr b2 0), (3, ptr b3 0), (4, ii ((k : Int))), (5, a1), (7, sv), (8, ii ((s.length : Int))), (9, ii ((k : Int)))] rE) _ (rowsH 24 G2 ov2 os2 :: cellsH b3 [ov2] 148 :: cellsH b2 [sN] 148 :: cellsH b1 [sv] 148 :: L)
  replace leG : F1 ≤ G2 := leG
  dsimp only at hov2 hos2 hl2
  have leG2 := leG
  replace hs := hs.mono leG2
  replace hc1 := hc1.mono leG2
  replace ha1 := ha1.mono leG2
  refine X.open [] rfl (fun cs2 hc2 => ?_)
  replace hc2 : RowsC G2 cs2 os2 := hc2
  refine qc (qc (qa (cX (qn (0) jY rfl sizeOf128 (by decide) rfl rfl (cX (qj isAgg128 rfl (Rd.own [_] rfl rfl) (cX (qG jl rfl (SlV.own [] rfl) (qd (ii ((k : Int))) rfl (cX (qX rfl rfl (qb ?_))))))))))))
  refine qE (p := ((os2.length : Int) : Int) < (k : Int)) rfl (fun h4 => ?_) (fun h4 => ?_)
  ·refine qA (qJ (qa (cX (qn (0) jY rfl sizeOf128 (by decide) rfl rfl (cX (qj isAgg128 rfl (Rd.own [_] rfl rfl) (cX (qD (s := 1) [sN] [sN] [(0, [sN])] jl qr zeroValue24 rfl (by decide) rfl (.cons rfl CellsAre.nil) rfl ?_))))))))
   intro v2 hv1
   refine cX (yi (m := 1) (bytes := 24) (cs := cs2) [_] _ [sN] jl typeInfo24 rfl rfl rfl rfl rfl rfl rfl (SlV.own [] rfl) rfl (Rd.lit [] rfl) (qm rfl qO) (by (try simp only [List.length_append, List.length_nil, List.length_cons, List.length_singleton]); omega) (by (try simp only [List.length_append, List.length_nil, List.length_cons, List.length_singleton]); omega) ?_)
   intro v3 hs2 hn1 hm1
   have hc3 := RowsC.snoc hc2 IntsF.nilV
   refine cX (qn (0) jY rfl sizeOf128 (by decide) rfl rfl (cX (jz [_, _] _ [v3] sizeOf128 rfl rfl (qy hs2) rfl rfl rfl (qb ?_))))
   exact ⟨(j + 1, v3, os2 ++ [[]], G2), _, leG2, rF, ⟨rfl, rfl, rfl, rfl, rfl, rfl, rfl, ⟨⟩⟩, (sD (coH.close hc3 (by first | rfl | simp) (sC (sC (sC sR))))), ⟨rfl, leG2, (hs2), (by dsimp only; rw [hos2, List.append_assoc, List.replicate_succ']), (by dsimp only; rw [List.length_append]; simp only [List.length_singleton]; omega)⟩, (by dsimp only; rw [List.length_append]; simp only [List.length_singleton]; omega)⟩
  refine jn (qz (qz (qR ?_)))
  refine yc [slH 24 1 ov2 ((os2).length) cs2, cellsH b3 [ov2] 148, cellsH b2 [sN] 148, cellsH b1 [sv] 148] L 5 [[], [], [], [], [3]] [[], [0], [], [2], [3]] [] (phiG [pe (ptr b3 0), pe ov2, pe a1, fun FF us v => ((v) : Value) = v ∧ (IntsF FF (v) (((s.getD k [])))), fun FF us v => ∃ b, v = .slice (some ⟨b, 0, none⟩) 1 1]) (ownL [o0, o0, o0, o0, fun us v => [slH 24 1 v 1 [((us.getD 0 undef))]]]) mixed rfl rfl (by kernel_rfl) (by kernel_rfl) (MonoG.get (m1 (m1 (m1 (mC (fun le h => ⟨h.1, h.2.mono le⟩) (mC (fun le h => h) MonoG.nil)))))) ?_ ?_
  ·refine gD (fun W Fs R lF z9 => ?_) ?_
   ·refine qg (qn (0) jY rfl sizeOf128 (by decide) rfl rfl ?_)
    exact ⟨rfl, rfl⟩
   refine gD (fun W Fs R lF z9 => ?_) ?_
   ·replace hs := hs.mono lF
    replace hc1 := hc1.mono lF
    replace ha1 := ha1.mono lF
    replace hc2 := hc2.mono lF
    rw [zA 0 (z9 0 rfl)]
    refine qg (qj isAgg128 rfl (Rd.own [_] rfl rfl) ?_)
    exact ⟨rfl, rfl⟩
   refine gD (fun W Fs R lF z9 => ?_) ?_
   ·refine qg (ql (a1) rfl ?_)
    exact ⟨rfl, rfl⟩
   refine gD (fun W Fs R lF z9 => ?_) ?_
   ·replace hs := hs.mono lF
    replace hc1 := hc1.mono lF
    replace ha1 := ha1.mono lF
    replace hc2 := hc2.mono lF
    rw [zA 2 (z9 2 rfl)]
    refine qg (jT <| qt (args := [a1]) call35 rfl (Clone_spec ha1 (hlt := (hsb k (by omega)))) ?_)
    rintro v6 _ _ _ ⟨rfl, hs4, rfl⟩
    refine ⟨_, _, rfl, fun F2 le2 hz2 => ?_⟩
    replace hc1 := hc1.mono le2
    replace hc2 := hc2.mono le2
    have hf2 : IntsF F2 v6 ((((s.getD k [])))) := intsH.fz (xs := (((s.getD k [])))) hz2.fz
    exact ⟨⟨rfl, hf2⟩, rfl⟩
   refine gD (fun W Fs R lF z9 => ?_) ?_
   ·obtain ⟨e3, f3_1ha⟩ := z9 3 rfl
    replace hc1 := hc1.mono lF
    replace hc2 := hc2.mono lF
    rw [eS (l := [(3, ((W 3)))]) ⟨(e3).symm, ⟨⟩⟩]
    refine qg (qD (s := 1) [((W 3))] [sN] [(0, [((W 3))])] jl qr zeroValue24 rfl (by decide) rfl (.cons (cells_one (qp f3_1ha)) CellsAre.nil) rfl ?_)
    intro v7 hv3
    exact ⟨hv3, rfl⟩
   exact stepsG.nil
  intro W F3 le3 hphi
  obtain ⟨e3, f3_1ha⟩ := hphi 3 (by decide)
  have f4 : ∃ b, (W 4) = .slice (some ⟨b, 0, none⟩) 1 1 := hphi 4 (by decide)
  generalize hu1 : ((W 3)) = u1 at e3 f3_1ha f4
  generalize huu4 : W 4 = u2 at e3 f3_1ha f4
  rw [eS (l := [(1, _), (3, u1), (4, u2)]) ⟨(hphi 1 (by decide)), hu1, huu4, ⟨⟩⟩]
  replace hc1 := hc1.mono le3
  replace hc2 := hc2.mono le3
  show XL _ _ _ _ _ _ _ (slH 24 1 u2 1 [u1] :: slH 24 1 ov2 ((os2).length) cs2 :: cellsH b3 [ov2] 148 :: cellsH b2 [sN] 148 :: cellsH b1 [sv] 148 :: L)
  refine cX (yi (m := 1) (bytes := 24) (cs := cs2) [_] _ [u1] jl typeInfo24 rfl rfl rfl rfl rfl rfl rfl (SlV.own [] rfl) rfl (Rd.lit [] rfl) (qm (qy (qp f3_1ha)) qO) (by (try simp only [List.length_append, List.length_nil, List.length_cons, List.length_singleton]); omega) (by (try simp only [List.length_append, List.length_nil, List.length_cons, List.length_singleton]); omega) ?_)
  intro v8 hs5 hn2 hm2
  have hc4 := RowsC.snoc hc2 f3_1ha
  refine cX (qn (0) jY rfl sizeOf128 (by decide) rfl rfl (cX (jz [_, _] _ [v8] sizeOf128 rfl rfl (qy hs5) rfl rfl rfl (qb (qa (cX (qM (((k + 1 : Nat) : Int)) rfl rfl (by omega) (by omega) (qd (ii (((k + 1 : Nat) : Int))) rfl (qb ?_)))))))))
  exact ⟨(k + 1, v8, os2 ++ [(((s.getD k [])))], F3), _, (qi (qi (qi leG1 le1) leG2) le3), rF, ⟨rfl, rfl, rfl, rfl, rfl, ⟨⟩⟩, (sD (coH.close hc4 (by first | rfl | simp) (sC (sC (sC sR))))), ⟨rfl, (qi (qi (qi leG1 le1) leG2) le3), (hs5), (plain_put (m := os2) (by omega) (by intro e; have := congrArg List.length e; simp only [List.length_nil] at this; omega) (by assumption) (by rw [hos2, hos]; exact plain_padded (by rw [← hos, ← hos2, List.length_take, plainGo_length]; omega))), (by (try dsimp only) <;> omega)⟩, (by omega)⟩
 refine jn (qz (qz (qR (qc (qa (cX (qv [ov] isAgg148 sizeOf148 rfl rfl (Rd.ownN [_] rfl rfl) (cX (qI [_, _] _ [ov] sizeOf148 rfl rfl rfl (qm (qy hov) qO) rfl rfl rfl (qb (ji [] _ _ rfl (fun F4 le4 hz3 => ?_))))))))))))
 replace hc1 := hc1.mono le4
 have hf3 : RowsF F4 ov os := CO.fz hc1 (by first | rfl | omega | (rw [List.length_set]; omega) | (simp; done) | (rw [List.length_append]; simp only [List.length_singleton]; omega)) hz3.fz
 refine qw (qu (L' := L) [.agg #[ov]] (.agg #[ov]) (.cell rfl (jA [ov] isAgg148 sizeOf148 rfl (Rd.ownN [_] rfl rfl)) .nil) rfl (qi leG1 le4) rF (sD (sD (sD sR))) ?_)
 have e : os = plainL s := by rw [hos, show k = s.length from by omega, plain_all]
 exact ⟨_, rfl, by rw [← e]; exact hf3, rfl⟩

/- impl.match -/
theorem match_spec {F : FH} {L : List HP} {arv : Value} {ar : List Int} (har : IntsF F arv ar) {pv : Value} {p : List Int} (hp : IntsF F pv p) {tv : Value} {t : List Int} (ht : IntsF F tv t) (ho : termOk ar t = true) (hpo : termOk ar p = true) :
    Does prog 81 [.agg #[arv], pv, tv] F (L) (fun v F' L' => ∃ (a : Value), (.tuple #[.agg #[a], .bool ((matchB ar p t).isSome)] : Value) = v ∧ (RowsF F' a (matchP ar p t)) ∧ L = L') := by
 refine qH func81 rfl rfl rfl ?_
 have hpl := termOk_len hpo
 have hpg := fun k (hk : k < p.length) => termOk_ge hpo hk
 refine qc (qa (cX (qY [arv] rfl rfl ?_)))
 intro b1
 refine cX (je [sN] zeroValue148 rfl ?_)
 intro b2
 refine qh (.bool (false)) rfl (qb (qc (qa (cX (qv [arv] qU qB rfl rfl (Rd.ownN [_] rfl rfl) (qd (pv) rfl (qd (tv) rfl (cX (XOp.build0 (List.replicate 24 (sN)) runUnderlying164 ⟨_, qr⟩ zeroValue164 rfl ?_)))))))))
 have hc1 : BindC F _ _ := BindC.nils 24
 refine cX (qt (args := [.agg #[arv], pv, tv, .agg (List.replicate 24 (sN)).toArray]) call95 rfl (matchInto_spec har hp ht hc1 ((by first | assumption | rfl | simp | omega)) (ho := (by first | assumption | rfl | omega | simp)) (hpl := (by first | assumption | rfl | omega | simp)) (hpg := (by first | assumption | rfl | omega | simp))) ?_)
 rintro _ _ _ _ ⟨rfl, x1, x2, rfl, hr1, hr2, hr3, rfl⟩
 have hbl24 := hr2
 refine qd (.tuple #[.agg (x1).toArray, .bool ((mGo ar t p 0 (List.replicate 24 ([] : List Int))).isSome)]) rfl (cX (qK (.agg (x1).toArray) rfl rfl (cX (qK (.bool ((mGo ar t p 0 (List.replicate 24 ([] : List Int))).isSome)) rfl rfl (cX (je (List.replicate 24 (sN)) zeroValue164 rfl ?_))))))
 intro b3
 have hc2 : BindC F _ _ := BindC.nils 24
 refine cX (qI [] _ x1 sizeOf164 rfl rfl (by have := CO.len hr1; (try simp only [List.length_set, List.length_replicate] at this ⊢) <;> omega) hr1.ones rfl (Nat.ble_eq_true_of_le (Nat.le_of_eq (by have := CO.len hc2; (try simp only [List.length_set, List.length_replicate] at this ⊢) <;> omega))) (arr_over (by have := CO.len hc2; (try simp only [List.length_set, List.length_replicate] at this ⊢) <;> omega)) (qh (.bool ((mGo ar t p 0 (List.replicate 24 ([] : List Int))).isSome)) rfl (qb (qc (qc (qa (qd (.bool ((mGo ar t p 0 (List.replicate 24 ([] : List Int))).isSome)) rfl (cX (ju rfl (qb ?_))))))))))
 refine jG (t := !((mGo ar t p 0 (List.replicate 24 ([] : List Int))).isSome)) rfl (fun h1 => ?_) (fun h1 => ?_)
 ·refine qc (qa (cX (qZ [sN] [sN] [(0, 1)] [] jY zeroValue148 rfl (.cons rfl sizeOf128 PlacesAre.nil) rfl CellsAre.nil (cX (qI [_] _ [sN] sizeOf148 rfl rfl rfl (qm rfl qO) rfl rfl rfl (qh (.bool (false)) rfl (qb (qw (qo (qu (L' := L) [.agg #[sN], .bool (false)] (.tuple #[.agg #[sN], .bool (false)]) (.cell rfl (jA [sN] isAgg148 sizeOf148 rfl (Rd.ownN [_] rfl rfl)) (.tmp rfl .nil)) rfl rF rF (sD (sD (sD sR))) ?_))))))))))
  have hz : matchB ar p t = none := by have h0 := h1; simpa [matchB] using h0
  exact ⟨_, by rw [hz]; rfl, by rw [matchP, hz]; exact SlOf.nilV, rfl⟩
 have hz : ∃ r, matchB ar p t = some r := Option.isSome_iff_exists.1 (by have h0 := h1; simpa [matchB] using h0)
 have hmb : ∀ i, (x2.getD i []).length ≤ t.length := by obtain ⟨r, hz⟩ := hz; have e := hr3 _ hz; rw [e]; exact (matchB_len hz).2
 have htl := termOk_len ho
 refine qA (qc (qa (cX (qv x1 isAgg164 sizeOf164 (by have := CO.len hr1; (try simp only [List.length_set, List.length_replicate] at this ⊢) <;> omega) rfl (Rd.ownN [] rfl take_all) (cX (qt (args := [.agg (x1).toArray]) call97 rfl (subst_spec hr1 ((by first | assumption | rfl | simp | omega))) ?_))))))
 rintro _ F2 _ le2 ⟨x3, rfl, hr4, rfl⟩
 refine cX (qt (args := [.agg #[x3]]) call96 rfl (plain_spec hr4 (hsl := (by first | assumption | rfl | omega | simp)) (hsb := (fun i hi => by have := hmb i; omega))) ?_)
 rintro _ F3 _ le3 ⟨x4, rfl, hr5, rfl⟩
 refine cX (qI [_] _ [x4] sizeOf148 rfl rfl rfl (qm (qy (RowsF.isSl hr5)) qO) rfl rfl rfl (qh (.bool (true)) rfl (qb (qw (qu (L' := L) [.agg #[x4], .bool (true)] (.tuple #[.agg #[x4], .bool (true)]) (.cell rfl (jA [x4] isAgg148 sizeOf148 rfl (Rd.ownN [_] rfl rfl)) (.tmp rfl .nil)) rfl (qi le2 le3) rF (sD (sD (sD sR))) ?_)))))
 obtain ⟨b0, hz⟩ := Option.isSome_iff_exists.1 (show (matchB ar p t).isSome = true from by have h0 := h1; simpa [matchB] using h0)
 have hb0 := hr3 _ hz
 exact ⟨_, by rw [hz]; rfl, by rw [matchP, hz]; subst hb0; exact hr5, rfl⟩

/- impl.instance -/
theorem instance_spec {F : FH} {L : List HP} {arv : Value} {ar : List Int} (har : IntsF F arv ar) {pv : Value} {p : List Int} (hp : IntsF F pv p) {tv : Value} {t : List Int} (ht : IntsF F tv t) (ho : termOk ar t = true) (hpo : termOk ar p = true) :
    Does prog 70 [.agg #[arv], pv, tv] F (L) (fun v F' L' => (.bool ((matchB ar p t).isSome) : Value) = v ∧ F = F' ∧ L = L') := by
 refine qH func70 rfl rfl rfl (qc (qa (cX (qY [arv] rfl rfl ?_))))
 intro b1
 refine qh (.bool (false)) rfl (qb (qc (qa (cX (qv [arv] qU qB rfl rfl (Rd.ownN [] rfl rfl) (qd (pv) rfl (qd (tv) rfl (cX (qt (args := [.agg #[arv], pv, tv]) call81 rfl (match_spec har hp ht (ho := (by first | assumption | rfl | omega | simp)) (hpo := (by first | assumption | rfl | omega | simp))) ?_)))))))))
 rintro _ F1 _ le1 ⟨x1, rfl, hr1, rfl⟩
 refine qd (.tuple #[.agg #[x1], .bool ((matchB ar p t).isSome)]) rfl (cX (qK (.agg #[x1]) rfl rfl (cX (qK (.bool ((matchB ar p t).isSome)) rfl rfl (cX (je [sN] zeroValue148 rfl ?_))))))
 intro b2
 refine cX (qI [] _ [x1] sizeOf148 rfl rfl rfl (qm (qy (RowsF.isSl hr1)) qO) rfl rfl rfl (qh (.bool ((matchB ar p t).isSome)) rfl (qb (qc (qa (qd (.bool ((matchB ar p t).isSome)) rfl (qh (.bool ((matchB ar p t).isSome)) rfl (qb (qw (qu (L' := L) [.bool ((matchB ar p t).isSome)] (.bool ((matchB ar p t).isSome)) (.tmp rfl .nil) rfl rF le1 (sD (sD sR)) ?_))))))))))
 exact ⟨rfl, rfl, rfl⟩

/- impl.redex -/
theorem redex_spec {F : FH} {L : List HP} {arv : Value} {ar : List Int} (har : IntsF F arv ar) {rsv : Value} {rs : List (List Int × List Int)} (hrs : PairsF F rsv rs) {tv : Value} {t : List Int} (ht : IntsF F tv t) {p : Nat} {r : Nat} (hsys : sysOk ar rs = true) (ho : termOk ar t = true) (hp : p < t.length) (hr : r < rs.length) :
    Does prog 80 [.agg #[arv, rsv], tv, ii ((p : Int)), ii ((r : Int))] F (L) (fun v F' L' => (.bool (isRedex ar rs t p r) : Value) = v ∧ F = F' ∧ L = L') := by
 refine qH func80 rfl rfl rfl ?_
 have hnn := jx ht (by have := termOk_len ho; omega)
 have htl := termOk_len ho
 have hrl := (sysOk_iff.1 hsys).2.1
 have hsig := (sysOk_iff.1 hsys).1
 have hsl := sigOk_spec hsig
 have hR := ruleOk_iff.1 ((sysOk_iff.1 hsys).2.2 r hr)
 have hRl := hR.left
 have hRr := hR.right
 have hso := sub_ok ho hp
 refine qc (qa (cX (qY [arv, rsv] rfl rfl ?_)))
 intro b1
 refine qh (.bool (false)) rfl (qb (qc ?_))
 obtain ⟨a1, a2, ha1, ha2, hr1, hr2⟩ := hrs.rd (i := r) (by omega)
 refine yc [cellsH b1 [arv, rsv] 77] L 13 [] [[], [0], [], [2], [], [3, 4], [5], [6], [], [8], [], [], [9, 10, 11]] [] (phiG [pe (ptr b1 0), pe (.agg #[arv]), pe (ptr b1 1), pe rsv, pe (ii ((r : Int)) : Value), pe (.pointer (some (elemA rsv (r * 2)))), pe (.pointer (some (elemA rsv (r * 2)))), pe a1, pe (ptr b1 0), pe (.agg #[arv]), pe tv, pe (ii ((p : Int)) : Value), fun FF us v => ((v) : Value) = v ∧ (IntsF FF (v) (sub ar t p)) ∧ (isNil (v) = false)]) (ownL []) mixed rfl rfl (by kernel_rfl) (by kernel_rfl) (MonoG.get (m1 (m1 (m1 (m1 (m1 (m1 (m1 (m1 (m1 (m1 (m1 (m1 (mC (fun le h => ⟨h.1, h.2.1.mono le, h.2.2⟩) MonoG.nil)))))))))))))) ?_ ?_
 ·refine gD (fun W Fs R lF z9 => ?_) ?_
  ·refine qg (qn (0) jc rfl qB (by decide) rfl rfl ?_)
   exact ⟨rfl, rfl⟩
  refine gD (fun W Fs R lF z9 => ?_) ?_
  ·replace har := har.mono lF
   replace hrs := hrs.mono lF
   replace ht := ht.mono lF
   replace ha1 := ha1.mono lF
   replace hr1 := Rd.monoA hr1 lF
   rw [zA 0 (z9 0 rfl)]
   refine qg (qv [arv] qU qB rfl rfl (Rd.ownN [] rfl rfl) ?_)
   exact ⟨rfl, rfl⟩
  refine gD (fun W Fs R lF z9 => ?_) ?_
  ·refine qg (qn (1) jc rfl jB (by decide) rfl rfl ?_)
   exact ⟨rfl, rfl⟩
  refine gD (fun W Fs R lF z9 => ?_) ?_
  ·replace har := har.mono lF
   replace hrs := hrs.mono lF
   replace ht := ht.mono lF
   replace ha1 := ha1.mono lF
   replace hr1 := Rd.monoA hr1 lF
   rw [zA 2 (z9 2 rfl)]
   refine qg (qj jS rfl (Rd.own [] rfl rfl) ?_)
   exact ⟨rfl, rfl⟩
  refine gD (fun W Fs R lF z9 => ?_) ?_
  ·refine qg (ql (ii ((r : Int))) rfl ?_)
   exact ⟨rfl, rfl⟩
  refine gD (fun W Fs R lF z9 => ?_) ?_
  ·replace har := har.mono lF
   replace hrs := hrs.mono lF
   replace ht := ht.mono lF
   replace ha1 := ha1.mono lF
   replace hr1 := Rd.monoA hr1 lF
   rw [zB 3 4 (z9 3 rfl) (z9 4 rfl)]
   refine qg (qx r qV jp rfl rfl rfl hrs.slv (by omega) rfl ?_)
   exact ⟨rfl, rfl⟩
  refine gD (fun W Fs R lF z9 => ?_) ?_
  ·rw [zA 5 (z9 5 rfl)]
   refine qg (XOp.fieldE (r * 2) jf rfl qr (by decide) rfl rfl ?_)
   exact ⟨rfl, rfl⟩
  refine gD (fun W Fs R lF z9 => ?_) ?_
  ·replace har := har.mono lF
   replace ht := ht.mono lF
   replace ha1 := ha1.mono lF
   replace hr1 := Rd.monoA hr1 lF
   rw [zA 6 (z9 6 rfl)]
   refine qg (qj qN rfl (hr1 _) ?_)
   exact ⟨rfl, rfl⟩
  refine gD (fun W Fs R lF z9 => ?_) ?_
  ·refine qg (qn (0) jc rfl qB (by decide) rfl rfl ?_)
   exact ⟨rfl, rfl⟩
  refine gD (fun W Fs R lF z9 => ?_) ?_
  ·replace har := har.mono lF
   replace ht := ht.mono lF
   replace ha1 := ha1.mono lF
   rw [zA 8 (z9 8 rfl)]
   refine qg (qv [arv] qU qB rfl rfl (Rd.ownN [] rfl rfl) ?_)
   exact ⟨rfl, rfl⟩
  refine gD (fun W Fs R lF z9 => ?_) ?_
  ·refine qg (ql (tv) rfl ?_)
   exact ⟨rfl, rfl⟩
  refine gD (fun W Fs R lF z9 => ?_) ?_
  ·refine qg (ql (ii ((p : Int))) rfl ?_)
   exact ⟨rfl, rfl⟩
  refine gD (fun W Fs R lF z9 => ?_) ?_
  ·replace har := har.mono lF
   replace ht := ht.mono lF
   replace ha1 := ha1.mono lF
   rw [eS (l := [(9, _), (10, _), (11, _)]) ⟨z9 9 rfl, z9 10 rfl, z9 11 rfl, ⟨⟩⟩]
   refine qg (qt (args := [.agg #[arv], tv, ii (p : Int)]) call71 rfl (subAt_spec (p := p) har ht (ho := (by first | assumption | rfl | omega | simp)) (hp := (by first | assumption | rfl | omega | simp)) (hnn := (by first | assumption | rfl | omega | simp))) ?_)
   rintro v2 _ _ _ ⟨rfl, rfl, hv2, hn2⟩
   exact ⟨⟨rfl, hv2, hn2⟩, rfl⟩
  exact stepsG.nil
 intro W F1 le1 hphi
 obtain ⟨e12, f12_1ha, f12_1hn⟩ := hphi 12 (by decide)
 generalize hu1 : ((W 12)) = u1 at e12 f12_1ha f12_1hn
 rw [eS (l := [(1, _), (7, _), (12, u1)]) ⟨(hphi 1 (by decide)), (hphi 7 (by decide)), hu1, ⟨⟩⟩]
 replace har := har.mono le1
 replace ha1 := ha1.mono le1
 show XL _ _ _ _ _ _ _ (cellsH b1 [arv, rsv] 77 :: L)
 refine cX (qt (args := [.agg #[arv], a1, u1]) call70 rfl (instance_spec har ha1 f12_1ha (ho := (by first | assumption | rfl | omega | simp)) (hpo := (by first | assumption | rfl | omega | simp))) ?_)
 rintro _ _ _ _ ⟨rfl, rfl, rfl⟩
 refine qh (.bool ((matchB ar ((rs.getD r ([], [])).1) ((sub ar t p))).isSome)) rfl (qb (qw (qu (L' := L) [.bool ((matchB ar ((rs.getD r ([], [])).1) ((sub ar t p))).isSome)] (.bool ((matchB ar ((rs.getD r ([], [])).1) ((sub ar t p))).isSome)) (.tmp rfl .nil) rfl rF le1 (sD sR) ?_)))
 exact ⟨rfl, rfl, rfl⟩

/- impl.ruleAt -/
theorem ruleAt_spec {F : FH} {L : List HP} {arv : Value} {ar : List Int} (har : IntsF F arv ar) {rsv : Value} {rs : List (List Int × List Int)} (hrs : PairsF F rsv rs) {tv : Value} {t : List Int} (ht : IntsF F tv t) {p : Nat} (hsys : sysOk ar rs = true) (ho : termOk ar t = true) (hp : p < t.length) :
    Does prog 67 [.agg #[arv, rsv], tv, ii ((p : Int))] F (L) (fun v F' L' => (ii (ruleAtL ar rs t p) : Value) = v ∧ F = F' ∧ L = L') := by
 refine qH func67 rfl rfl rfl ?_
 have hnn := jx ht (by have := termOk_len ho; omega)
 have htl := termOk_len ho
 have hrl := (sysOk_iff.1 hsys).2.1
 have hsig := (sysOk_iff.1 hsys).1
 have hsl := sigOk_spec hsig
 refine qc (qa (cX (qY [arv, rsv] rfl rfl ?_)))
 intro b1
 refine qh (ii (0)) rfl (qb (qc (qc (qa (cX (qn (1) jc rfl jB (by decide) rfl rfl (cX (qj jS rfl (Rd.own [] rfl rfl) (cX (qG qV rfl hrs.slv (qd (ii (0)) rfl (qb (qJ (jv (α := Nat) (fun r => [(1, tv), (2, ii ((p : Int))), (3, ptr b1 0), (10, ii ((rs.length : Int))), (11, ii ((r : Int)))]) (fun r => cellsH b1 [arv, rsv] 77 :: L) (fun r F' => F = F' ∧ (r ≤ rs.length) ∧ (ruleAtL ar rs t p = ruleAtGo ar rs t p (rs.length - r) r)) (fun r => rs.length - r) 0 ⟨rfl, rfl, rfl, rfl, rfl, ⟨⟩⟩ (sC sR) ⟨rfl, (by omega), (rfl)⟩ ?_))))))))))))))
 rintro r rE _ _ ⟨rfl, hr, hm⟩
 show X _ _ _ _ (envs [(1, tv), (2, ii ((p : Int))), (3, ptr b1 0), (10, ii ((rs.length : Int))), (11, ii ((r : Int)))] rE) _ (cellsH b1 [arv, rsv] 77 :: L)
 refine qc (qa (cX (qX rfl rfl (qb (qc ?_)))))
 refine qE (p := (r : Int) < (rs.length : Int)) rfl (fun h1 => ?_) (fun h1 => ?_)
 ·refine qA (qc (qJ (qc (qa (qd (ii ((r : Int))) rfl (qh (ii ((r : Int))) rfl (qb (qc (qa (cX (qv [arv, rsv] yj jQ rfl rfl (Rd.ownN [] rfl rfl) (qd (tv) rfl (qd (ii ((p : Int))) rfl (qd (ii ((r : Int))) rfl (cX (qt (args := [.agg #[arv, rsv], tv, ii (p : Int), ii (r : Int)]) call80 rfl (redex_spec (p := p) (r := r) har hrs ht (hsys := (by first | assumption | rfl | omega | simp)) (ho := (by first | assumption | rfl | omega | simp)) (hp := (by first | assumption | rfl | omega | simp)) (hr := (by first | assumption | rfl | omega | simp))) ?_))))))))))))))))
  rintro _ _ _ _ ⟨rfl, rfl, rfl⟩
  refine qb ?_
  refine jG (t := isRedex ar rs t p r) rfl (fun h2 => ?_) (fun h2 => ?_)
  ·refine qc (qa (qd (ii ((r : Int))) rfl (qh (ii ((r : Int))) rfl (qb (qw (qF (qo (qo (qF (qo (qu (L' := L) [ii ((r : Int))] (ii ((r : Int))) (.tmp rfl .nil) rfl rF rF (sD sR) ?_)))))))))))
   exact ⟨(vI (hm.trans (ruleAt_hit (by omega) (by assumption)))), rfl, rfl⟩
  refine qA (qa (cX (qM (((r + 1 : Nat) : Int)) rfl rfl (by omega) (by omega) (qd (ii (((r + 1 : Nat) : Int))) rfl (qb ?_)))))
  exact ⟨r + 1, _, FLe.refl _, rF, ⟨rfl, rfl, rfl, rfl, rfl, ⟨⟩⟩, (sC sR), ⟨rfl, (by (try dsimp only) <;> omega), (hm.trans (ruleAt_miss (by omega) (by assumption)))⟩, (by omega)⟩
 refine jn (qz (qz (qR (qc (qa (qh (ii (-1)) rfl (qb (qw (qu (L' := L) [ii (-1)] (ii (-1)) (.tmp rfl .nil) rfl rF rF (sD sR) ?_)))))))))
 exact ⟨(vI (hm.trans (ruleAt_end (by omega)))), rfl, rfl⟩

/- impl.redexes -/
theorem redexes_spec {F : FH} {L : List HP} {arv : Value} {ar : List Int} (har : IntsF F arv ar) {rsv : Value} {rs : List (List Int × List Int)} (hrs : PairsF F rsv rs) {tv : Value} {t : List Int} (ht : IntsF F tv t) (hsys : sysOk ar rs = true) (ho : termOk ar t = true) :
    Does prog 76 [.agg #[arv, rsv], tv] F (L) (fun v F' L' => F = F' ∧ IsSl v ∧ intsH 3 v (redL ar rs t) :: L = L') := by
 refine qH func76 rfl rfl rfl ?_
 have hnn := jx ht (by have := termOk_len ho; omega)
 have htl := termOk_len ho
 have hrl := (sysOk_iff.1 hsys).2.1
 have hsig := (sysOk_iff.1 hsys).1
 have hsl := sigOk_spec hsig
 refine qc (qa (cX (qY [arv, rsv] rfl rfl ?_)))
 intro b1
 refine qh (sN) rfl (qb (qc (qa (qh (sN) rfl (qb (qc (qc (qa (qd (tv) rfl (cX (qG qf rfl ht.slv (qd (ii (0)) rfl (qb (qJ (jv (α := Nat × Value × List Int) (fun xQ => [(1, tv), (2, ptr b1 0), (5, xQ.2.1), (8, tv), (9, ii ((t.length : Int))), (10, ii (((xQ.1 : Nat) : Int)))]) (fun xQ => intsH 3 xQ.2.1 xQ.2.2 :: cellsH b1 [arv, rsv] 77 :: L) (fun xQ F' => F = F' ∧ (IsSl xQ.2.1) ∧ (xQ.1 ≤ t.length) ∧ (xQ.2.2 = redTo ar rs t xQ.1)) (fun xQ => t.length - xQ.1) (0, sN, []) ⟨rfl, rfl, rfl, rfl, rfl, rfl, ⟨⟩⟩ (qW (intsH.addNil 3 none _) (sC (sC sR))) ⟨rfl, (⟨_, _, _, rfl⟩), (by (try dsimp only) <;> omega), (rfl)⟩ ?_)))))))))))))))
 rintro ⟨k, ov, os⟩ rE _ _ ⟨rfl, hov, hk, hos⟩
 show X _ _ _ _ (envs [(1, tv), (2, ptr b1 0), (5, ov), (8, tv), (9, ii ((t.length : Int))), (10, ii ((k : Int)))] rE) _ (intsH 3 ov os :: cellsH b1 [arv, rsv] 77 :: L)
 dsimp only at hov hk hos
 have hol : os.length ≤ k := by rw [hos]; exact redTo_len
 refine qc (qa (cX (qX rfl rfl (qb (qc ?_)))))
 refine qE (p := (k : Int) < (t.length : Int)) rfl (fun h1 => ?_) (fun h1 => ?_)
 ·refine qA (qc (qJ (qc (qa (qd (ii ((k : Int))) rfl (cX (qx k qf qC rfl rfl rfl ht.slv (by omega) (Nat.mul_one _) (cX (qj jh rfl (ht.rd (by omega)) (qh (ii ((k : Int))) rfl (qh (ii (t.getD k 0)) rfl (qb (qc (qa (qd (ii (t.getD k 0)) rfl (cX (jV rfl rfl (qd (.bool (decide ((t.getD k 0 : Int) ≥ 0))) rfl ?_))))))))))))))))))
  by_cases h2 : (t.getD k 0 : Int) ≥ 0
  ·refine qs (t := 17) rfl (vT h2) (qv [arv, rsv] yj jQ rfl rfl (Rd.ownN [_] rfl rfl) (qs (t := 17) rfl (vT h2) (ql (tv) rfl (qs (t := 17) rfl (vT h2) (ql (ii ((k : Int))) rfl (qs (t := 17) rfl (vT h2) (qt (args := [.agg #[arv, rsv], tv, ii (k : Int)]) call67 rfl (ruleAt_spec (p := k) har hrs ht (hsys := (by first | assumption | rfl | omega | simp)) (ho := (by first | assumption | rfl | omega | simp)) (hp := (by first | assumption | rfl | omega | simp))) ?_)))))))
   rintro _ _ _ _ ⟨rfl, rfl, rfl⟩
   refine qs (t := 17) rfl (vT h2) (jV rfl rfl (cX (qT (.bool (decide ((ruleAtL ar rs t k : Int) ≥ 0))) (vT h2) rfl (qb ?_))))
   refine qE (p := (ruleAtL ar rs t k : Int) ≥ 0) rfl (fun h3 => ?_) (fun h3 => ?_)
   ·refine qa (qd (ov) rfl (qd (ii ((k : Int))) rfl (cX (qD (s := 1) [ii ((k : Int))] [ii (0)] [(0, [ii ((k : Int))])] ja jC zeroValue3 rfl (by decide) rfl (.cons rfl CellsAre.nil) rfl ?_))))
    intro v1 hv1
    refine cX (XOp.append1 (u := (k : Int)) [_] _ ja typeInfo3 rfl rfl rfl rfl rfl rfl (SlV.own [] rfl) (Rd.sl [] rfl rfl) (by (try simp only [List.length_append, List.length_nil, List.length_cons, List.length_singleton, List.length_take, List.length_drop]); omega) ?_)
    intro v2 hs1 hn1
    refine qh (v2) rfl (qb (qa (cX (qM (((k + 1 : Nat) : Int)) rfl rfl (by omega) (by omega) (qd (ii (((k + 1 : Nat) : Int))) rfl (qb ?_))))))
    exact ⟨(k + 1, v2, os ++ [(k : Int)]), _, FLe.refl _, rF, ⟨rfl, rfl, rfl, rfl, rfl, rfl, ⟨⟩⟩, (sD (sC (sC sR))), ⟨rfl, (hs1), (by (try dsimp only) <;> omega), ((by dsimp only; rw [hos]; first | exact (redTo_yes (by omega)).symm | exact (redTo_no (by omega)).symm | exact (redTo_no (by rw [ruleAt_var hsys ho (by omega) (by omega)]; omega)).symm))⟩, (by omega)⟩
   refine qA (qa (cX (qM (((k + 1 : Nat) : Int)) rfl rfl (by omega) (by omega) (qd (ii (((k + 1 : Nat) : Int))) rfl (qb ?_)))))
   exact ⟨(k + 1, ov, os), _, FLe.refl _, rF, ⟨rfl, rfl, rfl, rfl, rfl, rfl, ⟨⟩⟩, (sC (sC sR)), ⟨rfl, (hov), (by (try dsimp only) <;> omega), ((by dsimp only; rw [hos]; first | exact (redTo_yes (by omega)).symm | exact (redTo_no (by omega)).symm | exact (redTo_no (by rw [ruleAt_var hsys ho (by omega) (by omega)]; omega)).symm))⟩, (by omega)⟩
  refine qq (t := 17) rfl (vF h2) (qq (t := 17) rfl (vF h2) (qq (t := 17) rfl (vF h2) (qq (t := 17) rfl (vF h2) (qq (t := 17) rfl (vF h2) (cX (qP (.bool (false)) (vF h2) rfl (qb (jW rfl (qA (qa (cX (qM (((k + 1 : Nat) : Int)) rfl rfl (by omega) (by omega) ?_))))))))))))
  refine qd (ii (((k + 1 : Nat) : Int))) rfl (qb ?_)
  exact ⟨(k + 1, ov, os), _, FLe.refl _, rF, ⟨rfl, rfl, rfl, rfl, rfl, rfl, ⟨⟩⟩, (sC (sC sR)), ⟨rfl, (hov), (by (try dsimp only) <;> omega), ((by dsimp only; rw [hos]; first | exact (redTo_yes (by omega)).symm | exact (redTo_no (by omega)).symm | exact (redTo_no (by rw [ruleAt_var hsys ho (by omega) (by omega)]; omega)).symm))⟩, (by omega)⟩
 refine jn (qz (qz (qR (qc (qa (qd (ov) rfl (qh (ov) rfl (qb (qw (qu (L' := intsH 3 ov os :: L) [ov] (ov) (.tmp rfl .nil) rfl rF rF (sC (sD sR)) ?_))))))))))
 refine ⟨rfl, hov, ?_⟩
 have hxs : (redL ar rs t : List Int) = os := by rw [hos, redL, show k = t.length from by omega]
 exact congrArg (fun z => intsH 3 _ z :: L) hxs

/- impl.inmost -/
theorem inmost_spec {F : FH} {L : List HP} {arv : Value} {ar : List Int} (har : IntsF F arv ar) {rsv : Value} {rs : List (List Int × List Int)} (hrs : PairsF F rsv rs) {tv : Value} {t : List Int} (ht : IntsF F tv t) (hsys : sysOk ar rs = true) (ho : termOk ar t = true) :
    Does prog 94 [.agg #[arv, rsv], tv] F (L) (fun v F' L' => F = F' ∧ IsSl v ∧ intsH 3 v (inL ar rs t) :: L = L') := by
 refine qH func94 rfl rfl rfl ?_
 have hnn := jx ht (by have := termOk_len ho; omega)
 have htl := termOk_len ho
 have hrl := (sysOk_iff.1 hsys).2.1
 have hsig := (sysOk_iff.1 hsys).1
 have hsl := sigOk_spec hsig
 have hrd := redL_len (ar := ar) (rs := rs) (t := t)
 refine qc (qa (cX (qY [arv, rsv] rfl rfl ?_)))
 intro b1
 refine qh (sN) rfl (qb (qc (qa (cX (qv [arv, rsv] yj jQ rfl rfl (Rd.ownN [] rfl rfl) (qd (tv) rfl (cX (jT <| qt (args := [.agg #[arv, rsv], tv]) call76 rfl (redexes_spec har hrs ht (hsys := (by first | assumption | rfl | omega | simp)) (ho := (by first | assumption | rfl | omega | simp))) ?_))))))))
 rintro v1 _ _ _ ⟨rfl, hs1, rfl⟩
 refine ⟨_, _, rfl, fun F1 le1 hz1 => ?_⟩
 replace har := har.mono le1
 replace ht := ht.mono le1
 have hf1 : IntsF F1 v1 ((redL ar rs t)) := intsH.fz (xs := (redL ar rs t)) hz1.fz
 refine qh (v1) rfl (qb (qc (qa (qh (sN) rfl (qb (qc (qc (qa (qd (v1) rfl (cX (qG ja rfl hf1.slv (qd (ii (0)) rfl (qb (qJ (jv (α := Nat × Value × List Int) (fun xQ => [(1, tv), (2, ptr b1 0), (5, v1), (6, xQ.2.1), (12, v1), (13, ii (((((redL ar rs t)).length : Nat) : Int))), (14, ii (((xQ.1 : Nat) : Int)))]) (fun xQ => intsH 3 xQ.2.1 xQ.2.2 :: cellsH b1 [arv, rsv] 77 :: L) (fun xQ F' => F1 = F' ∧ (IsSl xQ.2.1) ∧ (xQ.1 ≤ (redL ar rs t).length) ∧ (xQ.2.2 = inTo ar t (redL ar rs t) xQ.1)) (fun xQ => (redL ar rs t).length - xQ.1) (0, sN, []) ⟨rfl, rfl, rfl, rfl, rfl, rfl, rfl, ⟨⟩⟩ (qW (intsH.addNil 3 none _) (sC (sC sR))) ⟨rfl, (⟨_, _, _, rfl⟩), (by (try dsimp only) <;> omega), (rfl)⟩ ?_)))))))))))))))
 rintro ⟨k, ov, os⟩ rE _ _ ⟨rfl, hov, hk, hos⟩
 show X _ _ _ _ (envs [(1, tv), (2, ptr b1 0), (5, v1), (6, ov), (12, v1), (13, ii (((((redL ar rs t)).length : Nat) : Int))), (14, ii ((k : Int)))] rE) _ (intsH 3 ov os :: cellsH b1 [arv, rsv] 77 :: L)
 dsimp only at hov hk hos
 have hol : os.length ≤ k := by rw [hos]; exact inTo_len
 have hsp := fun h => redL_spec (ar := ar) (rs := rs) (t := t) 0 k h
 have has := fun h => redL_asc (ar := ar) (rs := rs) (t := t) (i := k) h
 refine qc (qa (cX (qX rfl rfl (qb (qc ?_)))))
 refine qE (p := (k : Int) < ((((redL ar rs t)).length : Nat) : Int)) rfl (fun h1 => ?_) (fun h1 => ?_)
 ·refine qA (qc (qJ (qc (qa (qd (ii ((k : Int))) rfl (cX (qx k ja jC rfl rfl rfl hf1.slv (by omega) (Nat.mul_one _) (cX (qj yd rfl (hf1.rd (by omega)) (qh (ii ((k : Int))) rfl (qh (ii (((redL ar rs t)).getD k 0)) rfl (qb (qc ?_)))))))))))))
  by_cases h2 : (((k + 1 : Nat) : Int) : Int) = ((((redL ar rs t)).length : Nat) : Int)
  ·refine jL [intsH 3 ov os, cellsH b1 [arv, rsv] 77] L 15 [] [[], [0], [], [2], [1, 3], [4], [5], [5, 6], [5], [5], [5], [5], [5, 11], [5, 10, 12], [5, 13]] (phiL [qe (ii ((k : Int)) : Value), qe (ii (((k + 1 : Nat) : Int)) : Value), qe v1, qe (ii (((((redL ar rs t)).length : Nat) : Int)) : Value), qe (.bool (decide ((((k + 1 : Nat) : Int) : Int) = ((((redL ar rs t)).length : Nat) : Int))) : Value), qe (.bool (decide ((((k + 1 : Nat) : Int) : Int) = ((((redL ar rs t)).length : Nat) : Int))) : Value), qe undef, qe undef, qe undef, qe undef, qe undef, qe undef, qe undef, qe undef, qe undef]) (ownL []) mixed rfl rfl (by kernel_rfl) ?_ ?_
   ·refine pD (fun W R z9 => ?_) ?_
    ·refine qg (ql (ii ((k : Int))) rfl ?_)
     exact ⟨rfl, rfl, rfl⟩
    refine pD (fun W R z9 => ?_) ?_
    ·rw [zA 0 (z9 0 rfl)]
     refine qg (qM (((k + 1 : Nat) : Int)) rfl rfl (by omega) (by omega) ?_)
     exact ⟨rfl, rfl, rfl⟩
    refine pD (fun W R z9 => ?_) ?_
    ·refine qg (ql (v1) rfl ?_)
     exact ⟨rfl, rfl, rfl⟩
    refine pD (fun W R z9 => ?_) ?_
    ·rw [zA 2 (z9 2 rfl)]
     refine qg (qG ja rfl hf1.slv ?_)
     exact ⟨rfl, rfl, rfl⟩
    refine pD (fun W R z9 => ?_) ?_
    ·rw [zB 1 3 (z9 1 rfl) (z9 3 rfl)]
     refine qg (jo rfl rfl ?_)
     exact ⟨rfl, rfl, rfl⟩
    refine pD (fun W R z9 => ?_) ?_
    ·rw [zA 4 (z9 4 rfl)]
     refine qg (ql (.bool (decide ((((k + 1 : Nat) : Int) : Int) = ((((redL ar rs t)).length : Nat) : Int)))) rfl ?_)
     exact ⟨rfl, rfl, rfl⟩
    refine pD (fun W R z9 => ?_) ?_
    ·rw [zA 5 (z9 5 rfl)]
     exact jt (t := 24) rfl (vT h2) ⟨rfl, rfl, rfl⟩
    refine pD (fun W R z9 => ?_) ?_
    ·rw [eS (l := [(5, _), (6, undef)]) ⟨z9 5 rfl, z9 6 rfl, ⟨⟩⟩]
     exact jt (t := 24) rfl (vT h2) ⟨rfl, rfl, rfl⟩
    refine pD (fun W R z9 => ?_) ?_
    ·rw [zA 5 (z9 5 rfl)]
     exact jt (t := 24) rfl (vT h2) ⟨rfl, rfl, rfl⟩
    refine pD (fun W R z9 => ?_) ?_
    ·rw [zA 5 (z9 5 rfl)]
     exact jt (t := 24) rfl (vT h2) ⟨rfl, rfl, rfl⟩
    refine pD (fun W R z9 => ?_) ?_
    ·rw [zA 5 (z9 5 rfl)]
     exact jt (t := 24) rfl (vT h2) ⟨rfl, rfl, rfl⟩
    refine pD (fun W R z9 => ?_) ?_
    ·rw [zA 5 (z9 5 rfl)]
     exact jt (t := 24) rfl (vT h2) ⟨rfl, rfl, rfl⟩
    refine pD (fun W R z9 => ?_) ?_
    ·rw [eS (l := [(5, _), (11, undef)]) ⟨z9 5 rfl, z9 11 rfl, ⟨⟩⟩]
     exact jt (t := 24) rfl (vT h2) ⟨rfl, rfl, rfl⟩
    refine pD (fun W R z9 => ?_) ?_
    ·rw [eS (l := [(5, _), (10, undef), (12, undef)]) ⟨z9 5 rfl, z9 10 rfl, z9 12 rfl, ⟨⟩⟩]
     exact jt (t := 24) rfl (vT h2) ⟨rfl, rfl, rfl⟩
    refine pD (fun W R z9 => ?_) ?_
    ·rw [eS (l := [(5, _), (13, undef)]) ⟨z9 5 rfl, z9 13 rfl, ⟨⟩⟩]
     exact jt (t := 24) rfl (vT h2) ⟨rfl, rfl, rfl⟩
    exact stepsP.nil
   intro W hphi
   rw [eS (l := [(5, _), (7, undef), (8, undef), (9, undef), (14, undef)]) ⟨(hphi 5 (by decide)), (hphi 7 (by decide)), (hphi 8 (by decide)), (hphi 9 (by decide)), (hphi 14 (by decide)), ⟨⟩⟩]
   show XL _ _ _ _ _ _ _ (intsH 3 ov os :: cellsH b1 [arv, rsv] 77 :: L)
   refine qq (t := 24) rfl (vT h2) (qq (t := 24) rfl (vT h2) (cX (qT (.bool (true)) (vT h2) rfl (qb (jO rfl (qa (qd (ov) rfl (qd (ii (((redL ar rs t)).getD k 0)) rfl (cX (qD (s := 1) [ii (((redL ar rs t)).getD k 0)] [ii (0)] [(0, [ii (((redL ar rs t)).getD k 0)])] ja jC zeroValue3 rfl (by decide) rfl (.cons rfl CellsAre.nil) rfl ?_))))))))))
   intro v2 hv1
   refine cX (XOp.append1 (u := ((redL ar rs t)).getD k 0) [_] _ ja typeInfo3 rfl rfl rfl rfl rfl rfl (SlV.own [] rfl) (Rd.sl [] rfl rfl) (by (try simp only [List.length_append, List.length_nil, List.length_cons, List.length_singleton, List.length_take, List.length_drop]); omega) ?_)
   intro v3 hs2 hn1
   refine qh (v3) rfl (qb (qa (cX (qM (((k + 1 : Nat) : Int)) rfl rfl (by omega) (by omega) (qd (ii (((k + 1 : Nat) : Int))) rfl (qb ?_))))))
   exact ⟨(k + 1, v3, os ++ [((redL ar rs t)).getD k 0]), _, FLe.refl _, rF, ⟨rfl, rfl, rfl, rfl, rfl, rfl, rfl, ⟨⟩⟩, (sD (sC (sC sR))), ⟨rfl, (hs2), (by (try dsimp only) <;> omega), ((by dsimp only; rw [hos]; first | exact (inTo_yes (by simp only [inOk, decide_eq_true_eq]; omega)).symm | exact (inTo_no (by simp only [inOk, decide_eq_false_iff_not]; omega)).symm))⟩, (by omega)⟩
  refine jL [intsH 3 ov os, cellsH b1 [arv, rsv] 77] L 15 [] [[], [0], [], [2], [1, 3], [4], [5], [5, 6], [5], [5], [5], [5], [5, 11], [5, 10, 12], [5, 13]] (phiL [qe (ii ((k : Int)) : Value), qe (ii (((k + 1 : Nat) : Int)) : Value), qe v1, qe (ii (((((redL ar rs t)).length : Nat) : Int)) : Value), qe (.bool (decide ((((k + 1 : Nat) : Int) : Int) = ((((redL ar rs t)).length : Nat) : Int))) : Value), qe (.bool (decide ((((k + 1 : Nat) : Int) : Int) = ((((redL ar rs t)).length : Nat) : Int))) : Value), qe (ptr b1 0), qe (.agg #[arv]), qe tv, qe (ii (((redL ar rs t)).getD k 0)), qe v1, qe (ii ((k : Int)) : Value), qe (ii (((k + 1 : Nat) : Int)) : Value), qe (.pointer (some (elemA v1 (k + 1)))), qe (ii (((redL ar rs t)).getD (k + 1) 0))]) (ownL []) mixed rfl rfl (by kernel_rfl) ?_ ?_
  ·refine pD (fun W R z9 => ?_) ?_
   ·refine qg (ql (ii ((k : Int))) rfl ?_)
    exact ⟨rfl, rfl, rfl⟩
   refine pD (fun W R z9 => ?_) ?_
   ·rw [zA 0 (z9 0 rfl)]
    refine qg (qM (((k + 1 : Nat) : Int)) rfl rfl (by omega) (by omega) ?_)
    exact ⟨rfl, rfl, rfl⟩
   refine pD (fun W R z9 => ?_) ?_
   ·refine qg (ql (v1) rfl ?_)
    exact ⟨rfl, rfl, rfl⟩
   refine pD (fun W R z9 => ?_) ?_
   ·rw [zA 2 (z9 2 rfl)]
    refine qg (qG ja rfl hf1.slv ?_)
    exact ⟨rfl, rfl, rfl⟩
   refine pD (fun W R z9 => ?_) ?_
   ·rw [zB 1 3 (z9 1 rfl) (z9 3 rfl)]
    refine qg (jo rfl rfl ?_)
    exact ⟨rfl, rfl, rfl⟩
   refine pD (fun W R z9 => ?_) ?_
   ·rw [zA 4 (z9 4 rfl)]
    refine qg (ql (.bool (decide ((((k + 1 : Nat) : Int) : Int) = ((((redL ar rs t)).length : Nat) : Int)))) rfl ?_)
    exact ⟨rfl, rfl, rfl⟩
   refine pD (fun W R z9 => ?_) ?_
   ·rw [zA 5 (z9 5 rfl)]
    refine jm (t := 24) rfl (vF h2) (qn (0) jc rfl qB (by decide) rfl rfl ?_)
    exact ⟨rfl, rfl, rfl⟩
   refine pD (fun W R z9 => ?_) ?_
   ·rw [zB 5 6 (z9 5 rfl) (z9 6 rfl)]
    refine jm (t := 24) rfl (vF h2) (qv [arv] qU qB rfl rfl (Rd.ownN [_] rfl rfl) ?_)
    exact ⟨rfl, rfl, rfl⟩
   refine pD (fun W R z9 => ?_) ?_
   ·rw [zA 5 (z9 5 rfl)]
    refine jm (t := 24) rfl (vF h2) (ql (tv) rfl ?_)
    exact ⟨rfl, rfl, rfl⟩
   refine pD (fun W R z9 => ?_) ?_
   ·rw [zA 5 (z9 5 rfl)]
    refine jm (t := 24) rfl (vF h2) (ql (ii (((redL ar rs t)).getD k 0)) rfl ?_)
    exact ⟨rfl, rfl, rfl⟩
   refine pD (fun W R z9 => ?_) ?_
   ·rw [zA 5 (z9 5 rfl)]
    refine jm (t := 24) rfl (vF h2) (ql (v1) rfl ?_)
    exact ⟨rfl, rfl, rfl⟩
   refine pD (fun W R z9 => ?_) ?_
   ·rw [zA 5 (z9 5 rfl)]
    refine jm (t := 24) rfl (vF h2) (ql (ii ((k : Int))) rfl ?_)
    exact ⟨rfl, rfl, rfl⟩
   refine pD (fun W R z9 => ?_) ?_
   ·rw [zB 5 11 (z9 5 rfl) (z9 11 rfl)]
    refine jm (t := 24) rfl (vF h2) (qM (((k + 1 : Nat) : Int)) rfl rfl (by omega) (by omega) ?_)
    exact ⟨rfl, rfl, rfl⟩
   refine pD (fun W R z9 => ?_) ?_
   ·rw [eS (l := [(5, _), (10, _), (12, _)]) ⟨z9 5 rfl, z9 10 rfl, z9 12 rfl, ⟨⟩⟩]
    refine jm (t := 24) rfl (vF h2) (qx (k + 1) ja jC rfl rfl rfl hf1.slv (by omega) (Nat.mul_one _) ?_)
    exact ⟨rfl, rfl, rfl⟩
   refine pD (fun W R z9 => ?_) ?_
   ·rw [zB 5 13 (z9 5 rfl) (z9 13 rfl)]
    refine jm (t := 24) rfl (vF h2) (qj yd rfl (hf1.rd (by omega)) ?_)
    exact ⟨rfl, rfl, rfl⟩
   exact stepsP.nil
  intro W hphi
  rw [eS (l := [(5, _), (7, _), (8, _), (9, _), (14, _)]) ⟨(hphi 5 (by decide)), (hphi 7 (by decide)), (hphi 8 (by decide)), (hphi 9 (by decide)), (hphi 14 (by decide)), ⟨⟩⟩]
  show XL _ _ _ _ _ _ _ (intsH 3 ov os :: cellsH b1 [arv, rsv] 77 :: L)
  refine qs (t := 24) rfl (vF h2) (qt (args := [.agg #[arv], tv, ii (((((redL ar rs t)).getD k 0).toNat : Nat) : Int), ii (((redL ar rs t)).getD (k + 1) 0)]) call102 (by rw [show (((((redL ar rs t)).getD k 0).toNat : Nat) : Int) = ((redL ar rs t)).getD k 0 from by omega]; rfl) (inside_spec (p := (((redL ar rs t)).getD k 0).toNat) (q := ((redL ar rs t)).getD (k + 1) 0) har ht (ho := (by first | assumption | rfl | omega | simp)) (hp := (by first | assumption | rfl | omega | simp))) ?_)
  rintro _ _ _ _ ⟨rfl, rfl, rfl⟩
  refine qs (t := 24) rfl (vF h2) (XOp.notD rfl (cX (qP (.bool (decide (¬((((((redL ar rs t)).getD k 0).toNat) : Int) ≤ (((redL ar rs t)).getD (k + 1) 0) ∧ (((redL ar rs t)).getD (k + 1) 0) < (endN ar t ((((redL ar rs t)).getD k 0).toNat) : Int))))) (vF h2) rfl (qb ?_))))
  refine qE (p := ¬((((((redL ar rs t)).getD k 0).toNat) : Int) ≤ (((redL ar rs t)).getD (k + 1) 0) ∧ (((redL ar rs t)).getD (k + 1) 0) < (endN ar t ((((redL ar rs t)).getD k 0).toNat) : Int))) rfl (fun h3 => ?_) (fun h3 => ?_)
  ·refine qa (qd (ov) rfl (qd (ii (((redL ar rs t)).getD k 0)) rfl (cX (qD (s := 1) [ii (((redL ar rs t)).getD k 0)] [ii (0)] [(0, [ii (((redL ar rs t)).getD k 0)])] ja jC zeroValue3 rfl (by decide) rfl (.cons rfl CellsAre.nil) rfl ?_))))
   intro v4 hv2
   refine cX (XOp.append1 (u := ((redL ar rs t)).getD k 0) [_] _ ja typeInfo3 rfl rfl rfl rfl rfl rfl (SlV.own [] rfl) (Rd.sl [] rfl rfl) (by (try simp only [List.length_append, List.length_nil, List.length_cons, List.length_singleton, List.length_take, List.length_drop]); omega) ?_)
   intro v5 hs3 hn2
   refine qh (v5) rfl (qb (qa (cX (qM (((k + 1 : Nat) : Int)) rfl rfl (by omega) (by omega) (qd (ii (((k + 1 : Nat) : Int))) rfl (qb ?_))))))
   exact ⟨(k + 1, v5, os ++ [((redL ar rs t)).getD k 0]), _, FLe.refl _, rF, ⟨rfl, rfl, rfl, rfl, rfl, rfl, rfl, ⟨⟩⟩, (sD (sC (sC sR))), ⟨rfl, (hs3), (by (try dsimp only) <;> omega), ((by dsimp only; rw [hos]; first | exact (inTo_yes (by simp only [inOk, decide_eq_true_eq]; omega)).symm | exact (inTo_no (by simp only [inOk, decide_eq_false_iff_not]; omega)).symm))⟩, (by omega)⟩
  refine qA (qa (cX (qM (((k + 1 : Nat) : Int)) rfl rfl (by omega) (by omega) (qd (ii (((k + 1 : Nat) : Int))) rfl (qb ?_)))))
  exact ⟨(k + 1, ov, os), _, FLe.refl _, rF, ⟨rfl, rfl, rfl, rfl, rfl, rfl, rfl, ⟨⟩⟩, (sC (sC sR)), ⟨rfl, (hov), (by (try dsimp only) <;> omega), ((by dsimp only; rw [hos]; first | exact (inTo_yes (by simp only [inOk, decide_eq_true_eq]; omega)).symm | exact (inTo_no (by simp only [inOk, decide_eq_false_iff_not]; omega)).symm))⟩, (by omega)⟩
 refine jn (qz (qz (qR (qc (qa (qd (ov) rfl (qh (ov) rfl (qb (qw (qu (L' := intsH 3 ov os :: L) [ov] (ov) (.tmp rfl .nil) rfl rF le1 (sC (sD sR)) ?_))))))))))
 refine ⟨rfl, hov, ?_⟩
 have hxs : (inL ar rs t : List Int) = os := by rw [hos, inL, show k = (redL ar rs t).length from by omega]
 exact congrArg (fun z => intsH 3 _ z :: L) hxs

/- (impl.choice).inmost -/
theorem chIn_spec {F : FH} {L : List HP} {arv : Value} {ar : List Int} (har : IntsF F arv ar) {rsv : Value} {rs : List (List Int × List Int)} (hrs : PairsF F rsv rs) {tv : Value} {t : List Int} (ht : IntsF F tv t) {allv : Value} {all : List Int} (hall : IntsF F allv all) (hsys : sysOk ar rs = true) (ho : termOk ar t = true) (hae : all = redL ar rs t) (hne : redL ar rs t ≠ []) :
    Does prog 77 [.agg #[arv, rsv, tv, allv]] F (L) (fun v F' L' => (ii ((inL ar rs t).getD 0 0) : Value) = v ∧ F = F' ∧ L = L') := by
 refine qH func77 rfl rfl rfl ?_
 have hnn := jx ht (by have := termOk_len ho; omega)
 have htl := termOk_len ho
 have hrl := (sysOk_iff.1 hsys).2.1
 have hsig := (sysOk_iff.1 hsys).1
 have hsl := sigOk_spec hsig
 have hrd := redL_len (ar := ar) (rs := rs) (t := t)
 have hipos := inL_pos hne
 have hapos : 0 < all.length := by rw [hae]; exact List.length_pos_iff.2 hne
 refine qc (qa (cX (qY [arv, rsv, tv, allv] rfl rfl ?_)))
 intro b1
 refine qh (ii (0)) rfl (qb (qc (qa (cX (qn (0) jZ rfl jQ (by decide) rfl rfl (cX (qv [arv, rsv] yj jQ rfl rfl (Rd.ownN [] rfl rfl) (cX (qn (2) jZ rfl qr (by decide) rfl rfl (cX (qj qN rfl (Rd.own [] rfl rfl) (cX (jT <| qt (args := [.agg #[arv, rsv], tv]) call94 rfl (inmost_spec har hrs ht (hsys := (by first | assumption | rfl | omega | simp)) (ho := (by first | assumption | rfl | omega | simp))) ?_)))))))))))))
 rintro v1 _ _ _ ⟨rfl, hs1, rfl⟩
 refine ⟨_, _, rfl, fun F1 le1 hz1 => ?_⟩
 have hf1 : IntsF F1 v1 ((inL ar rs t)) := intsH.fz (xs := (inL ar rs t)) hz1.fz
 refine cX (qx 0 ja jC rfl rfl rfl hf1.slv (by omega) (Nat.mul_one _) (cX (qj yd rfl (hf1.rd (by omega)) (qh (ii (((inL ar rs t)).getD 0 0)) rfl (qb (qw (qu (L' := L) [ii (((inL ar rs t)).getD 0 0)] (ii (((inL ar rs t)).getD 0 0)) (.tmp rfl .nil) rfl rF le1 (sD sR) ?_)))))))
 exact ⟨rfl, rfl, rfl⟩

/- (impl.choice).outmost -/
theorem chOut_spec {F : FH} {L : List HP} {arv : Value} {ar : List Int} (har : IntsF F arv ar) {rsv : Value} {rs : List (List Int × List Int)} (hrs : PairsF F rsv rs) {tv : Value} {t : List Int} (ht : IntsF F tv t) {allv : Value} {all : List Int} (hall : IntsF F allv all) (hsys : sysOk ar rs = true) (ho : termOk ar t = true) (hae : all = redL ar rs t) (hne : redL ar rs t ≠ []) :
    Does prog 78 [.agg #[arv, rsv, tv, allv]] F (L) (fun v F' L' => (ii ((redL ar rs t).getD 0 0) : Value) = v ∧ F = F' ∧ L = L') := by
 refine qH func78 rfl rfl rfl ?_
 have hnn := jx ht (by have := termOk_len ho; omega)
 have htl := termOk_len ho
 have hrl := (sysOk_iff.1 hsys).2.1
 have hsig := (sysOk_iff.1 hsys).1
 have hsl := sigOk_spec hsig
 have hrd := redL_len (ar := ar) (rs := rs) (t := t)
 have hipos := inL_pos hne
 have hapos : 0 < all.length := by rw [hae]; exact List.length_pos_iff.2 hne
 refine qc (qa (cX (qY [arv, rsv, tv, allv] rfl rfl ?_)))
 intro b1
 refine qh (ii (0)) rfl (qb (qc (qa (cX (qn (3) jZ rfl sizeOf141 (by decide) rfl rfl (cX (qj isAgg141 rfl (Rd.own [] rfl rfl) (cX (qx 0 ja jC rfl rfl rfl hall.slv (by omega) (Nat.mul_one _) (cX (qj yd rfl (hall.rd (by omega)) (qh (ii (all.getD 0 0)) rfl (qb (qw (qu (L' := L) [ii (all.getD 0 0)] (ii (all.getD 0 0)) (.tmp rfl .nil) rfl rF rF (sD sR) ?_)))))))))))))))
 exact ⟨(vI (by rw [hae])), rfl, rfl⟩

/- (impl.choice).last -/
theorem chLast_spec {F : FH} {L : List HP} {arv : Value} {ar : List Int} (har : IntsF F arv ar) {rsv : Value} {rs : List (List Int × List Int)} (hrs : PairsF F rsv rs) {tv : Value} {t : List Int} (ht : IntsF F tv t) {allv : Value} {all : List Int} (hall : IntsF F allv all) (hsys : sysOk ar rs = true) (ho : termOk ar t = true) (hae : all = redL ar rs t) (hne : redL ar rs t ≠ []) :
    Does prog 79 [.agg #[arv, rsv, tv, allv]] F (L) (fun v F' L' => (ii ((redL ar rs t).getD ((redL ar rs t).length - 1) 0) : Value) = v ∧ F = F' ∧ L = L') := by
 refine qH func79 rfl rfl rfl ?_
 have hnn := jx ht (by have := termOk_len ho; omega)
 have htl := termOk_len ho
 have hrl := (sysOk_iff.1 hsys).2.1
 have hsig := (sysOk_iff.1 hsys).1
 have hsl := sigOk_spec hsig
 have hrd := redL_len (ar := ar) (rs := rs) (t := t)
 have hipos := inL_pos hne
 have hapos : 0 < all.length := by rw [hae]; exact List.length_pos_iff.2 hne
 have hal2 : all.length ≤ 60 := by rw [hae]; omega
 refine qc (qa (cX (qY [arv, rsv, tv, allv] rfl rfl ?_)))
 intro b1
 refine qh (ii (0)) rfl (qb (qc (qa (cX (qn (3) jZ rfl sizeOf141 (by decide) rfl rfl (cX (qj isAgg141 rfl (Rd.own [] rfl rfl) (cX (qn (3) jZ rfl sizeOf141 (by decide) rfl rfl (cX (qj isAgg141 rfl (Rd.own [] rfl rfl) (cX (qG ja rfl hall.slv (cX (jq (((all.length : Int)) - 1) rfl rfl (by omega) (by omega) (cX (qx ((((all.length : Int)) - 1).toNat) ja jC rfl rfl (by omega) hall.slv (by omega) (Nat.mul_one _) (cX (qj yd rfl (hall.rd (by omega)) ?_)))))))))))))))))))
 refine qh (ii (all.getD ((((all.length : Int)) - 1).toNat) 0)) rfl (qb (qw (qu (L' := L) [ii (all.getD ((((all.length : Int)) - 1).toNat) 0)] (ii (all.getD ((((all.length : Int)) - 1).toNat) 0)) (.tmp rfl .nil) rfl rF rF (sD sR) ?_)))
 exact ⟨(vI (by rw [hae]; congr 1; omega)), rfl, rfl⟩

/- impl.pick -/
theorem pick1_spec {F : FH} {L : List HP} {arv : Value} {ar : List Int} (har : IntsF F arv ar) {rsv : Value} {rs : List (List Int × List Int)} (hrs : PairsF F rsv rs) {tv : Value} {t : List Int} (ht : IntsF F tv t)  (hsys : sysOk ar rs = true) (ho : termOk ar t = true) :
    Does prog 66 [.agg #[arv, rsv], tv, ii (1)] F (L) (fun v F' L' => (ii (pickL ar rs t 1) : Value) = v ∧ F = F' ∧ L = L') := by
 refine qH func66 rfl rfl rfl ?_
 have hnn := jx ht (by have := termOk_len ho; omega)
 have htl := termOk_len ho
 have hrl := (sysOk_iff.1 hsys).2.1
 have hsig := (sysOk_iff.1 hsys).1
 have hsl := sigOk_spec hsig
 have hrd := redL_len (ar := ar) (rs := rs) (t := t)
 refine qc (qa (cX (qY [arv, rsv] rfl rfl ?_)))
 intro b1
 refine qh (ii (0)) rfl (qb (qc ?_))
 refine yc [cellsH b1 [arv, rsv] 77] L 7 [[], [], [], [], [], [4]] [[], [], [], [], [2, 3], [0, 1, 4]] [] (phiG [pe (.agg #[arv, rsv]), pe tv, pe (.agg #[arv, rsv]), pe tv, fun FF us v => ((v) : Value) = v ∧ (IntsF FF (v) (redL ar rs t)), fun FF us v => v = (.agg #[arv, rsv, tv, ((us.getD 0 undef))] : Value), fun FF us v => v = ptr (blk v) 0]) (ownL [o0, o0, o0, o0, o0, o0, fun us v => [cellsH (blk v) [sN, sN, sN, sN] 144]]) mixed rfl rfl (by kernel_rfl) (by kernel_rfl) (MonoG.get (m1 (m1 (m1 (m1 (mC (fun le h => ⟨h.1, h.2.mono le⟩) (mC (fun le h => h) (mC (fun le h => h) MonoG.nil)))))))) ?_ ?_
 ·refine gD (fun W Fs R lF z9 => ?_) ?_
  ·replace har := har.mono lF
   replace hrs := hrs.mono lF
   replace ht := ht.mono lF
   refine qg (qv [arv, rsv] yj jQ rfl rfl (Rd.ownN [] rfl rfl) ?_)
   exact ⟨rfl, rfl⟩
  refine gD (fun W Fs R lF z9 => ?_) ?_
  ·refine qg (ql (tv) rfl ?_)
   exact ⟨rfl, rfl⟩
  refine gD (fun W Fs R lF z9 => ?_) ?_
  ·replace har := har.mono lF
   replace hrs := hrs.mono lF
   replace ht := ht.mono lF
   refine qg (qv [arv, rsv] yj jQ rfl rfl (Rd.ownN [] rfl rfl) ?_)
   exact ⟨rfl, rfl⟩
  refine gD (fun W Fs R lF z9 => ?_) ?_
  ·refine qg (ql (tv) rfl ?_)
   exact ⟨rfl, rfl⟩
  refine gD (fun W Fs R lF z9 => ?_) ?_
  ·replace har := har.mono lF
   replace hrs := hrs.mono lF
   replace ht := ht.mono lF
   rw [zB 2 3 (z9 2 rfl) (z9 3 rfl)]
   refine qg (jT <| qt (args := [.agg #[arv, rsv], tv]) call76 rfl (redexes_spec har hrs ht (hsys := (by first | assumption | rfl | omega | simp)) (ho := (by first | assumption | rfl | omega | simp))) ?_)
   rintro v2 _ _ _ ⟨rfl, hs2, rfl⟩
   refine ⟨_, _, rfl, fun F1 le1 hz1 => ?_⟩
   replace har := har.mono le1
   replace hrs := hrs.mono le1
   replace ht := ht.mono le1
   have hf1 : IntsF F1 v2 ((redL ar rs t)) := intsH.fz (xs := (redL ar rs t)) hz1.fz
   exact ⟨⟨rfl, hf1⟩, rfl⟩
  refine gD (fun W Fs R lF z9 => ?_) ?_
  ·obtain ⟨e4, f4_1ha⟩ := z9 4 rfl
   replace har := har.mono lF
   replace hrs := hrs.mono lF
   replace ht := ht.mono lF
   rw [eS (l := [(0, _), (1, _), (4, ((W 4)))]) ⟨z9 0 rfl, z9 1 rfl, (e4).symm, ⟨⟩⟩]
   refine qg (qZ [arv, rsv, tv, ((W 4))] [sN, sN, sN, sN] [(0, 2), (2, 1), (3, 1)] [(0, [arv, rsv]), (1, [tv]), (2, [((W 4))])] jZ zeroValue144 rfl (.cons rfl jQ (.cons rfl qr (.cons rfl sizeOf141 PlacesAre.nil))) rfl (.cons rfl (.cons (cells_one (qp ht)) (.cons (cells_one (qp f4_1ha)) CellsAre.nil))) ?_)
   exact ⟨rfl, rfl⟩
  refine gD (fun W Fs R lF z9 => ?_) ?_
  ·replace har := har.mono lF
   replace hrs := hrs.mono lF
   replace ht := ht.mono lF
   refine qg (je [sN, sN, sN, sN] zeroValue144 rfl ?_)
   intro b3
   exact ⟨rfl, rfl⟩
  exact stepsG.nil
 intro W F2 le2 hphi
 obtain ⟨e4, f4_1ha⟩ := hphi 4 (by decide)
 have e5 : W 5 = (.agg #[arv, rsv, tv, ((W 4))] : Value) := hphi 5 (by decide)
 have e6 : W 6 = ptr (blk (W 6)) 0 := hphi 6 (by decide)
 generalize hu1 : ((W 4)) = u1 at e4 f4_1ha e5 e6
 generalize hu2 : blk (W 6) = b4 at e4 f4_1ha e5 e6
 rw [eS (l := [(4, u1), (5, (.agg #[arv, rsv, tv, u1])), (6, ptr b4 0)]) ⟨hu1, e5, e6, ⟨⟩⟩]
 replace har := har.mono le2
 replace hrs := hrs.mono le2
 replace ht := ht.mono le2
 show XL _ _ _ _ _ _ _ (cellsH b4 [sN, sN, sN, sN] 144 :: cellsH b1 [arv, rsv] 77 :: L)
 refine cX (qI [] _ [arv, rsv, tv, u1] sizeOf144 rfl rfl rfl (qm (qy (qp har)) (qm (qy (PairsF.isSl hrs)) (qm (qy (qp ht)) (qm (qy (qp f4_1ha)) qO)))) rfl rfl rfl (qb (qc (qc (qa (cX (qn (3) jZ rfl sizeOf141 (by decide) rfl rfl (cX (qj isAgg141 rfl (Rd.own [] rfl rfl) (cX (qG ja rfl f4_1ha.slv (cX (jo rfl rfl (qb ?_))))))))))))))
 refine qE (p := (((((redL ar rs t)).length : Nat) : Int) : Int) = 0) rfl (fun h1 => ?_) (fun h1 => ?_)
 ·refine qc (qa (qh (ii (-1)) rfl (qb (qw (qo (qu (L' := L) [ii (-1)] (ii (-1)) (.tmp rfl .nil) rfl rF le2 (sD (sD sR)) ?_))))))
  exact ⟨(vI (by rw [pickL, if_pos (List.eq_nil_of_length_eq_zero (by omega))])), rfl, rfl⟩
 have hne : redL ar rs t ≠ [] := by intro e; rw [e] at h1; simp at h1
 refine qA (qc (qa (cX (qv [arv, rsv, tv, u1] isAgg144 sizeOf144 rfl rfl (Rd.ownN [] rfl rfl) (cX (yg [.agg #[arv, rsv, tv, u1]] [] rfl rfl (cX (qv [arv, rsv, tv, u1] isAgg144 sizeOf144 rfl rfl (Rd.ownN [] rfl rfl) (cX (yg [.agg #[arv, rsv, tv, u1]] [] rfl rfl (cX (qv [arv, rsv, tv, u1] isAgg144 sizeOf144 rfl rfl (Rd.ownN [] rfl rfl) (cX (yg [.agg #[arv, rsv, tv, u1]] [] rfl rfl (cX (qD (s := 1) [.func (.func 77) #[.agg #[arv, rsv, tv, u1]] #[], .func (.func 78) #[.agg #[arv, rsv, tv, u1]] #[], .func (.func 79) #[.agg #[arv, rsv, tv, u1]] #[]] [(.nilFunc)] [(0, [.func (.func 77) #[.agg #[arv, rsv, tv, u1]] #[]]), (1, [.func (.func 78) #[.agg #[arv, rsv, tv, u1]] #[]]), (2, [.func (.func 79) #[.agg #[arv, rsv, tv, u1]] #[]])] runUnderlying145 sizeOf81 zeroValue81 rfl (by decide) rfl (.cons rfl (.cons rfl (.cons rfl CellsAre.nil))) rfl ?_))))))))))))))))
 intro v3 hv1
 refine qh (v3) rfl (qb (qc (qa (qd (v3) rfl (qd (ii (1)) rfl (cX (jq (0) rfl rfl (by omega) (by omega) (cX (qx 0 runUnderlying145 sizeOf81 rfl rfl rfl (SlV.own [] rfl) (by omega) (Nat.mul_one _) (cX (qj isAgg81 rfl (Rd.sl [] rfl rfl) (cX (XOp.callV (first := [.agg #[arv, rsv, tv, u1]]) (captured := []) (args := [.agg #[arv, rsv, tv, u1]]) call77 rfl rfl (chIn_spec har hrs ht f4_1ha (hsys := (by first | assumption | rfl | omega | simp)) (ho := (by first | assumption | rfl | omega | simp)) (hae := (rfl)) (hne := (by first | assumption | rfl | omega | simp))) ?_)))))))))))))
 rintro _ _ _ _ ⟨rfl, rfl, rfl⟩
 refine qh (ii ((inL ar rs t).getD 0 0)) rfl (qb (qw (qu (L' := L) [ii ((inL ar rs t).getD 0 0)] (ii ((inL ar rs t).getD 0 0)) (.tmp rfl .nil) rfl rF le2 (sD (sD (sD sR))) ?_)))
 exact ⟨(vI (by rw [pickL, if_neg hne]; rfl)), rfl, rfl⟩

/- impl.pick -/
theorem pick2_spec {F : FH} {L : List HP} {arv : Value} {ar : List Int} (har : IntsF F arv ar) {rsv : Value} {rs : List (List Int × List Int)} (hrs : PairsF F rsv rs) {tv : Value} {t : List Int} (ht : IntsF F tv t)  (hsys : sysOk ar rs = true) (ho : termOk ar t = true) :
    Does prog 66 [.agg #[arv, rsv], tv, ii (2)] F (L) (fun v F' L' => (ii (pickL ar rs t 2) : Value) = v ∧ F = F' ∧ L = L') := by
 refine qH func66 rfl rfl rfl ?_
 have hnn := jx ht (by have := termOk_len ho; omega)
 have htl := termOk_len ho
 have hrl := (sysOk_iff.1 hsys).2.1
 have hsig := (sysOk_iff.1 hsys).1
 have hsl := sigOk_spec hsig
 have hrd := redL_len (ar := ar) (rs := rs) (t := t)
 refine qc (qa (cX (qY [arv, rsv] rfl rfl ?_)))
 intro b1
 refine qh (ii (0)) rfl (qb (qc ?_))
 refine yc [cellsH b1 [arv, rsv] 77] L 7 [[], [], [], [], [], [4]] [[], [], [], [], [2, 3], [0, 1, 4]] [] (phiG [pe (.agg #[arv, rsv]), pe tv, pe (.agg #[arv, rsv]), pe tv, fun FF us v => ((v) : Value) = v ∧ (IntsF FF (v) (redL ar rs t)), fun FF us v => v = (.agg #[arv, rsv, tv, ((us.getD 0 undef))] : Value), fun FF us v => v = ptr (blk v) 0]) (ownL [o0, o0, o0, o0, o0, o0, fun us v => [cellsH (blk v) [sN, sN, sN, sN] 144]]) mixed rfl rfl (by kernel_rfl) (by kernel_rfl) (MonoG.get (m1 (m1 (m1 (m1 (mC (fun le h => ⟨h.1, h.2.mono le⟩) (mC (fun le h => h) (mC (fun le h => h) MonoG.nil)))))))) ?_ ?_
 ·refine gD (fun W Fs R lF z9 => ?_) ?_
  ·replace har := har.mono lF
   replace hrs := hrs.mono lF
   replace ht := ht.mono lF
   refine qg (qv [arv, rsv] yj jQ rfl rfl (Rd.ownN [] rfl rfl) ?_)
   exact ⟨rfl, rfl⟩
  refine gD (fun W Fs R lF z9 => ?_) ?_
  ·refine qg (ql (tv) rfl ?_)
   exact ⟨rfl, rfl⟩
  refine gD (fun W Fs R lF z9 => ?_) ?_
  ·replace har := har.mono lF
   replace hrs := hrs.mono lF
   replace ht := ht.mono lF
   refine qg (qv [arv, rsv] yj jQ rfl rfl (Rd.ownN [] rfl rfl) ?_)
   exact ⟨rfl, rfl⟩
  refine gD (fun W Fs R lF z9 => ?_) ?_
  ·refine qg (ql (tv) rfl ?_)
   exact ⟨rfl, rfl⟩
  refine gD (fun W Fs R lF z9 => ?_) ?_
  ·replace har := har.mono lF
   replace hrs := hrs.mono lF
   replace ht := ht.mono lF
   rw [zB 2 3 (z9 2 rfl) (z9 3 rfl)]
   refine qg (jT <| qt (args := [.agg #[arv, rsv], tv]) call76 rfl (redexes_spec har hrs ht (hsys := (by first | assumption | rfl | omega | simp)) (ho := (by first | assumption | rfl | omega | simp))) ?_)
   rintro v2 _ _ _ ⟨rfl, hs2, rfl⟩
   refine ⟨_, _, rfl, fun F1 le1 hz1 => ?_⟩
   replace har := har.mono le1
   replace hrs := hrs.mono le1
   replace ht := ht.mono le1
   have hf1 : IntsF F1 v2 ((redL ar rs t)) := intsH.fz (xs := (redL ar rs t)) hz1.fz
   exact ⟨⟨rfl, hf1⟩, rfl⟩
  refine gD (fun W Fs R lF z9 => ?_) ?_
  ·obtain ⟨e4, f4_1ha⟩ := z9 4 rfl
   replace har := har.mono lF
   replace hrs := hrs.mono lF
   replace ht := ht.mono lF
   rw [eS (l := [(0, _), (1, _), (4, ((W 4)))]) ⟨z9 0 rfl, z9 1 rfl, (e4).symm, ⟨⟩⟩]
   refine qg (qZ [arv, rsv, tv, ((W 4))] [sN, sN, sN, sN] [(0, 2), (2, 1), (3, 1)] [(0, [arv, rsv]), (1, [tv]), (2, [((W 4))])] jZ zeroValue144 rfl (.cons rfl jQ (.cons rfl qr (.cons rfl sizeOf141 PlacesAre.nil))) rfl (.cons rfl (.cons (cells_one (qp ht)) (.cons (cells_one (qp f4_1ha)) CellsAre.nil))) ?_)
   exact ⟨rfl, rfl⟩
  refine gD (fun W Fs R lF z9 => ?_) ?_
  ·replace har := har.mono lF
   replace hrs := hrs.mono lF
   replace ht := ht.mono lF
   refine qg (je [sN, sN, sN, sN] zeroValue144 rfl ?_)
   intro b3
   exact ⟨rfl, rfl⟩
  exact stepsG.nil
 intro W F2 le2 hphi
 obtain ⟨e4, f4_1ha⟩ := hphi 4 (by decide)
 have e5 : W 5 = (.agg #[arv, rsv, tv, ((W 4))] : Value) := hphi 5 (by decide)
 have e6 : W 6 = ptr (blk (W 6)) 0 := hphi 6 (by decide)
 generalize hu1 : ((W 4)) = u1 at e4 f4_1ha e5 e6
 generalize hu2 : blk (W 6) = b4 at e4 f4_1ha e5 e6
 rw [eS (l := [(4, u1), (5, (.agg #[arv, rsv, tv, u1])), (6, ptr b4 0)]) ⟨hu1, e5, e6, ⟨⟩⟩]
 replace har := har.mono le2
 replace hrs := hrs.mono le2
 replace ht := ht.mono le2
 show XL _ _ _ _ _ _ _ (cellsH b4 [sN, sN, sN, sN] 144 :: cellsH b1 [arv, rsv] 77 :: L)
 refine cX (qI [] _ [arv, rsv, tv, u1] sizeOf144 rfl rfl rfl (qm (qy (qp har)) (qm (qy (PairsF.isSl hrs)) (qm (qy (qp ht)) (qm (qy (qp f4_1ha)) qO)))) rfl rfl rfl (qb (qc (qc (qa (cX (qn (3) jZ rfl sizeOf141 (by decide) rfl rfl (cX (qj isAgg141 rfl (Rd.own [] rfl rfl) (cX (qG ja rfl f4_1ha.slv (cX (jo rfl rfl (qb ?_))))))))))))))
 refine qE (p := (((((redL ar rs t)).length : Nat) : Int) : Int) = 0) rfl (fun h1 => ?_) (fun h1 => ?_)
 ·refine qc (qa (qh (ii (-1)) rfl (qb (qw (qo (qu (L' := L) [ii (-1)] (ii (-1)) (.tmp rfl .nil) rfl rF le2 (sD (sD sR)) ?_))))))
  exact ⟨(vI (by rw [pickL, if_pos (List.eq_nil_of_length_eq_zero (by omega))])), rfl, rfl⟩
 have hne : redL ar rs t ≠ [] := by intro e; rw [e] at h1; simp at h1
 refine qA (qc (qa (cX (qv [arv, rsv, tv, u1] isAgg144 sizeOf144 rfl rfl (Rd.ownN [] rfl rfl) (cX (yg [.agg #[arv, rsv, tv, u1]] [] rfl rfl (cX (qv [arv, rsv, tv, u1] isAgg144 sizeOf144 rfl rfl (Rd.ownN [] rfl rfl) (cX (yg [.agg #[arv, rsv, tv, u1]] [] rfl rfl (cX (qv [arv, rsv, tv, u1] isAgg144 sizeOf144 rfl rfl (Rd.ownN [] rfl rfl) (cX (yg [.agg #[arv, rsv, tv, u1]] [] rfl rfl (cX (qD (s := 1) [.func (.func 77) #[.agg #[arv, rsv, tv, u1]] #[], .func (.func 78) #[.agg #[arv, rsv, tv, u1]] #[], .func (.func 79) #[.agg #[arv, rsv, tv, u1]] #[]] [(.nilFunc)] [(0, [.func (.func 77) #[.agg #[arv, rsv, tv, u1]] #[]]), (1, [.func (.func 78) #[.agg #[arv, rsv, tv, u1]] #[]]), (2, [.func (.func 79) #[.agg #[arv, rsv, tv, u1]] #[]])] runUnderlying145 sizeOf81 zeroValue81 rfl (by decide) rfl (.cons rfl (.cons rfl (.cons rfl CellsAre.nil))) rfl ?_))))))))))))))))
 intro v3 hv1
 refine qh (v3) rfl (qb (qc (qa (qd (v3) rfl (qd (ii (2)) rfl (cX (jq (1) rfl rfl (by omega) (by omega) (cX (qx 1 runUnderlying145 sizeOf81 rfl rfl rfl (SlV.own [] rfl) (by omega) (Nat.mul_one _) (cX (qj isAgg81 rfl (Rd.sl [] rfl rfl) (cX (XOp.callV (first := [.agg #[arv, rsv, tv, u1]]) (captured := []) (args := [.agg #[arv, rsv, tv, u1]]) call78 rfl rfl (chOut_spec har hrs ht f4_1ha (hsys := (by first | assumption | rfl | omega | simp)) (ho := (by first | assumption | rfl | omega | simp)) (hae := (by first | assumption | rfl | omega | simp)) (hne := (by first | assumption | rfl | omega | simp))) ?_)))))))))))))
 rintro _ _ _ _ ⟨rfl, rfl, rfl⟩
 refine qh (ii ((redL ar rs t).getD 0 0)) rfl (qb (qw (qu (L' := L) [ii ((redL ar rs t).getD 0 0)] (ii ((redL ar rs t).getD 0 0)) (.tmp rfl .nil) rfl rF le2 (sD (sD (sD sR))) ?_)))
 exact ⟨(vI (by rw [pickL, if_neg hne]; rfl)), rfl, rfl⟩

/- impl.pick -/
theorem pick3_spec {F : FH} {L : List HP} {arv : Value} {ar : List Int} (har : IntsF F arv ar) {rsv : Value} {rs : List (List Int × List Int)} (hrs : PairsF F rsv rs) {tv : Value} {t : List Int} (ht : IntsF F tv t)  (hsys : sysOk ar rs = true) (ho : termOk ar t = true) :
    Does prog 66 [.agg #[arv, rsv], tv, ii (3)] F (L) (fun v F' L' => (ii (pickL ar rs t 3) : Value) = v ∧ F = F' ∧ L = L') := by
 refine qH func66 rfl rfl rfl ?_
 have hnn := jx ht (by have := termOk_len ho; omega)
 have htl := termOk_len ho
 have hrl := (sysOk_iff.1 hsys).2.1
 have hsig := (sysOk_iff.1 hsys).1
 have hsl := sigOk_spec hsig
 have hrd := redL_len (ar := ar) (rs := rs) (t := t)
 refine qc (qa (cX (qY [arv, rsv] rfl rfl ?_)))
 intro b1
 refine qh (ii (0)) rfl (qb (qc ?_))
 refine yc [cellsH b1 [arv, rsv] 77] L 7 [[], [], [], [], [], [4]] [[], [], [], [], [2, 3], [0, 1, 4]] [] (phiG [pe (.agg #[arv, rsv]), pe tv, pe (.agg #[arv, rsv]), pe tv, fun FF us v => ((v) : Value) = v ∧ (IntsF FF (v) (redL ar rs t)), fun FF us v => v = (.agg #[arv, rsv, tv, ((us.getD 0 undef))] : Value), fun FF us v => v = ptr (blk v) 0]) (ownL [o0, o0, o0, o0, o0, o0, fun us v => [cellsH (blk v) [sN, sN, sN, sN] 144]]) mixed rfl rfl (by kernel_rfl) (by kernel_rfl) (MonoG.get (m1 (m1 (m1 (m1 (mC (fun le h => ⟨h.1, h.2.mono le⟩) (mC (fun le h => h) (mC (fun le h => h) MonoG.nil)))))))) ?_ ?_
 ·refine gD (fun W Fs R lF z9 => ?_) ?_
  ·replace har := har.mono lF
   replace hrs := hrs.mono lF
   replace ht := ht.mono lF
   refine qg (qv [arv, rsv] yj jQ rfl rfl (Rd.ownN [] rfl rfl) ?_)
   exact ⟨rfl, rfl⟩
  refine gD (fun W Fs R lF z9 => ?_) ?_
  ·refine qg (ql (tv) rfl ?_)
   exact ⟨rfl, rfl⟩
  refine gD (fun W Fs R lF z9 => ?_) ?_
  ·replace har := har.mono lF
   replace hrs := hrs.mono lF
   replace ht := ht.mono lF
   refine qg (qv [arv, rsv] yj jQ rfl rfl (Rd.ownN [] rfl rfl) ?_)
   exact ⟨rfl, rfl⟩
  refine gD (fun W Fs R lF z9 => ?_) ?_
  ·refine qg (ql (tv) rfl ?_)
   exact ⟨rfl, rfl⟩
  refine gD (fun W Fs R lF z9 => ?_) ?_
  ·replace har := har.mono lF
   replace hrs := hrs.mono lF
   replace ht := ht.mono lF
   rw [zB 2 3 (z9 2 rfl) (z9 3 rfl)]
   refine qg (jT <| qt (args := [.agg #[arv, rsv], tv]) call76 rfl (redexes_spec har hrs ht (hsys := (by first | assumption | rfl | omega | simp)) (ho := (by first | assumption | rfl | omega | simp))) ?_)
   rintro v2 _ _ _ ⟨rfl, hs2, rfl⟩
   refine ⟨_, _, rfl, fun F1 le1 hz1 => ?_⟩
   replace har := har.mono le1
   replace hrs := hrs.mono le1
   replace ht := ht.mono le1
   have hf1 : IntsF F1 v2 ((redL ar rs t)) := intsH.fz (xs := (redL ar rs t)) hz1.fz
   exact ⟨⟨rfl, hf1⟩, rfl⟩
  refine gD (fun W Fs R lF z9 => ?_) ?_
  ·obtain ⟨e4, f4_1ha⟩ := z9 4 rfl
   replace har := har.mono lF
   replace hrs := hrs.mono lF
   replace ht := ht.mono lF
   rw [eS (l := [(0, _), (1, _), (4, ((W 4)))]) ⟨z9 0 rfl, z9 1 rfl, (e4).symm, ⟨⟩⟩]
   refine qg (qZ [arv, rsv, tv, ((W 4))] [sN, sN, sN, sN] [(0, 2), (2, 1), (3, 1)] [(0, [arv, rsv]), (1, [tv]), (2, [((W 4))])] jZ zeroValue144 rfl (.cons rfl jQ (.cons rfl qr (.cons rfl sizeOf141 PlacesAre.nil))) rfl (.cons rfl (.cons (cells_one (qp ht)) (.cons (cells_one (qp f4_1ha)) CellsAre.nil))) ?_)
   exact ⟨rfl, rfl⟩
  refine gD (fun W Fs R lF z9 => ?_) ?_
  ·replace har := har.mono lF
   replace hrs := hrs.mono lF
   replace ht := ht.mono lF
   refine qg (je [sN, sN, sN, sN] zeroValue144 rfl ?_)
   intro b3
   exact ⟨rfl, rfl⟩
  exact stepsG.nil
 intro W F2 le2 hphi
 obtain ⟨e4, f4_1ha⟩ := hphi 4 (by decide)
 have e5 : W 5 = (.agg #[arv, rsv, tv, ((W 4))] : Value) := hphi 5 (by decide)
 have e6 : W 6 = ptr (blk (W 6)) 0 := hphi 6 (by decide)
 generalize hu1 : ((W 4)) = u1 at e4 f4_1ha e5 e6
 generalize hu2 : blk (W 6) = b4 at e4 f4_1ha e5 e6
 rw [eS (l := [(4, u1), (5, (.agg #[arv, rsv, tv, u1])), (6, ptr b4 0)]) ⟨hu1, e5, e6, ⟨⟩⟩]
 replace har := har.mono le2
 replace hrs := hrs.mono le2
 replace ht := ht.mono le2
 show XL _ _ _ _ _ _ _ (cellsH b4 [sN, sN, sN, sN] 144 :: cellsH b1 [arv, rsv] 77 :: L)
 refine cX (qI [] _ [arv, rsv, tv, u1] sizeOf144 rfl rfl rfl (qm (qy (qp har)) (qm (qy (PairsF.isSl hrs)) (qm (qy (qp ht)) (qm (qy (qp f4_1ha)) qO)))) rfl rfl rfl (qb (qc (qc (qa (cX (qn (3) jZ rfl sizeOf141 (by decide) rfl rfl (cX (qj isAgg141 rfl (Rd.own [] rfl rfl) (cX (qG ja rfl f4_1ha.slv (cX (jo rfl rfl (qb ?_))))))))))))))
 refine qE (p := (((((redL ar rs t)).length : Nat) : Int) : Int) = 0) rfl (fun h1 => ?_) (fun h1 => ?_)
 ·refine qc (qa (qh (ii (-1)) rfl (qb (qw (qo (qu (L' := L) [ii (-1)] (ii (-1)) (.tmp rfl .nil) rfl rF le2 (sD (sD sR)) ?_))))))
  exact ⟨(vI (by rw [pickL, if_pos (List.eq_nil_of_length_eq_zero (by omega))])), rfl, rfl⟩
 have hne : redL ar rs t ≠ [] := by intro e; rw [e] at h1; simp at h1
 refine qA (qc (qa (cX (qv [arv, rsv, tv, u1] isAgg144 sizeOf144 rfl rfl (Rd.ownN [] rfl rfl) (cX (yg [.agg #[arv, rsv, tv, u1]] [] rfl rfl (cX (qv [arv, rsv, tv, u1] isAgg144 sizeOf144 rfl rfl (Rd.ownN [] rfl rfl) (cX (yg [.agg #[arv, rsv, tv, u1]] [] rfl rfl (cX (qv [arv, rsv, tv, u1] isAgg144 sizeOf144 rfl rfl (Rd.ownN [] rfl rfl) (cX (yg [.agg #[arv, rsv, tv, u1]] [] rfl rfl (cX (qD (s := 1) [.func (.func 77) #[.agg #[arv, rsv, tv, u1]] #[], .func (.func 78) #[.agg #[arv, rsv, tv, u1]] #[], .func (.func 79) #[.agg #[arv, rsv, tv, u1]] #[]] [(.nilFunc)] [(0, [.func (.func 77) #[.agg #[arv, rsv, tv, u1]] #[]]), (1, [.func (.func 78) #[.agg #[arv, rsv, tv, u1]] #[]]), (2, [.func (.func 79) #[.agg #[arv, rsv, tv, u1]] #[]])] runUnderlying145 sizeOf81 zeroValue81 rfl (by decide) rfl (.cons rfl (.cons rfl (.cons rfl CellsAre.nil))) rfl ?_))))))))))))))))
 intro v3 hv1
 refine qh (v3) rfl (qb (qc (qa (qd (v3) rfl (qd (ii (3)) rfl (cX (jq (2) rfl rfl (by omega) (by omega) (cX (qx 2 runUnderlying145 sizeOf81 rfl rfl rfl (SlV.own [] rfl) (by omega) (Nat.mul_one _) (cX (qj isAgg81 rfl (Rd.sl [] rfl rfl) (cX (XOp.callV (first := [.agg #[arv, rsv, tv, u1]]) (captured := []) (args := [.agg #[arv, rsv, tv, u1]]) call79 rfl rfl (chLast_spec har hrs ht f4_1ha (hsys := (by first | assumption | rfl | omega | simp)) (ho := (by first | assumption | rfl | omega | simp)) (hae := (by first | assumption | rfl | omega | simp)) (hne := (by first | assumption | rfl | omega | simp))) ?_)))))))))))))
 rintro _ _ _ _ ⟨rfl, rfl, rfl⟩
 refine qh (ii ((redL ar rs t).getD ((redL ar rs t).length - 1) 0)) rfl (qb (qw (qu (L' := L) [ii ((redL ar rs t).getD ((redL ar rs t).length - 1) 0)] (ii ((redL ar rs t).getD ((redL ar rs t).length - 1) 0)) (.tmp rfl .nil) rfl rF le2 (sD (sD (sD sR))) ?_)))
 exact ⟨(vI (by rw [pickL, if_neg hne]; rfl)), rfl, rfl⟩

theorem pick_all {F : FH} {L : List HP} {arv : Value} {ar : List Int} (har : IntsF F arv ar) {rsv : Value} {rs : List (List Int × List Int)} (hrs : PairsF F rsv rs) {tv : Value} {t : List Int} (ht : IntsF F tv t) {st : Int} (hsys : sysOk ar rs = true) (ho : termOk ar t = true) (hst : 1 ≤ st ∧ st ≤ 3) :
    Does prog 66 [.agg #[arv, rsv], tv, .int .i64 st] F L (fun v F' L' => (ii (pickL ar rs t st) : Value) = v ∧ F = F' ∧ L = L') := by
  have h : st = 1 ∨ st = 2 ∨ st = 3 := by omega
  rcases h with rfl | rfl | rfl
  · exact pick1_spec har hrs ht hsys ho
  · exact pick2_spec har hrs ht hsys ho
  · exact pick3_spec har hrs ht hsys ho


/- slices.Grow[[]int64,int64] -/
theorem GrowNil_spec {F : FH} {L : List HP}  {n : Nat} (hg1 : 1 ≤ n) (hn : n ≤ 400000000) :
    Does prog 106 [sN, ii ((n : Int))] F (L) (fun v F' L' => F = F' ∧ IsSl v ∧ intsH 2 v ([]) :: L = L') := by
 refine qH func106 rfl rfl rfl (qc (qa (qh (sN) rfl (qb (qc (qc (qa (qd (ii ((n : Int))) rfl (cX (qX rfl rfl (qb ?_)))))))))))
 refine qE (p := (n : Int) < 0) rfl (fun h1 => ?_) (fun h1 => ?_)
 ·omega
 refine qA (qc (qc (qa (qd (ii ((n : Int))) rfl (qd (sN) rfl (cX (XOp.capNil qf rfl (qd (sN) rfl (cX (qG qf rfl SlV.nil (cX (jq (0 - (((0 : Nat) : Int))) rfl rfl (by omega) (by omega) (cX (jq (((n : Int)) - (0 - (((0 : Nat) : Int)))) rfl rfl (by omega) (by omega) (qh (ii (((n : Int)) - (0 - (((0 : Nat) : Int))))) rfl (qb (qc (qa ?_))))))))))))))))))
 refine qd (ii (((n : Int)) - (0 - (((0 : Nat) : Int))))) rfl (cX (jU rfl rfl (qb ?_)))
 refine qE (p := (((n : Int)) - (0 - (((0 : Nat) : Int))) : Int) > 0) rfl (fun h2 => ?_) (fun h2 => ?_)
 ·refine qa (qd (sN) rfl (qd (sN) rfl (cX (XOp.capNil qf rfl (cX (XOp.sliceNil qf qC rfl ⟨_, rfl⟩ (qd (ii (((n : Int)) - (0 - (((0 : Nat) : Int))))) rfl (cX (XOp.appendZ (s := 1) (bytes := 8) (n := (((n : Int)) - (0 - (((0 : Nat) : Int)))).toNat) [ii (0)] qf runUnderlying3 typeInfo2 rfl rfl rfl rfl rfl (by decide) rfl (by rw [show (((((n : Int)) - (0 - (((0 : Nat) : Int)))).toNat : Nat) : Int) = ((n : Int)) - (0 - (((0 : Nat) : Int))) from by omega]; rfl) (by omega) (by omega) (by omega) ?_)))))))))
  intro v1 hv1
  have hv2 : IsSl v1 := by obtain ⟨b0, c0, h0⟩ := hv1; exact ⟨_, _, _, h0⟩
  rw [intsH_zeros]
  refine qd (sN) rfl (cX (qG qf rfl SlV.nil (cX (XOp.sliceOwn (cs := List.map (Value.int .i64) ((List.replicate ((((n : Int)) - (0 - (((0 : Nat) : Int)))).toNat) 0))) [] _ 0 qf qC rfl rfl ⟨_, rfl⟩ (Nat.zero_le _) ?_))))
  intro v2 hs1
  show XL _ _ _ _ _ _ _ (intsH 2 v2 ([]) :: L)
  refine qh (v2) rfl (qb (qc (qa (qd (v2) rfl (qh (v2) rfl (qb (qw (qu (L' := intsH 2 v2 ([]) :: L) [v2] (v2) (.tmp rfl .nil) rfl rF rF (sC sR) ?_))))))))
  refine ⟨rfl, hs1, ?_⟩
  have hxs : ([] : List Int) = [] := rfl
  exact congrArg (fun z => intsH 2 _ z :: L) hxs
 omega

/- slices.Concat[[]int64,int64] -/
theorem Concat_spec {F : FH} {L : List HP} {xsv : Value} {xs : List (List Int)} (hxs : RowsF F xsv xs) (hg1 : 1 ≤ xs.flatten.length) (hn : xs.length ≤ 10) (hb : ∀ i, i < xs.length → (xs.getD i []).length ≤ 4000000) :
    Does prog 99 [xsv] F (L) (fun v F' L' => F = F' ∧ IsSl v ∧ intsH 2 v xs.flatten :: L = L') := by
 refine qH func99 rfl rfl rfl (qc (qa (qh (sN) rfl (qb (qc (qa (qh (ii (0)) rfl (qb (qc (qc (qa (qd (xsv) rfl (cX (qG jl rfl hxs.slv (qd (ii (0)) rfl (qb (qJ ?_)))))))))))))))))
 refine jv (α := Nat × Nat) (fun xQ => [(0, xsv), (3, ii (((xQ.2 : Nat) : Int))), (9, xsv), (10, ii ((xs.length : Int))), (11, ii (((xQ.1 : Nat) : Int)))]) (fun xQ => L) (fun xQ F' => F = F' ∧ (xQ.1 ≤ xs.length) ∧ (xQ.2 = (xs.take xQ.1).flatten.length) ∧ (xQ.2 ≤ xQ.1 * 4000000)) (fun xQ => xs.length - xQ.1) (0, 0) ⟨rfl, rfl, rfl, rfl, rfl, ⟨⟩⟩ sR ⟨rfl, (by (try dsimp only) <;> omega), (rfl), (by (try dsimp only) <;> omega)⟩ ?_
 rintro ⟨k, z⟩ rE _ _ ⟨rfl, hk, hz, hz2⟩
 show X _ _ _ _ (envs [(0, xsv), (3, ii ((z : Int))), (9, xsv), (10, ii ((xs.length : Int))), (11, ii ((k : Int)))] rE) _ (L)
 dsimp only at hk hz hz2
 have hbk := hb k
 have hft := fun h => congrArg List.length (flatten_take (xs := xs) (k := k) h)
 simp only [List.length_append] at hft
 refine qc (qa (cX (qX rfl rfl (qb (qc ?_)))))
 refine qE (p := (k : Int) < (xs.length : Int)) rfl (fun h1 => ?_) (fun h1 => ?_)
 ·refine qA (qc (qJ (qc (qa (cX (qx k jl qr rfl rfl rfl hxs.slv (by omega) (Nat.mul_one _) ?_))))))
  obtain ⟨a1, ha1, hr1⟩ := hxs.rd (i := k) (by omega)
  refine cX (qj qN rfl (hr1 _) (qh (a1) rfl (qb (qc (qa (qd (ii ((z : Int))) rfl (qd (a1) rfl (cX (qG qf rfl ha1.slv (cX (qM (((z + (((xs.getD k [])).length) : Nat) : Int)) rfl rfl (by omega) (by omega) (qh (ii (((z + (((xs.getD k [])).length) : Nat) : Int))) rfl (qb (qc (qa (qd (ii (((z + (((xs.getD k [])).length) : Nat) : Int))) rfl ?_))))))))))))))))
  refine cX (qX rfl rfl (qb ?_))
  refine qE (p := (((z + (((xs.getD k [])).length) : Nat) : Int) : Int) < 0) rfl (fun h2 => ?_) (fun h2 => ?_)
  ·omega
  refine qA (qa (cX (qM (((k + 1 : Nat) : Int)) rfl rfl (by omega) (by omega) (qd (ii (((k + 1 : Nat) : Int))) rfl (qb ?_)))))
  exact ⟨(k + 1, z + (((xs.getD k [])).length)), _, FLe.refl _, rF, ⟨rfl, rfl, rfl, rfl, rfl, ⟨⟩⟩, sR, ⟨rfl, (by (try dsimp only) <;> omega), (by (try dsimp only) <;> omega), (by (try dsimp only) <;> omega)⟩, (by omega)⟩
 refine jn (qz (qz (qR (qc (qa ?_)))))
 have hz1 : 1 ≤ z := by rw [hz, show xs.take k = xs from List.take_of_length_le (by omega)]; exact hg1
 refine qd (ii ((z : Int))) rfl (cX (qt (args := [sN, ii (z : Int)]) call106 rfl (GrowNil_spec (n := z) (hg1 := (hz1)) (hn := (by omega))) ?_))
 rintro v1 _ _ _ ⟨rfl, hs1, rfl⟩
 refine qh (v1) rfl (qb (qc (qc (qa (qd (xsv) rfl (cX (qG jl rfl hxs.slv (qd (ii (0)) rfl (qb (qJ (jv (α := Nat × Value × List Int) (fun xQ => [(6, xQ.2.1), (25, xsv), (26, ii ((xs.length : Int))), (27, ii (((xQ.1 : Nat) : Int)))]) (fun xQ => intsH 2 xQ.2.1 xQ.2.2 :: L) (fun xQ F' => F = F' ∧ (IsSl xQ.2.1) ∧ (xQ.1 ≤ xs.length) ∧ (xQ.2.2 = (xs.take xQ.1).flatten)) (fun xQ => xs.length - xQ.1) (0, v1, ([])) ⟨rfl, rfl, rfl, rfl, ⟨⟩⟩ (sC sR) ⟨rfl, (hs1), (by (try dsimp only) <;> omega), (rfl)⟩ ?_)))))))))))
 rintro ⟨k, ov, os⟩ rE _ _ ⟨rfl, hov, hk, hos⟩
 show X _ _ _ _ (envs [(6, ov), (25, xsv), (26, ii ((xs.length : Int))), (27, ii ((k : Int)))] rE) _ (intsH 2 ov os :: L)
 dsimp only at hov hk hos
 have hbk := hb k
 have hol : os.length ≤ k * 4000000 := by rw [hos]; exact flatten_bound hb k (by omega)
 refine qc (qa (cX (qX rfl rfl (qb (qc ?_)))))
 refine qE (p := (k : Int) < (xs.length : Int)) rfl (fun h3 => ?_) (fun h3 => ?_)
 ·refine qA (qc (qJ (qc (qa (cX (qx k jl qr rfl rfl rfl hxs.slv (by omega) (Nat.mul_one _) ?_))))))
  obtain ⟨a2, ha2, hr2⟩ := hxs.rd (i := k) (by omega)
  refine cX (qj qN rfl (hr2 _) (qh (a2) rfl (qb (qa (qd (ov) rfl (qd (a2) rfl (cX (XOp.appendI [] _ qf typeInfo2 rfl rfl rfl rfl rfl rfl ha2 (by (try simp only [List.length_append, List.length_nil, List.length_cons, List.length_singleton, List.length_take, List.length_drop]); omega) ?_))))))))
  intro v2 hs2 hn1 hm1
  refine qh (v2) rfl (qb (qa (cX (qM (((k + 1 : Nat) : Int)) rfl rfl (by omega) (by omega) (qd (ii (((k + 1 : Nat) : Int))) rfl (qb ?_))))))
  exact ⟨(k + 1, v2, os ++ ((xs.getD k []))), _, FLe.refl _, rF, ⟨rfl, rfl, rfl, rfl, ⟨⟩⟩, (sC sR), ⟨rfl, (hs2), (by (try dsimp only) <;> omega), ((by dsimp only; rw [hos, flatten_take (by omega)]))⟩, (by omega)⟩
 refine jn (qz (qz (qR (qc (qa (qd (ov) rfl (qh (ov) rfl (qb (qw (qu (L' := intsH 2 ov os :: L) [ov] (ov) (.tmp rfl .nil) rfl rF rF (sC sR) ?_))))))))))
 refine ⟨rfl, hov, ?_⟩
 have hxs : (xs.flatten : List Int) = os := by rw [hos, List.take_of_length_le (by omega)]
 exact congrArg (fun z => intsH 2 _ z :: L) hxs

/- impl.put -/
theorem put_spec {F : FH} {L : List HP} {arv : Value} {ar : List Int} (har : IntsF F arv ar) {tv : Value} {t : List Int} (ht : IntsF F tv t) {p : Nat} {uv : Value} {u : List Int} (hu : IntsF F uv u) (ho : termOk ar t = true) (hp : p < t.length) (hul : 1 ≤ u.length ∧ u.length ≤ 4000000) :
    Does prog 83 [.agg #[arv], tv, ii ((p : Int)), uv] F (L) (fun v F' L' => ∃ (a : Value), (.tuple #[a, .bool ((putL ar t p u).isSome)] : Value) = v ∧ (IntsF F' a ((putL ar t p u).getD [])) ∧ ((putL ar t p u).isSome = true → isNil a = false) ∧ (Fresh F F' (intsH 2 a ((putL ar t p u).getD []))) ∧ L = L') := by
 refine qH func83 rfl rfl rfl ?_
 have hsig := termOk_sig ho
 have hsl := sigOk_spec hsig
 have htl := termOk_len ho
 have hee := endN_spec ho hp
 refine qc (qa (cX (qY [arv] rfl rfl ?_)))
 intro b1
 refine qh (sN) rfl (qh (.bool (false)) rfl (qb (qc ?_)))
 refine yc [cellsH b1 [arv] 26] L 10 [] [[], [], [0, 1], [], [], [], [], [], [5, 6, 7], [4, 8]] [] (phiG [pe tv, pe (ii ((p : Int)) : Value), fun FF us v => (v : Value) = v ∧ (IntsF FF v ((t.drop 0).take (p - 0))) ∧ (isNil v = isNil tv), pe uv, pe tv, pe (.agg #[arv]), pe tv, pe (ii ((p : Int)) : Value), pe (ii (((endN ar t p : Nat) : Int)) : Value), fun FF us v => (v : Value) = v ∧ (IntsF FF v ((t.drop (endN ar t p)).take (((t).length) - (endN ar t p)))) ∧ (isNil v = isNil tv)]) (ownL []) mixed rfl rfl (by kernel_rfl) (by kernel_rfl) (MonoG.get (m1 (m1 (mC (fun le h => ⟨h.1, h.2.1.mono le, h.2.2⟩) (m1 (m1 (m1 (m1 (m1 (m1 (mC (fun le h => ⟨h.1, h.2.1.mono le, h.2.2⟩) MonoG.nil))))))))))) ?_ ?_
 ·refine gD (fun W Fs R lF z9 => ?_) ?_
  ·refine qg (ql (tv) rfl ?_)
   exact ⟨rfl, rfl⟩
  refine gD (fun W Fs R lF z9 => ?_) ?_
  ·refine qg (ql (ii ((p : Int))) rfl ?_)
   exact ⟨rfl, rfl⟩
  refine gD (fun W Fs R lF z9 => ?_) ?_
  ·replace har := har.mono lF
   replace ht := ht.mono lF
   replace hu := hu.mono lF
   rw [zB 0 1 (z9 0 rfl) (z9 1 rfl)]
   refine qg (XOp.sliceI 0 p qf qC rfl ht rfl ⟨_, rfl⟩ (by omega) (by omega) ?_)
   intro v3 hv3 hn3
   exact ⟨⟨rfl, hv3, hn3⟩, rfl⟩
  refine gD (fun W Fs R lF z9 => ?_) ?_
  ·refine qg (ql (uv) rfl ?_)
   exact ⟨rfl, rfl⟩
  refine gD (fun W Fs R lF z9 => ?_) ?_
  ·refine qg (ql (tv) rfl ?_)
   exact ⟨rfl, rfl⟩
  refine gD (fun W Fs R lF z9 => ?_) ?_
  ·replace har := har.mono lF
   replace ht := ht.mono lF
   replace hu := hu.mono lF
   refine qg (qv [arv] qU qB rfl rfl (Rd.ownN [] rfl rfl) ?_)
   exact ⟨rfl, rfl⟩
  refine gD (fun W Fs R lF z9 => ?_) ?_
  ·refine qg (ql (tv) rfl ?_)
   exact ⟨rfl, rfl⟩
  refine gD (fun W Fs R lF z9 => ?_) ?_
  ·refine qg (ql (ii ((p : Int))) rfl ?_)
   exact ⟨rfl, rfl⟩
  refine gD (fun W Fs R lF z9 => ?_) ?_
  ·replace har := har.mono lF
   replace ht := ht.mono lF
   replace hu := hu.mono lF
   rw [eS (l := [(5, _), (6, _), (7, _)]) ⟨z9 5 rfl, z9 6 rfl, z9 7 rfl, ⟨⟩⟩]
   refine qg (qt (args := [.agg #[arv], tv, ii (p : Int)]) call63 rfl (endAt_ok (p := p) har ht (ho := (by first | assumption | rfl | omega | (left; simp; done) | (right; simp; done))) (hp := (by first | assumption | rfl | omega | (left; simp; done) | (right; simp; done)))) ?_)
   rintro _ _ _ _ ⟨rfl, rfl, rfl⟩
   exact ⟨rfl, rfl⟩
  refine gD (fun W Fs R lF z9 => ?_) ?_
  ·replace har := har.mono lF
   replace ht := ht.mono lF
   replace hu := hu.mono lF
   rw [zB 4 8 (z9 4 rfl) (z9 8 rfl)]
   refine qg (XOp.sliceI (endN ar t p) ((t).length) qf qC rfl ht ⟨_, rfl⟩ rfl (by omega) (by omega) ?_)
   intro v4 hv4 hn4
   exact ⟨⟨rfl, hv4, hn4⟩, rfl⟩
  exact stepsG.nil
 intro W F1 le1 hphi
 obtain ⟨e2, f2_1hv, f2_1hn⟩ := hphi 2 (by decide)
 obtain ⟨e9, f9_1hv, f9_1hn⟩ := hphi 9 (by decide)
 generalize hu1 : (W 2) = u1 at e2 f2_1hv f2_1hn e9 f9_1hv f9_1hn
 generalize hu2 : (W 9) = u2 at e2 f2_1hv f2_1hn e9 f9_1hv f9_1hn
 rw [eS (l := [(2, u1), (3, _), (9, u2)]) ⟨hu1, (hphi 3 (by decide)), hu2, ⟨⟩⟩]
 replace hu := hu.mono le1
 show XL _ _ _ _ _ _ _ (cellsH b1 [arv] 26 :: L)
 refine cX (qD (s := 1) [u1, uv, u2] [sN] [(0, [u1]), (1, [uv]), (2, [u2])] jl qr zeroValue24 rfl (by decide) rfl (.cons (cells_one (qp f2_1hv)) (.cons (cells_one (qp hu)) (.cons (cells_one (qp f9_1hv)) CellsAre.nil))) rfl ?_)
 intro v5 hv5
 have hc1 : RowsC F1 [u1, uv, u2] ([((t.drop 0).take (p - 0)), u, ((t.drop (endN ar t p)).take (((t).length) - (endN ar t p)))] : List (List Int)) := (RowsC.snoc (RowsC.snoc (RowsC.snoc (CO.nil : RowsC F1 [] []) f2_1hv) hu) f9_1hv)
 refine XL.freezeF [] _ _ rfl (fun F2 le2 hz1 => ?_)
 replace hc1 := hc1.mono le2
 have hf1 : RowsF F2 v5 (([((t.drop 0).take (p - 0)), u, ((t.drop (endN ar t p)).take (((t).length) - (endN ar t p)))] : List (List Int))) := CO.fz hc1 (by first | rfl | omega | (rw [List.length_set]; omega) | (simp; done) | (rw [List.length_append]; simp only [List.length_singleton]; omega)) hz1.fz
 refine cX (jT <| qt (args := [v5]) call99 rfl (Concat_spec hf1 (hg1 := (by simp; omega)) (hn := (by first | assumption | rfl | omega | simp)) (hb := (fun i hi => by match i, hi with | 0, _ => simp; omega | 1, _ => simp; omega | 2, _ => simp; omega))) ?_)
 rintro v6 _ _ _ ⟨rfl, hs1, rfl⟩
 refine ⟨_, _, rfl, fun F3 le3 hz2 => ?_⟩
 have hf2 : IntsF F3 v6 (((([((t.drop 0).take (p - 0)), u, ((t.drop (endN ar t p)).take (((t).length) - (endN ar t p)))] : List (List Int))).flatten)) := intsH.fz (xs := ((([((t.drop 0).take (p - 0)), u, ((t.drop (endN ar t p)).take (((t).length) - (endN ar t p)))] : List (List Int))).flatten)) hz2.fz
 refine qh (v6) rfl (qb (qc (qc (qa (qd (v6) rfl (cX (qG qf rfl hf2.slv (cX (jU rfl rfl (qb ?_))))))))))
 refine qE (p := ((((((([((t.drop 0).take (p - 0)), u, ((t.drop (endN ar t p)).take (((t).length) - (endN ar t p)))] : List (List Int))).flatten)).length : Nat) : Int) : Int) > 60) rfl (fun h1 => ?_) (fun h1 => ?_)
 ·refine qc (qa (qh (sN) rfl (qh (.bool (false)) rfl (qb (qw (qo (qu (L' := L) [sN, .bool (false)] (.tuple #[sN, .bool (false)]) (.tmp rfl (.tmp rfl .nil)) rfl (qi (qi le1 le2) le3) rF (sD sR) ?_)))))))
  have hz : putL ar t p u = none := putL_none put_flat (by omega)
  exact ⟨_, by rw [hz]; rfl, by rw [hz]; exact IntsF.nilV, fun h => (by rw [hz] at h; cases h), by rw [hz]; exact Fresh.ofNil _, rfl⟩
 refine qA (qc (qa (qd (v6) rfl (qh (v6) rfl (qh (.bool (true)) rfl (qb (qw (qu (L' := L) [v6, .bool (true)] (.tuple #[v6, .bool (true)]) (.tmp rfl (.tmp rfl .nil)) rfl (qi (qi le1 le2) le3) rF (sD sR) ?_))))))))
 have hz := putL_some (ar := ar) (t := t) (p := p) (u := u) put_flat (by omega)
 exact ⟨_, by rw [hz]; rfl, by rw [hz]; exact hf2, fun _ => jx hf2 (by rw [put_flat]; simp; omega), by rw [hz]; exact (hz2.base (qi le1 le2)), rfl⟩

/- (impl.Subst).byVar -/
theorem byVar_spec {F : FH} {L : List HP} {sv : Value} {s : List (List Int)} (hs : RowsF F sv s) {i : Nat} (hsl : s.length ≤ 4000000) :
    Does prog 105 [.agg #[sv], ii ((i : Int))] F (L) (fun v F' L' => F = F' ∧ ∃ (a : Value), (a : Value) = v ∧ (IntsF F' a (s.getD i [])) ∧ (isNil a = decide (s.getD i [] = [])) ∧ L = L') := by
 refine qH func105 rfl rfl rfl (qc (qa (cX (qY [sv] rfl rfl ?_))))
 intro b1
 refine qh (sN) rfl (qb (qc (qc (qa (qd (ii ((i : Int))) rfl (cX (qn (0) jY rfl sizeOf128 (by decide) rfl rfl (cX (qj isAgg128 rfl (Rd.own [] rfl rfl) (cX (qG jl rfl hs.slv (cX (jV rfl rfl (qd (.bool (decide ((i : Int) ≥ (s.length : Int)))) rfl ?_))))))))))))))
 by_cases h1 : (i : Int) ≥ (s.length : Int)
 ·refine qq (t := 10) rfl (vT h1) (qq (t := 10) rfl (vT h1) (qq (t := 10) rfl (vT h1) (qq (t := 10) rfl (vT h1) (qq (t := 10) rfl (vT h1) (qq (t := 10) rfl (vT h1) (qq (t := 10) rfl (vT h1) (cX (qT (.bool (true)) (vT h1) rfl (qb (jO rfl ?_))))))))))
  refine qc (qa (qh (sN) rfl (qb (qw (qo (qu (L' := L) [sN] (sN) (.tmp rfl .nil) rfl rF rF (sD sR) ?_))))))
  have e : s.getD i [] = [] := by first | exact List.eq_nil_of_length_eq_zero (by omega) | (rw [List.getD_eq_getElem?_getD, List.getElem?_eq_none (by omega)]; rfl)
  exact ⟨rfl, _, rfl, by rw [e]; exact IntsF.nilV, by rw [e]; rfl, rfl⟩
 refine qs (t := 10) rfl (vF h1) (qn (0) jY rfl sizeOf128 (by decide) rfl rfl (qs (t := 10) rfl (vF h1) (qj isAgg128 rfl (Rd.own [] rfl rfl) (qs (t := 10) rfl (vF h1) (ql (ii ((i : Int))) rfl (qs (t := 10) rfl (vF h1) (qx i jl qr rfl rfl rfl hs.slv (by omega) (Nat.mul_one _) ?_)))))))
 obtain ⟨a1, ha1, hr1⟩ := hs.rd (i := i) (by omega)
 refine qs (t := 10) rfl (vF h1) (qj qN rfl (hr1 _) (qs (t := 10) rfl (vF h1) (qG qf rfl ha1.slv (qs (t := 10) rfl (vF h1) (jo rfl rfl (cX (qP (.bool (decide ((((((s.getD i [])).length : Nat) : Int) : Int) = 0))) (vF h1) rfl (qb ?_))))))))
 refine qE (p := (((((s.getD i [])).length : Nat) : Int) : Int) = 0) rfl (fun h2 => ?_) (fun h2 => ?_)
 ·refine qc (qa (qh (sN) rfl (qb (qw (qo (qu (L' := L) [sN] (sN) (.tmp rfl .nil) rfl rF rF (sD sR) ?_))))))
  have e : s.getD i [] = [] := by first | exact List.eq_nil_of_length_eq_zero (by omega) | (rw [List.getD_eq_getElem?_getD, List.getElem?_eq_none (by omega)]; rfl)
  exact ⟨rfl, _, rfl, by rw [e]; exact IntsF.nilV, by rw [e]; rfl, rfl⟩
 refine qA (qc (qa (cX (qn (0) jY rfl sizeOf128 (by decide) rfl rfl (cX (qj isAgg128 rfl (Rd.own [] rfl rfl) (qd (ii ((i : Int))) rfl (cX (qx i jl qr rfl rfl rfl hs.slv (by omega) (Nat.mul_one _) (cX (qj qN rfl (hr1 _) (qh (a1) rfl (qb (qw (qu (L' := L) [a1] (a1) (.tmp rfl .nil) rfl rF rF (sD sR) ?_)))))))))))))))
 have e : s.getD i [] ≠ [] := by intro e; have := congrArg List.length e; simp only [List.length_nil] at this; omega
 exact ⟨rfl, _, rfl, ha1, by rw [jx ha1 (List.length_pos_iff.2 e)]; exact (decide_eq_false e).symm, rfl⟩

/- (impl.Subst).lookup$1 -/
theorem lookup1_spec {F : FH} {L : List HP} {n : Int} {sv : Value} {s : List (List Int)} (hs : RowsF F sv s) {b : Nat} (hzb : FzC F b [sv]) (hsl : s.length ≤ 4000000) (hg : -4000000 ≤ n) :
    Does prog 104 [ii (n), ptr b 0] F (L) (fun v F' L' => F = F' ∧ ∃ (a : Value), (a : Value) = v ∧ (IntsF F' a (lkN s n)) ∧ (isNil a = decide (lkN s n = [])) ∧ L = L') := by
 refine qH func104 rfl rfl rfl (qc (qa (qh (sN) rfl (qb (qc (qc (qa (qd (ii (n)) rfl (cX (jV rfl rfl (qb ?_)))))))))))
 refine qE (p := (n : Int) ≥ 0) rfl (fun h1 => ?_) (fun h1 => ?_)
 ·refine qc (qa (qh (sN) rfl (qb (qw (qo (qu (L' := L) [sN] (sN) (.tmp rfl .nil) rfl rF rF sR ?_))))))
  have e : lkN s n = [] := lkN_pos (by omega)
  exact ⟨rfl, _, rfl, by rw [e]; exact IntsF.nilV, by rw [e]; rfl, rfl⟩
 refine qA (qc (qa (cX (qv [sv] isAgg148 sizeOf148 rfl rfl (FzC.rd hzb rfl) (qd (ii (n)) rfl (cX (jq ((-1) - n) rfl rfl (by omega) (by omega) (cX (qt (args := [.agg #[sv], ii ((((-1) - n).toNat : Nat) : Int)]) call105 (by rw [show ((((-1) - n).toNat : Nat) : Int) = (-1) - n from by omega]; rfl) (byVar_spec (i := ((-1) - n).toNat) hs (hsl := (by first | assumption | rfl | omega | simp))) ?_)))))))))
 rintro _ _ _ _ ⟨rfl, x1, rfl, hr1, hr2, rfl⟩
 refine qh (x1) rfl (qb (qw (qu (L' := L) [x1] (x1) (.tmp rfl .nil) rfl rF rF sR ?_)))
 have e : lkN s n = s.getD (varIx n) [] := lkN_neg (by omega)
 exact ⟨rfl, _, rfl, by rw [e]; exact hr1, by rw [e]; exact hr2, rfl⟩

/- (impl.Subst).lookup -/
theorem lookup_spec {F : FH} {L : List HP} {sv : Value} {s : List (List Int)} (hs : RowsF F sv s) :
    Does prog 98 [.agg #[sv]] F (L) (fun v F' L' => ∃ (b : Nat), (.func (.func 104) #[] #[ptr b 0] : Value) = v ∧ (FzC F' b [sv]) ∧ L = L') := by
 refine qH func98 rfl rfl rfl (qc (qa (cX (qY [sv] rfl rfl ?_))))
 intro b1
 refine qh (.nilFunc) rfl (qb (qc (qa (cX (yg [] [ptr b1 0] rfl rfl (qh (.func (.func 104) #[] #[ptr b1 0]) rfl (qb (X.freeze [] _ _ rfl (fun F1 le1 hz1 => ?_)))))))))
 have hf1 : FzC F1 b1 [sv] := Fz.cells hz1
 refine qw (qu (L' := L) [.func (.func 104) #[] #[ptr b1 0]] (.func (.func 104) #[] #[ptr b1 0]) (.tmp rfl .nil) rfl le1 rF sR ?_)
 exact ⟨_, rfl, hf1, rfl⟩

/- impl.fill -/
theorem fill_spec {F : FH} {L : List HP} {sv : Value} {s : List (List Int)} (hs : RowsF F sv s) {tv : Value} {t : List Int} (ht : IntsF F tv t) (hsl : s.length ≤ 4000000) (hsb : ∀ i, (s.getD i []).length ≤ 4000000) (htl : t.length ≤ 4000000) (htg : ∀ k, k < t.length → -4000000 ≤ t.getD k 0) :
    Does prog 82 [.agg #[sv], tv] F (L) (fun v F' L' => ∃ (a : Value), (.tuple #[a, .bool ((fillL s t).isSome)] : Value) = v ∧ (IntsF F' a ((fillL s t).getD [])) ∧ (Fresh F F' (intsH 2 a ((fillL s t).getD []))) ∧ L = L') := by
 refine qH func82 rfl rfl rfl (qc (qa (cX (qY [sv] rfl rfl ?_))))
 intro b1
 refine qh (sN) rfl (qh (.bool (false)) rfl (qb (qc (qa (cX (qv [sv] isAgg148 sizeOf148 rfl rfl (Rd.ownN [] rfl rfl) (cX (qt (args := [.agg #[sv]]) call98 rfl (lookup_spec hs) ?_))))))))
 rintro _ F1 _ le1 ⟨x1, rfl, hr1, rfl⟩
 replace hs := hs.mono le1
 replace ht := ht.mono le1
 refine qh (.func (.func 104) #[] #[ptr x1 0]) rfl (qb (qc (qa (qd (tv) rfl (cX (qG qf rfl ht.slv (cX (XOp.makeSlice0 (n := (t).length) (bytes := 8) [ii (0)] qf qC typeInfo2 rfl jj rfl rfl rfl rfl (by omega) (by omega) ?_))))))))
 intro v1 hv1
 have hs1 : IsSl v1 := by obtain ⟨b0, h0⟩ := hv1; exact ⟨_, _, _, h0⟩
 show XL _ _ _ _ _ _ _ (intsH 2 v1 ([]) :: cellsH b1 [sv] 148 :: L)
 refine qh (v1) rfl (qb (qc (qc (qa (qd (tv) rfl (cX (qG qf rfl ht.slv (qd (ii (0)) rfl (qb (qJ (jv (α := Nat × Value × List Int) (fun xQ => [(6, .func (.func 104) #[] #[ptr x1 0]), (7, xQ.2.1), (16, tv), (17, ii ((t.length : Int))), (18, ii (((xQ.1 : Nat) : Int)))]) (fun xQ => intsH 2 xQ.2.1 xQ.2.2 :: cellsH b1 [sv] 148 :: L) (fun xQ F' => F1 = F' ∧ (IsSl xQ.2.1) ∧ (xQ.1 ≤ t.length) ∧ (fillL s t = fillGo s (t.drop xQ.1) xQ.2.2) ∧ (xQ.2.2.length ≤ 60)) (fun xQ => t.length - xQ.1) (0, v1, []) ⟨rfl, rfl, rfl, rfl, rfl, ⟨⟩⟩ (sC (sC sR)) ⟨rfl, (hs1), (by (try dsimp only) <;> omega), (rfl), (by simp)⟩ ?_)))))))))))
 rintro ⟨k, ov, os⟩ rE _ _ ⟨rfl, hov, hk, hm, hol⟩
 show X _ _ _ _ (envs [(6, .func (.func 104) #[] #[ptr x1 0]), (7, ov), (16, tv), (17, ii ((t.length : Int))), (18, ii ((k : Int)))] rE) _ (intsH 2 ov os :: cellsH b1 [sv] 148 :: L)
 dsimp only at hov hk hm hol
 have htk := htg k
 refine qc (qa (cX (qX rfl rfl (qb (qc ?_)))))
 refine qE (p := (k : Int) < (t.length : Int)) rfl (fun h1 => ?_) (fun h1 => ?_)
 ·refine qA (qc (qJ (qc (qa (cX (qx k qf qC rfl rfl rfl ht.slv (by omega) (Nat.mul_one _) (cX (qj jh rfl (ht.rd (by omega)) (qh (ii (t.getD k 0)) rfl (qb (qc (qc (qa (qd (.func (.func 104) #[] #[ptr x1 0]) rfl (qd (ii (t.getD k 0)) rfl (cX (XOp.callV (first := []) (captured := [ptr x1 0]) (args := [ii (t.getD k 0), ptr x1 0]) call104 rfl rfl (lookup1_spec (n := t.getD k 0) hs hr1 (hsl := (by first | assumption | rfl | omega | simp)) (hg := (by first | assumption | rfl | omega | simp))) ?_)))))))))))))))))
  rintro _ _ _ _ ⟨rfl, x2, rfl, hr2, hr3, rfl⟩
  skip
  refine qh (x2) rfl (qb (qc (qa (qd (x2) rfl (cX (XOp.eqNil qf rfl rfl (qp hr2) (qb ?_)))))))
  refine jG (t := isNil x2) rfl (fun h2 => ?_) (fun h2 => ?_)
  ·refine qa (qd (ov) rfl (qd (ii (t.getD k 0)) rfl (cX (qD (s := 1) [ii (t.getD k 0)] [ii (0)] [(0, [ii (t.getD k 0)])] qf qC jj rfl (by decide) rfl (.cons rfl CellsAre.nil) rfl ?_))))
   intro v2 hv2
   refine cX (XOp.append1 (u := t.getD k 0) [_] _ qf typeInfo2 rfl rfl rfl rfl rfl rfl (SlV.own [] rfl) (Rd.sl [] rfl rfl) (by (try simp only [List.length_append, List.length_nil, List.length_cons, List.length_singleton, List.length_take, List.length_drop]); omega) ?_)
   intro v3 hs2 hn1
   refine qh (v3) rfl (qb (qc (qa (qd (v3) rfl (cX (qG qf rfl (intsH.slv [_] rfl) (cX (jU rfl rfl (qb ?_)))))))))
   refine qE (p := ((((os ++ [t.getD k 0]).length : Nat) : Int) : Int) > 60) rfl (fun h3 => ?_) (fun h3 => ?_)
   ·refine qc (qa (qh (sN) rfl (qh (.bool (false)) rfl (qb (qw (qF (qo (qo (qF (qo (qu (L' := L) [sN, .bool (false)] (.tuple #[sN, .bool (false)]) (.tmp rfl (.tmp rfl .nil)) rfl le1 rF (sD (sD (sD sR))) ?_)))))))))))
    have hz : fillL s t = none := hm.trans (fillGo_long (a := os ++ [t.getD k 0]) (by omega) (by rw [lk_of_nil (of_decide_eq_true (hr3.symm.trans (by assumption)))]) (by omega))
    exact ⟨_, by rw [hz]; rfl, by rw [hz]; exact IntsF.nilV, by rw [hz]; exact Fresh.ofNil _, rfl⟩
   refine qA (qa (cX (qM (((k + 1 : Nat) : Int)) rfl rfl (by omega) (by omega) (qd (ii (((k + 1 : Nat) : Int))) rfl (qb ?_)))))
   exact ⟨(k + 1, v3, os ++ [t.getD k 0]), _, FLe.refl _, rF, ⟨rfl, rfl, rfl, rfl, rfl, ⟨⟩⟩, (sD (sC (sC sR))), ⟨rfl, (hs2), (by (try dsimp only) <;> omega), (by dsimp only; exact hm.trans (fillGo_next (by omega) (by rw [lk_of_nil (of_decide_eq_true (hr3.symm.trans (by assumption)))]) (by omega))), (by dsimp only; omega)⟩, (by omega)⟩
  refine qa ?_
  have hlb : (lkN s (t.getD k 0)).length ≤ 4000000 := lkN_bound hsb
  refine qd (ov) rfl (qd (x2) rfl (cX (XOp.appendI [] _ qf typeInfo2 rfl rfl rfl rfl rfl rfl hr2 (by (try simp only [List.length_append, List.length_nil, List.length_cons, List.length_singleton, List.length_take, List.length_drop]); omega) ?_)))
  intro v4 hs3 hn2 hm1
  refine qh (v4) rfl (qb (qc (qa (qd (v4) rfl (cX (qG qf rfl (intsH.slv [] rfl) (cX (jU rfl rfl (qb ?_)))))))))
  refine qE (p := ((((os ++ (lkN s (t.getD k 0))).length : Nat) : Int) : Int) > 60) rfl (fun h4 => ?_) (fun h4 => ?_)
  ·refine qc (qa (qh (sN) rfl (qh (.bool (false)) rfl (qb (qw (qF (qo (qo (qF (qo (qu (L' := L) [sN, .bool (false)] (.tuple #[sN, .bool (false)]) (.tmp rfl (.tmp rfl .nil)) rfl le1 rF (sD (sD sR)) ?_)))))))))))
   have hz : fillL s t = none := hm.trans (fillGo_long (a := os ++ (lkN s (t.getD k 0))) (by omega) (by rw [lk_of_ne (of_decide_eq_false (hr3.symm.trans (by assumption)))]) (by omega))
   exact ⟨_, by rw [hz]; rfl, by rw [hz]; exact IntsF.nilV, by rw [hz]; exact Fresh.ofNil _, rfl⟩
  refine qA (qa (cX (qM (((k + 1 : Nat) : Int)) rfl rfl (by omega) (by omega) (qd (ii (((k + 1 : Nat) : Int))) rfl (qb ?_)))))
  exact ⟨(k + 1, v4, os ++ (lkN s (t.getD k 0))), _, FLe.refl _, rF, ⟨rfl, rfl, rfl, rfl, rfl, ⟨⟩⟩, (sC (sC sR)), ⟨rfl, (hs3), (by (try dsimp only) <;> omega), (by dsimp only; exact hm.trans (fillGo_next (by omega) (by rw [lk_of_ne (of_decide_eq_false (hr3.symm.trans (by assumption)))]) (by omega))), (by dsimp only; omega)⟩, (by omega)⟩
 refine jn (qz (qz (qR (qc (qa (qd (ov) rfl (qh (ov) rfl (qh (.bool (true)) rfl (qb (ji [] _ _ rfl (fun F3 le3 hz1 => ?_)))))))))))
 have hf1 : IntsF F3 ov os := intsH.fz (xs := os) hz1.fz
 refine qw (qu (L' := L) [ov, .bool (true)] (.tuple #[ov, .bool (true)]) (.tmp rfl (.tmp rfl .nil)) rfl (qi le1 le3) rF (sD sR) ?_)
 have hz : fillL s t = some os := hm.trans (fillGo_done (by omega))
 exact ⟨_, by rw [hz]; rfl, by rw [hz]; exact hf1, by rw [hz]; exact (hz1.base le1), rfl⟩

/- impl.step -/
theorem step_spec {F : FH} {L : List HP} {arv : Value} {ar : List Int} (har : IntsF F arv ar) {rsv : Value} {rs : List (List Int × List Int)} (hrs : PairsF F rsv rs) {tv : Value} {t : List Int} (ht : IntsF F tv t) {p : Nat} {r : Nat} (hsys : sysOk ar rs = true) (ho : termOk ar t = true) (hp : p < t.length) (hr : r < rs.length) :
    Does prog 68 [.agg #[arv, rsv], tv, ii ((p : Int)), ii ((r : Int))] F (L) (fun v F' L' => ∃ (a : Value), (.tuple #[a, .bool ((stepL ar rs t p r).isSome)] : Value) = v ∧ (IntsF F' a ((stepL ar rs t p r).getD [])) ∧ ((stepL ar rs t p r).isSome = true → isNil a = false) ∧ (Fresh F F' (intsH 2 a ((stepL ar rs t p r).getD []))) ∧ L = L') := by
 refine qH func68 rfl rfl rfl ?_
 have hnn := jx ht (by have := termOk_len ho; omega)
 have htl := termOk_len ho
 have hrl := (sysOk_iff.1 hsys).2.1
 have hsig := (sysOk_iff.1 hsys).1
 have hsl := sigOk_spec hsig
 have hR := ruleOk_iff.1 ((sysOk_iff.1 hsys).2.2 r hr)
 have hRl := hR.left
 have hRr := hR.right
 have hso := sub_ok ho hp
 have hsb := sub_length ho hp
 have hee := endN_spec ho hp
 have hRrl := termOk_len hRr
 have hRg := fun k (hk : k < (rs.getD r ([], [])).2.length) => termOk_ge hRr hk
 have hmp := matchP_len (ar := ar) (p := (rs.getD r ([], [])).1) (t := sub ar t p)
 have hmp2 := hmp.2
 have hmp3 := hmp.1
 refine qc (qa (cX (qY [arv, rsv] rfl rfl ?_)))
 intro b1
 refine qh (sN) rfl (qh (.bool (false)) rfl (qb (qc ?_)))
 obtain ⟨a1, a2, ha1, ha2, hr1, hr2⟩ := hrs.rd (i := r) (by omega)
 refine yc [cellsH b1 [arv, rsv] 77] L 19 [[], [], [], [], [], [], [], [], [], [], [], [], [], [], [13], [13], [], [], [13, 17]] [[], [0], [], [2], [], [3, 4], [5], [6], [], [8], [], [], [9, 10, 11], [1, 7, 12], [13], [13, 14], [13, 14], [], [13, 15, 17]] [[], [], [], [], [], [], [], [], [], [], [], [], [], [], [], [], [], [], [17]] (phiG [pe (ptr b1 0), pe (.agg #[arv]), pe (ptr b1 1), pe rsv, pe (ii ((r : Int)) : Value), pe (.pointer (some (elemA rsv (r * 2)))), pe (.pointer (some (elemA rsv (r * 2)))), pe a1, pe (ptr b1 0), pe (.agg #[arv]), pe tv, pe (ii ((p : Int)) : Value), fun FF us v => ((v) : Value) = v ∧ (IntsF FF (v) (sub ar t p)) ∧ (isNil (v) = false), fun FF us v => (.tuple #[.agg #[((aggAt (tupAt v 0) 0))], .bool ((matchB ar ((rs.getD r ([], [])).1) ((sub ar t p))).isSome)] : Value) = v ∧ (RowsF FF ((aggAt (tupAt v 0) 0)) (matchP ar ((rs.getD r ([], [])).1) ((sub ar t p)))), fun FF us v => v = (.tuple #[.agg #[((aggAt (tupAt (us.getD 0 undef) 0) 0))], .bool ((matchB ar ((rs.getD r ([], [])).1) ((sub ar t p))).isSome)] : Value), fun FF us v => v = (.agg #[((aggAt (tupAt (us.getD 0 undef) 0) 0))] : Value), pe (.bool ((matchB ar ((rs.getD r ([], [])).1) ((sub ar t p))).isSome)), fun FF us v => v = ptr (blk v) 0, fun FF us v => True]) (ownL [o0, o0, o0, o0, o0, o0, o0, o0, o0, o0, o0, o0, o0, o0, o0, o0, o0, fun us v => [cellsH (blk v) [sN] 148], fun us v => [cellsH (blk (us.getD 1 undef)) [((aggAt (tupAt (us.getD 0 undef) 0) 0))] 148]]) mixed rfl rfl (by kernel_rfl) (by kernel_rfl) (MonoG.get (m1 (m1 (m1 (m1 (m1 (m1 (m1 (m1 (m1 (m1 (m1 (m1 (mC (fun le h => ⟨h.1, h.2.1.mono le, h.2.2⟩) (mC (fun le h => ⟨h.1, h.2.mono le⟩) (mC (fun le h => h) (mC (fun le h => h) (m1 (mC (fun le h => h) (mC (fun le h => h) MonoG.nil)))))))))))))))))))) ?_ ?_
 ·refine gD (fun W Fs R lF z9 => ?_) ?_
  ·refine qg (qn (0) jc rfl qB (by decide) rfl rfl ?_)
   exact ⟨rfl, rfl⟩
  refine gD (fun W Fs R lF z9 => ?_) ?_
  ·replace har := har.mono lF
   replace hrs := hrs.mono lF
   replace ht := ht.mono lF
   replace ha1 := ha1.mono lF
   replace ha2 := ha2.mono lF
   replace hr1 := Rd.monoA hr1 lF
   replace hr2 := Rd.monoA hr2 lF
   rw [zA 0 (z9 0 rfl)]
   refine qg (qv [arv] qU qB rfl rfl (Rd.ownN [] rfl rfl) ?_)
   exact ⟨rfl, rfl⟩
  refine gD (fun W Fs R lF z9 => ?_) ?_
  ·refine qg (qn (1) jc rfl jB (by decide) rfl rfl ?_)
   exact ⟨rfl, rfl⟩
  refine gD (fun W Fs R lF z9 => ?_) ?_
  ·replace har := har.mono lF
   replace hrs := hrs.mono lF
   replace ht := ht.mono lF
   replace ha1 := ha1.mono lF
   replace ha2 := ha2.mono lF
   replace hr1 := Rd.monoA hr1 lF
   replace hr2 := Rd.monoA hr2 lF
   rw [zA 2 (z9 2 rfl)]
   refine qg (qj jS rfl (Rd.own [] rfl rfl) ?_)
   exact ⟨rfl, rfl⟩
  refine gD (fun W Fs R lF z9 => ?_) ?_
  ·refine qg (ql (ii ((r : Int))) rfl ?_)
   exact ⟨rfl, rfl⟩
  refine gD (fun W Fs R lF z9 => ?_) ?_
  ·replace har := har.mono lF
   replace hrs := hrs.mono lF
   replace ht := ht.mono lF
   replace ha1 := ha1.mono lF
   replace ha2 := ha2.mono lF
   replace hr1 := Rd.monoA hr1 lF
   replace hr2 := Rd.monoA hr2 lF
   rw [zB 3 4 (z9 3 rfl) (z9 4 rfl)]
   refine qg (qx r qV jp rfl rfl rfl hrs.slv (by omega) rfl ?_)
   exact ⟨rfl, rfl⟩
  refine gD (fun W Fs R lF z9 => ?_) ?_
  ·rw [zA 5 (z9 5 rfl)]
   refine qg (XOp.fieldE (r * 2) jf rfl qr (by decide) rfl rfl ?_)
   exact ⟨rfl, rfl⟩
  refine gD (fun W Fs R lF z9 => ?_) ?_
  ·replace har := har.mono lF
   replace hrs := hrs.mono lF
   replace ht := ht.mono lF
   replace ha1 := ha1.mono lF
   replace ha2 := ha2.mono lF
   replace hr1 := Rd.monoA hr1 lF
   replace hr2 := Rd.monoA hr2 lF
   rw [zA 6 (z9 6 rfl)]
   refine qg (qj qN rfl (hr1 _) ?_)
   exact ⟨rfl, rfl⟩
  refine gD (fun W Fs R lF z9 => ?_) ?_
  ·refine qg (qn (0) jc rfl qB (by decide) rfl rfl ?_)
   exact ⟨rfl, rfl⟩
  refine gD (fun W Fs R lF z9 => ?_) ?_
  ·replace har := har.mono lF
   replace hrs := hrs.mono lF
   replace ht := ht.mono lF
   replace ha1 := ha1.mono lF
   replace ha2 := ha2.mono lF
   replace hr2 := Rd.monoA hr2 lF
   rw [zA 8 (z9 8 rfl)]
   refine qg (qv [arv] qU qB rfl rfl (Rd.ownN [] rfl rfl) ?_)
   exact ⟨rfl, rfl⟩
  refine gD (fun W Fs R lF z9 => ?_) ?_
  ·refine qg (ql (tv) rfl ?_)
   exact ⟨rfl, rfl⟩
  refine gD (fun W Fs R lF z9 => ?_) ?_
  ·refine qg (ql (ii ((p : Int))) rfl ?_)
   exact ⟨rfl, rfl⟩
  refine gD (fun W Fs R lF z9 => ?_) ?_
  ·replace har := har.mono lF
   replace hrs := hrs.mono lF
   replace ht := ht.mono lF
   replace ha1 := ha1.mono lF
   replace ha2 := ha2.mono lF
   replace hr2 := Rd.monoA hr2 lF
   rw [eS (l := [(9, _), (10, _), (11, _)]) ⟨z9 9 rfl, z9 10 rfl, z9 11 rfl, ⟨⟩⟩]
   refine qg (qt (args := [.agg #[arv], tv, ii (p : Int)]) call71 rfl (subAt_spec (p := p) har ht (ho := (by first | assumption | rfl | omega | simp)) (hp := (by first | assumption | rfl | omega | simp)) (hnn := (by first | assumption | rfl | omega | simp))) ?_)
   rintro v2 _ _ _ ⟨rfl, rfl, hv2, hn2⟩
   exact ⟨⟨rfl, hv2, hn2⟩, rfl⟩
  refine gD (fun W Fs R lF z9 => ?_) ?_
  ·obtain ⟨e12, f12_1ha, f12_1hn⟩ := z9 12 rfl
   replace har := har.mono lF
   replace hrs := hrs.mono lF
   replace ht := ht.mono lF
   replace ha1 := ha1.mono lF
   replace ha2 := ha2.mono lF
   replace hr2 := Rd.monoA hr2 lF
   rw [eS (l := [(1, _), (7, _), (12, ((W 12)))]) ⟨z9 1 rfl, z9 7 rfl, (e12).symm, ⟨⟩⟩]
   refine qg (qt (args := [.agg #[arv], a1, ((W 12))]) call81 rfl (match_spec har ha1 f12_1ha (ho := (by first | assumption | rfl | omega | simp)) (hpo := (by first | assumption | rfl | omega | simp))) ?_)
   rintro _ F2 _ le2 ⟨x2, rfl, hr4, rfl⟩
   replace har := har.mono le2
   replace hrs := hrs.mono le2
   replace ht := ht.mono le2
   replace ha2 := ha2.mono le2
   replace f12_1ha := f12_1ha.mono le2
   replace hr2 := Rd.monoA hr2 le2
   exact ⟨⟨rfl, hr4⟩, rfl⟩
  refine gD (fun W Fs R lF z9 => ?_) ?_
  ·obtain ⟨e13, f13_1hr⟩ := z9 13 rfl
   rw [eS (l := [(13, (.tuple #[.agg #[((aggAt (tupAt (W 13) 0) 0))], .bool ((matchB ar ((rs.getD r ([], [])).1) ((sub ar t p))).isSome)]))]) ⟨(e13).symm, ⟨⟩⟩]
   refine qg (ql (.tuple #[.agg #[((aggAt (tupAt (W 13) 0) 0))], .bool ((matchB ar ((rs.getD r ([], [])).1) ((sub ar t p))).isSome)]) rfl ?_)
   exact ⟨rfl, rfl⟩
  refine gD (fun W Fs R lF z9 => ?_) ?_
  ·obtain ⟨e13, f13_1hr⟩ := z9 13 rfl
   have e14 : W 14 = (.tuple #[.agg #[((aggAt (tupAt (W 13) 0) 0))], .bool ((matchB ar ((rs.getD r ([], [])).1) ((sub ar t p))).isSome)] : Value) := z9 14 rfl
   rw [eS (l := [(13, (.tuple #[.agg #[((aggAt (tupAt (W 13) 0) 0))], .bool ((matchB ar ((rs.getD r ([], [])).1) ((sub ar t p))).isSome)])), (14, (.tuple #[.agg #[((aggAt (tupAt (W 13) 0) 0))], .bool ((matchB ar ((rs.getD r ([], [])).1) ((sub ar t p))).isSome)]))]) ⟨(e13).symm, e14, ⟨⟩⟩]
   refine qg (qK (.agg #[((aggAt (tupAt (W 13) 0) 0))]) rfl rfl ?_)
   exact ⟨rfl, rfl⟩
  refine gD (fun W Fs R lF z9 => ?_) ?_
  ·obtain ⟨e13, f13_1hr⟩ := z9 13 rfl
   have e14 : W 14 = (.tuple #[.agg #[((aggAt (tupAt (W 13) 0) 0))], .bool ((matchB ar ((rs.getD r ([], [])).1) ((sub ar t p))).isSome)] : Value) := z9 14 rfl
   rw [eS (l := [(13, (.tuple #[.agg #[((aggAt (tupAt (W 13) 0) 0))], .bool ((matchB ar ((rs.getD r ([], [])).1) ((sub ar t p))).isSome)])), (14, (.tuple #[.agg #[((aggAt (tupAt (W 13) 0) 0))], .bool ((matchB ar ((rs.getD r ([], [])).1) ((sub ar t p))).isSome)]))]) ⟨(e13).symm, e14, ⟨⟩⟩]
   refine qg (qK (.bool ((matchB ar ((rs.getD r ([], [])).1) ((sub ar t p))).isSome)) rfl rfl ?_)
   exact ⟨rfl, rfl⟩
  refine gD (fun W Fs R lF z9 => ?_) ?_
  ·replace har := har.mono lF
   replace hrs := hrs.mono lF
   replace ht := ht.mono lF
   replace ha2 := ha2.mono lF
   replace hr2 := Rd.monoA hr2 lF
   refine qg (je [sN] zeroValue148 rfl ?_)
   intro b3
   exact ⟨rfl, rfl⟩
  refine gD (fun W Fs R lF z9 => ?_) ?_
  ·obtain ⟨e13, f13_1hr⟩ := z9 13 rfl
   have e15 : W 15 = (.agg #[((aggAt (tupAt (W 13) 0) 0))] : Value) := z9 15 rfl
   have e17 : W 17 = ptr (blk (W 17)) 0 := z9 17 rfl
   replace har := har.mono lF
   replace hrs := hrs.mono lF
   replace ht := ht.mono lF
   replace ha2 := ha2.mono lF
   replace hr2 := Rd.monoA hr2 lF
   rw [eS (l := [(13, (.tuple #[.agg #[((aggAt (tupAt (W 13) 0) 0))], .bool ((matchB ar ((rs.getD r ([], [])).1) ((sub ar t p))).isSome)])), (15, (.agg #[((aggAt (tupAt (W 13) 0) 0))])), (17, ptr (blk (W 17)) 0)]) ⟨(e13).symm, e15, e17, ⟨⟩⟩]
   show XG _ _ _ _ _ (cellsH (blk (W 17)) [sN] 148 :: ([cellsH b1 [arv, rsv] 77] ++ R)) _
   refine qg (qI [] _ [((aggAt (tupAt (W 13) 0) 0))] sizeOf148 rfl rfl rfl (qm (qy (RowsF.isSl f13_1hr)) qO) rfl rfl rfl ?_)
   exact ⟨trivial, rfl⟩
  exact stepsG.nil
 intro W F3 le3 hphi
 obtain ⟨e12, f12_1ha, f12_1hn⟩ := hphi 12 (by decide)
 obtain ⟨e13, f13_1hr⟩ := hphi 13 (by decide)
 have e14 : W 14 = (.tuple #[.agg #[((aggAt (tupAt (W 13) 0) 0))], .bool ((matchB ar ((rs.getD r ([], [])).1) ((sub ar t p))).isSome)] : Value) := hphi 14 (by decide)
 have e15 : W 15 = (.agg #[((aggAt (tupAt (W 13) 0) 0))] : Value) := hphi 15 (by decide)
 have e17 : W 17 = ptr (blk (W 17)) 0 := hphi 17 (by decide)
 generalize hu1 : ((W 12)) = u1 at e12 f12_1ha f12_1hn e13 f13_1hr e14 e15 e17
 generalize hu2 : ((aggAt (tupAt (W 13) 0) 0)) = u2 at e12 f12_1ha f12_1hn e13 f13_1hr e14 e15 e17
 generalize hu3 : blk (W 17) = b4 at e12 f12_1ha f12_1hn e13 f13_1hr e14 e15 e17
 rw [eS (l := [(13, (.tuple #[.agg #[u2], .bool ((matchB ar ((rs.getD r ([], [])).1) ((sub ar t p))).isSome)])), (16, _), (17, ptr b4 0)]) ⟨(e13).symm, (hphi 16 (by decide)), e17, ⟨⟩⟩]
 replace har := har.mono le3
 replace hrs := hrs.mono le3
 replace ht := ht.mono le3
 replace ha2 := ha2.mono le3
 replace hr2 := Rd.monoA hr2 le3
 show XL _ _ _ _ _ _ _ (cellsH b4 [u2] 148 :: cellsH b1 [arv, rsv] 77 :: L)
 refine qh (.bool ((matchB ar ((rs.getD r ([], [])).1) ((sub ar t p))).isSome)) rfl (qb (qc (qc (qa (qd (.bool ((matchB ar ((rs.getD r ([], [])).1) ((sub ar t p))).isSome)) rfl (cX (ju rfl (qb ?_))))))))
 refine jG (t := !((matchB ar ((rs.getD r ([], [])).1) ((sub ar t p))).isSome)) rfl (fun h1 => ?_) (fun h1 => ?_)
 ·have hms : (matchB ar (rs.getD r ([], [])).1 (sub ar t p)).isSome = false := by simpa using h1
  refine qc (qa (qh (sN) rfl (qh (.bool (false)) rfl (qb (qw (qo (qu (L' := L) [sN, .bool (false)] (.tuple #[sN, .bool (false)]) (.tmp rfl (.tmp rfl .nil)) rfl le3 rF (sD (sD sR)) ?_)))))))
  have hz := stepL_nomatch hms
  exact ⟨_, by rw [hz]; rfl, by rw [hz]; exact IntsF.nilV, fun h => (by rw [hz] at h; cases h), by rw [hz]; exact Fresh.ofNil _, rfl⟩
 have hms : (matchB ar (rs.getD r ([], [])).1 (sub ar t p)).isSome = true := by simpa using h1
 refine qA (qc ?_)
 refine yc [cellsH b4 [u2] 148, cellsH b1 [arv, rsv] 77] L 12 [[], [], [], [], [], [], [], [], [7], [7], [], [7]] [[], [], [1], [], [2, 3], [4], [5], [0, 6], [7], [7, 8], [7, 8], [7, 9]] [] (phiG [pe (.agg #[u2]), pe (ptr b1 1), pe rsv, pe (ii ((r : Int)) : Value), pe (.pointer (some (elemA rsv (r * 2)))), pe (.pointer (some (elemA rsv (r * 2 + 1)))), pe a2, fun FF us v => (.tuple #[((tupAt v 0)), .bool ((fillL (matchP ar ((rs.getD r ([], [])).1) ((sub ar t p))) ((rs.getD r ([], [])).2)).isSome)] : Value) = v ∧ (IntsF FF ((tupAt v 0)) ((fillL (matchP ar ((rs.getD r ([], [])).1) ((sub ar t p))) ((rs.getD r ([], [])).2)).getD [])), fun FF us v => v = (.tuple #[((tupAt (us.getD 0 undef) 0)), .bool ((fillL (matchP ar ((rs.getD r ([], [])).1) ((sub ar t p))) ((rs.getD r ([], [])).2)).isSome)] : Value), fun FF us v => v = ((tupAt (us.getD 0 undef) 0)), pe (.bool ((fillL (matchP ar ((rs.getD r ([], [])).1) ((sub ar t p))) ((rs.getD r ([], [])).2)).isSome)), fun FF us v => v = ((tupAt (us.getD 0 undef) 0))]) (ownL []) mixed rfl rfl (by kernel_rfl) (by kernel_rfl) (MonoG.get (m1 (m1 (m1 (m1 (m1 (m1 (m1 (mC (fun le h => ⟨h.1, h.2.mono le⟩) (mC (fun le h => h) (mC (fun le h => h) (m1 (mC (fun le h => h) MonoG.nil))))))))))))) ?_ ?_
 ·refine gD (fun W Fs R lF z9 => ?_) ?_
  ·replace har := har.mono lF
   replace hrs := hrs.mono lF
   replace ht := ht.mono lF
   replace ha2 := ha2.mono lF
   replace f13_1hr := f13_1hr.mono lF
   replace hr2 := Rd.monoA hr2 lF
   refine qg (qv [u2] isAgg148 sizeOf148 rfl rfl (Rd.ownN [] rfl rfl) ?_)
   exact ⟨rfl, rfl⟩
  refine gD (fun W Fs R lF z9 => ?_) ?_
  ·refine qg (qn (1) jc rfl jB (by decide) rfl rfl ?_)
   exact ⟨rfl, rfl⟩
  refine gD (fun W Fs R lF z9 => ?_) ?_
  ·replace har := har.mono lF
   replace hrs := hrs.mono lF
   replace ht := ht.mono lF
   replace ha2 := ha2.mono lF
   replace f13_1hr := f13_1hr.mono lF
   replace hr2 := Rd.monoA hr2 lF
   rw [zA 1 (z9 1 rfl)]
   refine qg (qj jS rfl (Rd.own [_] rfl rfl) ?_)
   exact ⟨rfl, rfl⟩
  refine gD (fun W Fs R lF z9 => ?_) ?_
  ·refine qg (ql (ii ((r : Int))) rfl ?_)
   exact ⟨rfl, rfl⟩
  refine gD (fun W Fs R lF z9 => ?_) ?_
  ·replace har := har.mono lF
   replace hrs := hrs.mono lF
   replace ht := ht.mono lF
   replace ha2 := ha2.mono lF
   replace f13_1hr := f13_1hr.mono lF
   replace hr2 := Rd.monoA hr2 lF
   rw [zB 2 3 (z9 2 rfl) (z9 3 rfl)]
   refine qg (qx r qV jp rfl rfl rfl hrs.slv (by omega) rfl ?_)
   exact ⟨rfl, rfl⟩
  refine gD (fun W Fs R lF z9 => ?_) ?_
  ·rw [zA 4 (z9 4 rfl)]
   refine qg (XOp.fieldE (r * 2 + 1) jf rfl qr (by decide) rfl rfl ?_)
   exact ⟨rfl, rfl⟩
  refine gD (fun W Fs R lF z9 => ?_) ?_
  ·replace har := har.mono lF
   replace ht := ht.mono lF
   replace ha2 := ha2.mono lF
   replace f13_1hr := f13_1hr.mono lF
   replace hr2 := Rd.monoA hr2 lF
   rw [zA 5 (z9 5 rfl)]
   refine qg (qj qN rfl (hr2 _) ?_)
   exact ⟨rfl, rfl⟩
  refine gD (fun W Fs R lF z9 => ?_) ?_
  ·replace har := har.mono lF
   replace ht := ht.mono lF
   replace ha2 := ha2.mono lF
   replace f13_1hr := f13_1hr.mono lF
   rw [zB 0 6 (z9 0 rfl) (z9 6 rfl)]
   refine qg (qt (args := [.agg #[u2], a2]) call82 rfl (fill_spec f13_1hr ha2 (hsl := (by first | assumption | rfl | omega | simp)) (hsb := (fun i => by have := hmp2 i; omega)) (htl := (by first | assumption | rfl | omega | simp)) (htg := (fun k hk => by have := hRg k hk; omega))) ?_)
   rintro _ F5 _ le5 ⟨x4, rfl, hr7, hr8, rfl⟩
   replace har := har.mono le5
   replace ht := ht.mono le5
   exact ⟨⟨rfl, hr7⟩, rfl⟩
  refine gD (fun W Fs R lF z9 => ?_) ?_
  ·obtain ⟨e7, f7_2hr⟩ := z9 7 rfl
   rw [eS (l := [(7, (.tuple #[((tupAt (W 7) 0)), .bool ((fillL (matchP ar ((rs.getD r ([], [])).1) ((sub ar t p))) ((rs.getD r ([], [])).2)).isSome)]))]) ⟨(e7).symm, ⟨⟩⟩]
   refine qg (ql (.tuple #[((tupAt (W 7) 0)), .bool ((fillL (matchP ar ((rs.getD r ([], [])).1) ((sub ar t p))) ((rs.getD r ([], [])).2)).isSome)]) rfl ?_)
   exact ⟨rfl, rfl⟩
  refine gD (fun W Fs R lF z9 => ?_) ?_
  ·obtain ⟨e7, f7_2hr⟩ := z9 7 rfl
   have e8 : W 8 = (.tuple #[((tupAt (W 7) 0)), .bool ((fillL (matchP ar ((rs.getD r ([], [])).1) ((sub ar t p))) ((rs.getD r ([], [])).2)).isSome)] : Value) := z9 8 rfl
   rw [eS (l := [(7, (.tuple #[((tupAt (W 7) 0)), .bool ((fillL (matchP ar ((rs.getD r ([], [])).1) ((sub ar t p))) ((rs.getD r ([], [])).2)).isSome)])), (8, (.tuple #[((tupAt (W 7) 0)), .bool ((fillL (matchP ar ((rs.getD r ([], [])).1) ((sub ar t p))) ((rs.getD r ([], [])).2)).isSome)]))]) ⟨(e7).symm, e8, ⟨⟩⟩]
   refine qg (qK (((tupAt (W 7) 0))) rfl rfl ?_)
   exact ⟨rfl, rfl⟩
  refine gD (fun W Fs R lF z9 => ?_) ?_
  ·obtain ⟨e7, f7_2hr⟩ := z9 7 rfl
   have e8 : W 8 = (.tuple #[((tupAt (W 7) 0)), .bool ((fillL (matchP ar ((rs.getD r ([], [])).1) ((sub ar t p))) ((rs.getD r ([], [])).2)).isSome)] : Value) := z9 8 rfl
   rw [eS (l := [(7, (.tuple #[((tupAt (W 7) 0)), .bool ((fillL (matchP ar ((rs.getD r ([], [])).1) ((sub ar t p))) ((rs.getD r ([], [])).2)).isSome)])), (8, (.tuple #[((tupAt (W 7) 0)), .bool ((fillL (matchP ar ((rs.getD r ([], [])).1) ((sub ar t p))) ((rs.getD r ([], [])).2)).isSome)]))]) ⟨(e7).symm, e8, ⟨⟩⟩]
   refine qg (qK (.bool ((fillL (matchP ar ((rs.getD r ([], [])).1) ((sub ar t p))) ((rs.getD r ([], [])).2)).isSome)) rfl rfl ?_)
   exact ⟨rfl, rfl⟩
  refine gD (fun W Fs R lF z9 => ?_) ?_
  ·obtain ⟨e7, f7_2hr⟩ := z9 7 rfl
   have e9 : W 9 = ((tupAt (W 7) 0)) := z9 9 rfl
   rw [eS (l := [(7, (.tuple #[((tupAt (W 7) 0)), .bool ((fillL (matchP ar ((rs.getD r ([], [])).1) ((sub ar t p))) ((rs.getD r ([], [])).2)).isSome)])), (9, ((tupAt (W 7) 0)))]) ⟨(e7).symm, e9, ⟨⟩⟩]
   refine qg (XOp.assign (((tupAt (W 7) 0))) rfl ?_)
   exact ⟨rfl, rfl⟩
  exact stepsG.nil
 intro W F6 le6 hphi
 obtain ⟨e7, f7_2hr⟩ := hphi 7 (by decide)
 have e8 : W 8 = (.tuple #[((tupAt (W 7) 0)), .bool ((fillL (matchP ar ((rs.getD r ([], [])).1) ((sub ar t p))) ((rs.getD r ([], [])).2)).isSome)] : Value) := hphi 8 (by decide)
 have e9 : W 9 = ((tupAt (W 7) 0)) := hphi 9 (by decide)
 have e11 : W 11 = ((tupAt (W 7) 0)) := hphi 11 (by decide)
 generalize hu4 : ((tupAt (W 7) 0)) = u3 at e7 f7_2hr e8 e9 e11
 rw [eS (l := [(7, (.tuple #[u3, .bool ((fillL (matchP ar ((rs.getD r ([], [])).1) ((sub ar t p))) ((rs.getD r ([], [])).2)).isSome)])), (10, _), (11, u3)]) ⟨(e7).symm, (hphi 10 (by decide)), e11, ⟨⟩⟩]
 replace har := har.mono le6
 replace ht := ht.mono le6
 show XL _ _ _ _ _ _ _ (cellsH b4 [u2] 148 :: cellsH b1 [arv, rsv] 77 :: L)
 refine qh (.bool ((fillL (matchP ar ((rs.getD r ([], [])).1) ((sub ar t p))) ((rs.getD r ([], [])).2)).isSome)) rfl (qb (qc (qc (qa (qd (.bool ((fillL (matchP ar ((rs.getD r ([], [])).1) ((sub ar t p))) ((rs.getD r ([], [])).2)).isSome)) rfl (cX (ju rfl (qb ?_))))))))
 refine jG (t := !((fillL (matchP ar ((rs.getD r ([], [])).1) ((sub ar t p))) ((rs.getD r ([], [])).2)).isSome)) rfl (fun h2 => ?_) (fun h2 => ?_)
 ·have hfs : (fillL (matchP ar (rs.getD r ([], [])).1 (sub ar t p)) (rs.getD r ([], [])).2).isSome = false := by simpa using h2
  refine qc (qa (qh (sN) rfl (qh (.bool (false)) rfl (qb (qw (qo (qu (L' := L) [sN, .bool (false)] (.tuple #[sN, .bool (false)]) (.tmp rfl (.tmp rfl .nil)) rfl (qi le3 le6) rF (sD (sD sR)) ?_)))))))
  have hz := stepL_nofill hms hfs
  exact ⟨_, by rw [hz]; rfl, by rw [hz]; exact IntsF.nilV, fun h => (by rw [hz] at h; cases h), by rw [hz]; exact Fresh.ofNil _, rfl⟩
 have hfs : (fillL (matchP ar (rs.getD r ([], [])).1 (sub ar t p)) (rs.getD r ([], [])).2).isSome = true := by simpa using h2
 have hfl := fill_getD_len hfs (by omega)
 refine qA (qc (qa (cX (qn (0) jc rfl qB (by decide) rfl rfl (cX (qv [arv] qU qB rfl rfl (Rd.ownN [_] rfl rfl) (qd (tv) rfl (qd (ii ((p : Int))) rfl (qd (u3) rfl (cX (qt (args := [.agg #[arv], tv, ii (p : Int), u3]) call83 rfl (put_spec (p := p) har ht f7_2hr (ho := (by first | assumption | rfl | omega | simp)) (hp := (by first | assumption | rfl | omega | simp)) (hul := (by first | assumption | rfl | omega | simp))) ?_)))))))))))
 rintro _ F7 _ le7 ⟨x5, rfl, hr9, hr10, hr11, rfl⟩
 refine cX (qK (x5) rfl rfl (cX (qK (.bool ((putL ar t p ((fillL (matchP ar ((rs.getD r ([], [])).1) ((sub ar t p))) ((rs.getD r ([], [])).2)).getD [])).isSome)) rfl rfl (qh (x5) rfl (qh (.bool ((putL ar t p ((fillL (matchP ar ((rs.getD r ([], [])).1) ((sub ar t p))) ((rs.getD r ([], [])).2)).getD [])).isSome)) rfl (qb (qw (qu (L' := L) [x5, .bool ((putL ar t p ((fillL (matchP ar ((rs.getD r ([], [])).1) ((sub ar t p))) ((rs.getD r ([], [])).2)).getD [])).isSome)] (.tuple #[x5, .bool ((putL ar t p ((fillL (matchP ar ((rs.getD r ([], [])).1) ((sub ar t p))) ((rs.getD r ([], [])).2)).getD [])).isSome)]) (.tmp rfl (.tmp rfl .nil)) rfl (qi (qi le3 le6) le7) rF (sD (sD sR)) ?_))))))))
 have hz := stepL_put hms hfs
 exact ⟨_, by rw [hz], by rw [hz]; exact hr9, by rw [hz]; exact hr10, by rw [hz]; exact (hr11.base (qi le3 le6)), rfl⟩

/- impl.walkBy -/
theorem walkBy_spec {F : FH} {L : List HP} {arv : Value} {ar : List Int} (har : IntsF F arv ar) {rsv : Value} {rs : List (List Int × List Int)} (hrs : PairsF F rsv rs) {tv : Value} {t : List Int} (ht : IntsF F tv t) {st : Int} {n : Nat} (hsys : sysOk ar rs = true) (ho : termOk ar t = true) (hst : 1 ≤ st ∧ st ≤ 3) (hn : n ≤ 60) :
    Does prog 56 [.agg #[arv, rsv], tv, ii (st), ii ((n : Int))] F (L) (fun v F' L' => ∃ (a : Value), ∃ (b : Value), (.tuple #[.agg #[a, b], .bool ((walkGo ar rs st n t).2)] : Value) = v ∧ (IntsF F' a t) ∧ (StepsF F' b (walkGo ar rs st n t).1) ∧ (Fresh F F' (star [intsH 2 a t, stepsD 2 127 b (walkGo ar rs st n t).1])) ∧ L = L') := by
 refine qH func56 rfl rfl rfl ?_
 have hnn := jx ht (by have := termOk_len ho; omega)
 have htl := termOk_len ho
 have hrl := (sysOk_iff.1 hsys).2.1
 have hsig := (sysOk_iff.1 hsys).1
 have hsl := sigOk_spec hsig
 refine qc (qa (cX (qY [arv, rsv] rfl rfl ?_)))
 intro b1
 refine cX (je [sN, sN] zeroValue99 rfl ?_)
 intro b2
 refine qh (.bool (false)) rfl (qb (qc (qa (qd (tv) rfl (cX (jT <| qt (args := [tv]) call35 rfl (Clone_spec ht (hlt := (by first | assumption | rfl | omega | simp))) ?_))))))
 rintro v1 _ _ _ ⟨rfl, hs1, rfl⟩
 refine ⟨_, _, rfl, fun F1 le1 hz1 => ?_⟩
 replace har := har.mono le1
 replace hrs := hrs.mono le1
 replace ht := ht.mono le1
 have hf1 : IntsF F1 v1 ((t)) := intsH.fz (xs := (t)) hz1.fz
 refine cX (qZ [v1, sN] [sN, sN] [(0, 1), (1, 1)] [(0, [v1])] runUnderlying99 zeroValue99 rfl (.cons rfl qr (.cons rfl sizeOf97 PlacesAre.nil)) rfl (.cons (cells_one (qp hf1)) CellsAre.nil) (cX (je [sN, sN] zeroValue99 rfl ?_)))
 intro b3
 refine cX (qI [] _ [v1, sN] sizeOf99 rfl rfl rfl (qm (qy (qp hf1)) (qm rfl qO)) rfl rfl rfl (qb (qJ (jv (α := Value × List Int × Value × List StepT × List Value × List HP × Nat × FH) (fun xQ => [(1, xQ.1), (2, ii (st)), (3, ii ((n : Int))), (4, ptr b1 0), (8, ptr b2 0), (10, ptr b3 0)]) (fun xQ => slH 127 3 xQ.2.2.1 xQ.2.2.2.2.2.2.1 xQ.2.2.2.2.1 :: cellsH b3 [v1, xQ.2.2.1] 99 :: cellsH b2 [sN, sN] 99 :: cellsH b1 [arv, rsv] 77 :: L) (fun xQ F' => xQ.2.2.2.2.2.2.2 = F' ∧ F1 ≤ xQ.2.2.2.2.2.2.2 ∧ (IntsF xQ.2.2.2.2.2.2.2 xQ.1 xQ.2.1) ∧ (termOk ar xQ.2.1 = true) ∧ (IsSl xQ.2.2.1) ∧ (StepsC xQ.2.2.2.2.2.2.2 xQ.2.2.2.2.1 xQ.2.2.2.1) ∧ (xQ.2.2.2.2.2.2.1 = xQ.2.2.2.1.length) ∧ (DeepL 3 (StepO 2) xQ.2.2.2.2.1 xQ.2.2.2.1 xQ.2.2.2.2.2.1) ∧ (Fresh F1 xQ.2.2.2.2.2.2.2 (star xQ.2.2.2.2.2.1)) ∧ (xQ.2.2.2.1.length ≤ n) ∧ ((walkGo ar rs st n t).1 = xQ.2.2.2.1 ++ (walkGo ar rs st (n - xQ.2.2.2.1.length) xQ.2.1).1) ∧ ((walkGo ar rs st n t).2 = (walkGo ar rs st (n - xQ.2.2.2.1.length) xQ.2.1).2)) (fun xQ => n - xQ.2.2.2.2.2.2.1) (tv, t, sN, [], [], [], 0, F1) ⟨rfl, rfl, rfl, rfl, rfl, rfl, ⟨⟩⟩ (qW (Sub.addNil 127 3 _ _) (sC (sC (sC (sC sR))))) ⟨rfl, FLe.refl _, (ht), (ho), (⟨_, _, _, rfl⟩), (CO.nil), (rfl), (DeepL.nil), (Fresh.nilL), (by simp), (rfl), (rfl)⟩ ?_))))
 rintro ⟨cv, cur, sv, ss, cs, Ls, m, G1⟩ rE _ _ ⟨rfl, leG, hcv, hoc, hsv, hC, hm, hD, hZ, hln, hwa, hwb⟩
 show X _ _ _ _ (envs [(1, cv), (2, ii (st)), (3, ii ((n : Int))), (4, ptr b1 0), (8, ptr b2 0), (10, ptr b3 0)] rE) _ (slH 127 3 sv m cs :: cellsH b3 [v1, sv] 99 :: cellsH b2 [sN, sN] 99 :: cellsH b1 [arv, rsv] 77 :: L)
 replace leG : F1 ≤ G1 := leG
 dsimp only at hcv hoc hsv hC hm hD hZ hln hwa hwb
 have hcl := termOk_len hoc
 have leG1 := leG
 replace har := har.mono leG1
 replace hrs := hrs.mono leG1
 replace hf1 := hf1.mono leG1
 refine qJ (qc (qa (cX (qv [arv, rsv] yj jQ rfl rfl (Rd.ownN [_, _, _] rfl rfl) (qd (cv) rfl (qd (ii (st)) rfl (cX (qt (args := [.agg #[arv, rsv], cv, ii (st)]) call66 rfl (pick_all (st := st) har hrs hcv (by assumption) (by assumption) (by omega)) ?_))))))))
 rintro _ _ _ _ ⟨rfl, rfl, rfl⟩
 refine qh (ii (pickL ar rs cur st)) rfl (qb (qc (qc (qa (qd (ii (pickL ar rs cur st)) rfl (cX (qX rfl rfl (qb ?_))))))))
 refine qE (p := (pickL ar rs cur st : Int) < 0) rfl (fun h1 => ?_) (fun h1 => ?_)
 ·have he := pick_neg (ar := ar) (rs := rs) (t := cur) (st := st) (by omega)
  refine qc (qa (cX (qv [v1, sv] isAgg99 sizeOf99 rfl rfl (Rd.ownN [_] rfl rfl) (cX (qI [_, _] _ [v1, sv] sizeOf99 rfl rfl rfl (qm (qy (qp hf1)) (qm (qy hsv) qO)) rfl rfl rfl (qh (.bool (true)) rfl (qb (ji [] _ _ rfl (fun F2 le2 hz2 => ?_)))))))))
  replace har := har.mono le2
  replace hrs := hrs.mono le2
  replace hf1 := hf1.mono le2
  replace hcv := hcv.mono le2
  replace hC := hC.mono le2
  have hf2 : StepsF F2 sv ss := CO.fz hC (by first | rfl | omega | (rw [List.length_set]; omega) | (simp; done) | (rw [List.length_append]; simp only [List.length_singleton]; omega)) hz2.fz
  refine qw (qo (qF (qo (qF (qu (L' := L) [.agg #[v1, sv], .bool (true)] (.tuple #[.agg #[v1, sv], .bool (true)]) (.cell rfl (jA [v1, sv] isAgg99 sizeOf99 rfl (Rd.ownN [_] rfl rfl)) (.tmp rfl .nil)) rfl (qi (qi le1 leG1) le2) rF (sD (sD (sD sR))) ?_)))))
  have hw := walk_nil (st := st) (m := n - ss.length) he
  have e1 : (walkGo ar rs st n t).1 = ss := by rw [hwa, hw]; simp
  have e2 : (walkGo ar rs st n t).2 = true := by rw [hwb, hw]
  exact ⟨_, _, by rw [e2], hf1, by rw [e1]; exact hf2, by rw [e1]; exact (Fresh.app (Fresh.one hz1) le1 (Fresh.one (Fresh.deep hD hZ leG1 hz2 (by omega) le2)) (qi leG1 le2)), rfl⟩
 obtain ⟨q, hq1, hq2, hq3, hne⟩ := (pick_spec (ar := ar) (rs := rs) (t := cur) st).resolve_left (fun h => by have := h.1; omega)
 have hpn : (pickL ar rs cur st).toNat = q := by omega
 have hrr : 0 ≤ ruleAtL ar rs cur (pickL ar rs cur st).toNat := by rw [hpn]; simpa [hasR] using hq3
 obtain ⟨k, hk1, hk2, _⟩ := (M.ruleAt_spec (ar := ar) (rs := rs) (t := cur) (p := (pickL ar rs cur st).toNat)).resolve_left (by omega)
 refine qA (qc (qc (qa (cX (qn (1) runUnderlying99 rfl sizeOf97 (by decide) rfl rfl (cX (qj isAgg97 rfl (Rd.own [_] rfl rfl) (cX (qG runUnderlying97 rfl (SlV.own [] rfl) (qd (ii ((n : Int))) rfl (cX (jo rfl rfl (qb ?_)))))))))))))
 refine qE (p := (m : Int) = (n : Int)) rfl (fun h2 => ?_) (fun h2 => ?_)
 ·refine qc (qa (cX (qv [v1, sv] isAgg99 sizeOf99 rfl rfl (Rd.ownN [_] rfl rfl) (cX (qI [_, _] _ [v1, sv] sizeOf99 rfl rfl rfl (qm (qy (qp hf1)) (qm (qy hsv) qO)) rfl rfl rfl (qh (.bool (false)) rfl (qb (ji [] _ _ rfl (fun F3 le3 hz3 => ?_)))))))))
  replace har := har.mono le3
  replace hrs := hrs.mono le3
  replace hf1 := hf1.mono le3
  replace hcv := hcv.mono le3
  replace hC := hC.mono le3
  have hf3 : StepsF F3 sv ss := CO.fz hC (by first | rfl | omega | (rw [List.length_set]; omega) | (simp; done) | (rw [List.length_append]; simp only [List.length_singleton]; omega)) hz3.fz
  refine qw (qo (qF (qo (qF (qu (L' := L) [.agg #[v1, sv], .bool (false)] (.tuple #[.agg #[v1, sv], .bool (false)]) (.cell rfl (jA [v1, sv] isAgg99 sizeOf99 rfl (Rd.ownN [_] rfl rfl)) (.tmp rfl .nil)) rfl (qi (qi le1 leG1) le3) rF (sD (sD (sD sR))) ?_)))))
  have hw := walk_zero (st := st) (m := n - ss.length) (by omega) hne
  have e1 : (walkGo ar rs st n t).1 = ss := by rw [hwa, hw]; simp
  have e2 : (walkGo ar rs st n t).2 = false := by rw [hwb, hw]
  exact ⟨_, _, by rw [e2], hf1, by rw [e1]; exact hf3, by rw [e1]; exact (Fresh.app (Fresh.one hz1) le1 (Fresh.one (Fresh.deep hD hZ leG1 hz3 (by omega) le3)) (qi leG1 le3)), rfl⟩
 refine qA (qc (qa (cX (qv [arv, rsv] yj jQ rfl rfl (Rd.ownN [_, _, _] rfl rfl) (qd (cv) rfl (qd (ii (pickL ar rs cur st)) rfl (cX (qt (args := [.agg #[arv, rsv], cv, ii (((pickL ar rs cur st).toNat : Nat) : Int)]) call67 (by rw [show (((pickL ar rs cur st).toNat : Nat) : Int) = pickL ar rs cur st from by omega]; rfl) (ruleAt_spec (p := (pickL ar rs cur st).toNat) har hrs hcv (hsys := (by first | assumption | rfl | omega | simp)) (ho := (by first | assumption | rfl | omega | simp)) (hp := (by first | assumption | rfl | omega | simp))) ?_))))))))
 rintro _ _ _ _ ⟨rfl, rfl, rfl⟩
 refine qh (ii (ruleAtL ar rs cur ((pickL ar rs cur st).toNat))) rfl (qb (qc (qa (cX (qv [arv, rsv] yj jQ rfl rfl (Rd.ownN [_, _, _] rfl rfl) (qd (cv) rfl (qd (ii (pickL ar rs cur st)) rfl (qd (ii (ruleAtL ar rs cur ((pickL ar rs cur st).toNat))) rfl (cX (qt (args := [.agg #[arv, rsv], cv, ii (((pickL ar rs cur st).toNat : Nat) : Int), ii (((ruleAtL ar rs cur ((pickL ar rs cur st).toNat)).toNat : Nat) : Int)]) call68 (by rw [show (((pickL ar rs cur st).toNat : Nat) : Int) = pickL ar rs cur st from by omega, show (((ruleAtL ar rs cur ((pickL ar rs cur st).toNat)).toNat : Nat) : Int) = ruleAtL ar rs cur ((pickL ar rs cur st).toNat) from by omega]; rfl) (step_spec (p := (pickL ar rs cur st).toNat) (r := (ruleAtL ar rs cur ((pickL ar rs cur st).toNat)).toNat) har hrs hcv (hsys := (by first | assumption | rfl | omega | simp)) (ho := (by first | assumption | rfl | omega | simp)) (hp := (by first | assumption | rfl | omega | simp)) (hr := (by first | assumption | rfl | omega | simp))) ?_))))))))))
 rintro _ F4 _ le4 ⟨x1, rfl, hr1, hr2, hr3, rfl⟩
 replace hf1 := hf1.mono le4
 replace hC := hC.mono le4
 refine qd (.tuple #[x1, .bool ((stepL ar rs cur ((pickL ar rs cur st).toNat) ((ruleAtL ar rs cur ((pickL ar rs cur st).toNat)).toNat)).isSome)]) rfl (cX (qK (x1) rfl rfl (cX (qK (.bool ((stepL ar rs cur ((pickL ar rs cur st).toNat) ((ruleAtL ar rs cur ((pickL ar rs cur st).toNat)).toNat)).isSome)) rfl rfl (qh (x1) rfl (qh (.bool ((stepL ar rs cur ((pickL ar rs cur st).toNat) ((ruleAtL ar rs cur ((pickL ar rs cur st).toNat)).toNat)).isSome)) rfl (qb (qc (qc (qa (qd (.bool ((stepL ar rs cur ((pickL ar rs cur st).toNat) ((ruleAtL ar rs cur ((pickL ar rs cur st).toNat)).toNat)).isSome)) rfl (cX (ju rfl (qb ?_))))))))))))))
 refine jG (t := !((stepL ar rs cur ((pickL ar rs cur st).toNat) ((ruleAtL ar rs cur ((pickL ar rs cur st).toNat)).toNat)).isSome)) rfl (fun h3 => ?_) (fun h3 => ?_)
 ·have hu : (stepL ar rs cur (pickL ar rs cur st).toNat (ruleAtL ar rs cur (pickL ar rs cur st).toNat).toNat).isSome = false := by simpa using h3
  refine qc (qa (cX (qv [v1, sv] isAgg99 sizeOf99 rfl rfl (Rd.ownN [_] rfl rfl) (cX (qI [_, _] _ [v1, sv] sizeOf99 rfl rfl rfl (qm (qy (qp hf1)) (qm (qy hsv) qO)) rfl rfl rfl (qh (.bool (false)) rfl (qb (ji [] _ _ rfl (fun F5 le5 hz4 => ?_)))))))))
  replace hf1 := hf1.mono le5
  replace hC := hC.mono le5
  replace hr1 := hr1.mono le5
  have hf4 : StepsF F5 sv ss := CO.fz hC (by first | rfl | omega | (rw [List.length_set]; omega) | (simp; done) | (rw [List.length_append]; simp only [List.length_singleton]; omega)) hz4.fz
  refine qw (qo (qF (qo (qF (qu (L' := L) [.agg #[v1, sv], .bool (false)] (.tuple #[.agg #[v1, sv], .bool (false)]) (.cell rfl (jA [v1, sv] isAgg99 sizeOf99 rfl (Rd.ownN [_] rfl rfl)) (.tmp rfl .nil)) rfl (qi (qi (qi le1 leG1) le4) le5) rF (sD (sD (sD sR))) ?_)))))
  have hw := walk_stuck (m := n - ss.length) (by omega) hne hu
  have e1 : (walkGo ar rs st n t).1 = ss := by rw [hwa, hw]; simp
  have e2 : (walkGo ar rs st n t).2 = false := by rw [hwb, hw]
  exact ⟨_, _, by rw [e2], hf1, by rw [e1]; exact hf4, by rw [e1]; exact (Fresh.app (Fresh.one hz1) le1 (Fresh.one (Fresh.deep hD (hZ.mono le4) (qi leG1 le4) hz4 (by omega) le5)) (qi (qi leG1 le4) le5)), rfl⟩
 obtain ⟨u, hu⟩ := Option.isSome_iff_exists.1 (show (stepL ar rs cur (pickL ar rs cur st).toNat (ruleAtL ar rs cur (pickL ar rs cur st).toNat).toNat).isSome = true from by simpa using h3)
 refine qA (qc (qa (cX (qn (1) runUnderlying99 rfl sizeOf97 (by decide) rfl rfl (cX (qj isAgg97 rfl (Rd.own [_] rfl rfl) (qd (ii (pickL ar rs cur st)) rfl (qd (ii (ruleAtL ar rs cur ((pickL ar rs cur st).toNat))) rfl (qd (x1) rfl (cX (qZ [ii (pickL ar rs cur st), ii (ruleAtL ar rs cur ((pickL ar rs cur st).toNat)), x1] [ii (0), ii (0), sN] [(0, 1), (1, 1), (2, 1)] [(0, [ii (pickL ar rs cur st)]), (1, [ii (ruleAtL ar rs cur ((pickL ar rs cur st).toNat))]), (2, [x1])] runUnderlying127 zeroValue127 rfl (.cons rfl qC (.cons rfl qC (.cons rfl qr PlacesAre.nil))) rfl (.cons rfl (.cons rfl (.cons (cells_one (qp hr1)) CellsAre.nil))) (cX (qD (s := 3) [ii (pickL ar rs cur st), ii (ruleAtL ar rs cur ((pickL ar rs cur st).toNat)), x1] [ii (0), ii (0), sN] [(0, [ii (pickL ar rs cur st), ii (ruleAtL ar rs cur ((pickL ar rs cur st).toNat)), x1])] runUnderlying97 sizeOf127 zeroValue127 rfl (by decide) rfl (.cons rfl CellsAre.nil) rfl ?_)))))))))))))
 intro v2 hv1
 refine cX (yi (m := 1) (bytes := 40) (cs := cs) [_] _ [ii (pickL ar rs cur st), ii (ruleAtL ar rs cur ((pickL ar rs cur st).toNat)), x1] runUnderlying97 typeInfo127 rfl rfl rfl rfl rfl rfl rfl (SlV.own [] rfl) rfl (Rd.lit [] rfl) (qm rfl (qm rfl (qm (qy (qp hr1)) qO))) (by (try simp only [List.length_append, List.length_nil, List.length_cons, List.length_singleton]); omega) (by (try simp only [List.length_append, List.length_nil, List.length_cons, List.length_singleton]); omega) ?_)
 intro v3 hs2 hn1 hm1
 have hc1 := StepsC.snoc hC (i := pickL ar rs cur st) (j := ruleAtL ar rs cur ((pickL ar rs cur st).toNat)) hr1
 refine cX (qn (1) runUnderlying99 rfl sizeOf97 (by decide) rfl rfl (cX (jz [_, _] _ [v1, v3] sizeOf97 rfl rfl (qy hs2) rfl rfl rfl (qb (qa (qd (x1) rfl (qh (x1) rfl (qb ?_))))))))
 exact ⟨(x1, (stepL ar rs cur ((pickL ar rs cur st).toNat) ((ruleAtL ar rs cur ((pickL ar rs cur st).toNat)).toNat)).getD [], v3, ss ++ [(pickL ar rs cur st, ruleAtL ar rs cur ((pickL ar rs cur st).toNat), (stepL ar rs cur ((pickL ar rs cur st).toNat) ((ruleAtL ar rs cur ((pickL ar rs cur st).toNat)).toNat)).getD [])], cs ++ [ii (pickL ar rs cur st), ii (ruleAtL ar rs cur ((pickL ar rs cur st).toNat)), x1], Ls ++ [intsH 2 x1 ((stepL ar rs cur ((pickL ar rs cur st).toNat) ((ruleAtL ar rs cur ((pickL ar rs cur st).toNat)).toNat)).getD [])], (m) + 1, F4), _, (qi leG1 le4), rF, ⟨rfl, rfl, rfl, rfl, rfl, rfl, ⟨⟩⟩, (sD (sC (sC (sC (sC sR))))), ⟨rfl, (qi leG1 le4), (hr1), (by dsimp only; rw [hu]; exact stepL_ok hsys hoc (by omega) (by omega) hu), (hs2), (hc1), (by (try dsimp only); rw [List.length_append]; simp only [List.length_singleton]; omega), (DeepL.snoc hD rfl ⟨_, rfl, rfl⟩), ((Fresh.app hZ leG1 (Fresh.one hr3) le4)), (by dsimp only; rw [List.length_append]; simp only [List.length_singleton]; omega), (by dsimp only; rw [hwa, walk_next (m := n - ss.length) (by omega) hne hu, hu]; simp only [Option.getD_some, List.length_append, List.length_singleton, List.append_assoc, List.singleton_append]; rw [show n - ss.length - 1 = n - (ss.length + 1) from by omega]), (by dsimp only; rw [hwb, walk_next (m := n - ss.length) (by omega) hne hu, hu]; simp only [Option.getD_some, List.length_append, List.length_singleton]; rw [show n - ss.length - 1 = n - (ss.length + 1) from by omega])⟩, (by dsimp only; omega)⟩

/- (impl.Walk).end -/
theorem walkEnd_spec {F : FH} {L : List HP} {fv : Value} {f : List Int} (hf : IntsF F fv f) {ssv : Value} {ss : List StepT} (hss : StepsF F ssv ss) (hlss : ss.length ≤ 4000000) :
    Does prog 57 [.agg #[fv, ssv]] F (L) (fun v F' L' => F = F' ∧ ∃ (a : Value), (a : Value) = v ∧ (IntsF F' a (endL f ss)) ∧ L = L') := by
 refine qH func57 rfl rfl rfl (qc (qa (cX (qY [fv, ssv] rfl rfl ?_))))
 intro b1
 refine qh (sN) rfl (qb (qc (qc (qa (cX (qn (1) runUnderlying99 rfl sizeOf97 (by decide) rfl rfl (cX (qj isAgg97 rfl (Rd.own [] rfl rfl) (cX (qG runUnderlying97 rfl hss.slv (qh (ii ((ss.length : Int))) rfl (qb (qc (qa (qd (ii ((ss.length : Int))) rfl (cX (jU rfl rfl (qb ?_))))))))))))))))))
 refine qE (p := ((ss.length : Int) : Int) > 0) rfl (fun h1 => ?_) (fun h1 => ?_)
 ·refine qc (qa (cX (qn (1) runUnderlying99 rfl sizeOf97 (by decide) rfl rfl (cX (qj isAgg97 rfl (Rd.own [] rfl rfl) (qd (ii ((ss.length : Int))) rfl (cX (jq (((((ss).length) - 1 : Nat) : Int)) rfl rfl (by omega) (by omega) (cX (qx (((ss).length) - 1) runUnderlying97 sizeOf127 rfl rfl rfl hss.slv (by omega) rfl (cX (XOp.fieldE ((((ss).length) - 1) * 3 + 2) runUnderlying127 rfl qr (by decide) rfl rfl ?_))))))))))))
  obtain ⟨a1, ha1, hr1, hr2, hr3⟩ := hss.rd (i := ((ss).length) - 1) (by omega)
  refine cX (qj qN rfl (hr3 _) (qh (a1) rfl (qb (qw (qo (qu (L' := L) [a1] (a1) (.tmp rfl .nil) rfl rF rF (sD sR) ?_))))))
  exact ⟨rfl, _, rfl, by rw [endL, if_neg (by omega)]; exact ha1, rfl⟩
 refine qA (qc (qa (cX (qn (0) runUnderlying99 rfl qr (by decide) rfl rfl (cX (qj qN rfl (Rd.own [] rfl rfl) (qh (fv) rfl (qb (qw (qu (L' := L) [fv] (fv) (.tmp rfl .nil) rfl rF rF (sD sR) ?_))))))))))
 exact ⟨rfl, _, rfl, by rw [endL, if_pos (by omega)]; exact hf, rfl⟩
end Go.Proofs.YthkebalahfalhaaGreat
