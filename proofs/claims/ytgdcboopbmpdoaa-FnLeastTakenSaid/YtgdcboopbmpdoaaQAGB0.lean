/-
  Walks, one after the other (part 1).
-/
import Derived.Test.YtgdcboopbmpdoaaQAGL1
import Derived.Test.YtgdcboopbmpdoaaProg
import Derived.KernelRfl
import Derived.Recover
import Derived.Tactics
import Derived.Tactics2
set_option linter.unusedSimpArgs false
set_option linter.unusedVariables false
namespace Go.Proofs.Ytgdcboopbmpdoaa
open Go X M Try
theorem qa : type_of% @X.region := @X.region
theorem qb : type_of% @XL.nil := @XL.nil
theorem qc : type_of% @X.seq := @X.seq
theorem qd : type_of% @XL.mv := @XL.mv
theorem qf : type_of% @runUnderlying24 := @runUnderlying24
theorem qg : type_of% @XL.as := @XL.as
theorem qh : type_of% @XG.op := @XG.op
theorem qi : type_of% @XOp.load1 := @XOp.load1
theorem qj : type_of% @FLe.trans := @FLe.trans
theorem qk : type_of% @XOp.move := @XOp.move
theorem ql : type_of% @XOp.fieldP := @XOp.fieldP
theorem qm : type_of% @XL.no := @XL.no
theorem qn : type_of% @thenQ_ret := @thenQ_ret
theorem qo : type_of% @XL.yes := @XL.yes
theorem qp : type_of% @thenQ_exit := @thenQ_exit
theorem qq : type_of% @XOp.call := @XOp.call
theorem qr : type_of% @sizeOf2 := @sizeOf2
theorem qt : type_of% @ones_cons := @ones_cons
theorem qu : type_of% @XOp.loadN := @XOp.loadN
theorem qv : type_of% @retEnd := @retEnd
theorem qw : type_of% @sizeOf24 := @sizeOf24
theorem qx : type_of% @X.skip := @X.skip
theorem qy : type_of% @XOp.indexS := @XOp.indexS
theorem qz : type_of% @runUnderlying37 := @runUnderlying37
theorem qA : type_of% @runUnderlying29 := @runUnderlying29
theorem qB : type_of% @runUnderlying68 := @runUnderlying68
theorem qC : type_of% @X.ret := @X.ret
theorem qD : type_of% @XOp.addR := @XOp.addR
theorem qE : type_of% @X.condD := @X.condD
theorem qF : type_of% @X.block := @X.block
theorem qG : type_of% @XOp.lenS := @XOp.lenS
theorem qH : type_of% @XG.yes := @XG.yes
theorem qI : type_of% @sizeOf26 := @sizeOf26
theorem qJ : type_of% @blockQ_exit := @blockQ_exit
theorem qK : type_of% @blockQ_ret := @blockQ_ret
theorem qL : type_of% @XOp.pickT := @XOp.pickT
theorem qM : type_of% @isAgg2 := @isAgg2
theorem qN : type_of% @sizeOf29 := @sizeOf29
theorem qO : type_of% @Does.of_X := @Does.of_X
theorem qP : type_of% @XOp.buildSlice := @XOp.buildSlice
theorem qQ : type_of% @XOp.pickF := @XOp.pickF
theorem qR : type_of% @runUnderlying27 := @runUnderlying27
theorem qS : type_of% @IntsF.isSl := @IntsF.isSl
theorem qT : type_of% @isAgg24 := @isAgg24
theorem qU : type_of% @one_sl := @one_sl
theorem qV : type_of% @XOp.lss := @XOp.lss
theorem qW : type_of% @XG.no := @XG.no
theorem qX : type_of% @XOp.storeN := @XOp.storeN
theorem qY : type_of% @isAgg26 := @isAgg26
theorem qZ : type_of% @ones_nil := @ones_nil
theorem ja : type_of% @runUnderlying26 := @runUnderlying26
theorem jb : type_of% @sizeOf68 := @sizeOf68
theorem jc : type_of% @isAgg29 := @isAgg29
theorem jd : type_of% @X.exit := @X.exit
theorem je : type_of% @Sub.front := @Sub.front
theorem jf : type_of% @X.freezeF := @X.freezeF
theorem jg : type_of% @X.loop := @X.loop
theorem jh : type_of% @sizeOf27 := @sizeOf27
theorem ji : type_of% @XOp.box := @XOp.box
theorem jj : type_of% @Sub.trans := @Sub.trans
theorem jk : type_of% @XOp.nilCheck := @XOp.nilCheck
theorem jl : type_of% @Does.at := @Does.at
theorem jm : type_of% @zeroValue2 := @zeroValue2
theorem jn : type_of% @XOp.extract := @XOp.extract
theorem jo : type_of% @isAgg27 := @isAgg27
theorem jp : type_of% @XOp.eql := @XOp.eql
theorem jq : type_of% @X.draw := @X.draw
theorem jr : type_of% @X.cond := @X.cond
theorem js : type_of% @XOp.subR := @XOp.subR
theorem jt : type_of% @XOp.alloc := @XOp.alloc
theorem ju : type_of% @zeroValue24 := @zeroValue24
theorem jv : type_of% @loadNV := @loadNV
theorem jw : type_of% @XOp.gtr := @XOp.gtr
theorem jx : type_of% @XOp.notB := @XOp.notB
theorem jy : type_of% @XOp.indexA := @XOp.indexA
theorem jz : type_of% @XL.freezeF := @XL.freezeF
theorem jA : type_of% @X.condT := @X.condT
theorem jB : type_of% @runUnderlying120 := @runUnderlying120
theorem jC : type_of% @XOp.store1 := @XOp.store1
theorem jD : type_of% @isAgg68 := @isAgg68
theorem jE : type_of% @XL.noU := @XL.noU
theorem jF : type_of% @zeroValue68 := @zeroValue68
theorem jG : type_of% @X.condF := @X.condF
theorem jH : type_of% @isSl_lit := @isSl_lit
theorem jI : type_of% @X.weaken := @X.weaken
theorem jJ : type_of% @runUnderlying60 := @runUnderlying60
theorem jK : type_of% @zeroValue29 := @zeroValue29
theorem jL : type_of% @XOp.append1 := @XOp.append1
theorem jM : type_of% @runUnderlying83 := @runUnderlying83
theorem jN : type_of% @XOp.append := @XOp.append

theorem mixed : prog.follows .mixedOrders = true := by kernel_rfl

/- impl.arityAt -/
theorem arityAt_spec {F : FH} {L : List HP} {arv : Value} {ar : List Int} (har : IntsF F arv ar) {n : Int} (hn : n < (ar.length : Int)) :
    Does prog 97 [.agg #[arv], ii (n)] F (L) (fun v F' L' => (ii (arity ar n) : Value) = v ∧ F = F' ∧ L = L') := by
 refine qO func97 rfl rfl rfl (qc (qa (cX (ji [arv] rfl rfl ?_))))
 intro b1
 refine qg (ii (0)) rfl (qb (qc (qc (qa (qd (ii (n)) rfl (cX (qV rfl rfl (qb ?_))))))))
 refine qE (p := (n : Int) < 0) rfl (fun h1 => ?_) (fun h1 => ?_)
 ·refine qc (qa (qg (ii (0)) rfl (qb (qC (qn (qv (L' := L) [ii (0)] (ii (0)) (.tmp rfl .nil) rfl rF rF (sD sR) ?_))))))
  exact ⟨(vI (by simp [arity, *])), rfl, rfl⟩
 refine qx (qc (qa (cX (ql (0) ja rfl qw (by decide) rfl rfl (cX (qi qT rfl (Rd.own [] rfl rfl) (qd (ii (n)) rfl (cX (qy ((n).toNat) qf qr rfl rfl (by omega) har.slv (by omega) (Nat.mul_one _) (cX (qi qM rfl (har.rd (by omega)) (qg (ii (ar.getD ((n).toNat) 0)) rfl (qb (qC (qv (L' := L) [ii (ar.getD ((n).toNat) 0)] (ii (ar.getD ((n).toNat) 0)) (.tmp rfl .nil) rfl rF rF (sD sR) ?_)))))))))))))))
 exact ⟨(vI (by simp [arity, *])), rfl, rfl⟩

/- impl.SigOk -/
theorem SigOk_spec {F : FH} {L : List HP} {arv : Value} {ar : List Int} (har : IntsF F arv ar) :
    Does prog 57 [.agg #[arv]] F (L) (fun v F' L' => (.bool (sigOk ar) : Value) = v ∧ F = F' ∧ L = L') := by
 refine qO func57 rfl rfl rfl (qc (qa (cX (ji [arv] rfl rfl ?_))))
 intro b1
 refine qg (.bool (false)) rfl (qb (qc (qc (qa (cX (ql (0) ja rfl qw (by decide) rfl rfl (cX (qi qT rfl (Rd.own [] rfl rfl) (cX (qG qf rfl har.slv (cX (qV rfl rfl (qd (.bool (decide (((ar.length : Int) : Int) < 1))) rfl ?_)))))))))))))
 by_cases h1 : ((ar.length : Int) : Int) < 1
 ·refine qm (t := 9) rfl (vT h1) (qm (t := 9) rfl (vT h1) (qm (t := 9) rfl (vT h1) (qm (t := 9) rfl (vT h1) (cX (qL (.bool (true)) (vT h1) rfl (qb (jA rfl (qc (qa (qg (.bool (false)) rfl (qb ?_)))))))))))
  refine qC (qn (qv (L' := L) [.bool (false)] (.bool (false)) (.tmp rfl .nil) rfl rF rF (sD sR) ?_))
  exact ⟨(vB (sigOk_short (by omega))), rfl, rfl⟩
 refine qo (t := 9) rfl (vF h1) (ql (0) ja rfl qw (by decide) rfl rfl (qo (t := 9) rfl (vF h1) (qi qT rfl (Rd.own [] rfl rfl) (qo (t := 9) rfl (vF h1) (qG qf rfl har.slv (qo (t := 9) rfl (vF h1) (jw rfl rfl (cX (qQ (.bool (decide (((ar.length : Int) : Int) > 8))) (vF h1) rfl (qb ?_))))))))))
 refine qE (p := ((ar.length : Int) : Int) > 8) rfl (fun h2 => ?_) (fun h2 => ?_)
 ·refine qc (qa (qg (.bool (false)) rfl (qb (qC (qn (qv (L' := L) [.bool (false)] (.bool (false)) (.tmp rfl .nil) rfl rF rF (sD sR) ?_))))))
  exact ⟨(vB (sigOk_short (by omega))), rfl, rfl⟩
 refine qx (qc (qc (qa (cX (ql (0) ja rfl qw (by decide) rfl rfl (cX (qi qT rfl (Rd.own [] rfl rfl) (cX (qG qf rfl har.slv (qd (ii (0)) rfl (qb (qF (jg (α := Nat) (fun k => [(16, arv), (17, ii ((ar.length : Int))), (18, ii ((k : Int)))]) (fun k => cellsH b1 [arv] 26 :: L) (fun k F' => F = F' ∧ (k ≤ ar.length) ∧ (∀ i, i < k → 0 ≤ ar.getD i 0 ∧ ar.getD i 0 ≤ 3)) (fun k => ar.length - k) 0 ⟨rfl, rfl, rfl, ⟨⟩⟩ (sC sR) ⟨rfl, (by omega), (fun i hi => absurd hi (by omega))⟩ ?_)))))))))))))
 rintro k rE _ _ ⟨rfl, hk, hall⟩
 show X _ _ _ _ (envs [(16, arv), (17, ii ((ar.length : Int))), (18, ii ((k : Int)))] rE) _ (cellsH b1 [arv] 26 :: L)
 refine qc (qa (cX (qV rfl rfl (qb (qc ?_)))))
 refine qE (p := (k : Int) < (ar.length : Int)) rfl (fun h3 => ?_) (fun h3 => ?_)
 ·refine qx (qc (qF (qc (qa (cX (qy k qf qr rfl rfl rfl har.slv (by omega) (Nat.mul_one _) (cX (qi qM rfl (har.rd (by omega)) (qg (ii (ar.getD k 0)) rfl (qb (qc (qa (qd (ii (ar.getD k 0)) rfl (cX (qV rfl rfl (qd (.bool (decide ((ar.getD k 0 : Int) < 0))) rfl ?_))))))))))))))))
  by_cases h4 : (ar.getD k 0 : Int) < 0
  ·refine qm (t := 24) rfl (vT h4) (qm (t := 24) rfl (vT h4) (cX (qL (.bool (true)) (vT h4) rfl (qb (jA rfl (qc (qa (qg (.bool (false)) rfl (qb (qC (qK (qn (qn (qK (qn (qv (L' := L) [.bool (false)] (.bool (false)) (.tmp rfl .nil) rfl rF rF (sD sR) ?_))))))))))))))))
   exact ⟨(vB (sigOk_bad (i := k) (by omega) (by omega))), rfl, rfl⟩
  refine qo (t := 24) rfl (vF h4) (qk (ii (ar.getD k 0)) rfl (qo (t := 24) rfl (vF h4) (jw rfl rfl (cX (qQ (.bool (decide ((ar.getD k 0 : Int) > 3))) (vF h4) rfl (qb ?_))))))
  refine qE (p := (ar.getD k 0 : Int) > 3) rfl (fun h5 => ?_) (fun h5 => ?_)
  ·refine qc (qa (qg (.bool (false)) rfl (qb (qC (qK (qn (qn (qK (qn (qv (L' := L) [.bool (false)] (.bool (false)) (.tmp rfl .nil) rfl rF rF (sD sR) ?_))))))))))
   exact ⟨(vB (sigOk_bad (i := k) (by omega) (by omega))), rfl, rfl⟩
  refine qx (qa (cX (qD (((k + 1 : Nat) : Int)) rfl rfl (by omega) (by omega) (qd (ii (((k + 1 : Nat) : Int))) rfl (qb ?_)))))
  exact ⟨k + 1, _, FLe.refl _, rF, ⟨rfl, rfl, rfl, ⟨⟩⟩, (sC sR), ⟨rfl, (by omega), (fun i hi => (Nat.lt_or_ge i k).elim (fun h => hall i h) (fun h => by obtain rfl : i = k := (by omega); omega))⟩, (by omega)⟩
 refine jd (qp (qp (qJ (qc (qa (qg (.bool (true)) rfl (qb (qC (qv (L' := L) [.bool (true)] (.bool (true)) (.tmp rfl .nil) rfl rF rF (sD sR) ?_)))))))))
 exact ⟨(vB (sigOk_of (by omega) (by omega) (fun i hi => hall i (by omega)))), rfl, rfl⟩

/- (*impl.cursor).next -/
theorem next_spec {F : FH} {L : List HP} {c p : Nat} {arv : Value} {ar : List Int} (har : IntsF F arv ar) {tv : Value} {t : List Int} (ht : IntsF F tv t) (hb : t.length ≤ 4000000) :
    Does prog 100 [ptr c 0] F (cellsH c [arv, tv, ii ((p : Int))] 120 :: L) (fun v F' L' => F = F' ∧ ((p < t.length ∧ t.getD p 0 < (ar.length : Int) ∧ (ii (arity ar (t.getD p 0)) : Value) = v ∧ cellsH c [arv, tv, ii ((p + 1 : Nat) : Int)] 120 :: L = L') ∨ (¬ (p < t.length ∧ t.getD p 0 < (ar.length : Int)) ∧ (ii (-1) : Value) = v ∧ cellsH c [arv, tv, ii (p : Int)] 120 :: L = L'))) := by
 refine qO func100 rfl rfl rfl (qc (qa (qg (ii (0)) rfl (qb (qc (qc ?_))))))
 by_cases h1 : (p : Int) ≥ (t.length : Int)
 ·refine jq [cellsH c [arv, tv, ii ((p : Int))] 120] L 27 [] [[], [0], [1], [2], [], [4], [5], [6], [7], [3, 8], [9], [10], [10, 11], [10, 12], [10, 13], [10], [10, 15], [10, 16], [10, 17], [10, 14, 18], [10, 19], [10], [10, 21], [10, 22], [10, 23], [10, 24], [10, 25]] (phiL [qe (ptr c 0), qe (ptr c 0), qe (ptr c 2), qe (ii ((p : Int)) : Value), qe (ptr c 0), qe (ptr c 0), qe (ptr c 1), qe tv, qe (ii ((t.length : Int)) : Value), qe (.bool (decide ((p : Int) ≥ (t.length : Int))) : Value), qe (.bool (decide ((p : Int) ≥ (t.length : Int))) : Value), qe undef, qe undef, qe undef, qe undef, qe undef, qe undef, qe undef, qe undef, qe undef, qe undef, qe undef, qe undef, qe undef, qe undef, qe undef, qe undef]) (ownL []) mixed rfl rfl (by kernel_rfl) ?_ ?_
  ·refine pD (fun W R z9 => ?_) ?_
   ·refine qh (qk (ptr c 0) rfl ?_)
    exact ⟨rfl, rfl, rfl⟩
   refine pD (fun W R z9 => ?_) ?_
   ·rw [zA 0 (z9 0 rfl)]
    refine qh (jk rfl ?_)
    exact ⟨rfl, rfl, rfl⟩
   refine pD (fun W R z9 => ?_) ?_
   ·rw [zA 1 (z9 1 rfl)]
    refine qh (ql (2) jB rfl sizeOf3 (by decide) rfl rfl ?_)
    exact ⟨rfl, rfl, rfl⟩
   refine pD (fun W R z9 => ?_) ?_
   ·rw [zA 2 (z9 2 rfl)]
    refine qh (qi isAgg3 rfl (Rd.own [] rfl rfl) ?_)
    exact ⟨rfl, rfl, rfl⟩
   refine pD (fun W R z9 => ?_) ?_
   ·refine qh (qk (ptr c 0) rfl ?_)
    exact ⟨rfl, rfl, rfl⟩
   refine pD (fun W R z9 => ?_) ?_
   ·rw [zA 4 (z9 4 rfl)]
    refine qh (jk rfl ?_)
    exact ⟨rfl, rfl, rfl⟩
   refine pD (fun W R z9 => ?_) ?_
   ·rw [zA 5 (z9 5 rfl)]
    refine qh (ql (1) jB rfl qw (by decide) rfl rfl ?_)
    exact ⟨rfl, rfl, rfl⟩
   refine pD (fun W R z9 => ?_) ?_
   ·rw [zA 6 (z9 6 rfl)]
    refine qh (qi qT rfl (Rd.own [] rfl rfl) ?_)
    exact ⟨rfl, rfl, rfl⟩
   refine pD (fun W R z9 => ?_) ?_
   ·rw [zA 7 (z9 7 rfl)]
    refine qh (qG qf rfl ht.slv ?_)
    exact ⟨rfl, rfl, rfl⟩
   refine pD (fun W R z9 => ?_) ?_
   ·rw [zB 3 8 (z9 3 rfl) (z9 8 rfl)]
    refine qh (XOp.geq rfl rfl ?_)
    exact ⟨rfl, rfl, rfl⟩
   refine pD (fun W R z9 => ?_) ?_
   ·rw [zA 9 (z9 9 rfl)]
    refine qh (qk (.bool (decide ((p : Int) ≥ (t.length : Int)))) rfl ?_)
    exact ⟨rfl, rfl, rfl⟩
   refine pD (fun W R z9 => ?_) ?_
   ·rw [zA 10 (z9 10 rfl)]
    exact qW (t := 13) rfl (vT h1) ⟨rfl, rfl, rfl⟩
   refine pD (fun W R z9 => ?_) ?_
   ·rw [eS (l := [(10, _), (11, undef)]) ⟨z9 10 rfl, z9 11 rfl, ⟨⟩⟩]
    exact qW (t := 13) rfl (vT h1) ⟨rfl, rfl, rfl⟩
   refine pD (fun W R z9 => ?_) ?_
   ·rw [eS (l := [(10, _), (12, undef)]) ⟨z9 10 rfl, z9 12 rfl, ⟨⟩⟩]
    exact qW (t := 13) rfl (vT h1) ⟨rfl, rfl, rfl⟩
   refine pD (fun W R z9 => ?_) ?_
   ·rw [eS (l := [(10, _), (13, undef)]) ⟨z9 10 rfl, z9 13 rfl, ⟨⟩⟩]
    exact qW (t := 13) rfl (vT h1) ⟨rfl, rfl, rfl⟩
   refine pD (fun W R z9 => ?_) ?_
   ·rw [zA 10 (z9 10 rfl)]
    exact qW (t := 13) rfl (vT h1) ⟨rfl, rfl, rfl⟩
   refine pD (fun W R z9 => ?_) ?_
   ·rw [eS (l := [(10, _), (15, undef)]) ⟨z9 10 rfl, z9 15 rfl, ⟨⟩⟩]
    exact qW (t := 13) rfl (vT h1) ⟨rfl, rfl, rfl⟩
   refine pD (fun W R z9 => ?_) ?_
   ·rw [eS (l := [(10, _), (16, undef)]) ⟨z9 10 rfl, z9 16 rfl, ⟨⟩⟩]
    exact qW (t := 13) rfl (vT h1) ⟨rfl, rfl, rfl⟩
   refine pD (fun W R z9 => ?_) ?_
   ·rw [eS (l := [(10, _), (17, undef)]) ⟨z9 10 rfl, z9 17 rfl, ⟨⟩⟩]
    exact qW (t := 13) rfl (vT h1) ⟨rfl, rfl, rfl⟩
   refine pD (fun W R z9 => ?_) ?_
   ·rw [eS (l := [(10, _), (14, undef), (18, undef)]) ⟨z9 10 rfl, z9 14 rfl, z9 18 rfl, ⟨⟩⟩]
    exact qW (t := 13) rfl (vT h1) ⟨rfl, rfl, rfl⟩
   refine pD (fun W R z9 => ?_) ?_
   ·rw [eS (l := [(10, _), (19, undef)]) ⟨z9 10 rfl, z9 19 rfl, ⟨⟩⟩]
    exact qW (t := 13) rfl (vT h1) ⟨rfl, rfl, rfl⟩
   refine pD (fun W R z9 => ?_) ?_
   ·rw [zA 10 (z9 10 rfl)]
    exact qW (t := 13) rfl (vT h1) ⟨rfl, rfl, rfl⟩
   refine pD (fun W R z9 => ?_) ?_
   ·rw [eS (l := [(10, _), (21, undef)]) ⟨z9 10 rfl, z9 21 rfl, ⟨⟩⟩]
    exact qW (t := 13) rfl (vT h1) ⟨rfl, rfl, rfl⟩
   refine pD (fun W R z9 => ?_) ?_
   ·rw [eS (l := [(10, _), (22, undef)]) ⟨z9 10 rfl, z9 22 rfl, ⟨⟩⟩]
    exact qW (t := 13) rfl (vT h1) ⟨rfl, rfl, rfl⟩
   refine pD (fun W R z9 => ?_) ?_
   ·rw [eS (l := [(10, _), (23, undef)]) ⟨z9 10 rfl, z9 23 rfl, ⟨⟩⟩]
    exact qW (t := 13) rfl (vT h1) ⟨rfl, rfl, rfl⟩
   refine pD (fun W R z9 => ?_) ?_
   ·rw [eS (l := [(10, _), (24, undef)]) ⟨z9 10 rfl, z9 24 rfl, ⟨⟩⟩]
    exact qW (t := 13) rfl (vT h1) ⟨rfl, rfl, rfl⟩
   refine pD (fun W R z9 => ?_) ?_
   ·rw [eS (l := [(10, _), (25, undef)]) ⟨z9 10 rfl, z9 25 rfl, ⟨⟩⟩]
    exact qW (t := 13) rfl (vT h1) ⟨rfl, rfl, rfl⟩
   exact stepsP.nil
  intro W hphi
  rw [eS (l := [(10, _), (20, undef), (26, undef)]) ⟨(hphi 10 (by decide)), (hphi 20 (by decide)), (hphi 26 (by decide)), ⟨⟩⟩]
  show XL _ _ _ _ _ _ _ (cellsH c [arv, tv, ii ((p : Int))] 120 :: L)
  refine qm (t := 13) rfl (vT h1) (cX (qL (.bool (true)) (vT h1) rfl (qb (jA rfl (qc (qa (qg (ii (-1)) rfl (qb (qC (qn (qv (L' := cellsH c [arv, tv, ii ((p : Int))] 120 :: L) [ii (-1)] (ii (-1)) (.tmp rfl .nil) rfl rF rF (sC sR) ?_)))))))))))
  exact ⟨rfl, .inr ⟨by omega, rfl, rfl⟩⟩
 refine jq [cellsH c [arv, tv, ii ((p : Int))] 120] L 27 [] [[], [0], [1], [2], [], [4], [5], [6], [7], [3, 8], [9], [10], [10, 11], [10, 12], [10, 13], [10], [10, 15], [10, 16], [10, 17], [10, 14, 18], [10, 19], [10], [10, 21], [10, 22], [10, 23], [10, 24], [10, 25]] (phiL [qe (ptr c 0), qe (ptr c 0), qe (ptr c 2), qe (ii ((p : Int)) : Value), qe (ptr c 0), qe (ptr c 0), qe (ptr c 1), qe tv, qe (ii ((t.length : Int)) : Value), qe (.bool (decide ((p : Int) ≥ (t.length : Int))) : Value), qe (.bool (decide ((p : Int) ≥ (t.length : Int))) : Value), qe (ptr c 0), qe (ptr c 0), qe (ptr c 1), qe tv, qe (ptr c 0), qe (ptr c 0), qe (ptr c 2), qe (ii ((p : Int)) : Value), qe (.pointer (some (elemA tv (p)))), qe (ii (t.getD p 0)), qe (ptr c 0), qe (ptr c 0), qe (ptr c 0), qe (ptr c 0), qe arv, qe (ii ((ar.length : Int)) : Value)]) (ownL []) mixed rfl rfl (by kernel_rfl) ?_ ?_
 ·refine pD (fun W R z9 => ?_) ?_
  ·refine qh (qk (ptr c 0) rfl ?_)
   exact ⟨rfl, rfl, rfl⟩
  refine pD (fun W R z9 => ?_) ?_
  ·rw [zA 0 (z9 0 rfl)]
   refine qh (jk rfl ?_)
   exact ⟨rfl, rfl, rfl⟩
  refine pD (fun W R z9 => ?_) ?_
  ·rw [zA 1 (z9 1 rfl)]
   refine qh (ql (2) jB rfl sizeOf3 (by decide) rfl rfl ?_)
   exact ⟨rfl, rfl, rfl⟩
  refine pD (fun W R z9 => ?_) ?_
  ·rw [zA 2 (z9 2 rfl)]
   refine qh (qi isAgg3 rfl (Rd.own [] rfl rfl) ?_)
   exact ⟨rfl, rfl, rfl⟩
  refine pD (fun W R z9 => ?_) ?_
  ·refine qh (qk (ptr c 0) rfl ?_)
   exact ⟨rfl, rfl, rfl⟩
  refine pD (fun W R z9 => ?_) ?_
  ·rw [zA 4 (z9 4 rfl)]
   refine qh (jk rfl ?_)
   exact ⟨rfl, rfl, rfl⟩
  refine pD (fun W R z9 => ?_) ?_
  ·rw [zA 5 (z9 5 rfl)]
   refine qh (ql (1) jB rfl qw (by decide) rfl rfl ?_)
   exact ⟨rfl, rfl, rfl⟩
  refine pD (fun W R z9 => ?_) ?_
  ·rw [zA 6 (z9 6 rfl)]
   refine qh (qi qT rfl (Rd.own [] rfl rfl) ?_)
   exact ⟨rfl, rfl, rfl⟩
  refine pD (fun W R z9 => ?_) ?_
  ·rw [zA 7 (z9 7 rfl)]
   refine qh (qG qf rfl ht.slv ?_)
   exact ⟨rfl, rfl, rfl⟩
  refine pD (fun W R z9 => ?_) ?_
  ·rw [zB 3 8 (z9 3 rfl) (z9 8 rfl)]
   refine qh (XOp.geq rfl rfl ?_)
   exact ⟨rfl, rfl, rfl⟩
  refine pD (fun W R z9 => ?_) ?_
  ·rw [zA 9 (z9 9 rfl)]
   refine qh (qk (.bool (decide ((p : Int) ≥ (t.length : Int)))) rfl ?_)
   exact ⟨rfl, rfl, rfl⟩
  refine pD (fun W R z9 => ?_) ?_
  ·rw [zA 10 (z9 10 rfl)]
   refine qH (t := 13) rfl (vF h1) (qk (ptr c 0) rfl ?_)
   exact ⟨rfl, rfl, rfl⟩
  refine pD (fun W R z9 => ?_) ?_
  ·rw [zB 10 11 (z9 10 rfl) (z9 11 rfl)]
   refine qH (t := 13) rfl (vF h1) (jk rfl ?_)
   exact ⟨rfl, rfl, rfl⟩
  refine pD (fun W R z9 => ?_) ?_
  ·rw [zB 10 12 (z9 10 rfl) (z9 12 rfl)]
   refine qH (t := 13) rfl (vF h1) (ql (1) jB rfl qw (by decide) rfl rfl ?_)
   exact ⟨rfl, rfl, rfl⟩
  refine pD (fun W R z9 => ?_) ?_
  ·rw [zB 10 13 (z9 10 rfl) (z9 13 rfl)]
   refine qH (t := 13) rfl (vF h1) (qi qT rfl (Rd.own [] rfl rfl) ?_)
   exact ⟨rfl, rfl, rfl⟩
  refine pD (fun W R z9 => ?_) ?_
  ·rw [zA 10 (z9 10 rfl)]
   refine qH (t := 13) rfl (vF h1) (qk (ptr c 0) rfl ?_)
   exact ⟨rfl, rfl, rfl⟩
  refine pD (fun W R z9 => ?_) ?_
  ·rw [zB 10 15 (z9 10 rfl) (z9 15 rfl)]
   refine qH (t := 13) rfl (vF h1) (jk rfl ?_)
   exact ⟨rfl, rfl, rfl⟩
  refine pD (fun W R z9 => ?_) ?_
  ·rw [zB 10 16 (z9 10 rfl) (z9 16 rfl)]
   refine qH (t := 13) rfl (vF h1) (ql (2) jB rfl sizeOf3 (by decide) rfl rfl ?_)
   exact ⟨rfl, rfl, rfl⟩
  refine pD (fun W R z9 => ?_) ?_
  ·rw [zB 10 17 (z9 10 rfl) (z9 17 rfl)]
   refine qH (t := 13) rfl (vF h1) (qi isAgg3 rfl (Rd.own [] rfl rfl) ?_)
   exact ⟨rfl, rfl, rfl⟩
  refine pD (fun W R z9 => ?_) ?_
  ·rw [eS (l := [(10, _), (14, _), (18, _)]) ⟨z9 10 rfl, z9 14 rfl, z9 18 rfl, ⟨⟩⟩]
   refine qH (t := 13) rfl (vF h1) (qy p qf qr rfl rfl rfl ht.slv (by omega) (Nat.mul_one _) ?_)
   exact ⟨rfl, rfl, rfl⟩
  refine pD (fun W R z9 => ?_) ?_
  ·rw [zB 10 19 (z9 10 rfl) (z9 19 rfl)]
   refine qH (t := 13) rfl (vF h1) (qi qM rfl (ht.rd (by omega)) ?_)
   exact ⟨rfl, rfl, rfl⟩
  refine pD (fun W R z9 => ?_) ?_
  ·rw [zA 10 (z9 10 rfl)]
   refine qH (t := 13) rfl (vF h1) (qk (ptr c 0) rfl ?_)
   exact ⟨rfl, rfl, rfl⟩
  refine pD (fun W R z9 => ?_) ?_
  ·rw [zB 10 21 (z9 10 rfl) (z9 21 rfl)]
   refine qH (t := 13) rfl (vF h1) (jk rfl ?_)
   exact ⟨rfl, rfl, rfl⟩
  refine pD (fun W R z9 => ?_) ?_
  ·rw [zB 10 22 (z9 10 rfl) (z9 22 rfl)]
   refine qH (t := 13) rfl (vF h1) (ql (0) jB rfl qI (by decide) rfl rfl ?_)
   exact ⟨rfl, rfl, rfl⟩
  refine pD (fun W R z9 => ?_) ?_
  ·rw [zB 10 23 (z9 10 rfl) (z9 23 rfl)]
   refine qH (t := 13) rfl (vF h1) (ql (0) ja rfl qw (by decide) rfl rfl ?_)
   exact ⟨rfl, rfl, rfl⟩
  refine pD (fun W R z9 => ?_) ?_
  ·rw [zB 10 24 (z9 10 rfl) (z9 24 rfl)]
   refine qH (t := 13) rfl (vF h1) (qi qT rfl (Rd.own [] rfl rfl) ?_)
   exact ⟨rfl, rfl, rfl⟩
  refine pD (fun W R z9 => ?_) ?_
  ·rw [zB 10 25 (z9 10 rfl) (z9 25 rfl)]
   refine qH (t := 13) rfl (vF h1) (qG qf rfl har.slv ?_)
   exact ⟨rfl, rfl, rfl⟩
  exact stepsP.nil
 intro W hphi
 rw [eS (l := [(10, _), (20, _), (26, _)]) ⟨(hphi 10 (by decide)), (hphi 20 (by decide)), (hphi 26 (by decide)), ⟨⟩⟩]
 show XL _ _ _ _ _ _ _ (cellsH c [arv, tv, ii ((p : Int))] 120 :: L)
 refine qo (t := 13) rfl (vF h1) (XOp.geq rfl rfl (cX (qQ (.bool (decide ((t.getD p 0 : Int) ≥ (ar.length : Int)))) (vF h1) rfl (qb ?_))))
 refine qE (p := (t.getD p 0 : Int) ≥ (ar.length : Int)) rfl (fun h2 => ?_) (fun h2 => ?_)
 ·refine qc (qa (qg (ii (-1)) rfl (qb (qC (qn (qv (L' := cellsH c [arv, tv, ii ((p : Int))] 120 :: L) [ii (-1)] (ii (-1)) (.tmp rfl .nil) rfl rF rF (sC sR) ?_))))))
  exact ⟨rfl, .inr ⟨by omega, rfl, rfl⟩⟩
 refine qx (qc (qa (qd (ptr c 0) rfl (cX (jk rfl (cX (ql (2) jB rfl sizeOf3 (by decide) rfl rfl (cX (qi isAgg3 rfl (Rd.own [] rfl rfl) (cX (qD (((p + 1 : Nat) : Int)) rfl rfl (by omega) (by omega) (cX (jk rfl (cX (ql (2) jB rfl sizeOf3 (by decide) rfl rfl (cX (jC [] _ [arv, tv, ii (((p + 1 : Nat) : Int))] sizeOf3 rfl rfl rfl rfl rfl rfl (qb (qc ?_)))))))))))))))))))
 refine jq [cellsH c [arv, tv, ii (((p + 1 : Nat) : Int))] 120] L 15 [] [[], [0], [1], [2], [], [4], [5], [6], [], [8], [9], [10], [11], [7, 12], [13]] (phiL [qe (ptr c 0), qe (ptr c 0), qe (ptr c 0), qe (.agg #[arv]), qe (ptr c 0), qe (ptr c 0), qe (ptr c 1), qe tv, qe (ptr c 0), qe (ptr c 0), qe (ptr c 2), qe (ii (((p + 1 : Nat) : Int)) : Value), qe (ii ((p : Int)) : Value), qe (.pointer (some (elemA tv (p)))), qe (ii (t.getD p 0))]) (ownL []) mixed rfl rfl (by kernel_rfl) ?_ ?_
 ·refine pD (fun W R z9 => ?_) ?_
  ·refine qh (qk (ptr c 0) rfl ?_)
   exact ⟨rfl, rfl, rfl⟩
  refine pD (fun W R z9 => ?_) ?_
  ·rw [zA 0 (z9 0 rfl)]
   refine qh (jk rfl ?_)
   exact ⟨rfl, rfl, rfl⟩
  refine pD (fun W R z9 => ?_) ?_
  ·rw [zA 1 (z9 1 rfl)]
   refine qh (ql (0) jB rfl qI (by decide) rfl rfl ?_)
   exact ⟨rfl, rfl, rfl⟩
  refine pD (fun W R z9 => ?_) ?_
  ·rw [zA 2 (z9 2 rfl)]
   refine qh (qu [arv] qY qI rfl rfl (Rd.ownN [] rfl rfl) ?_)
   exact ⟨rfl, rfl, rfl⟩
  refine pD (fun W R z9 => ?_) ?_
  ·refine qh (qk (ptr c 0) rfl ?_)
   exact ⟨rfl, rfl, rfl⟩
  refine pD (fun W R z9 => ?_) ?_
  ·rw [zA 4 (z9 4 rfl)]
   refine qh (jk rfl ?_)
   exact ⟨rfl, rfl, rfl⟩
  refine pD (fun W R z9 => ?_) ?_
  ·rw [zA 5 (z9 5 rfl)]
   refine qh (ql (1) jB rfl qw (by decide) rfl rfl ?_)
   exact ⟨rfl, rfl, rfl⟩
  refine pD (fun W R z9 => ?_) ?_
  ·rw [zA 6 (z9 6 rfl)]
   refine qh (qi qT rfl (Rd.own [] rfl rfl) ?_)
   exact ⟨rfl, rfl, rfl⟩
  refine pD (fun W R z9 => ?_) ?_
  ·refine qh (qk (ptr c 0) rfl ?_)
   exact ⟨rfl, rfl, rfl⟩
  refine pD (fun W R z9 => ?_) ?_
  ·rw [zA 8 (z9 8 rfl)]
   refine qh (jk rfl ?_)
   exact ⟨rfl, rfl, rfl⟩
  refine pD (fun W R z9 => ?_) ?_
  ·rw [zA 9 (z9 9 rfl)]
   refine qh (ql (2) jB rfl sizeOf3 (by decide) rfl rfl ?_)
   exact ⟨rfl, rfl, rfl⟩
  refine pD (fun W R z9 => ?_) ?_
  ·rw [zA 10 (z9 10 rfl)]
   refine qh (qi isAgg3 rfl (Rd.own [] rfl rfl) ?_)
   exact ⟨rfl, rfl, rfl⟩
  refine pD (fun W R z9 => ?_) ?_
  ·rw [zA 11 (z9 11 rfl)]
   refine qh (js ((p : Int)) rfl rfl (by omega) (by omega) ?_)
   exact ⟨rfl, rfl, rfl⟩
  refine pD (fun W R z9 => ?_) ?_
  ·rw [zB 7 12 (z9 7 rfl) (z9 12 rfl)]
   refine qh (qy p qf qr rfl rfl rfl ht.slv (by omega) (Nat.mul_one _) ?_)
   exact ⟨rfl, rfl, rfl⟩
  refine pD (fun W R z9 => ?_) ?_
  ·rw [zA 13 (z9 13 rfl)]
   refine qh (qi qM rfl (ht.rd (by omega)) ?_)
   exact ⟨rfl, rfl, rfl⟩
  exact stepsP.nil
 intro W hphi
 rw [zB 3 14 (hphi 3 (by decide)) (hphi 14 (by decide))]
 show XL _ _ _ _ _ _ _ (cellsH c [arv, tv, ii (((p + 1 : Nat) : Int))] 120 :: L)
 refine cX (qq (args := [.agg #[arv], ii (t.getD p 0)]) call97 rfl (arityAt_spec (n := t.getD p 0) har (hn := (by first | assumption | rfl | omega | simp))) ?_)
 rintro _ _ _ _ ⟨rfl, rfl, rfl⟩
 refine qg (ii (arity ar (t.getD p 0))) rfl (qb (qC (qv (L' := cellsH c [arv, tv, ii (((p + 1 : Nat) : Int))] 120 :: L) [ii (arity ar (t.getD p 0))] (ii (arity ar (t.getD p 0))) (.tmp rfl .nil) rfl rF rF (sC sR) ?_)))
 exact ⟨rfl, .inl ⟨by omega, by omega, rfl, rfl⟩⟩

/- (*impl.cursor).skip -/
theorem skip_spec {F : FH} {L : List HP} {c p0 : Nat} {arv : Value} {ar : List Int} (har : IntsF F arv ar) {tv : Value} {t : List Int} (ht : IntsF F tv t) (hb : t.length ≤ 4000000) (hs : sigOk ar = true) (hp : p0 ≤ t.length) :
    Does prog 95 [ptr c 0] F (cellsH c [arv, tv, ii ((p0 : Int))] 120 :: L) (fun v F' L' => F = F' ∧ ∃ q : Nat, (.bool (endGo ar (t.drop p0) 1).isSome : Value) = v ∧ (∀ e, endGo ar (t.drop p0) 1 = some e → q = p0 + e) ∧ cellsH c [arv, tv, ii (q : Int)] 120 :: L = L') := by
 refine qO func95 rfl rfl rfl (qc (qa (qg (.bool (false)) rfl (qb (qc (qc (qa (qg (ii (1)) rfl (qb (qF (jg (α := Nat × Nat) (fun xQ => [(0, ptr c 0), (3, ii (((xQ.1 : Nat) : Int)))]) (fun xQ => cellsH c [arv, tv, ii (((xQ.2 : Nat) : Int))] 120 :: L) (fun xQ F' => F = F' ∧ (endGo ar (t.drop p0) 1 = (endGo ar (t.drop xQ.2) xQ.1).map (· + (xQ.2 - p0))) ∧ (p0 ≤ xQ.2 ∧ xQ.2 ≤ t.length) ∧ (xQ.1 ≤ 1 + 3 * xQ.2)) (fun xQ => t.length - xQ.2) (1, p0) ⟨rfl, rfl, ⟨⟩⟩ (sC sR) ⟨rfl, (by simp), (by omega), (by omega)⟩ ?_)))))))))))
 rintro ⟨k, p⟩ rE _ _ ⟨rfl, hi, h1, h2⟩
 show X _ _ _ _ (envs [(0, ptr c 0), (3, ii ((k : Int)))] rE) _ (cellsH c [arv, tv, ii ((p : Int))] 120 :: L)
 dsimp only at hi h1 h2
 refine qc (qc (qa (qd (ii ((k : Int))) rfl (cX (jw rfl rfl (qb ?_))))))
 refine qE (p := (k : Int) > 0) rfl (fun h1 => ?_) (fun h1 => ?_)
 ·refine qx (qc (qF (qc (qa (qd (ptr c 0) rfl (cX (qq (args := [ptr c 0]) call100 rfl (next_spec (p := p) har ht (by omega)) ?_)))))))
  rintro _ _ _ _ ⟨rfl, ⟨hn1a, hn1b, rfl, rfl⟩ | ⟨hn1c, rfl, rfl⟩⟩
  ·have hA := arity_le hs hn1b
   refine qg (ii (arity ar ((t).getD p 0))) rfl (qb (qc (qc (qa (qd (ii (arity ar ((t).getD p 0))) rfl (cX (qV rfl rfl (qb ?_))))))))
   refine qE (p := (arity ar ((t).getD p 0) : Int) < 0) rfl (fun h2 => ?_) (fun h2 => ?_)
   ·omega
   refine qx (qa (qd (ii ((k : Int))) rfl (qd (ii (arity ar ((t).getD p 0))) rfl (cX (qD (((k + (arity ar (t.getD p 0)).toNat : Nat) : Int)) rfl rfl (by omega) (by omega) (qg (ii (((k + (arity ar (t.getD p 0)).toNat : Nat) : Int))) rfl (qb (qa (qd (ii (((k + (arity ar (t.getD p 0)).toNat : Nat) : Int))) rfl (cX (js (((k - 1 + (arity ar (t.getD p 0)).toNat : Nat) : Int)) rfl rfl (by omega) (by omega) (qg (ii (((k - 1 + (arity ar (t.getD p 0)).toNat : Nat) : Int))) rfl (qb ?_)))))))))))))
   exact ⟨(k - 1 + (arity ar (t.getD p 0)).toNat, p + 1), _, FLe.refl _, rF, ⟨rfl, rfl, ⟨⟩⟩, (sC sR), ⟨rfl, (by rw [hi, endGo_step (by omega) (by omega) (by omega), Option.map_map]; congr 1; funext e; simp; omega), (by omega), (by omega)⟩, (by omega)⟩
  refine qg (ii (-1)) rfl (qb (qc (qc (qa (qd (ii (-1)) rfl (cX (qV rfl rfl (qb (jA rfl (qc (qa (qg (.bool (false)) rfl (qb (qC (qn (qK (qn (qn (qK (qn (qv (L' := cellsH c [arv, tv, ii ((p : Int))] 120 :: L) [.bool (false)] (.bool (false)) (.tmp rfl .nil) rfl rF rF (sC sR) ?_)))))))))))))))))))))
  have hz : endGo ar (t.drop p0) 1 = none := by rw [hi, endGo_none (by omega) (by omega)]; rfl
  refine ⟨rfl, p, ?_, ?_, rfl⟩
  · rw [hz]; rfl
  · intro e he; rw [hz] at he; cases he
 refine jd (qp (qp (qJ (qc (qa (qg (.bool (true)) rfl (qb (qC (qv (L' := cellsH c [arv, tv, ii ((p : Int))] 120 :: L) [.bool (true)] (.bool (true)) (.tmp rfl .nil) rfl rF rF (sC sR) ?_)))))))))
 obtain rfl : k = 0 := by omega
 have hz : endGo ar (t.drop p0) 1 = some (p - p0) := by rw [hi]; simp [endGo]
 refine ⟨rfl, p, ?_, ?_, rfl⟩
 · rw [hz]; rfl
 · intro e he; rw [hz] at he; cases he; omega

/- impl.endAt -/
theorem endAt_spec {F : FH} {L : List HP} {arv : Value} {ar : List Int} (har : IntsF F arv ar) {tv : Value} {t : List Int} (ht : IntsF F tv t) {p : Nat} (hs : sigOk ar = true) (hb : t.length ≤ 4000000) (hp : p ≤ t.length) :
    Does prog 86 [.agg #[arv], tv, ii ((p : Int))] F (L) (fun v F' L' => (ii (endZ ar t p) : Value) = v ∧ F = F' ∧ L = L') := by
 refine qO func86 rfl rfl rfl (qc (qa (cX (ji [arv] rfl rfl ?_))))
 intro b1
 refine qg (ii (0)) rfl (qb (qc (qa (cX (qu [arv] qY qI rfl rfl (Rd.ownN [] rfl rfl) (qd (tv) rfl (qd (ii ((p : Int))) rfl (cX (XOp.build [arv, tv, ii ((p : Int))] [sN, sN, ii (0)] [(0, 1), (1, 1), (2, 1)] [(0, [arv]), (1, [tv]), (2, [ii ((p : Int))])] jB zeroValue120 rfl (.cons rfl qI (.cons rfl qw (.cons rfl sizeOf3 PlacesAre.nil))) rfl (.cons rfl (.cons (cells_one (qS ht)) (.cons rfl CellsAre.nil))) (cX (jt [sN, sN, ii (0)] zeroValue120 rfl ?_)))))))))))
 intro b2
 refine cX (qX [] _ [arv, tv, ii ((p : Int))] sizeOf120 rfl rfl rfl (qt (qU (qS har)) (qt (qU (qS ht)) (qt rfl qZ))) rfl rfl rfl (qb (qc (qc (qa (cX (qq (args := [ptr b2 0]) call95 rfl (skip_spec (p0 := p) har ht (by omega) hs (by omega)) ?_)))))))
 rintro _ _ _ _ ⟨rfl, q1, rfl, hq1, rfl⟩
 refine cX (jx rfl (qb ?_))
 refine jr (t := !((endGo ar (t.drop p) 1).isSome)) rfl (fun h1 => ?_) (fun h1 => ?_)
 ·refine qc (qa (qg (ii (-1)) rfl (qb (qC (qn (qv (L' := L) [ii (-1)] (ii (-1)) (.tmp rfl .nil) rfl rF rF (sD (sD sR)) ?_))))))
  exact ⟨(vI (endZ_none (by rw [Bool.eq_false_iff] at *; simpa using h1))), rfl, rfl⟩
 refine qx (qc (qa (cX (ql (2) jB rfl sizeOf3 (by decide) rfl rfl (cX (qi isAgg3 rfl (Rd.own [] rfl rfl) (qg (ii ((q1 : Int))) rfl (qb (qC (qv (L' := L) [ii ((q1 : Int))] (ii ((q1 : Int))) (.tmp rfl .nil) rfl rF rF (sD (sD sR)) ?_))))))))))
 exact ⟨(vI (endZ_some hq1 (by simpa using h1))), rfl, rfl⟩

/- slices.Min[[]int64,int64] -/
theorem Min_spec {F : FH} {L : List HP} {xsv : Value} {xs : List Int} (hxs : IntsF F xsv xs) (h1 : 1 ≤ xs.length) (hbd : xs.length ≤ 4000000) :
    Does prog 85 [xsv] F (L) (fun v F' L' => (ii (minL xs) : Value) = v ∧ F = F' ∧ L = L') := by
 refine qO func85 rfl rfl rfl (qc (qa (qg (ii (0)) rfl (qb (qc (qc (qa (qd (xsv) rfl (cX (qG qf rfl hxs.slv (cX (qV rfl rfl (qb ?_)))))))))))))
 refine qE (p := ((xs.length : Int) : Int) < 1) rfl (fun h1 => ?_) (fun h1 => ?_)
 ·omega
 refine qx (qc (qa (qd (xsv) rfl (cX (qy 0 qf qr rfl rfl rfl hxs.slv (by omega) (Nat.mul_one _) (cX (qi qM rfl (hxs.rd (by omega)) (qg (ii (xs.getD 0 0)) rfl (qb (qc (qc (qa (qg (ii (1)) rfl (qb (qF (jg (α := Nat) (fun k => [(0, xsv), (3, ii (minL (xs.take k))), (4, ii ((k : Int)))]) (fun k => L) (fun k F' => F = F' ∧ (1 ≤ k ∧ k ≤ xs.length)) (fun k => xs.length - k) 1 ⟨rfl, (vI (minL_take1 (xs := xs) (by omega)).symm), rfl, ⟨⟩⟩ sR ⟨rfl, (by omega)⟩ ?_))))))))))))))))
 rintro k rE _ _ ⟨rfl, hk⟩
 show X _ _ _ _ (envs [(0, xsv), (3, ii (minL (xs.take k))), (4, ii ((k : Int)))] rE) _ (L)
 refine qc (qc (qa (qd (ii ((k : Int))) rfl (qd (xsv) rfl (cX (qG qf rfl hxs.slv (cX (qV rfl rfl (qb ?_)))))))))
 refine qE (p := (k : Int) < (xs.length : Int)) rfl (fun h2 => ?_) (fun h2 => ?_)
 ·refine qx (qc (qF (qa (qd (ii (minL (xs.take k))) rfl (qd (xsv) rfl (qd (ii ((k : Int))) rfl (cX (qy k qf qr rfl rfl rfl hxs.slv (by omega) (Nat.mul_one _) (cX (qi qM rfl (hxs.rd (by omega)) (cX (XOp.min2R (a := minL (xs.take k)) (b := xs.getD k 0) (minL (xs.take (k + 1))) rfl rfl ((minL_step (by omega) (by omega)).symm) (qg (ii (minL (xs.take (k + 1)))) rfl (qb (qa (qd (ii ((k : Int))) rfl ?_))))))))))))))))
  refine cX (qD (((k + 1 : Nat) : Int)) rfl rfl (by omega) (by omega) (qg (ii (((k + 1 : Nat) : Int))) rfl (qb ?_)))
  exact ⟨k + 1, _, FLe.refl _, rF, ⟨rfl, rfl, rfl, ⟨⟩⟩, sR, ⟨rfl, (by omega)⟩, (by omega)⟩
 refine jd (qp (qp (qJ (qc (qa (qd (ii (minL (xs.take k))) rfl (qg (ii (minL (xs.take k))) rfl (qb (qC (qv (L' := L) [ii (minL (xs.take k))] (ii (minL (xs.take k))) (.tmp rfl .nil) rfl rF rF sR ?_))))))))))
 exact ⟨(vI (by rw [minL_take_all (by omega)])), rfl, rfl⟩

/- slices.Equal[[]int64,int64] -/
theorem Equal_spec {F : FH} {L : List HP} {av : Value} {a : List Int} (ha : IntsF F av a) {bv : Value} {b : List Int} (hb : IntsF F bv b) (hbd : a.length ≤ 9223372036854775807 ∨ b.length ≤ 9223372036854775807) :
    Does prog 84 [av, bv] F (L) (fun v F' L' => (.bool (decide (a = b)) : Value) = v ∧ F = F' ∧ L = L') := by
 refine qO func84 rfl rfl rfl (qc (qa (qg (.bool (false)) rfl (qb (qc (qc (qa (qd (av) rfl (cX (qG qf rfl ha.slv (qd (bv) rfl (cX (qG qf rfl hb.slv (cX (XOp.neq rfl rfl (qb ?_))))))))))))))))
 refine qE (p := ((a.length : Int) : Int) ≠ (b.length : Int)) rfl (fun h1 => ?_) (fun h1 => ?_)
 ·refine qc (qa (qg (.bool (false)) rfl (qb (qC (qn (qv (L' := L) [.bool (false)] (.bool (false)) (.tmp rfl .nil) rfl rF rF sR ?_))))))
  exact ⟨(vB (decide_eq_false (fun e => by rw [e] at h1; omega))), rfl, rfl⟩
 refine qx (qc (qc (qa (qd (av) rfl (cX (qG qf rfl ha.slv (qd (ii (0)) rfl (qb (qF (jg (α := Nat) (fun k => [(0, av), (1, bv), (12, ii ((a.length : Int))), (13, ii ((k : Int)))]) (fun k => L) (fun k F' => F = F' ∧ (k ≤ a.length) ∧ (∀ i, i < k → a.getD i 0 = b.getD i 0)) (fun k => a.length - k) 0 ⟨rfl, rfl, rfl, rfl, ⟨⟩⟩ sR ⟨rfl, (by omega), (fun i hi => absurd hi (by omega))⟩ ?_))))))))))
 rintro k rE _ _ ⟨rfl, hk, hall⟩
 show X _ _ _ _ (envs [(0, av), (1, bv), (12, ii ((a.length : Int))), (13, ii ((k : Int)))] rE) _ (L)
 refine qc (qa (cX (qV rfl rfl (qb (qc ?_)))))
 refine qE (p := (k : Int) < (a.length : Int)) rfl (fun h2 => ?_) (fun h2 => ?_)
 ·refine qx (qc (qF (qc (qa (qd (ii ((k : Int))) rfl (qg (ii ((k : Int))) rfl (qb (qc ?_))))))))
  refine jq [] L 8 [] [[], [], [0, 1], [2], [], [], [4, 5], [6]] (phiL [qe av, qe (ii ((k : Int)) : Value), qe (.pointer (some (elemA av (k)))), qe (ii (a.getD k 0)), qe bv, qe (ii ((k : Int)) : Value), qe (.pointer (some (elemA bv (k)))), qe (ii (b.getD k 0))]) (ownL []) mixed rfl rfl (by kernel_rfl) ?_ ?_
  ·refine pD (fun W R z9 => ?_) ?_
   ·refine qh (qk (av) rfl ?_)
    exact ⟨rfl, rfl, rfl⟩
   refine pD (fun W R z9 => ?_) ?_
   ·refine qh (qk (ii ((k : Int))) rfl ?_)
    exact ⟨rfl, rfl, rfl⟩
   refine pD (fun W R z9 => ?_) ?_
   ·rw [zB 0 1 (z9 0 rfl) (z9 1 rfl)]
    refine qh (qy k qf qr rfl rfl rfl ha.slv (by omega) (Nat.mul_one _) ?_)
    exact ⟨rfl, rfl, rfl⟩
   refine pD (fun W R z9 => ?_) ?_
   ·rw [zA 2 (z9 2 rfl)]
    refine qh (qi qM rfl (ha.rd (by omega)) ?_)
    exact ⟨rfl, rfl, rfl⟩
   refine pD (fun W R z9 => ?_) ?_
   ·refine qh (qk (bv) rfl ?_)
    exact ⟨rfl, rfl, rfl⟩
   refine pD (fun W R z9 => ?_) ?_
   ·refine qh (qk (ii ((k : Int))) rfl ?_)
    exact ⟨rfl, rfl, rfl⟩
   refine pD (fun W R z9 => ?_) ?_
   ·rw [zB 4 5 (z9 4 rfl) (z9 5 rfl)]
    refine qh (qy k qf qr rfl rfl rfl hb.slv (by omega) (Nat.mul_one _) ?_)
    exact ⟨rfl, rfl, rfl⟩
   refine pD (fun W R z9 => ?_) ?_
   ·rw [zA 6 (z9 6 rfl)]
    refine qh (qi qM rfl (hb.rd (by omega)) ?_)
    exact ⟨rfl, rfl, rfl⟩
   exact stepsP.nil
  intro W hphi
  rw [zB 3 7 (hphi 3 (by decide)) (hphi 7 (by decide))]
  show XL _ _ _ _ _ _ _ (L)
  refine cX (XOp.neq rfl rfl (qb ?_))
  refine qE (p := (a.getD k 0 : Int) ≠ b.getD k 0) rfl (fun h3 => ?_) (fun h3 => ?_)
  ·refine qc (qa (qg (.bool (false)) rfl (qb (qC (qK (qn (qn (qK (qn (qv (L' := L) [.bool (false)] (.bool (false)) (.tmp rfl .nil) rfl rF rF sR ?_))))))))))
   exact ⟨(vB (decide_eq_false (ne_of_getD (i := k) (by omega)))), rfl, rfl⟩
  refine qx (qa (cX (qD (((k + 1 : Nat) : Int)) rfl rfl (by omega) (by omega) (qd (ii (((k + 1 : Nat) : Int))) rfl (qb ?_)))))
  exact ⟨k + 1, _, FLe.refl _, rF, ⟨rfl, rfl, rfl, rfl, ⟨⟩⟩, sR, ⟨rfl, (by omega), (fun i hi => (Nat.lt_or_ge i k).elim (fun h => hall i h) (fun h => by obtain rfl : i = k := (by omega); omega))⟩, (by omega)⟩
 refine jd (qp (qp (qJ (qc (qa (qg (.bool (true)) rfl (qb (qC (qv (L' := L) [.bool (true)] (.bool (true)) (.tmp rfl .nil) rfl rF rF sR ?_)))))))))
 exact ⟨(vB (decide_eq_true (ext_getD (by omega) (fun i hi => hall i (by omega))))), rfl, rfl⟩

/- spec.SameTerm -/
theorem SameTerm_spec {F : FH} {L : List HP} {av : Value} {a : List Int} (ha : IntsF F av a) {bv : Value} {b : List Int} (hb : IntsF F bv b) (hbd : a.length ≤ 9223372036854775807 ∨ b.length ≤ 9223372036854775807) :
    Does prog 9 [av, bv] F (L) (fun v F' L' => (.bool (decide (a = b)) : Value) = v ∧ F = F' ∧ L = L') := by
 refine qO func9 rfl rfl rfl (qc (qa (qg (.bool (false)) rfl (qb (qc (qc (qa (qd (av) rfl (cX (qG qf rfl ha.slv (qd (bv) rfl (cX (qG qf rfl hb.slv (cX (XOp.neq rfl rfl (qb ?_))))))))))))))))
 refine qE (p := ((a.length : Int) : Int) ≠ (b.length : Int)) rfl (fun h1 => ?_) (fun h1 => ?_)
 ·refine qc (qa (qg (.bool (false)) rfl (qb (qC (qn (qv (L' := L) [.bool (false)] (.bool (false)) (.tmp rfl .nil) rfl rF rF sR ?_))))))
  exact ⟨(vB (decide_eq_false (fun e => by rw [e] at h1; omega))), rfl, rfl⟩
 refine qx (qc (qc (qa (qg (ii (0)) rfl (qb (qF (jg (α := Nat) (fun k => [(0, av), (1, bv), (5, ii ((k : Int)))]) (fun k => L) (fun k F' => F = F' ∧ (k ≤ a.length) ∧ (∀ i, i < k → a.getD i 0 = b.getD i 0)) (fun k => a.length - k) 0 ⟨rfl, rfl, rfl, ⟨⟩⟩ sR ⟨rfl, (by omega), (fun i hi => absurd hi (by omega))⟩ ?_)))))))
 rintro k rE _ _ ⟨rfl, hk, hall⟩
 show X _ _ _ _ (envs [(0, av), (1, bv), (5, ii ((k : Int)))] rE) _ (L)
 refine qc (qc (qa (qd (ii ((k : Int))) rfl (qd (av) rfl (cX (qG qf rfl ha.slv (cX (qV rfl rfl (qb ?_)))))))))
 refine qE (p := (k : Int) < (a.length : Int)) rfl (fun h2 => ?_) (fun h2 => ?_)
 ·refine qx (qc (qF (qc ?_)))
  refine jq [] L 8 [] [[], [], [0, 1], [2], [], [], [4, 5], [6]] (phiL [qe av, qe (ii ((k : Int)) : Value), qe (.pointer (some (elemA av (k)))), qe (ii (a.getD k 0)), qe bv, qe (ii ((k : Int)) : Value), qe (.pointer (some (elemA bv (k)))), qe (ii (b.getD k 0))]) (ownL []) mixed rfl rfl (by kernel_rfl) ?_ ?_
  ·refine pD (fun W R z9 => ?_) ?_
   ·refine qh (qk (av) rfl ?_)
    exact ⟨rfl, rfl, rfl⟩
   refine pD (fun W R z9 => ?_) ?_
   ·refine qh (qk (ii ((k : Int))) rfl ?_)
    exact ⟨rfl, rfl, rfl⟩
   refine pD (fun W R z9 => ?_) ?_
   ·rw [zB 0 1 (z9 0 rfl) (z9 1 rfl)]
    refine qh (qy k qf qr rfl rfl rfl ha.slv (by omega) (Nat.mul_one _) ?_)
    exact ⟨rfl, rfl, rfl⟩
   refine pD (fun W R z9 => ?_) ?_
   ·rw [zA 2 (z9 2 rfl)]
    refine qh (qi qM rfl (ha.rd (by omega)) ?_)
    exact ⟨rfl, rfl, rfl⟩
   refine pD (fun W R z9 => ?_) ?_
   ·refine qh (qk (bv) rfl ?_)
    exact ⟨rfl, rfl, rfl⟩
   refine pD (fun W R z9 => ?_) ?_
   ·refine qh (qk (ii ((k : Int))) rfl ?_)
    exact ⟨rfl, rfl, rfl⟩
   refine pD (fun W R z9 => ?_) ?_
   ·rw [zB 4 5 (z9 4 rfl) (z9 5 rfl)]
    refine qh (qy k qf qr rfl rfl rfl hb.slv (by omega) (Nat.mul_one _) ?_)
    exact ⟨rfl, rfl, rfl⟩
   refine pD (fun W R z9 => ?_) ?_
   ·rw [zA 6 (z9 6 rfl)]
    refine qh (qi qM rfl (hb.rd (by omega)) ?_)
    exact ⟨rfl, rfl, rfl⟩
   exact stepsP.nil
  intro W hphi
  rw [zB 3 7 (hphi 3 (by decide)) (hphi 7 (by decide))]
  show XL _ _ _ _ _ _ _ (L)
  refine cX (XOp.neq rfl rfl (qb ?_))
  refine qE (p := (a.getD k 0 : Int) ≠ b.getD k 0) rfl (fun h3 => ?_) (fun h3 => ?_)
  ·refine qc (qa (qg (.bool (false)) rfl (qb (qC (qK (qn (qn (qK (qn (qv (L' := L) [.bool (false)] (.bool (false)) (.tmp rfl .nil) rfl rF rF sR ?_))))))))))
   exact ⟨(vB (decide_eq_false (ne_of_getD (i := k) (by omega)))), rfl, rfl⟩
  refine qx (qa (qd (ii ((k : Int))) rfl (cX (qD (((k + 1 : Nat) : Int)) rfl rfl (by omega) (by omega) (qg (ii (((k + 1 : Nat) : Int))) rfl (qb ?_))))))
  exact ⟨k + 1, _, FLe.refl _, rF, ⟨rfl, rfl, rfl, ⟨⟩⟩, sR, ⟨rfl, (by omega), (fun i hi => (Nat.lt_or_ge i k).elim (fun h => hall i h) (fun h => by obtain rfl : i = k := (by omega); omega))⟩, (by omega)⟩
 refine jd (qp (qp (qJ (qc (qa (qg (.bool (true)) rfl (qb (qC (qv (L' := L) [.bool (true)] (.bool (true)) (.tmp rfl .nil) rfl rF rF sR ?_)))))))))
 exact ⟨(vB (decide_eq_true (ext_getD (by omega) (fun i hi => hall i (by omega))))), rfl, rfl⟩

/- slices.Index[[]int64,int64] -/
theorem Index_spec {F : FH} {L : List HP} {xsv : Value} {xs : List Int} (hxs : IntsF F xsv xs) {n : Int} (hbd : xs.length ≤ 9223372036854775807) :
    Does prog 96 [xsv, ii (n)] F (L) (fun v F' L' => (ii (indexZ xs n) : Value) = v ∧ F = F' ∧ L = L') := by
 refine qO func96 rfl rfl rfl (qc (qa (qg (ii (0)) rfl (qb (qc (qc (qa (qd (xsv) rfl (cX (qG qf rfl hxs.slv (qd (ii (0)) rfl (qb (qF (jg (α := Nat) (fun k => [(0, xsv), (1, ii (n)), (7, ii ((xs.length : Int))), (8, ii ((k : Int)))]) (fun k => L) (fun k F' => F = F' ∧ (k ≤ xs.length) ∧ (∀ i, i < k → xs.getD i 0 ≠ n)) (fun k => xs.length - k) 0 ⟨rfl, rfl, rfl, rfl, ⟨⟩⟩ sR ⟨rfl, (by omega), (fun i hi => absurd hi (by omega))⟩ ?_))))))))))))))
 rintro k rE _ _ ⟨rfl, hk, hall⟩
 show X _ _ _ _ (envs [(0, xsv), (1, ii (n)), (7, ii ((xs.length : Int))), (8, ii ((k : Int)))] rE) _ (L)
 refine qc (qa (cX (qV rfl rfl (qb (qc ?_)))))
 refine qE (p := (k : Int) < (xs.length : Int)) rfl (fun h1 => ?_) (fun h1 => ?_)
 ·refine qx (qc (qF (qc (qa (qd (ii ((k : Int))) rfl (qg (ii ((k : Int))) rfl (qb (qc (qa (qd (ii (n)) rfl (qd (xsv) rfl (qd (ii ((k : Int))) rfl (cX (qy k qf qr rfl rfl rfl hxs.slv (by omega) (Nat.mul_one _) (cX (qi qM rfl (hxs.rd (by omega)) (cX (jp rfl rfl ?_))))))))))))))))))
  refine qb ?_
  refine qE (p := (n : Int) = xs.getD k 0) rfl (fun h2 => ?_) (fun h2 => ?_)
  ·refine qc (qa (qd (ii ((k : Int))) rfl (qg (ii ((k : Int))) rfl (qb (qC (qK (qn (qn (qK (qn (qv (L' := L) [ii ((k : Int))] (ii ((k : Int))) (.tmp rfl .nil) rfl rF rF sR ?_)))))))))))
   exact ⟨(vI (indexZ_some (by omega) (by omega) hall)), rfl, rfl⟩
  refine qx (qa (cX (qD (((k + 1 : Nat) : Int)) rfl rfl (by omega) (by omega) (qd (ii (((k + 1 : Nat) : Int))) rfl (qb ?_)))))
  exact ⟨k + 1, _, FLe.refl _, rF, ⟨rfl, rfl, rfl, rfl, ⟨⟩⟩, sR, ⟨rfl, (by omega), (fun i hi => (Nat.lt_or_ge i k).elim (fun h => hall i h) (fun h => by obtain rfl : i = k := (by omega); omega))⟩, (by omega)⟩
 refine jd (qp (qp (qJ (qc (qa (qg (ii (-1)) rfl (qb (qC (qv (L' := L) [ii (-1)] (ii (-1)) (.tmp rfl .nil) rfl rF rF sR ?_)))))))))
 exact ⟨(vI (indexZ_none (fun i hi => hall i (by omega)))), rfl, rfl⟩

/- slices.Contains[[]int64,int64] -/
theorem Contains_spec {F : FH} {L : List HP} {xsv : Value} {xs : List Int} (hxs : IntsF F xsv xs) {n : Int} (hbd : xs.length ≤ 9223372036854775807) :
    Does prog 87 [xsv, ii (n)] F (L) (fun v F' L' => (.bool (decide (n ∈ xs)) : Value) = v ∧ F = F' ∧ L = L') := by
 refine qO func87 rfl rfl rfl (qc (qa (qg (.bool (false)) rfl (qb (qc (qa (qd (xsv) rfl (qd (ii (n)) rfl (cX (qq (args := [xsv, ii (n)]) call96 rfl (Index_spec (n := n) hxs (hbd := (by first | assumption | rfl | omega | simp))) ?_))))))))))
 rintro _ _ _ _ ⟨rfl, rfl, rfl⟩
 refine cX (XOp.geq rfl rfl (qg (.bool (decide ((indexZ xs n : Int) ≥ 0))) rfl (qb (qC (qv (L' := L) [.bool (decide ((indexZ xs n : Int) ≥ 0))] (.bool (decide ((indexZ xs n : Int) ≥ 0))) (.tmp rfl .nil) rfl rF rF sR ?_)))))
 exact ⟨(vB (decide_eq_decide.2 indexZ_mem.symm)), rfl, rfl⟩

/- spec.l1Has -/
theorem l1Has_spec {F : FH} {L : List HP} {xsv : Value} {xs : List Int} (hxs : IntsF F xsv xs) {n : Int} (hbd : xs.length ≤ 9223372036854775807) :
    Does prog 71 [xsv, ii (n)] F (L) (fun v F' L' => (.bool (decide (n ∈ xs)) : Value) = v ∧ F = F' ∧ L = L') := by
 refine qO func71 rfl rfl rfl (qc (qa (qg (.bool (false)) rfl (qb (qc (qc (qa (qg (ii (0)) rfl (qb (qF (jg (α := Nat) (fun k => [(0, xsv), (1, ii (n)), (5, ii ((k : Int)))]) (fun k => L) (fun k F' => F = F' ∧ (k ≤ xs.length) ∧ (∀ i, i < k → xs.getD i 0 ≠ n)) (fun k => xs.length - k) 0 ⟨rfl, rfl, rfl, ⟨⟩⟩ sR ⟨rfl, (by omega), (fun i hi => absurd hi (by omega))⟩ ?_)))))))))))
 rintro k rE _ _ ⟨rfl, hk, hall⟩
 show X _ _ _ _ (envs [(0, xsv), (1, ii (n)), (5, ii ((k : Int)))] rE) _ (L)
 refine qc (qc (qa (qd (ii ((k : Int))) rfl (qd (xsv) rfl (cX (qG qf rfl hxs.slv (cX (qV rfl rfl (qb ?_)))))))))
 refine qE (p := (k : Int) < (xs.length : Int)) rfl (fun h1 => ?_) (fun h1 => ?_)
 ·refine qx (qc (qF (qc (qa (qd (xsv) rfl (qd (ii ((k : Int))) rfl (cX (qy k qf qr rfl rfl rfl hxs.slv (by omega) (Nat.mul_one _) (cX (qi qM rfl (hxs.rd (by omega)) (qd (ii (n)) rfl (cX (jp rfl rfl (qb ?_))))))))))))))
  refine qE (p := (xs.getD k 0 : Int) = n) rfl (fun h2 => ?_) (fun h2 => ?_)
  ·refine qc (qa (qg (.bool (true)) rfl (qb (qC (qK (qn (qn (qK (qn (qv (L' := L) [.bool (true)] (.bool (true)) (.tmp rfl .nil) rfl rF rF sR ?_))))))))))
   exact ⟨(vB (decide_eq_true (mem_of_getD (k := k) (by omega) (by omega)))), rfl, rfl⟩
  refine qx (qa (qd (ii ((k : Int))) rfl (cX (qD (((k + 1 : Nat) : Int)) rfl rfl (by omega) (by omega) (qg (ii (((k + 1 : Nat) : Int))) rfl (qb ?_))))))
  exact ⟨k + 1, _, FLe.refl _, rF, ⟨rfl, rfl, rfl, ⟨⟩⟩, sR, ⟨rfl, (by omega), (fun i hi => (Nat.lt_or_ge i k).elim (fun h => hall i h) (fun h => by obtain rfl : i = k := (by omega); omega))⟩, (by omega)⟩
 refine jd (qp (qp (qJ (qc (qa (qg (.bool (false)) rfl (qb (qC (qv (L' := L) [.bool (false)] (.bool (false)) (.tmp rfl .nil) rfl rF rF sR ?_)))))))))
 exact ⟨(vB (decide_eq_false (not_mem_of_getD (fun i hi => hall i (by omega))))), rfl, rfl⟩

/- spec.l1In -/
theorem l1In_spec {F : FH} {L : List HP} {n : Int} {a : Int} {b : Int} :
    Does prog 34 [ii (n), ii (a), ii (b)] F (L) (fun v F' L' => (.bool (decide (a ≤ n ∧ n ≤ b)) : Value) = v ∧ F = F' ∧ L = L') := by
 refine qO func34 rfl rfl rfl (qc (qa (qg (.bool (false)) rfl (qb (qc (qa (qd (ii (n)) rfl (qd (ii (a)) rfl (cX (XOp.geq rfl rfl (qd (.bool (decide ((n : Int) ≥ a))) rfl ?_)))))))))))
 by_cases h1 : (n : Int) ≥ a
 ·refine qo (t := 10) rfl (vT h1) (qk (ii (n)) rfl (qo (t := 10) rfl (vT h1) (qk (ii (b)) rfl (qo (t := 10) rfl (vT h1) (XOp.leq rfl rfl (cX (qL (.bool (decide ((n : Int) ≤ b))) (vT h1) rfl (qg (.bool (decide ((n : Int) ≤ b))) rfl (qb (qC (qv (L' := L) [.bool (decide ((n : Int) ≤ b))] (.bool (decide ((n : Int) ≤ b))) (.tmp rfl .nil) rfl rF rF sR ?_)))))))))))
  exact ⟨(vB (decide_eq_decide.2 (by omega))), rfl, rfl⟩
 refine qm (t := 10) rfl (vF h1) (qm (t := 10) rfl (vF h1) (qm (t := 10) rfl (vF h1) (cX (qQ (.bool (false)) (vF h1) rfl (qg (.bool (false)) rfl (qb (qC (qv (L' := L) [.bool (false)] (.bool (false)) (.tmp rfl .nil) rfl rF rF sR ?_))))))))
 exact ⟨(vB (decide_eq_false (by omega))), rfl, rfl⟩

/- spec.l1Arity -/
theorem l1Arity_spec {F : FH} {L : List HP} {arv : Value} {ar : List Int} (har : IntsF F arv ar) {n : Int} (hla : ar.length ≤ 4000000) :
    Does prog 99 [.agg #[arv], ii (n)] F (L) (fun v F' L' => (ii (sArity ar n) : Value) = v ∧ F = F' ∧ L = L') := by
 refine qO func99 rfl rfl rfl (qc (qa (cX (ji [arv] rfl rfl ?_))))
 intro b1
 refine qg (ii (0)) rfl (qb (qc (qF (qc (qa (qd (ii (n)) rfl (cX (qq (args := [ii (n), ii (-24), ii (-1)]) call34 rfl (l1In_spec (n := n) (a := -24) (b := -1)) ?_))))))))
 rintro _ _ _ _ ⟨rfl, rfl, rfl⟩
 refine qg (.bool (decide ((-24) ≤ n ∧ n ≤ (-1)))) rfl (qb ?_)
 refine qE (p := (-24) ≤ n ∧ n ≤ (-1)) rfl (fun h1 => ?_) (fun h1 => ?_)
 ·refine qc (qa (qg (ii (0)) rfl (qb (qC (qK (qn (qv (L' := L) [ii (0)] (ii (0)) (.tmp rfl .nil) rfl rF rF (sD sR) ?_)))))))
  exact ⟨(vI (by unfold sArity; split <;> (try split) <;> first | rfl | omega)), rfl, rfl⟩
 refine qc (qa (qd (ii (n)) rfl (cX (ql (0) ja rfl qw (by decide) rfl rfl (cX (qi qT rfl (Rd.own [] rfl rfl) (cX (qG qf rfl har.slv (cX (js (((ar.length : Int)) - 1) rfl rfl (by omega) (by omega) (cX (qq (args := [ii (n), ii (0), ii (((ar.length : Int)) - 1)]) call34 rfl (l1In_spec (n := n) (a := 0) (b := ((ar.length : Int)) - 1)) ?_))))))))))))
 rintro _ _ _ _ ⟨rfl, rfl, rfl⟩
 refine qg (.bool (decide (0 ≤ n ∧ n ≤ (((ar.length : Int)) - 1)))) rfl (qb ?_)
 refine qE (p := 0 ≤ n ∧ n ≤ (((ar.length : Int)) - 1)) rfl (fun h2 => ?_) (fun h2 => ?_)
 ·refine qc (qa (cX (ql (0) ja rfl qw (by decide) rfl rfl (cX (qi qT rfl (Rd.own [] rfl rfl) (qd (ii (n)) rfl (cX (qy ((n).toNat) qf qr rfl rfl (by omega) har.slv (by omega) (Nat.mul_one _) (cX (qi qM rfl (har.rd (by omega)) (qg (ii (ar.getD ((n).toNat) 0)) rfl (qb (qC (qK (qn (qv (L' := L) [ii (ar.getD ((n).toNat) 0)] (ii (ar.getD ((n).toNat) 0)) (.tmp rfl .nil) rfl rF rF (sD sR) ?_))))))))))))))))
  exact ⟨(vI (by unfold sArity; split <;> (try split) <;> first | rfl | omega)), rfl, rfl⟩
 refine qx (qc (qa (qg (ii (-1)) rfl (qb (qC (qv (L' := L) [ii (-1)] (ii (-1)) (.tmp rfl .nil) rfl rF rF (sD sR) ?_))))))
 exact ⟨(vI (by unfold sArity; split <;> (try split) <;> first | rfl | omega)), rfl, rfl⟩

/- spec.SigOk -/
theorem sSigOk_spec {F : FH} {L : List HP} {arv : Value} {ar : List Int} (har : IntsF F arv ar) (hla : ar.length ≤ 4000000) :
    Does prog 39 [.agg #[arv]] F (L) (fun v F' L' => (.bool (sigOk ar) : Value) = v ∧ F = F' ∧ L = L') := by
 refine qO func39 rfl rfl rfl (qc (qa (cX (ji [arv] rfl rfl ?_))))
 intro b1
 refine qg (.bool (false)) rfl (qb (qc (qc (qa (cX (ql (0) ja rfl qw (by decide) rfl rfl (cX (qi qT rfl (Rd.own [] rfl rfl) (cX (qG qf rfl har.slv (cX (qq (args := [ii ((ar.length : Int)), ii (1), ii (8)]) call34 rfl (l1In_spec (n := (ar.length : Int)) (a := 1) (b := 8)) ?_))))))))))))
 rintro _ _ _ _ ⟨rfl, rfl, rfl⟩
 refine cX (XOp.notD rfl (qb ?_))
 refine qE (p := ¬(1 ≤ ((ar.length : Int)) ∧ ((ar.length : Int)) ≤ 8)) rfl (fun h1 => ?_) (fun h1 => ?_)
 ·refine qc (qa (qg (.bool (false)) rfl (qb (qC (qn (qv (L' := L) [.bool (false)] (.bool (false)) (.tmp rfl .nil) rfl rF rF (sD sR) ?_))))))
  exact ⟨(vB (sigOk_short (by omega))), rfl, rfl⟩
 refine qx (qc (qc (qa (qg (ii (0)) rfl (qb (qF (jg (α := Nat) (fun k => [(1, ptr b1 0), (3, ii ((k : Int)))]) (fun k => cellsH b1 [arv] 26 :: L) (fun k F' => F = F' ∧ (k ≤ ar.length) ∧ (∀ i, i < k → 0 ≤ ar.getD i 0 ∧ ar.getD i 0 ≤ 3)) (fun k => ar.length - k) 0 ⟨rfl, rfl, ⟨⟩⟩ (sC sR) ⟨rfl, (by omega), (fun i hi => absurd hi (by omega))⟩ ?_)))))))
 rintro k rE _ _ ⟨rfl, hk, hall⟩
 show X _ _ _ _ (envs [(1, ptr b1 0), (3, ii ((k : Int)))] rE) _ (cellsH b1 [arv] 26 :: L)
 refine qc (qc (qa (qd (ii ((k : Int))) rfl (cX (ql (0) ja rfl qw (by decide) rfl rfl (cX (qi qT rfl (Rd.own [] rfl rfl) (cX (qG qf rfl har.slv (cX (qV rfl rfl (qb ?_))))))))))))
 refine qE (p := (k : Int) < (ar.length : Int)) rfl (fun h2 => ?_) (fun h2 => ?_)
 ·refine qx (qc (qF (qc (qa (cX (ql (0) ja rfl qw (by decide) rfl rfl (cX (qi qT rfl (Rd.own [] rfl rfl) (qd (ii ((k : Int))) rfl (cX (qy k qf qr rfl rfl rfl har.slv (by omega) (Nat.mul_one _) (cX (qi qM rfl (har.rd (by omega)) (cX (qq (args := [ii (ar.getD k 0), ii (0), ii (3)]) call34 rfl (l1In_spec (n := ar.getD k 0) (a := 0) (b := 3)) ?_)))))))))))))))
  rintro _ _ _ _ ⟨rfl, rfl, rfl⟩
  refine cX (XOp.notD rfl (qb ?_))
  refine qE (p := ¬(0 ≤ (ar.getD k 0) ∧ (ar.getD k 0) ≤ 3)) rfl (fun h3 => ?_) (fun h3 => ?_)
  ·refine qc (qa (qg (.bool (false)) rfl (qb (qC (qK (qn (qn (qK (qn (qv (L' := L) [.bool (false)] (.bool (false)) (.tmp rfl .nil) rfl rF rF (sD sR) ?_))))))))))
   exact ⟨(vB (sigOk_bad (i := k) (by omega) (by omega))), rfl, rfl⟩
  refine qx (qa (qd (ii ((k : Int))) rfl (cX (qD (((k + 1 : Nat) : Int)) rfl rfl (by omega) (by omega) (qg (ii (((k + 1 : Nat) : Int))) rfl (qb ?_))))))
  exact ⟨k + 1, _, FLe.refl _, rF, ⟨rfl, rfl, ⟨⟩⟩, (sC sR), ⟨rfl, (by omega), (fun i hi => (Nat.lt_or_ge i k).elim (fun h => hall i h) (fun h => by obtain rfl : i = k := (by omega); omega))⟩, (by omega)⟩
 refine jd (qp (qp (qJ (qc (qa (qg (.bool (true)) rfl (qb (qC (qv (L' := L) [.bool (true)] (.bool (true)) (.tmp rfl .nil) rfl rF rF (sD sR) ?_)))))))))
 exact ⟨(vB (sigOk_of (by omega) (by omega) (fun i hi => hall i (by omega)))), rfl, rfl⟩

/- spec.l1End -/
theorem l1End_spec {F : FH} {L : List HP} {arv : Value} {ar : List Int} (har : IntsF F arv ar) {tv : Value} {t : List Int} (ht : IntsF F tv t) {p0 : Nat} (hs : sigOk ar = true) (hlt : t.length ≤ 4000000) (hp : p0 ≤ t.length) :
    Does prog 98 [.agg #[arv], tv, ii ((p0 : Int))] F (L) (fun v F' L' => (ii (sEndZ ar t p0) : Value) = v ∧ F = F' ∧ L = L') := by
 refine qO func98 rfl rfl rfl ?_
 have hsl := sigOk_spec hs
 refine qc (qa (cX (ji [arv] rfl rfl ?_)))
 intro b1
 refine qg (ii (0)) rfl (qb (qc (qa (qg (ii (1)) rfl (qb (qc (qc (qa (qd (ii ((p0 : Int))) rfl (qg (ii ((p0 : Int))) rfl (qb (qF (jg (α := Nat × Nat) (fun xQ => [(1, tv), (3, ptr b1 0), (7, ii (((xQ.1 : Nat) : Int))), (8, ii (((xQ.2 : Nat) : Int)))]) (fun xQ => cellsH b1 [arv] 26 :: L) (fun xQ F' => F = F' ∧ (sEndGo ar (t.drop p0) 1 = (sEndGo ar (t.drop xQ.2) xQ.1).map (· + (xQ.2 - p0))) ∧ (p0 ≤ xQ.2 ∧ xQ.2 ≤ t.length) ∧ (1 ≤ xQ.1 ∧ xQ.1 ≤ 1 + 3 * xQ.2)) (fun xQ => t.length - xQ.2) (1, p0) ⟨rfl, rfl, rfl, rfl, ⟨⟩⟩ (sC sR) ⟨rfl, (by simp), (by omega), (by omega)⟩ ?_)))))))))))))
 rintro ⟨k, p⟩ rE _ _ ⟨rfl, hi, h1, h2⟩
 show X _ _ _ _ (envs [(1, tv), (3, ptr b1 0), (7, ii ((k : Int))), (8, ii ((p : Int)))] rE) _ (cellsH b1 [arv] 26 :: L)
 dsimp only at hi h1 h2
 refine qc (qc (qa (qd (ii ((p : Int))) rfl (qd (tv) rfl (cX (qG qf rfl ht.slv (cX (qV rfl rfl (qb ?_)))))))))
 refine qE (p := (p : Int) < (t.length : Int)) rfl (fun h1 => ?_) (fun h1 => ?_)
 ·refine qx (qc (qF (qc ?_)))
  refine jq [cellsH b1 [arv] 26] L 5 [] [[], [], [], [1, 2], [3]] (phiL [qe (.agg #[arv]), qe tv, qe (ii ((p : Int)) : Value), qe (.pointer (some (elemA tv (p)))), qe (ii (t.getD p 0))]) (ownL []) mixed rfl rfl (by kernel_rfl) ?_ ?_
  ·refine pD (fun W R z9 => ?_) ?_
   ·refine qh (qu [arv] qY qI rfl rfl (Rd.ownN [] rfl rfl) ?_)
    exact ⟨rfl, rfl, rfl⟩
   refine pD (fun W R z9 => ?_) ?_
   ·refine qh (qk (tv) rfl ?_)
    exact ⟨rfl, rfl, rfl⟩
   refine pD (fun W R z9 => ?_) ?_
   ·refine qh (qk (ii ((p : Int))) rfl ?_)
    exact ⟨rfl, rfl, rfl⟩
   refine pD (fun W R z9 => ?_) ?_
   ·rw [zB 1 2 (z9 1 rfl) (z9 2 rfl)]
    refine qh (qy p qf qr rfl rfl rfl ht.slv (by omega) (Nat.mul_one _) ?_)
    exact ⟨rfl, rfl, rfl⟩
   refine pD (fun W R z9 => ?_) ?_
   ·rw [zA 3 (z9 3 rfl)]
    refine qh (qi qM rfl (ht.rd (by omega)) ?_)
    exact ⟨rfl, rfl, rfl⟩
   exact stepsP.nil
  intro W hphi
  rw [zB 0 4 (hphi 0 (by decide)) (hphi 4 (by decide))]
  show XL _ _ _ _ _ _ _ (cellsH b1 [arv] 26 :: L)
  refine cX (qq (args := [.agg #[arv], ii (t.getD p 0)]) call99 rfl (l1Arity_spec (n := t.getD p 0) har (hla := (by first | assumption | rfl | omega | simp))) ?_)
  rintro _ _ _ _ ⟨rfl, rfl, rfl⟩
  refine qg (ii (sArity ar (t.getD p 0))) rfl (qb (qc (qc (qa (qd (ii (sArity ar (t.getD p 0))) rfl (cX (qV rfl rfl (qb ?_))))))))
  refine qE (p := (sArity ar (t.getD p 0) : Int) < 0) rfl (fun h2 => ?_) (fun h2 => ?_)
  ·rw [sArity_neg hs] at h2
   refine qc (qa (qg (ii (-1)) rfl (qb (qC (qn (qK (qn (qn (qK (qn (qv (L' := L) [ii (-1)] (ii (-1)) (.tmp rfl .nil) rfl rF rF (sD sR) ?_)))))))))))
   exact ⟨(vI (by unfold sEndZ; rw [hi, sEndGo_none (by omega) (by omega)]; rfl)), rfl, rfl⟩
  have hA : -24 ≤ t.getD p 0 ∧ t.getD p 0 < ar.length := by rw [sArity_neg hs] at h2; omega
  have hB := arity_le hs hA.2
  have hC := sArity_eq hA
  refine qx (qc (qa (qd (ii ((k : Int))) rfl (qd (ii (sArity ar (t.getD p 0))) rfl (cX (qD (((k + (arity ar (t.getD p 0)).toNat : Nat) : Int)) rfl rfl (by omega) (by omega) (cX (js (((k - 1 + (arity ar (t.getD p 0)).toNat : Nat) : Int)) rfl rfl (by omega) (by omega) (qg (ii (((k - 1 + (arity ar (t.getD p 0)).toNat : Nat) : Int))) rfl (qb (qc (qa (qd (ii (((k - 1 + (arity ar (t.getD p 0)).toNat : Nat) : Int))) rfl (cX (jp rfl rfl (qb ?_))))))))))))))))
  refine qE (p := (((k - 1 + (arity ar (t.getD p 0)).toNat : Nat) : Int) : Int) = 0) rfl (fun h3 => ?_) (fun h3 => ?_)
  ·refine qc (qa (qd (ii ((p : Int))) rfl (cX (qD (((p + 1 : Nat) : Int)) rfl rfl (by omega) (by omega) (qg (ii (((p + 1 : Nat) : Int))) rfl (qb (qC (qK (qn (qn (qK (qn (qv (L' := L) [ii (((p + 1 : Nat) : Int))] (ii (((p + 1 : Nat) : Int))) (.tmp rfl .nil) rfl rF rF (sD sR) ?_)))))))))))))
   exact ⟨(vI (by have hz := sEndGo_step (ar := ar) (t := t) (p := p) (k := k) (by omega) (by omega) hA; rw [show k - 1 + (arity ar (t.getD p 0)).toNat = 0 from by omega] at hz; unfold sEndZ; rw [hi, hz]; simp [sEndGo]; omega)), rfl, rfl⟩
  refine qx (qa (qd (ii ((p : Int))) rfl (cX (qD (((p + 1 : Nat) : Int)) rfl rfl (by omega) (by omega) (qg (ii (((p + 1 : Nat) : Int))) rfl (qb ?_))))))
  exact ⟨(k - 1 + (arity ar (t.getD p 0)).toNat, p + 1), _, FLe.refl _, rF, ⟨rfl, rfl, rfl, rfl, ⟨⟩⟩, (sC sR), ⟨rfl, (by rw [hi, sEndGo_step (by omega) (by omega) (by omega), Option.map_map]; congr 1; funext e; simp; omega), (by omega), (by omega)⟩, (by omega)⟩
 refine jd (qp (qp (qJ (qc (qa (qg (ii (-1)) rfl (qb (qC (qv (L' := L) [ii (-1)] (ii (-1)) (.tmp rfl .nil) rfl rF rF (sD sR) ?_)))))))))
 exact ⟨(vI (by unfold sEndZ; rw [hi, sEndGo_none (by omega) (by omega)]; rfl)), rfl, rfl⟩

/- impl.TermOk -/
theorem TermOk_spec {F : FH} {L : List HP} {arv : Value} {ar : List Int} (har : IntsF F arv ar) {tv : Value} {t : List Int} (ht : IntsF F tv t) :
    Does prog 68 [.agg #[arv], tv] F (L) (fun v F' L' => (.bool (termOk ar t) : Value) = v ∧ F = F' ∧ L = L') := by
 refine qO func68 rfl rfl rfl (qc (qa (cX (ji [arv] rfl rfl ?_))))
 intro b1
 refine qg (.bool (false)) rfl (qb (qc (qa (cX (qu [arv] qY qI rfl rfl (Rd.ownN [] rfl rfl) (cX (qq (args := [.agg #[arv]]) call57 rfl (SigOk_spec har) ?_)))))))
 rintro _ _ _ _ ⟨rfl, rfl, rfl⟩
 refine qd (.bool (sigOk ar)) rfl ?_
 by_cases h1 : (sigOk ar) = true
 ·refine qo (t := 7) rfl (vB h1) (qk (tv) rfl (qo (t := 7) rfl (vB h1) (qG qf rfl ht.slv (qo (t := 7) rfl (vB h1) (jw rfl rfl (cX (qL (.bool (decide (((t.length : Int) : Int) > 0))) (vB h1) rfl (qd (.bool (decide (((t.length : Int) : Int) > 0))) rfl ?_))))))))
  by_cases h2 : ((t.length : Int) : Int) > 0
  ·refine qo (t := 12) rfl (vT h2) (qk (tv) rfl (qo (t := 12) rfl (vT h2) (qG qf rfl ht.slv (qo (t := 12) rfl (vT h2) (XOp.leq rfl rfl (cX (qL (.bool (decide (((t.length : Int) : Int) ≤ 60))) (vT h2) rfl (qd (.bool (decide (((t.length : Int) : Int) ≤ 60))) rfl ?_))))))))
   by_cases h3 : ((t.length : Int) : Int) ≤ 60
   ·refine qo (t := 17) rfl (vT h3) (qk (tv) rfl (qo (t := 17) rfl (vT h3) (qq (args := [tv]) call85 rfl (Min_spec ht (h1 := (by first | assumption | rfl | omega | simp)) (hbd := (by first | assumption | rfl | omega | simp))) ?_)))
    rintro _ _ _ _ ⟨rfl, rfl, rfl⟩
    refine qo (t := 17) rfl (vT h3) (XOp.geq rfl rfl (cX (qL (.bool (decide ((minL t : Int) ≥ -24))) (vT h3) rfl (qd (.bool (decide ((minL t : Int) ≥ -24))) rfl ?_))))
    by_cases h4 : (minL t : Int) ≥ -24
    ·refine qo (t := 22) rfl (vT h4) (qu [arv] qY qI rfl rfl (Rd.ownN [] rfl rfl) (qo (t := 22) rfl (vT h4) (qk (tv) rfl (qo (t := 22) rfl (vT h4) (qq (args := [.agg #[arv], tv, ii ((0 : Nat) : Int)]) call86 rfl (endAt_spec (p := 0) har ht (hs := (by first | assumption | rfl | omega | simp)) (hb := (by first | assumption | rfl | omega | simp)) (hp := (by first | assumption | rfl | omega | simp))) ?_)))))
     rintro _ _ _ _ ⟨rfl, rfl, rfl⟩
     refine qo (t := 22) rfl (vT h4) (qk (tv) rfl (qo (t := 22) rfl (vT h4) (qG qf rfl ht.slv (qo (t := 22) rfl (vT h4) (jp rfl rfl (cX (qL (.bool (decide ((endZ ar t 0 : Int) = (t.length : Int)))) (vT h4) rfl (qg (.bool (decide ((endZ ar t 0 : Int) = (t.length : Int)))) rfl (qb (qC (qv (L' := L) [.bool (decide ((endZ ar t 0 : Int) = (t.length : Int)))] (.bool (decide ((endZ ar t 0 : Int) = (t.length : Int)))) (.tmp rfl .nil) rfl rF rF (sD sR) ?_)))))))))))
     exact ⟨(vB (termOk_of (by assumption) (by omega) (by omega) (by omega))), rfl, rfl⟩
    refine qm (t := 22) rfl (vF h4) (qm (t := 22) rfl (vF h4) (qm (t := 22) rfl (vF h4) (qm (t := 22) rfl (vF h4) (qm (t := 22) rfl (vF h4) (qm (t := 22) rfl (vF h4) (cX (qQ (.bool (false)) (vF h4) rfl (qg (.bool (false)) rfl (qb (qC (qv (L' := L) [.bool (false)] (.bool (false)) (.tmp rfl .nil) rfl rF rF (sD sR) ?_)))))))))))
    exact ⟨(vB (by first | (refine termOk_nosig ?_; assumption) | (refine termOk_short ?_; omega) | (refine termOk_min ?_ ?_ <;> omega))), rfl, rfl⟩
   refine qm (t := 17) rfl (vF h3) (qm (t := 17) rfl (vF h3) (qm (t := 17) rfl (vF h3) (cX (qQ (.bool (false)) (vF h3) rfl (qd (.bool (false)) rfl (qm (t := 22) rfl rfl (qm (t := 22) rfl rfl (qm (t := 22) rfl rfl (qm (t := 22) rfl rfl (qm (t := 22) rfl rfl ?_))))))))))
   refine qm (t := 22) rfl rfl (cX (qQ (.bool (false)) rfl rfl (qg (.bool (false)) rfl (qb (qC (qv (L' := L) [.bool (false)] (.bool (false)) (.tmp rfl .nil) rfl rF rF (sD sR) ?_))))))
   exact ⟨(vB (by first | (refine termOk_nosig ?_; assumption) | (refine termOk_short ?_; omega) | (refine termOk_min ?_ ?_ <;> omega))), rfl, rfl⟩
  refine qm (t := 12) rfl (vF h2) (qm (t := 12) rfl (vF h2) (qm (t := 12) rfl (vF h2) (cX (qQ (.bool (false)) (vF h2) rfl (qd (.bool (false)) rfl (qm (t := 17) rfl rfl (qm (t := 17) rfl rfl (qm (t := 17) rfl rfl (cX (qQ (.bool (false)) rfl rfl (qd (.bool (false)) rfl ?_)))))))))))
  refine qm (t := 22) rfl rfl (qm (t := 22) rfl rfl (qm (t := 22) rfl rfl (qm (t := 22) rfl rfl (qm (t := 22) rfl rfl (qm (t := 22) rfl rfl (cX (qQ (.bool (false)) rfl rfl (qg (.bool (false)) rfl (qb (qC (qv (L' := L) [.bool (false)] (.bool (false)) (.tmp rfl .nil) rfl rF rF (sD sR) ?_)))))))))))
  exact ⟨(vB (by first | (refine termOk_nosig ?_; assumption) | (refine termOk_short ?_; omega) | (refine termOk_min ?_ ?_ <;> omega))), rfl, rfl⟩
 rw [Bool.not_eq_true] at h1
 refine qm (t := 7) rfl (vB h1) (qm (t := 7) rfl (vB h1) (qm (t := 7) rfl (vB h1) (cX (qQ (.bool (false)) (vB h1) rfl (qd (.bool (false)) rfl (qm (t := 12) rfl rfl (qm (t := 12) rfl rfl (qm (t := 12) rfl rfl (cX (qQ (.bool (false)) rfl rfl (qd (.bool (false)) rfl ?_)))))))))))
 refine qm (t := 17) rfl rfl (qm (t := 17) rfl rfl (qm (t := 17) rfl rfl (cX (qQ (.bool (false)) rfl rfl (qd (.bool (false)) rfl (qm (t := 22) rfl rfl (qm (t := 22) rfl rfl (qm (t := 22) rfl rfl (qm (t := 22) rfl rfl (qm (t := 22) rfl rfl ?_))))))))))
 refine qm (t := 22) rfl rfl (cX (qQ (.bool (false)) rfl rfl (qg (.bool (false)) rfl (qb (qC (qv (L' := L) [.bool (false)] (.bool (false)) (.tmp rfl .nil) rfl rF rF (sD sR) ?_))))))
 exact ⟨(vB (by first | (refine termOk_nosig ?_; assumption) | (refine termOk_short ?_; omega) | (refine termOk_min ?_ ?_ <;> omega))), rfl, rfl⟩

/- spec.TermOk -/
theorem sTermOk_spec {F : FH} {L : List HP} {arv : Value} {ar : List Int} (har : IntsF F arv ar) {tv : Value} {t : List Int} (ht : IntsF F tv t) (hla : ar.length ≤ 4000000) (hlt : t.length ≤ 4000000) :
    Does prog 90 [.agg #[arv], tv] F (L) (fun v F' L' => (.bool (termOk ar t) : Value) = v ∧ F = F' ∧ L = L') := by
 refine qO func90 rfl rfl rfl (qc (qa (cX (ji [arv] rfl rfl ?_))))
 intro b1
 refine qg (.bool (false)) rfl (qb (qc (qa (cX (qu [arv] qY qI rfl rfl (Rd.ownN [] rfl rfl) (cX (qq (args := [.agg #[arv]]) call39 rfl (sSigOk_spec har (hla := (by first | assumption | rfl | omega | simp))) ?_)))))))
 rintro _ _ _ _ ⟨rfl, rfl, rfl⟩
 refine qd (.bool (sigOk ar)) rfl ?_
 by_cases h1 : (sigOk ar) = true
 ·refine qo (t := 7) rfl (vB h1) (qk (tv) rfl (qo (t := 7) rfl (vB h1) (qG qf rfl ht.slv (qo (t := 7) rfl (vB h1) (qq (args := [ii ((t.length : Int)), ii (1), ii (60)]) call34 rfl (l1In_spec (n := (t.length : Int)) (a := 1) (b := 60)) ?_)))))
  rintro _ _ _ _ ⟨rfl, rfl, rfl⟩
  refine cX (qL (.bool (decide (1 ≤ ((t.length : Int)) ∧ ((t.length : Int)) ≤ 60))) (vB h1) rfl (qd (.bool (decide (1 ≤ ((t.length : Int)) ∧ ((t.length : Int)) ≤ 60))) rfl ?_))
  by_cases h2 : 1 ≤ ((t.length : Int)) ∧ ((t.length : Int)) ≤ 60
  ·refine qo (t := 12) rfl (vT h2) (qu [arv] qY qI rfl rfl (Rd.ownN [] rfl rfl) (qo (t := 12) rfl (vT h2) (qk (tv) rfl (qo (t := 12) rfl (vT h2) (qq (args := [.agg #[arv], tv, ii ((0 : Nat) : Int)]) call98 rfl (l1End_spec (p0 := 0) har ht (hs := (by first | assumption | rfl | omega | simp)) (hlt := (by first | assumption | rfl | omega | simp)) (hp := (by first | assumption | rfl | omega | simp))) ?_)))))
   rintro _ _ _ _ ⟨rfl, rfl, rfl⟩
   refine qo (t := 12) rfl (vT h2) (qk (tv) rfl (qo (t := 12) rfl (vT h2) (qG qf rfl ht.slv (qo (t := 12) rfl (vT h2) (jp rfl rfl (cX (qL (.bool (decide ((sEndZ ar t 0 : Int) = (t.length : Int)))) (vT h2) rfl (qg (.bool (decide ((sEndZ ar t 0 : Int) = (t.length : Int)))) rfl (qb (qC (qv (L' := L) [.bool (decide ((sEndZ ar t 0 : Int) = (t.length : Int)))] (.bool (decide ((sEndZ ar t 0 : Int) = (t.length : Int)))) (.tmp rfl .nil) rfl rF rF (sD sR) ?_)))))))))))
   exact ⟨(vB (termOk_s (by assumption) (by omega))), rfl, rfl⟩
  refine qm (t := 12) rfl (vF h2) (qm (t := 12) rfl (vF h2) (qm (t := 12) rfl (vF h2) (qm (t := 12) rfl (vF h2) (qm (t := 12) rfl (vF h2) (qm (t := 12) rfl (vF h2) (cX (qQ (.bool (false)) (vF h2) rfl (qg (.bool (false)) rfl (qb (qC (qv (L' := L) [.bool (false)] (.bool (false)) (.tmp rfl .nil) rfl rF rF (sD sR) ?_)))))))))))
  exact ⟨(vB (by first | (refine termOk_nosig ?_; assumption) | (refine termOk_short ?_; omega))), rfl, rfl⟩
 rw [Bool.not_eq_true] at h1
 refine qm (t := 7) rfl (vB h1) (qm (t := 7) rfl (vB h1) (qm (t := 7) rfl (vB h1) (cX (qQ (.bool (false)) (vB h1) rfl (qd (.bool (false)) rfl (qm (t := 12) rfl rfl (qm (t := 12) rfl rfl (qm (t := 12) rfl rfl (qm (t := 12) rfl rfl (qm (t := 12) rfl rfl ?_))))))))))
 refine qm (t := 12) rfl rfl (cX (qQ (.bool (false)) rfl rfl (qg (.bool (false)) rfl (qb (qC (qv (L' := L) [.bool (false)] (.bool (false)) (.tmp rfl .nil) rfl rF rF (sD sR) ?_))))))
 exact ⟨(vB (by first | (refine termOk_nosig ?_; assumption) | (refine termOk_short ?_; omega))), rfl, rfl⟩

theorem endAt_ok {F : FH} {L : List HP} {p : Nat} {arv : Value} {ar : List Int} (har : IntsF F arv ar) {tv : Value} {t : List Int} (ht : IntsF F tv t) (ho : termOk ar t = true) (hp : p < t.length) :
    Does prog 86 [.agg #[arv], tv, ii (p : Int)] F L (fun v F' L' => (ii ((endN ar t p : Nat) : Int) : Value) = v ∧ F = F' ∧ L = L') := by
  have hl := termOk_len ho
  have h := endAt_spec (F := F) (L := L) (p := p) har ht (termOk_sig ho) (by omega) (by omega)
  rw [endZ_endN ho hp] at h
  exact h

theorem l1End_ok {F : FH} {L : List HP} {p : Nat} {arv : Value} {ar : List Int} (har : IntsF F arv ar) {tv : Value} {t : List Int} (ht : IntsF F tv t) (ho : termOk ar t = true) (hp : p < t.length) :
    Does prog 98 [.agg #[arv], tv, ii (p : Int)] F L (fun v F' L' => (ii ((endN ar t p : Nat) : Int) : Value) = v ∧ F = F' ∧ L = L') := by
  have hl := termOk_len ho
  have h := l1End_spec (F := F) (L := L) (p0 := p) har ht (termOk_sig ho) (by omega) (by omega)
  rw [sEndZ_endN ho hp] at h
  exact h


/- spec.l1Copy -/
theorem l1Copy_spec {F : FH} {L : List HP} {tv : Value} {t : List Int} (ht : IntsF F tv t) (hlt : t.length ≤ 4000000) :
    Does prog 31 [tv] F (L) (fun v F' L' => F = F' ∧ IsSl v ∧ intsH 2 v t :: L = L') := by
 refine qO func31 rfl rfl rfl (qc (qa (qg (sN) rfl (qb (qc (qa (cX (qP (s := 1) [] [ii (0)] [] qf qr jm rfl (by decide) rfl CellsAre.nil rfl ?_))))))))
 intro v1 hv1
 refine qd (tv) rfl ?_
 show XL _ _ _ _ _ _ _ (intsH 2 v1 ([] : List Int) :: L)
 refine cX (XOp.appendI [] _ qf typeInfo2 rfl rfl rfl rfl rfl rfl ht (by (try simp only [List.length_append, List.length_nil, List.length_cons, List.length_singleton, List.length_take, List.length_drop]); omega) ?_)
 intro v2 hs1 hn1 hm1
 refine qg (v2) rfl (qb (qC (qv (L' := intsH 2 v2 (([] : List Int) ++ t) :: L) [v2] (v2) (.tmp rfl .nil) rfl rF rF (sC sR) ?_)))
 refine ⟨rfl, hs1, ?_⟩
 have hxs : (t : List Int) = ([] : List Int) ++ t := by simp
 exact congrArg (fun z => intsH 2 _ z :: L) hxs

/- slices.Clone[[]int64,int64] -/
theorem Clone_spec {F : FH} {L : List HP} {tv : Value} {t : List Int} (ht : IntsF F tv t) (hlt : t.length ≤ 4000000) :
    Does prog 29 [tv] F (L) (fun v F' L' => F = F' ∧ IsSl v ∧ intsH 2 v t :: L = L') := by
 refine qO func29 rfl rfl rfl (qc (qa (qg (sN) rfl (qb (qc (qc (qa (qd (tv) rfl (cX (XOp.eqNil qf rfl rfl (qS ht) (qb ?_)))))))))))
 refine jr (t := isNil tv) rfl (fun h1 => ?_) (fun h1 => ?_)
 ·refine qc (qa (qg (sN) rfl (qb (qC (qn (qv (L' := intsH 2 (sN) ([]) :: L) [sN] (sN) (.tmp rfl .nil) rfl rF rF (jj (intsH.addNil 2 none _) (sC sR)) ?_))))))
  refine ⟨rfl, ⟨_, _, _, rfl⟩, ?_⟩
  have hxs : (t : List Int) = [] := by exact nil_of_isNil ht h1
  exact congrArg (fun z => intsH 2 _ z :: L) hxs
 refine qx (qc (qa (cX (qP (s := 1) [] [ii (0)] [] qf qr jm rfl (by decide) rfl CellsAre.nil rfl ?_))))
 intro v1 hv1
 refine qd (tv) rfl ?_
 show XL _ _ _ _ _ _ _ (intsH 2 v1 ([] : List Int) :: L)
 refine cX (XOp.appendI [] _ qf typeInfo2 rfl rfl rfl rfl rfl rfl ht (by (try simp only [List.length_append, List.length_nil, List.length_cons, List.length_singleton, List.length_take, List.length_drop]); omega) ?_)
 intro v2 hs1 hn1 hm1
 refine qg (v2) rfl (qb (qC (qv (L' := intsH 2 v2 (([] : List Int) ++ t) :: L) [v2] (v2) (.tmp rfl .nil) rfl rF rF (sC sR) ?_)))
 refine ⟨rfl, hs1, ?_⟩
 have hxs : (t : List Int) = ([] : List Int) ++ t := by simp
 exact congrArg (fun z => intsH 2 _ z :: L) hxs

/- slices.Grow[[]int64,int64] -/

/- impl.argsAt -/
theorem l1Args_spec {F : FH} {L : List HP} {arv : Value} {ar : List Int} (har : IntsF F arv ar) {tv : Value} {t : List Int} (ht : IntsF F tv t) {p : Nat} (ho : termOk ar t = true) (hp : p < t.length) :
    Does prog 92 [.agg #[arv], tv, ii ((p : Int))] F (L) (fun v F' L' => F = F' ∧ IsSl v ∧ intsH 2 v (argsL ar t p) :: L = L') := by
 refine qO func92 rfl rfl rfl ?_
 have hsl := sigOk_spec (termOk_sig ho)
 have htl := termOk_len ho
 have hsig := termOk_sig ho
 have hA := arity_le hsig (termOk_lt ho hp)
 have hge := termOk_ge ho hp
 have hlt := termOk_lt ho hp
 refine qc (qa (cX (ji [arv] rfl rfl ?_)))
 intro b1
 refine qg (sN) rfl (qb (qc (qa (cX (qP (s := 1) [] [ii (0)] [] qf qr jm rfl (by decide) rfl CellsAre.nil rfl ?_)))))
 intro v1 hv1
 refine qg (v1) rfl (qb (qc (qa (qd (ii ((p : Int))) rfl (cX (qD (((p + 1 : Nat) : Int)) rfl rfl (by omega) (by omega) (qg (ii (((p + 1 : Nat) : Int))) rfl (qb (qc (qc ?_))))))))))
 refine jq [slH 2 1 v1 0 [], cellsH b1 [arv] 26] L 5 [] [[], [], [], [1, 2], [3]] (phiL [qe (.agg #[arv]), qe tv, qe (ii ((p : Int)) : Value), qe (.pointer (some (elemA tv (p)))), qe (ii (t.getD p 0))]) (ownL []) mixed rfl rfl (by kernel_rfl) ?_ ?_
 ·refine pD (fun W R z9 => ?_) ?_
  ·refine qh (qu [arv] qY qI rfl rfl (Rd.ownN [_] rfl rfl) ?_)
   exact ⟨rfl, rfl, rfl⟩
  refine pD (fun W R z9 => ?_) ?_
  ·refine qh (qk (tv) rfl ?_)
   exact ⟨rfl, rfl, rfl⟩
  refine pD (fun W R z9 => ?_) ?_
  ·refine qh (qk (ii ((p : Int))) rfl ?_)
   exact ⟨rfl, rfl, rfl⟩
  refine pD (fun W R z9 => ?_) ?_
  ·rw [zB 1 2 (z9 1 rfl) (z9 2 rfl)]
   refine qh (qy p qf qr rfl rfl rfl ht.slv (by omega) (Nat.mul_one _) ?_)
   exact ⟨rfl, rfl, rfl⟩
  refine pD (fun W R z9 => ?_) ?_
  ·rw [zA 3 (z9 3 rfl)]
   refine qh (qi qM rfl (ht.rd (by omega)) ?_)
   exact ⟨rfl, rfl, rfl⟩
  exact stepsP.nil
 intro W hphi
 rw [zB 0 4 (hphi 0 (by decide)) (hphi 4 (by decide))]
 show XL _ _ _ _ _ _ _ (slH 2 1 v1 0 [] :: cellsH b1 [arv] 26 :: L)
 refine cX (qq (args := [.agg #[arv], ii (t.getD p 0)]) call99 rfl (l1Arity_spec (n := t.getD p 0) har (hla := (by first | assumption | rfl | omega | simp))) ?_)
 rintro _ _ _ _ ⟨rfl, rfl, rfl⟩
 refine qg (ii (sArity ar (t.getD p 0))) rfl (qb (qF (jg (α := Nat × Nat × Value × List Int) (fun xQ => [(1, tv), (3, ptr b1 0), (7, xQ.2.2.1), (8, ii (((xQ.2.1 : Nat) : Int))), (9, ii (((xQ.1 : Nat) : Int)))]) (fun xQ => intsH 2 xQ.2.2.1 xQ.2.2.2 :: cellsH b1 [arv] 26 :: L) (fun xQ F' => F = F' ∧ (IsSl xQ.2.2.1) ∧ (Stand ar t xQ.1 xQ.2.1 (endN ar t p)) ∧ (argsL ar t p = xQ.2.2.2 ++ argsGo ar t xQ.1 xQ.2.1) ∧ (xQ.2.2.2.length + xQ.1 ≤ 3)) (fun xQ => xQ.1) ((arity ar (t.getD p 0)).toNat, p + 1, v1, []) ⟨rfl, rfl, rfl, rfl, (vI (by first | omega | (rw [sArity_eq (by omega)]; omega))), ⟨⟩⟩ (sC (sC sR)) ⟨rfl, ((jH hv1)), (stand_start ho hp), (rfl), (by rw [List.length_nil]; omega)⟩ ?_)))
 rintro ⟨m, q, ov, os⟩ rE _ _ ⟨rfl, hov, hS, hos, hol⟩
 show X _ _ _ _ (envs [(1, tv), (3, ptr b1 0), (7, ov), (8, ii ((q : Int))), (9, ii ((m : Int)))] rE) _ (intsH 2 ov os :: cellsH b1 [arv] 26 :: L)
 dsimp only at hov hS hos hol
 have hst := fun (h : 1 ≤ m) => stand_step ho (n := m - 1) (by rw [Nat.sub_add_cancel h]; exact hS)
 refine qc (qc (qa (qd (ii ((m : Int))) rfl (cX (jw rfl rfl (qb ?_))))))
 refine qE (p := (m : Int) > 0) rfl (fun h1 => ?_) (fun h1 => ?_)
 ·refine qx (qc (qF (qc (qa (qd (ov) rfl (qd (ii ((q : Int))) rfl (cX (qP (s := 1) [ii ((q : Int))] [ii (0)] [(0, [ii ((q : Int))])] qf qr jm rfl (by decide) rfl (.cons rfl CellsAre.nil) rfl ?_))))))))
  intro v2 hv2
  refine cX (jL (u := (q : Int)) [_] _ qf typeInfo2 rfl rfl rfl rfl rfl rfl (SlV.own [] rfl) (Rd.sl [] rfl rfl) (by (try simp only [List.length_append, List.length_nil, List.length_cons, List.length_singleton, List.length_take, List.length_drop]); omega) ?_)
  intro v3 hs1 hn1
  refine qg (v3) rfl (qb (qa (cX (qu [arv] qY qI rfl rfl (Rd.ownN [_, _] rfl rfl) (qd (tv) rfl (qd (ii ((q : Int))) rfl (cX (qq (args := [.agg #[arv], tv, ii (q : Int)]) call98 rfl (l1End_ok (p := q) har ht (ho := (by first | assumption | rfl | omega | (left; simp; done) | (right; simp; done))) (hp := (by first | assumption | rfl | omega | (left; simp; done) | (right; simp; done)))) ?_))))))))
  rintro _ _ _ _ ⟨rfl, rfl, rfl⟩
  refine qg (ii (((endN ar t q : Nat) : Int))) rfl (qb (qa (qd (ii ((m : Int))) rfl (cX (js (((m : Int)) - 1) rfl rfl (by omega) (by omega) (qg (ii (((m : Int)) - 1)) rfl (qb ?_)))))))
  exact ⟨(m - 1, endN ar t q, v3, os ++ [(q : Int)]), _, FLe.refl _, rF, ⟨rfl, rfl, rfl, rfl, (vI (by omega)), ⟨⟩⟩, (sD (sC (sC sR))), ⟨rfl, (hs1), ((hst (by omega)).2.1), (args_next ho (by omega) hos), (by dsimp only; rw [List.length_append, List.length_singleton]; omega)⟩, (by omega)⟩
 refine jd (qp (qp (qJ (qc (qa (qd (ov) rfl (qg (ov) rfl (qb (qC (qv (L' := intsH 2 ov os :: L) [ov] (ov) (.tmp rfl .nil) rfl rF rF (sC (sD sR)) ?_))))))))))
 refine ⟨rfl, hov, ?_⟩
 have hxs : (argsL ar t p : List Int) = os := by rw [hos, show m = 0 from by omega]; simp [argsGo]
 exact congrArg (fun z => intsH 2 _ z :: L) hxs

theorem endAtW_ok {F : FH} {L : List HP} {p : Nat} {arv : Value} {ar : List Int} (har : IntsF F arv ar) {tv : Value} {t : List Int} (ht : IntsF F tv t) (ho : TermW ar t) (hp : p < t.length) :
    Does prog 86 [.agg #[arv], tv, ii (p : Int)] F L (fun v F' L' => (ii ((endN ar t p : Nat) : Int) : Value) = v ∧ F = F' ∧ L = L') := by
  have hl := ho.len
  have h := endAt_spec (F := F) (L := L) (p := p) har ht ho.sig (by omega) (by omega)
  rw [ho.endZ hp] at h
  exact h


/- impl.argsAt -/
theorem argsAtW_spec {F : FH} {L : List HP} {arv : Value} {ar : List Int} (har : IntsF F arv ar) {tv : Value} {t : List Int} (ht : IntsF F tv t) {p : Nat} (ho : TermW ar t) (hp : p < t.length) :
    Does prog 88 [.agg #[arv], tv, ii ((p : Int))] F (L) (fun v F' L' => F = F' ∧ IsSl v ∧ intsH 3 v (argsL ar t p) :: L = L') := by
 refine qO func88 rfl rfl rfl ?_
 have hsl := sigOk_spec ho.sig
 have htl := ho.len
 have hsig := ho.sig
 have hA := arity_le hsig (ho.lt hp)
 have hge := ho.geD hp
 have hlt := ho.lt hp
 refine qc (qa (cX (ji [arv] rfl rfl ?_)))
 intro b1
 refine qg (sN) rfl (qb (qc (qa (qg (sN) rfl (qb (qc (qa (qd (ii ((p : Int))) rfl (cX (qD (((p + 1 : Nat) : Int)) rfl rfl (by omega) (by omega) (qg (ii (((p + 1 : Nat) : Int))) rfl (qb (qc (qc ?_))))))))))))))
 refine jq [cellsH b1 [arv] 26] L 5 [] [[], [], [], [1, 2], [3]] (phiL [qe (.agg #[arv]), qe tv, qe (ii ((p : Int)) : Value), qe (.pointer (some (elemA tv (p)))), qe (ii (t.getD p 0))]) (ownL []) mixed rfl rfl (by kernel_rfl) ?_ ?_
 ·refine pD (fun W R z9 => ?_) ?_
  ·refine qh (qu [arv] qY qI rfl rfl (Rd.ownN [] rfl rfl) ?_)
   exact ⟨rfl, rfl, rfl⟩
  refine pD (fun W R z9 => ?_) ?_
  ·refine qh (qk (tv) rfl ?_)
   exact ⟨rfl, rfl, rfl⟩
  refine pD (fun W R z9 => ?_) ?_
  ·refine qh (qk (ii ((p : Int))) rfl ?_)
   exact ⟨rfl, rfl, rfl⟩
  refine pD (fun W R z9 => ?_) ?_
  ·rw [zB 1 2 (z9 1 rfl) (z9 2 rfl)]
   refine qh (qy p qf qr rfl rfl rfl ht.slv (by omega) (Nat.mul_one _) ?_)
   exact ⟨rfl, rfl, rfl⟩
  refine pD (fun W R z9 => ?_) ?_
  ·rw [zA 3 (z9 3 rfl)]
   refine qh (qi qM rfl (ht.rd (by omega)) ?_)
   exact ⟨rfl, rfl, rfl⟩
  exact stepsP.nil
 intro W hphi
 rw [zB 0 4 (hphi 0 (by decide)) (hphi 4 (by decide))]
 show XL _ _ _ _ _ _ _ (cellsH b1 [arv] 26 :: L)
 refine cX (qq (args := [.agg #[arv], ii (t.getD p 0)]) call97 rfl (arityAt_spec (n := t.getD p 0) har (hn := (by first | assumption | rfl | omega | simp))) ?_)
 rintro _ _ _ _ ⟨rfl, rfl, rfl⟩
 refine qg (ii (arity ar (t.getD p 0))) rfl (qb (qF (jg (α := Nat × Nat × Value × List Int) (fun xQ => [(1, tv), (3, ptr b1 0), (7, xQ.2.2.1), (8, ii (((xQ.2.1 : Nat) : Int))), (9, ii (((xQ.1 : Nat) : Int)))]) (fun xQ => intsH 3 xQ.2.2.1 xQ.2.2.2 :: cellsH b1 [arv] 26 :: L) (fun xQ F' => F = F' ∧ (IsSl xQ.2.2.1) ∧ (Stand ar t xQ.1 xQ.2.1 (endN ar t p)) ∧ (argsL ar t p = xQ.2.2.2 ++ argsGo ar t xQ.1 xQ.2.1) ∧ (xQ.2.2.2.length + xQ.1 ≤ 3)) (fun xQ => xQ.1) ((arity ar (t.getD p 0)).toNat, p + 1, sN, []) ⟨rfl, rfl, rfl, rfl, (vI (by first | omega | (rw [sArity_eq (by omega)]; omega))), ⟨⟩⟩ (jj (intsH.addNil 3 none _) (sC (sC sR))) ⟨rfl, (⟨_, _, _, rfl⟩), (ho.stand0 hp), (rfl), (by rw [List.length_nil]; omega)⟩ ?_)))
 rintro ⟨m, q, ov, os⟩ rE _ _ ⟨rfl, hov, hS, hos, hol⟩
 show X _ _ _ _ (envs [(1, tv), (3, ptr b1 0), (7, ov), (8, ii ((q : Int))), (9, ii ((m : Int)))] rE) _ (intsH 3 ov os :: cellsH b1 [arv] 26 :: L)
 dsimp only at hov hS hos hol
 have hst := fun (h : 1 ≤ m) => ho.stand (n := m - 1) (by rw [Nat.sub_add_cancel h]; exact hS)
 refine qc (qc (qa (qd (ii ((m : Int))) rfl (cX (jw rfl rfl (qb ?_))))))
 refine qE (p := (m : Int) > 0) rfl (fun h1 => ?_) (fun h1 => ?_)
 ·refine qx (qc (qF (qc (qa (qd (ov) rfl (qd (ii ((q : Int))) rfl (cX (qP (s := 1) [ii ((q : Int))] [ii (0)] [(0, [ii ((q : Int))])] runUnderlying113 sizeOf3 zeroValue3 rfl (by decide) rfl (.cons rfl CellsAre.nil) rfl ?_))))))))
  intro v1 hv1
  refine cX (jL (u := (q : Int)) [_] _ runUnderlying113 typeInfo3 rfl rfl rfl rfl rfl rfl (SlV.own [] rfl) (Rd.sl [] rfl rfl) (by (try simp only [List.length_append, List.length_nil, List.length_cons, List.length_singleton, List.length_take, List.length_drop]); omega) ?_)
  intro v2 hs1 hn1
  refine qg (v2) rfl (qb (qa (cX (qu [arv] qY qI rfl rfl (Rd.ownN [_, _] rfl rfl) (qd (tv) rfl (qd (ii ((q : Int))) rfl (cX (qq (args := [.agg #[arv], tv, ii (q : Int)]) call86 rfl (endAtW_ok (p := q) har ht (ho := (by first | assumption | rfl | omega | (left; simp; done) | (right; simp; done))) (hp := (hst (by omega)).1)) ?_))))))))
  rintro _ _ _ _ ⟨rfl, rfl, rfl⟩
  refine qg (ii (((endN ar t q : Nat) : Int))) rfl (qb (qa (qd (ii ((m : Int))) rfl (cX (js (((m : Int)) - 1) rfl rfl (by omega) (by omega) (qg (ii (((m : Int)) - 1)) rfl (qb ?_)))))))
  exact ⟨(m - 1, endN ar t q, v2, os ++ [(q : Int)]), _, FLe.refl _, rF, ⟨rfl, rfl, rfl, rfl, (vI (by omega)), ⟨⟩⟩, (sD (sC (sC sR))), ⟨rfl, (hs1), ((hst (by omega)).2.1), (args_nextW (by omega) hos), (by dsimp only; rw [List.length_append, List.length_singleton]; omega)⟩, (by omega)⟩
 refine jd (qp (qp (qJ (qc (qa (qd (ov) rfl (qg (ov) rfl (qb (qC (qv (L' := intsH 3 ov os :: L) [ov] (ov) (.tmp rfl .nil) rfl rF rF (sC (sD sR)) ?_))))))))))
 refine ⟨rfl, hov, ?_⟩
 have hxs : (argsL ar t p : List Int) = os := by rw [hos, show m = 0 from by omega]; simp [argsGo]
 exact congrArg (fun z => intsH 3 _ z :: L) hxs

/- spec.l1Flag -/
theorem l1Flag_spec {F : FH} {L : List HP} {q : Bool} :
    Does prog 66 [.bool (q)] F (L) (fun v F' L' => (ii (if q = true then 1 else 0) : Value) = v ∧ F = F' ∧ L = L') := by
 refine qO func66 rfl rfl rfl (qc (qa (qg (ii (0)) rfl (qb (qc (qc (qa (qd (.bool (q)) rfl (qb ?_)))))))))
 refine jr (t := q) rfl (fun h1 => ?_) (fun h1 => ?_)
 ·refine qc (qa (qg (ii (1)) rfl (qb (qC (qn (qv (L' := L) [ii (1)] (ii (1)) (.tmp rfl .nil) rfl rF rF sR ?_))))))
  exact ⟨(vI (by rw [if_pos (by assumption)])), rfl, rfl⟩
 refine qx (qc (qa (qg (ii (0)) rfl (qb (qC (qv (L' := L) [ii (0)] (ii (0)) (.tmp rfl .nil) rfl rF rF sR ?_))))))
 exact ⟨(vI (by rw [if_neg (by simp_all)])), rfl, rfl⟩

/- impl.varsIn -/
theorem varsIn_spec {F : FH} {L : List HP} {tv : Value} {t : List Int} (ht : IntsF F tv t) (hlt : t.length ≤ 4000000) :
    Does prog 69 [tv] F (L) (fun v F' L' => ∃ (a : Value), ∃ (os : List Int), (a : Value) = v ∧ (IntsF F' a os) ∧ ((os = [] → ∀ i : Nat, i < 24 → (-1 - (i : Int)) ∉ t) ∧ (os ≠ [] → ∃ i : Nat, (-1 - (i : Int)) ∈ t)) ∧ (os.length ≤ 24) ∧ L = L') := by
 refine qO func69 rfl rfl rfl (qc (qa (qg (sN) rfl (qb (qc (qa (qg (sN) rfl (qb (qc (qc (qa (qg (ii (0)) rfl (qb (qF (jg (α := Nat × Value × List Int) (fun xQ => [(0, tv), (3, xQ.2.1), (4, ii (((xQ.1 : Nat) : Int)))]) (fun xQ => intsH 2 xQ.2.1 xQ.2.2 :: L) (fun xQ F' => F = F' ∧ (IsSl xQ.2.1) ∧ (xQ.1 ≤ 24) ∧ (xQ.2.2 = [] → ∀ i : Nat, i < xQ.1 → (-1 - (i : Int)) ∉ t) ∧ (xQ.2.2 ≠ [] → ∃ i : Nat, (-1 - (i : Int)) ∈ t) ∧ (xQ.2.2.length ≤ xQ.1)) (fun xQ => 24 - xQ.1) (0, sN, []) ⟨rfl, rfl, rfl, ⟨⟩⟩ (jj (intsH.addNil 2 none _) (sC sR)) ⟨rfl, (⟨_, _, _, rfl⟩), (by (try dsimp only) <;> omega), (fun _ i hi => absurd hi (by omega)), (fun h => absurd rfl h), (Nat.le_refl _)⟩ ?_)))))))))))))))
 rintro ⟨k, ov, os⟩ rE _ _ ⟨rfl, hov, hk, hno, hye, hol⟩
 show X _ _ _ _ (envs [(0, tv), (3, ov), (4, ii ((k : Int)))] rE) _ (intsH 2 ov os :: L)
 dsimp only at hov hk hno hye hol
 refine qc (qc (qa (qd (ii ((k : Int))) rfl (cX (qV rfl rfl (qb ?_))))))
 refine qE (p := (k : Int) < 24) rfl (fun h1 => ?_) (fun h1 => ?_)
 ·refine qx (qc (qF (qc (qa (qd (tv) rfl (qd (ii ((k : Int))) rfl (cX (js ((-1) - ((k : Int))) rfl rfl (by omega) (by omega) (cX (qq (args := [tv, ii ((-1) - ((k : Int)))]) call87 rfl (Contains_spec (n := (-1) - ((k : Int))) ht (hbd := (by first | assumption | rfl | omega | simp))) ?_))))))))))
  rintro _ _ _ _ ⟨rfl, rfl, rfl⟩
  refine qb ?_
  refine qE (p := ((-1) - ((k : Int))) ∈ t) rfl (fun h2 => ?_) (fun h2 => ?_)
  ·have hvi := h2
   refine qa (qd (ov) rfl (qd (ii ((k : Int))) rfl (cX (qP (s := 1) [ii ((k : Int))] [ii (0)] [(0, [ii ((k : Int))])] qf qr jm rfl (by decide) rfl (.cons rfl CellsAre.nil) rfl ?_))))
   intro v1 hv1
   refine cX (jL (u := (k : Int)) [_] _ qf typeInfo2 rfl rfl rfl rfl rfl rfl (SlV.own [] rfl) (Rd.sl [] rfl rfl) (by (try simp only [List.length_append, List.length_nil, List.length_cons, List.length_singleton, List.length_take, List.length_drop]); omega) ?_)
   intro v2 hs1 hn1
   refine qg (v2) rfl (qb (qa (qd (ii ((k : Int))) rfl (cX (qD (((k + 1 : Nat) : Int)) rfl rfl (by omega) (by omega) (qg (ii (((k + 1 : Nat) : Int))) rfl (qb ?_)))))))
   exact ⟨(k + 1, v2, os ++ [(k : Int)]), _, FLe.refl _, rF, ⟨rfl, rfl, rfl, ⟨⟩⟩, (sD (sC sR)), ⟨rfl, (hs1), (by (try dsimp only) <;> omega), ((fun e => by (try dsimp only at e); first | (simp at e; done) | (intro i hi; rcases Nat.lt_or_ge i k with h8 | h8; exact hno e i h8; obtain rfl : i = k := (by omega); exact hvi))), ((fun e => by first | exact ⟨k, hvi⟩ | exact hye e)), (by (try dsimp only); (try rw [List.length_append, List.length_singleton]); omega)⟩, (by omega)⟩
  have hvi := h2
  refine qx (qa (qd (ii ((k : Int))) rfl (cX (qD (((k + 1 : Nat) : Int)) rfl rfl (by omega) (by omega) (qg (ii (((k + 1 : Nat) : Int))) rfl (qb ?_))))))
  exact ⟨(k + 1, ov, os), _, FLe.refl _, rF, ⟨rfl, rfl, rfl, ⟨⟩⟩, (sC sR), ⟨rfl, (hov), (by (try dsimp only) <;> omega), ((fun e => by (try dsimp only at e); first | (simp at e; done) | (intro i hi; rcases Nat.lt_or_ge i k with h8 | h8; exact hno e i h8; obtain rfl : i = k := (by omega); exact hvi))), ((fun e => by first | exact ⟨k, hvi⟩ | exact hye e)), (by (try dsimp only); (try rw [List.length_append, List.length_singleton]); omega)⟩, (by omega)⟩
 refine jd (qp (qp (qJ (qc (qa (qd (ov) rfl (qg (ov) rfl (qb (jf [] _ _ rfl (fun F1 le1 hz1 => ?_))))))))))
 have hf1 : IntsF F1 ov os := intsH.fz (xs := os) hz1.fz
 refine qC (qv (L' := L) [ov] (ov) (.tmp rfl .nil) rfl le1 rF sR ?_)
 exact ⟨_, _, rfl, hf1, ⟨fun e i hi => hno e i (by omega), hye⟩, by omega, rfl⟩

/- impl.GroundIn -/
theorem iGroundIn_spec {F : FH} {L : List HP} {arv : Value} {ar : List Int} (har : IntsF F arv ar) {tv : Value} {t : List Int} (ht : IntsF F tv t) (hlt : t.length ≤ 4000000) :
    Does prog 37 [.agg #[arv], tv] F (L) (fun v F' L' => (.bool (groundB ar t) : Value) = v ∧ F = F' ∧ L = L') := by
 refine qO func37 rfl rfl rfl (qc (qa (cX (ji [arv] rfl rfl ?_))))
 intro b1
 refine qg (.bool (false)) rfl (qb (qc (qa (cX (qu [arv] qY qI rfl rfl (Rd.ownN [] rfl rfl) (qd (tv) rfl (cX (qq (args := [.agg #[arv], tv]) call68 rfl (TermOk_spec har ht) ?_))))))))
 rintro _ _ _ _ ⟨rfl, rfl, rfl⟩
 refine qd (.bool (termOk ar t)) rfl ?_
 by_cases h1 : (termOk ar t) = true
 ·have hto : termOk ar t = true := h1
  have htl := termOk_len hto
  refine qo (t := 8) rfl (vB h1) (qk (tv) rfl (qo (t := 8) rfl (vB h1) (qq (args := [tv]) call69 rfl (varsIn_spec ht (hlt := (by first | assumption | rfl | omega | simp))) ?_)))
  rintro _ F1 _ le1 ⟨x1, x2, rfl, hr1, hr2, hr3, rfl⟩
  refine qo (t := 8) rfl (vB h1) (qG qf rfl hr1.slv (qo (t := 8) rfl (vB h1) (jp rfl rfl (cX (qL (.bool (decide (((x2.length : Int) : Int) = 0))) (vB h1) rfl (qg (.bool (decide (((x2.length : Int) : Int) = 0))) rfl (qb (qC (qv (L' := L) [.bool (decide (((x2.length : Int) : Int) = 0))] (.bool (decide (((x2.length : Int) : Int) = 0))) (.tmp rfl .nil) rfl rF le1 (sD sR) ?_)))))))))
  exact ⟨(vB ((by cases hos : groundB ar t with | true => (refine (decide_eq_true ?_).symm; have h9 := fun h8 => hr2.2 h8; apply Classical.byContradiction; intro hc; obtain ⟨i, hi⟩ := h9 (fun e => hc (by rw [e]; rfl)); rw [ground_not hi] at hos; cases hos) | false => (refine (decide_eq_false ?_).symm; intro hz; rw [ground_of hto (hr2.1 (List.eq_nil_of_length_eq_zero (by omega)))] at hos; cases hos)))), rfl, rfl⟩
 rw [Bool.not_eq_true] at h1
 have hto : termOk ar t = false := h1
 refine qm (t := 8) rfl (vB h1) (qm (t := 8) rfl (vB h1) (qm (t := 8) rfl (vB h1) (qm (t := 8) rfl (vB h1) (cX (qQ (.bool (false)) (vB h1) rfl (qg (.bool (false)) rfl (qb (qC (qv (L' := L) [.bool (false)] (.bool (false)) (.tmp rfl .nil) rfl rF rF (sD sR) ?_)))))))))
 exact ⟨(vB ((ground_no hto))), rfl, rfl⟩

/- spec.l1Into -/
theorem l1IntoE_spec {F : FH} {L : List HP} {xsv : Value} {xs : List Int} (hxs : IntsF F xsv xs) {n : Int} (hlx : xs.length ≤ 1000) :
    Does prog 76 [xsv, ii (n)] F (L) (fun v F' L' => ∃ (a : Value), ∃ (os : List Int), (a : Value) = v ∧ (IntsF F' a os) ∧ (1 ≤ os.length) ∧ (os.length ≤ xs.length + 1) ∧ L = L') := by
 refine qO func76 rfl rfl rfl (qc (qa (qg (sN) rfl (qb (qc (qa (qg (ii (0)) rfl (qb (qc (qF (jg (α := Nat) (fun k => [(0, xsv), (1, ii (n)), (5, ii ((k : Int)))]) (fun k => L) (fun k F' => F = F' ∧ (k ≤ xs.length)) (fun k => xs.length - k) 0 ⟨rfl, rfl, rfl, ⟨⟩⟩ sR ⟨rfl, (Nat.zero_le _)⟩ ?_)))))))))))
 rintro k rE _ _ ⟨rfl, hk⟩
 show X _ _ _ _ (envs [(0, xsv), (1, ii (n)), (5, ii ((k : Int)))] rE) _ (L)
 refine qc (qc (qa (qd (ii ((k : Int))) rfl (qd (xsv) rfl (cX (qG qf rfl hxs.slv (cX (qV rfl rfl (qd (.bool (decide ((k : Int) < (xs.length : Int)))) rfl ?_)))))))))
 by_cases h1 : (k : Int) < (xs.length : Int)
 ·refine qo (t := 11) rfl (vT h1) (qk (xsv) rfl (qo (t := 11) rfl (vT h1) (qk (ii ((k : Int))) rfl (qo (t := 11) rfl (vT h1) (qy k qf qr rfl rfl rfl hxs.slv (by omega) (Nat.mul_one _) (qo (t := 11) rfl (vT h1) (qi qM rfl (hxs.rd (by omega)) (qo (t := 11) rfl (vT h1) (qk (ii (n)) rfl (qo (t := 11) rfl (vT h1) (qV rfl rfl (cX (qL (.bool (decide ((xs.getD k 0 : Int) < n))) (vT h1) rfl (qb ?_))))))))))))))
  refine qE (p := (xs.getD k 0 : Int) < n) rfl (fun h2 => ?_) (fun h2 => ?_)
  ·refine qx (qF (qa (qd (ii ((k : Int))) rfl (cX (qD (((k + 1 : Nat) : Int)) rfl rfl (by omega) (by omega) (qg (ii (((k + 1 : Nat) : Int))) rfl (qb ?_)))))))
   exact ⟨k + 1, _, FLe.refl _, rF, ⟨rfl, rfl, rfl, ⟨⟩⟩, sR, ⟨rfl, (by (try dsimp only) <;> omega)⟩, (by omega)⟩
  refine jd (qp (qp (qJ (qc (qc (qa (qd (ii ((k : Int))) rfl (qd (xsv) rfl (cX (qG qf rfl hxs.slv (cX (qV rfl rfl (qd (.bool (decide ((k : Int) < (xs.length : Int)))) rfl (qo (t := 25) rfl (vT h1) (qk (xsv) rfl (qo (t := 25) rfl (vT h1) (qk (ii ((k : Int))) rfl (qo (t := 25) rfl (vT h1) (qy k qf qr rfl rfl rfl hxs.slv (by omega) (Nat.mul_one _) ?_)))))))))))))))))))
  refine qo (t := 25) rfl (vT h1) (qi qM rfl (hxs.rd (by omega)) (qo (t := 25) rfl (vT h1) (qk (ii (n)) rfl (qo (t := 25) rfl (vT h1) (jp rfl rfl (cX (qL (.bool (decide ((xs.getD k 0 : Int) = n))) (vT h1) rfl (qb ?_))))))))
  refine qE (p := (xs.getD k 0 : Int) = n) rfl (fun h3 => ?_) (fun h3 => ?_)
  ·refine qc (qa (qd (xsv) rfl (qg (xsv) rfl (qb (qC (qn (qv (L' := L) [xsv] (xsv) (.tmp rfl .nil) rfl rF rF sR ?_)))))))
   exact ⟨_, _, rfl, hxs, by omega, by omega, rfl⟩
  refine qx (qc (qa (qd (xsv) rfl (qd (ii ((k : Int))) rfl (cX (XOp.sliceI 0 k qf qr rfl hxs rfl ⟨_, rfl⟩ (by omega) (by omega) ?_))))))
  intro v1 hv1 hn1
  refine cX (qq (args := [v1]) call31 rfl (l1Copy_spec hv1 (hlt := (by simp; omega))) ?_)
  rintro v2 _ _ _ ⟨rfl, hs1, rfl⟩
  refine qd (ii (n)) rfl (cX (qP (s := 1) [ii (n)] [ii (0)] [(0, [ii (n)])] qf qr jm rfl (by decide) rfl (.cons rfl CellsAre.nil) rfl ?_))
  intro v3 hv2
  refine cX (jL (u := n) [_] _ qf typeInfo2 rfl rfl rfl rfl rfl rfl (SlV.own [] rfl) (Rd.sl [] rfl rfl) (by (try simp only [List.length_append, List.length_nil, List.length_cons, List.length_singleton, List.length_take, List.length_drop]); omega) ?_)
  intro v4 hs2 hn2
  refine qg (v4) rfl (qb (qc (qa (qd (v4) rfl (qd (xsv) rfl (qd (ii ((k : Int))) rfl (cX (XOp.sliceI k ((xs).length) qf qr rfl hxs ⟨_, rfl⟩ rfl (by omega) (by omega) ?_))))))))
  intro v5 hv3 hn3
  refine cX (XOp.appendI [_] _ qf typeInfo2 rfl rfl rfl rfl rfl rfl hv3 (by (try simp only [List.length_append, List.length_nil, List.length_cons, List.length_singleton, List.length_take, List.length_drop]); omega) ?_)
  intro v6 hs3 hn4 hm1
  refine qg (v6) rfl (qb (jf [_] _ _ rfl (fun F1 le1 hz1 => ?_)))
  replace hxs := hxs.mono le1
  have hf1 : IntsF F1 v6 (((((((xs.drop 0).take (k - 0))))) ++ [n]) ++ (((xs.drop k).take (((xs).length) - k)))) := intsH.fz (xs := ((((((xs.drop 0).take (k - 0))))) ++ [n]) ++ (((xs.drop k).take (((xs).length) - k)))) hz1.fz
  refine qC (qv (L' := L) [v6] (v6) (.tmp rfl .nil) rfl le1 rF (sD sR) ?_)
  exact ⟨_, _, rfl, hf1, by simp only [List.length_append, List.length_singleton]; omega, by simp only [List.length_append, List.length_take, List.length_drop, List.length_singleton]; omega, rfl⟩
 refine qm (t := 11) rfl (vF h1) (qm (t := 11) rfl (vF h1) (qm (t := 11) rfl (vF h1) (qm (t := 11) rfl (vF h1) (qm (t := 11) rfl (vF h1) (qm (t := 11) rfl (vF h1) (cX (qQ (.bool (false)) (vF h1) rfl (qb (jG rfl (jd (qp (qp (qJ ?_)))))))))))))
 refine qc (qc (qa (qd (ii ((k : Int))) rfl (qd (xsv) rfl (cX (qG qf rfl hxs.slv (cX (qV rfl rfl (qd (.bool (decide ((k : Int) < (xs.length : Int)))) rfl (qm (t := 25) rfl (vF h1) (qm (t := 25) rfl (vF h1) (qm (t := 25) rfl (vF h1) (qm (t := 25) rfl (vF h1) ?_)))))))))))))
 refine qm (t := 25) rfl (vF h1) (qm (t := 25) rfl (vF h1) (cX (qQ (.bool (false)) (vF h1) rfl (qb (jG rfl (qx (qc (qa (qd (xsv) rfl (qd (ii ((k : Int))) rfl (cX (XOp.sliceI 0 k qf qr rfl hxs rfl ⟨_, rfl⟩ (by omega) (by omega) ?_))))))))))))
 intro v7 hv4 hn5
 refine cX (qq (args := [v7]) call31 rfl (l1Copy_spec hv4 (hlt := (by simp; omega))) ?_)
 rintro v8 _ _ _ ⟨rfl, hs4, rfl⟩
 refine qd (ii (n)) rfl (cX (qP (s := 1) [ii (n)] [ii (0)] [(0, [ii (n)])] qf qr jm rfl (by decide) rfl (.cons rfl CellsAre.nil) rfl ?_))
 intro v9 hv5
 refine cX (jL (u := n) [_] _ qf typeInfo2 rfl rfl rfl rfl rfl rfl (SlV.own [] rfl) (Rd.sl [] rfl rfl) (by (try simp only [List.length_append, List.length_nil, List.length_cons, List.length_singleton, List.length_take, List.length_drop]); omega) ?_)
 intro v10 hs5 hn6
 refine qg (v10) rfl (qb (qc (qa (qd (v10) rfl (qd (xsv) rfl (qd (ii ((k : Int))) rfl (cX (XOp.sliceI k ((xs).length) qf qr rfl hxs ⟨_, rfl⟩ rfl (by omega) (by omega) ?_))))))))
 intro v11 hv6 hn7
 refine cX (XOp.appendI [_] _ qf typeInfo2 rfl rfl rfl rfl rfl rfl hv6 (by (try simp only [List.length_append, List.length_nil, List.length_cons, List.length_singleton, List.length_take, List.length_drop]); omega) ?_)
 intro v12 hs6 hn8 hm2
 refine qg (v12) rfl (qb (jf [_] _ _ rfl (fun F2 le2 hz2 => ?_)))
 have hf2 : IntsF F2 v12 (((((((xs.drop 0).take (k - 0))))) ++ [n]) ++ (((xs.drop k).take (((xs).length) - k)))) := intsH.fz (xs := ((((((xs.drop 0).take (k - 0))))) ++ [n]) ++ (((xs.drop k).take (((xs).length) - k)))) hz2.fz
 refine qC (qv (L' := L) [v12] (v12) (.tmp rfl .nil) rfl le2 rF (sD sR) ?_)
 exact ⟨_, _, rfl, hf2, by simp only [List.length_append, List.length_singleton]; omega, by simp only [List.length_append, List.length_take, List.length_drop, List.length_singleton]; omega, rfl⟩

/- spec.l2Vars -/
theorem l2VarsE_spec {F : FH} {L : List HP} {tv : Value} {t : List Int} (ht : IntsF F tv t) (hlt : t.length ≤ 60) (htg : ∀ k, k < t.length → -24 ≤ t.getD k 0) :
    Does prog 91 [tv] F (L) (fun v F' L' => ∃ (a : Value), ∃ (os : List Int), (a : Value) = v ∧ (IntsF F' a os) ∧ ((os = [] → ∀ i, i < t.length → 0 ≤ t.getD i 0) ∧ (os ≠ [] → ∃ i, i < t.length ∧ t.getD i 0 < 0)) ∧ (os.length ≤ t.length) ∧ L = L') := by
 refine qO func91 rfl rfl rfl ?_
 have htgk := htg
 refine qc (qa (qg (sN) rfl (qb (qc (qa (cX (qP (s := 1) [] [ii (0)] [] qf qr jm rfl (by decide) rfl CellsAre.nil rfl ?_)))))))
 intro v1 hv1
 refine qg (v1) rfl (qb (qc (qc (qa ?_))))
 show XL _ _ _ _ _ _ _ (intsH 2 v1 ([] : List Int) :: L)
 refine jz [] _ _ rfl (fun F1 le1 hz1 => ?_)
 replace ht := ht.mono le1
 have hf1 : IntsF F1 v1 ([]) := intsH.fz (xs := []) hz1.fz
 skip
 refine qg (ii (0)) rfl (qb (qF (jg (α := Nat × Value × List Int × FH) (fun xQ => [(0, tv), (3, xQ.2.1), (4, ii (((xQ.1 : Nat) : Int)))]) (fun xQ => L) (fun xQ F' => xQ.2.2.2 = F' ∧ F1 ≤ xQ.2.2.2 ∧ (IntsF xQ.2.2.2 xQ.2.1 xQ.2.2.1) ∧ (xQ.1 ≤ t.length) ∧ (xQ.2.2.1.length ≤ xQ.1) ∧ (xQ.2.2.1 = [] → ∀ i, i < xQ.1 → 0 ≤ t.getD i 0) ∧ (xQ.2.2.1 ≠ [] → ∃ i, i < t.length ∧ t.getD i 0 < 0)) (fun xQ => t.length - xQ.1) (0, v1, [], F1) ⟨rfl, rfl, rfl, ⟨⟩⟩ sR ⟨rfl, FLe.refl _, (hf1), (Nat.zero_le _), (by simp), (fun _ i hi => absurd hi (by omega)), (fun h => absurd rfl h)⟩ ?_)))
 rintro ⟨k, ov, os, G1⟩ rE _ _ ⟨rfl, leG, hov, hk, hol, hno, hye⟩
 show X _ _ _ _ (envs [(0, tv), (3, ov), (4, ii ((k : Int)))] rE) _ (L)
 replace leG : F1 ≤ G1 := leG
 dsimp only at hov hk hol hno hye
 have leG1 := leG
 replace ht := ht.mono leG1
 refine qc (qc (qa (qd (ii ((k : Int))) rfl (qd (tv) rfl (cX (qG qf rfl ht.slv (cX (qV rfl rfl (qb ?_)))))))))
 refine qE (p := (k : Int) < (t.length : Int)) rfl (fun h1 => ?_) (fun h1 => ?_)
 ·refine qx (qc (qF (qc (qa (qd (tv) rfl (qd (ii ((k : Int))) rfl (cX (qy k qf qr rfl rfl rfl ht.slv (by omega) (Nat.mul_one _) (cX (qi qM rfl (ht.rd (by omega)) (cX (qV rfl rfl (qb ?_)))))))))))))
  refine qE (p := (t.getD k 0 : Int) < 0) rfl (fun h2 => ?_) (fun h2 => ?_)
  ·have hneg := h2
   have htgk := htg k (by omega)
   refine qa (qd (ov) rfl (qd (tv) rfl (qd (ii ((k : Int))) rfl (cX (qy k qf qr rfl rfl rfl ht.slv (by omega) (Nat.mul_one _) (cX (qi qM rfl (ht.rd (by omega)) (cX (js ((-1) - (t.getD k 0)) rfl rfl (by omega) (by omega) (cX (qq (args := [ov, ii ((-1) - (t.getD k 0))]) call76 rfl (l1IntoE_spec (n := (-1) - (t.getD k 0)) hov (hlx := (by first | assumption | rfl | omega | simp))) ?_)))))))))))
   rintro _ F2 _ le2 ⟨x1, x2, rfl, hr1, hr2, hr3, rfl⟩
   replace hov := hov.mono le2
   refine qg (x1) rfl (qb (qa (qd (ii ((k : Int))) rfl (cX (qD (((k + 1 : Nat) : Int)) rfl rfl (by omega) (by omega) (qg (ii (((k + 1 : Nat) : Int))) rfl (qb ?_)))))))
   exact ⟨(k + 1, x1, x2, F2), _, (qj leG1 le2), rF, ⟨rfl, rfl, rfl, ⟨⟩⟩, sR, ⟨rfl, (qj leG1 le2), (hr1), (by (try dsimp only) <;> omega), (by (try dsimp only); have h9 := hr3; omega), ((fun e => absurd (congrArg List.length e) (by have h9 := hr2; (try dsimp only); simp only [List.length_nil]; omega))), ((fun _ => ⟨k, by omega, hneg⟩))⟩, (by omega)⟩
  have hneg := h2
  have htgk := htg k (by omega)
  refine qx (qa (qd (ii ((k : Int))) rfl (cX (qD (((k + 1 : Nat) : Int)) rfl rfl (by omega) (by omega) (qg (ii (((k + 1 : Nat) : Int))) rfl (qb ?_))))))
  exact ⟨(k + 1, ov, os, G1), _, leG1, rF, ⟨rfl, rfl, rfl, ⟨⟩⟩, sR, ⟨rfl, leG1, (hov), (by (try dsimp only) <;> omega), (by (try dsimp only); omega), (fun e i hi => (Nat.lt_or_ge i k).elim (fun h => hno e i h) (fun h => by obtain rfl : i = k := (by omega); omega)), (hye)⟩, (by omega)⟩
 refine jd (qp (qp (qJ (qc (qa (qd (ov) rfl (qg (ov) rfl (qb (qC (qv (L' := L) [ov] (ov) (.tmp rfl .nil) rfl (qj le1 leG1) rF sR ?_))))))))))
 exact ⟨_, _, rfl, hov, ⟨fun e i hi => hno e i (by omega), hye⟩, by omega, rfl⟩

/- spec.GroundIn -/
theorem sGroundIn_spec {F : FH} {L : List HP} {arv : Value} {ar : List Int} (har : IntsF F arv ar) {tv : Value} {t : List Int} (ht : IntsF F tv t) (hla : ar.length ≤ 4000000) (hlt : t.length ≤ 4000000) :
    Does prog 72 [.agg #[arv], tv] F (L) (fun v F' L' => (.bool (groundB ar t) : Value) = v ∧ F = F' ∧ L = L') := by
 refine qO func72 rfl rfl rfl (qc (qa (cX (ji [arv] rfl rfl ?_))))
 intro b1
 refine qg (.bool (false)) rfl (qb (qc (qa (cX (qu [arv] qY qI rfl rfl (Rd.ownN [] rfl rfl) (qd (tv) rfl (cX (qq (args := [.agg #[arv], tv]) call90 rfl (sTermOk_spec har ht (hla := (by first | assumption | rfl | omega | simp)) (hlt := (by first | assumption | rfl | omega | simp))) ?_))))))))
 rintro _ _ _ _ ⟨rfl, rfl, rfl⟩
 refine qd (.bool (termOk ar t)) rfl ?_
 by_cases h1 : (termOk ar t) = true
 ·have hto : termOk ar t = true := h1
  have htl := termOk_len hto
  have htg := fun k (hk : k < t.length) => termOk_ge hto hk
  refine qo (t := 8) rfl (vB h1) (qk (tv) rfl (qo (t := 8) rfl (vB h1) (qq (args := [tv]) call91 rfl (l2VarsE_spec ht (hlt := (by first | assumption | rfl | omega | simp)) (htg := (by first | assumption | rfl | omega | simp))) ?_)))
  rintro _ F1 _ le1 ⟨x1, x2, rfl, hr1, hr2, hr3, rfl⟩
  refine qo (t := 8) rfl (vB h1) (qG qf rfl hr1.slv (qo (t := 8) rfl (vB h1) (jp rfl rfl (cX (qL (.bool (decide (((x2.length : Int) : Int) = 0))) (vB h1) rfl (qg (.bool (decide (((x2.length : Int) : Int) = 0))) rfl (qb (qC (qv (L' := L) [.bool (decide (((x2.length : Int) : Int) = 0))] (.bool (decide (((x2.length : Int) : Int) = 0))) (.tmp rfl .nil) rfl rF le1 (sD sR) ?_)))))))))
  exact ⟨(vB ((ground_dec hto (fun e => hr2.1 e) (fun e => hr2.2 e)))), rfl, rfl⟩
 rw [Bool.not_eq_true] at h1
 have hto : termOk ar t = false := h1
 refine qm (t := 8) rfl (vB h1) (qm (t := 8) rfl (vB h1) (qm (t := 8) rfl (vB h1) (qm (t := 8) rfl (vB h1) (cX (qQ (.bool (false)) (vB h1) rfl (qg (.bool (false)) rfl (qb (qC (qv (L' := L) [.bool (false)] (.bool (false)) (.tmp rfl .nil) rfl rF rF (sD sR) ?_)))))))))
 exact ⟨(vB ((ground_no hto))), rfl, rfl⟩

/- spec.l23Set -/
set_option maxRecDepth 20000 in
theorem l23Set_spec {F : FH} {L : List HP} {fsv : Value} {fs : List Int} (hfs : IntsF F fsv fs) {n : Int} (hlf : fs.length ≤ 4000000) (hn : 0 ≤ n ∧ n ≤ 4000000) :
    Does prog 42 [fsv, ii (n)] F (L) (fun v F' L' => (.bool (setB fs n) : Value) = v ∧ F = F' ∧ L = L') := by
 refine qO func42 rfl rfl rfl (qc (qa (qg (.bool (false)) rfl (qb (qc (qc (qa (qg (ii (0)) rfl (qb (qF (jg (α := Nat) (fun k => [(0, fsv), (1, ii (n)), (5, ii ((k : Int)))]) (fun k => L) (fun k F' => F = F' ∧ (k ≤ fs.length) ∧ (∀ i, i < k → (0 ≤ fs.getD i 0 ∧ fs.getD i 0 < n) ∧ (0 < i → fs.getD ((i : Int) - 1).toNat 0 < fs.getD i 0))) (fun k => fs.length - k) 0 ⟨rfl, rfl, rfl, ⟨⟩⟩ sR ⟨rfl, (by (try dsimp only) <;> omega), (fun i hi => absurd hi (by omega))⟩ ?_)))))))))))
 rintro k rE _ _ ⟨rfl, hk, hall⟩
 show X _ _ _ _ (envs [(0, fsv), (1, ii (n)), (5, ii ((k : Int)))] rE) _ (L)
 refine qc (qc (qa (qd (ii ((k : Int))) rfl (qd (fsv) rfl (cX (qG qf rfl hfs.slv (cX (qV rfl rfl (qb ?_)))))))))
 refine qE (p := (k : Int) < (fs.length : Int)) rfl (fun h1 => ?_) (fun h1 => ?_)
 ·refine qx (qc (qF (qc ?_)))
  by_cases h2 : ¬(0 ≤ (fs.getD k 0) ∧ (fs.getD k 0) ≤ (n - 1))
  ·refine jq [] L 21 [] [[], [], [0, 1], [2], [], [4], [3, 5], [6], [7], [8], [8, 9], [8, 10], [11], [11], [11, 12, 13], [11, 14], [11], [11], [11, 17], [11, 16, 18], [11, 19]] (phiL [qe fsv, qe (ii ((k : Int)) : Value), qe (.pointer (some (elemA fsv (k)))), qe (ii (fs.getD k 0)), qe (ii (n)), qe (ii (n - 1)), qe (.bool (decide (0 ≤ (fs.getD k 0) ∧ (fs.getD k 0) ≤ (n - 1)))), qe (.bool (decide (¬(0 ≤ (fs.getD k 0) ∧ (fs.getD k 0) ≤ (n - 1))))), qe (.bool (decide (¬(0 ≤ (fs.getD k 0) ∧ (fs.getD k 0) ≤ (n - 1))))), qe undef, qe undef, qe undef, qe undef, qe undef, qe undef, qe undef, qe undef, qe undef, qe undef, qe undef, qe undef]) (ownL []) mixed rfl rfl (by kernel_rfl) ?_ ?_
   ·refine pD (fun W R z9 => ?_) ?_
    ·refine qh (qk (fsv) rfl ?_)
     exact ⟨rfl, rfl, rfl⟩
    refine pD (fun W R z9 => ?_) ?_
    ·refine qh (qk (ii ((k : Int))) rfl ?_)
     exact ⟨rfl, rfl, rfl⟩
    refine pD (fun W R z9 => ?_) ?_
    ·rw [zB 0 1 (z9 0 rfl) (z9 1 rfl)]
     refine qh (qy k qf qr rfl rfl rfl hfs.slv (by omega) (Nat.mul_one _) ?_)
     exact ⟨rfl, rfl, rfl⟩
    refine pD (fun W R z9 => ?_) ?_
    ·rw [zA 2 (z9 2 rfl)]
     refine qh (qi qM rfl (hfs.rd (by omega)) ?_)
     exact ⟨rfl, rfl, rfl⟩
    refine pD (fun W R z9 => ?_) ?_
    ·refine qh (qk (ii (n)) rfl ?_)
     exact ⟨rfl, rfl, rfl⟩
    refine pD (fun W R z9 => ?_) ?_
    ·rw [zA 4 (z9 4 rfl)]
     refine qh (js (n - 1) rfl rfl (by omega) (by omega) ?_)
     exact ⟨rfl, rfl, rfl⟩
    refine pD (fun W R z9 => ?_) ?_
    ·rw [zB 3 5 (z9 3 rfl) (z9 5 rfl)]
     refine qh (qq (args := [ii (fs.getD k 0), ii (0), ii (n - 1)]) call34 rfl (l1In_spec (n := fs.getD k 0) (a := 0) (b := n - 1)) ?_)
     rintro _ _ _ _ ⟨rfl, rfl, rfl⟩
     exact ⟨rfl, rfl, rfl⟩
    refine pD (fun W R z9 => ?_) ?_
    ·rw [zA 6 (z9 6 rfl)]
     refine qh (XOp.notD rfl ?_)
     exact ⟨rfl, rfl, rfl⟩
    refine pD (fun W R z9 => ?_) ?_
    ·rw [zA 7 (z9 7 rfl)]
     refine qh (qk (.bool (decide (¬(0 ≤ (fs.getD k 0) ∧ (fs.getD k 0) ≤ (n - 1))))) rfl ?_)
     exact ⟨rfl, rfl, rfl⟩
    refine pD (fun W R z9 => ?_) ?_
    ·rw [zA 8 (z9 8 rfl)]
     exact qW (t := 20) rfl (vT h2) ⟨rfl, rfl, rfl⟩
    refine pD (fun W R z9 => ?_) ?_
    ·rw [eS (l := [(8, _), (9, undef)]) ⟨z9 8 rfl, z9 9 rfl, ⟨⟩⟩]
     exact qW (t := 20) rfl (vT h2) ⟨rfl, rfl, rfl⟩
    refine pD (fun W R z9 => ?_) ?_
    ·rw [eS (l := [(8, _), (10, undef)]) ⟨z9 8 rfl, z9 10 rfl, ⟨⟩⟩]
     exact qW (t := 20) rfl (vT h2) ⟨rfl, rfl, rfl⟩
    refine pD (fun W R z9 => ?_) ?_
    ·rw [eS (l := [(11, undef)]) ⟨z9 11 rfl, ⟨⟩⟩]
     exact XG.noU (t := 23) rfl rfl ⟨rfl, rfl, rfl⟩
    refine pD (fun W R z9 => ?_) ?_
    ·rw [eS (l := [(11, undef)]) ⟨z9 11 rfl, ⟨⟩⟩]
     exact XG.noU (t := 23) rfl rfl ⟨rfl, rfl, rfl⟩
    refine pD (fun W R z9 => ?_) ?_
    ·rw [eS (l := [(11, undef), (12, undef), (13, undef)]) ⟨z9 11 rfl, z9 12 rfl, z9 13 rfl, ⟨⟩⟩]
     exact XG.noU (t := 23) rfl rfl ⟨rfl, rfl, rfl⟩
    refine pD (fun W R z9 => ?_) ?_
    ·rw [eS (l := [(11, undef), (14, undef)]) ⟨z9 11 rfl, z9 14 rfl, ⟨⟩⟩]
     exact XG.noU (t := 23) rfl rfl ⟨rfl, rfl, rfl⟩
    refine pD (fun W R z9 => ?_) ?_
    ·rw [eS (l := [(11, undef)]) ⟨z9 11 rfl, ⟨⟩⟩]
     exact XG.noU (t := 23) rfl rfl ⟨rfl, rfl, rfl⟩
    refine pD (fun W R z9 => ?_) ?_
    ·rw [eS (l := [(11, undef)]) ⟨z9 11 rfl, ⟨⟩⟩]
     exact XG.noU (t := 23) rfl rfl ⟨rfl, rfl, rfl⟩
    refine pD (fun W R z9 => ?_) ?_
    ·rw [eS (l := [(11, undef), (17, undef)]) ⟨z9 11 rfl, z9 17 rfl, ⟨⟩⟩]
     exact XG.noU (t := 23) rfl rfl ⟨rfl, rfl, rfl⟩
    refine pD (fun W R z9 => ?_) ?_
    ·rw [eS (l := [(11, undef), (16, undef), (18, undef)]) ⟨z9 11 rfl, z9 16 rfl, z9 18 rfl, ⟨⟩⟩]
     exact XG.noU (t := 23) rfl rfl ⟨rfl, rfl, rfl⟩
    refine pD (fun W R z9 => ?_) ?_
    ·rw [eS (l := [(11, undef), (19, undef)]) ⟨z9 11 rfl, z9 19 rfl, ⟨⟩⟩]
     exact XG.noU (t := 23) rfl rfl ⟨rfl, rfl, rfl⟩
    exact stepsP.nil
   intro W hphi
   rw [eS (l := [(8, _), (11, undef), (15, undef), (20, undef)]) ⟨(hphi 8 (by decide)), (hphi 11 (by decide)), (hphi 15 (by decide)), (hphi 20 (by decide)), ⟨⟩⟩]
   show XL _ _ _ _ _ _ _ (L)
   refine jE (t := 23) rfl rfl (qm (t := 20) rfl (vT h2) (cX (qL (.bool (true)) (vT h2) rfl (qb (jA rfl (qc (qa (qg (.bool (false)) rfl (qb (qC (qK (qn (qn (qK (qn (qv (L' := L) [.bool (false)] (.bool (false)) (.tmp rfl .nil) rfl rF rF sR ?_))))))))))))))))
   exact ⟨(vB (set_no (k := k) (by omega) (fun h9 => by omega))), rfl, rfl⟩
  by_cases h3 : (k : Int) > 0
  ·refine jq [] L 21 [] [[], [], [0, 1], [2], [], [4], [3, 5], [6], [7], [8], [8, 9], [8, 10], [11], [11], [11, 12, 13], [11, 14], [11], [11], [11, 17], [11, 16, 18], [11, 19]] (phiL [qe fsv, qe (ii ((k : Int)) : Value), qe (.pointer (some (elemA fsv (k)))), qe (ii (fs.getD k 0)), qe (ii (n)), qe (ii (n - 1)), qe (.bool (decide (0 ≤ (fs.getD k 0) ∧ (fs.getD k 0) ≤ (n - 1)))), qe (.bool (decide (¬(0 ≤ (fs.getD k 0) ∧ (fs.getD k 0) ≤ (n - 1))))), qe (.bool (decide (¬(0 ≤ (fs.getD k 0) ∧ (fs.getD k 0) ≤ (n - 1))))), qe (ii ((k : Int)) : Value), qe (.bool (decide ((k : Int) > 0)) : Value), qe (.bool (decide ((k : Int) > 0)) : Value), qe fsv, qe (ii ((k : Int)) : Value), qe (.pointer (some (elemA fsv (k)))), qe (ii (fs.getD k 0)), qe fsv, qe (ii ((k : Int)) : Value), qe (ii (((k : Int)) - 1) : Value), qe (.pointer (some (elemA fsv ((((k : Int)) - 1).toNat))) : Value), qe (ii (fs.getD ((((k : Int)) - 1).toNat) 0) : Value)]) (ownL []) mixed rfl rfl (by kernel_rfl) ?_ ?_
   ·refine pD (fun W R z9 => ?_) ?_
    ·refine qh (qk (fsv) rfl ?_)
     exact ⟨rfl, rfl, rfl⟩
    refine pD (fun W R z9 => ?_) ?_
    ·refine qh (qk (ii ((k : Int))) rfl ?_)
     exact ⟨rfl, rfl, rfl⟩
    refine pD (fun W R z9 => ?_) ?_
    ·rw [zB 0 1 (z9 0 rfl) (z9 1 rfl)]
     refine qh (qy k qf qr rfl rfl rfl hfs.slv (by omega) (Nat.mul_one _) ?_)
     exact ⟨rfl, rfl, rfl⟩
    refine pD (fun W R z9 => ?_) ?_
    ·rw [zA 2 (z9 2 rfl)]
     refine qh (qi qM rfl (hfs.rd (by omega)) ?_)
     exact ⟨rfl, rfl, rfl⟩
    refine pD (fun W R z9 => ?_) ?_
    ·refine qh (qk (ii (n)) rfl ?_)
     exact ⟨rfl, rfl, rfl⟩
    refine pD (fun W R z9 => ?_) ?_
    ·rw [zA 4 (z9 4 rfl)]
     refine qh (js (n - 1) rfl rfl (by omega) (by omega) ?_)
     exact ⟨rfl, rfl, rfl⟩
    refine pD (fun W R z9 => ?_) ?_
    ·rw [zB 3 5 (z9 3 rfl) (z9 5 rfl)]
     refine qh (qq (args := [ii (fs.getD k 0), ii (0), ii (n - 1)]) call34 rfl (l1In_spec (n := fs.getD k 0) (a := 0) (b := n - 1)) ?_)
     rintro _ _ _ _ ⟨rfl, rfl, rfl⟩
     exact ⟨rfl, rfl, rfl⟩
    refine pD (fun W R z9 => ?_) ?_
    ·rw [zA 6 (z9 6 rfl)]
     refine qh (XOp.notD rfl ?_)
     exact ⟨rfl, rfl, rfl⟩
    refine pD (fun W R z9 => ?_) ?_
    ·rw [zA 7 (z9 7 rfl)]
     refine qh (qk (.bool (decide (¬(0 ≤ (fs.getD k 0) ∧ (fs.getD k 0) ≤ (n - 1))))) rfl ?_)
     exact ⟨rfl, rfl, rfl⟩
    refine pD (fun W R z9 => ?_) ?_
    ·rw [zA 8 (z9 8 rfl)]
     refine qH (t := 20) rfl (vF h2) (qk (ii ((k : Int))) rfl ?_)
     exact ⟨rfl, rfl, rfl⟩
    refine pD (fun W R z9 => ?_) ?_
    ·rw [zB 8 9 (z9 8 rfl) (z9 9 rfl)]
     refine qH (t := 20) rfl (vF h2) (jw rfl rfl ?_)
     exact ⟨rfl, rfl, rfl⟩
    refine pD (fun W R z9 => ?_) ?_
    ·rw [zB 8 10 (z9 8 rfl) (z9 10 rfl)]
     refine qH (t := 20) rfl (vF h2) (qk (.bool (decide ((k : Int) > 0))) rfl ?_)
     exact ⟨rfl, rfl, rfl⟩
    refine pD (fun W R z9 => ?_) ?_
    ·rw [zA 11 (z9 11 rfl)]
     refine qH (t := 23) rfl (vT h3) (qk (fsv) rfl ?_)
     exact ⟨rfl, rfl, rfl⟩
    refine pD (fun W R z9 => ?_) ?_
    ·rw [zA 11 (z9 11 rfl)]
     refine qH (t := 23) rfl (vT h3) (qk (ii ((k : Int))) rfl ?_)
     exact ⟨rfl, rfl, rfl⟩
    refine pD (fun W R z9 => ?_) ?_
    ·rw [eS (l := [(11, _), (12, _), (13, _)]) ⟨z9 11 rfl, z9 12 rfl, z9 13 rfl, ⟨⟩⟩]
     refine qH (t := 23) rfl (vT h3) (qy k qf qr rfl rfl rfl hfs.slv (by omega) (Nat.mul_one _) ?_)
     exact ⟨rfl, rfl, rfl⟩
    refine pD (fun W R z9 => ?_) ?_
    ·rw [zB 11 14 (z9 11 rfl) (z9 14 rfl)]
     refine qH (t := 23) rfl (vT h3) (qi qM rfl (hfs.rd (by omega)) ?_)
     exact ⟨rfl, rfl, rfl⟩
    refine pD (fun W R z9 => ?_) ?_
    ·rw [zA 11 (z9 11 rfl)]
     refine qH (t := 23) rfl (vT h3) (qk (fsv) rfl ?_)
     exact ⟨rfl, rfl, rfl⟩
    refine pD (fun W R z9 => ?_) ?_
    ·rw [zA 11 (z9 11 rfl)]
     refine qH (t := 23) rfl (vT h3) (qk (ii ((k : Int))) rfl ?_)
     exact ⟨rfl, rfl, rfl⟩
    refine pD (fun W R z9 => ?_) ?_
    ·rw [zB 11 17 (z9 11 rfl) (z9 17 rfl)]
     refine qH (t := 23) rfl (vT h3) (js (((k : Int)) - 1) rfl rfl (by omega) (by omega) ?_)
     exact ⟨rfl, rfl, rfl⟩
    refine pD (fun W R z9 => ?_) ?_
    ·rw [eS (l := [(11, _), (16, _), (18, _)]) ⟨z9 11 rfl, z9 16 rfl, z9 18 rfl, ⟨⟩⟩]
     refine qH (t := 23) rfl (vT h3) (qy ((((k : Int)) - 1).toNat) qf qr rfl rfl (by omega) hfs.slv (by omega) (Nat.mul_one _) ?_)
     exact ⟨rfl, rfl, rfl⟩
    refine pD (fun W R z9 => ?_) ?_
    ·rw [zB 11 19 (z9 11 rfl) (z9 19 rfl)]
     refine qH (t := 23) rfl (vT h3) (qi qM rfl (hfs.rd (by omega)) ?_)
     exact ⟨rfl, rfl, rfl⟩
    exact stepsP.nil
   intro W hphi
   rw [eS (l := [(8, _), (11, _), (15, _), (20, _)]) ⟨(hphi 8 (by decide)), (hphi 11 (by decide)), (hphi 15 (by decide)), (hphi 20 (by decide)), ⟨⟩⟩]
   show XL _ _ _ _ _ _ _ (L)
   refine qo (t := 23) rfl (vT h3) (XOp.leq rfl rfl (qo (t := 20) rfl (vF h2) (qL (.bool (decide ((fs.getD k 0 : Int) ≤ fs.getD ((((k : Int)) - 1).toNat) 0))) (vT h3) rfl (cX (qQ (.bool (decide ((fs.getD k 0 : Int) ≤ fs.getD ((((k : Int)) - 1).toNat) 0))) (vF h2) rfl (qb ?_))))))
   refine qE (p := (fs.getD k 0 : Int) ≤ fs.getD ((((k : Int)) - 1).toNat) 0) rfl (fun h4 => ?_) (fun h4 => ?_)
   ·refine qc (qa (qg (.bool (false)) rfl (qb (qC (qK (qn (qn (qK (qn (qv (L' := L) [.bool (false)] (.bool (false)) (.tmp rfl .nil) rfl rF rF sR ?_))))))))))
    exact ⟨(vB (set_no (k := k) (by omega) (fun h9 => by omega))), rfl, rfl⟩
   refine qx (qa (qd (ii ((k : Int))) rfl (cX (qD (((k + 1 : Nat) : Int)) rfl rfl (by omega) (by omega) (qg (ii (((k + 1 : Nat) : Int))) rfl (qb ?_))))))
   exact ⟨k + 1, _, FLe.refl _, rF, ⟨rfl, rfl, rfl, ⟨⟩⟩, sR, ⟨rfl, (by (try dsimp only) <;> omega), (fun i hi => (Nat.lt_or_ge i k).elim (fun h => hall i h) (fun h => by obtain rfl : i = k := (by omega); omega))⟩, (by omega)⟩
  refine jq [] L 21 [] [[], [], [0, 1], [2], [], [4], [3, 5], [6], [7], [8], [8, 9], [8, 10], [11], [11], [11, 12, 13], [11, 14], [11], [11], [11, 17], [11, 16, 18], [11, 19]] (phiL [qe fsv, qe (ii ((k : Int)) : Value), qe (.pointer (some (elemA fsv (k)))), qe (ii (fs.getD k 0)), qe (ii (n)), qe (ii (n - 1)), qe (.bool (decide (0 ≤ (fs.getD k 0) ∧ (fs.getD k 0) ≤ (n - 1)))), qe (.bool (decide (¬(0 ≤ (fs.getD k 0) ∧ (fs.getD k 0) ≤ (n - 1))))), qe (.bool (decide (¬(0 ≤ (fs.getD k 0) ∧ (fs.getD k 0) ≤ (n - 1))))), qe (ii ((k : Int)) : Value), qe (.bool (decide ((k : Int) > 0)) : Value), qe (.bool (decide ((k : Int) > 0)) : Value), qe undef, qe undef, qe undef, qe undef, qe undef, qe undef, qe undef, qe undef, qe undef]) (ownL []) mixed rfl rfl (by kernel_rfl) ?_ ?_
  ·refine pD (fun W R z9 => ?_) ?_
   ·refine qh (qk (fsv) rfl ?_)
    exact ⟨rfl, rfl, rfl⟩
   refine pD (fun W R z9 => ?_) ?_
   ·refine qh (qk (ii ((k : Int))) rfl ?_)
    exact ⟨rfl, rfl, rfl⟩
   refine pD (fun W R z9 => ?_) ?_
   ·rw [zB 0 1 (z9 0 rfl) (z9 1 rfl)]
    refine qh (qy k qf qr rfl rfl rfl hfs.slv (by omega) (Nat.mul_one _) ?_)
    exact ⟨rfl, rfl, rfl⟩
   refine pD (fun W R z9 => ?_) ?_
   ·rw [zA 2 (z9 2 rfl)]
    refine qh (qi qM rfl (hfs.rd (by omega)) ?_)
    exact ⟨rfl, rfl, rfl⟩
   refine pD (fun W R z9 => ?_) ?_
   ·refine qh (qk (ii (n)) rfl ?_)
    exact ⟨rfl, rfl, rfl⟩
   refine pD (fun W R z9 => ?_) ?_
   ·rw [zA 4 (z9 4 rfl)]
    refine qh (js (n - 1) rfl rfl (by omega) (by omega) ?_)
    exact ⟨rfl, rfl, rfl⟩
   refine pD (fun W R z9 => ?_) ?_
   ·rw [zB 3 5 (z9 3 rfl) (z9 5 rfl)]
    refine qh (qq (args := [ii (fs.getD k 0), ii (0), ii (n - 1)]) call34 rfl (l1In_spec (n := fs.getD k 0) (a := 0) (b := n - 1)) ?_)
    rintro _ _ _ _ ⟨rfl, rfl, rfl⟩
    exact ⟨rfl, rfl, rfl⟩
   refine pD (fun W R z9 => ?_) ?_
   ·rw [zA 6 (z9 6 rfl)]
    refine qh (XOp.notD rfl ?_)
    exact ⟨rfl, rfl, rfl⟩
   refine pD (fun W R z9 => ?_) ?_
   ·rw [zA 7 (z9 7 rfl)]
    refine qh (qk (.bool (decide (¬(0 ≤ (fs.getD k 0) ∧ (fs.getD k 0) ≤ (n - 1))))) rfl ?_)
    exact ⟨rfl, rfl, rfl⟩
   refine pD (fun W R z9 => ?_) ?_
   ·rw [zA 8 (z9 8 rfl)]
    refine qH (t := 20) rfl (vF h2) (qk (ii ((k : Int))) rfl ?_)
    exact ⟨rfl, rfl, rfl⟩
   refine pD (fun W R z9 => ?_) ?_
   ·rw [zB 8 9 (z9 8 rfl) (z9 9 rfl)]
    refine qH (t := 20) rfl (vF h2) (jw rfl rfl ?_)
    exact ⟨rfl, rfl, rfl⟩
   refine pD (fun W R z9 => ?_) ?_
   ·rw [zB 8 10 (z9 8 rfl) (z9 10 rfl)]
    refine qH (t := 20) rfl (vF h2) (qk (.bool (decide ((k : Int) > 0))) rfl ?_)
    exact ⟨rfl, rfl, rfl⟩
   refine pD (fun W R z9 => ?_) ?_
   ·rw [zA 11 (z9 11 rfl)]
    exact qW (t := 23) rfl (vF h3) ⟨rfl, rfl, rfl⟩
   refine pD (fun W R z9 => ?_) ?_
   ·rw [zA 11 (z9 11 rfl)]
    exact qW (t := 23) rfl (vF h3) ⟨rfl, rfl, rfl⟩
   refine pD (fun W R z9 => ?_) ?_
   ·rw [eS (l := [(11, _), (12, undef), (13, undef)]) ⟨z9 11 rfl, z9 12 rfl, z9 13 rfl, ⟨⟩⟩]
    exact qW (t := 23) rfl (vF h3) ⟨rfl, rfl, rfl⟩
   refine pD (fun W R z9 => ?_) ?_
   ·rw [eS (l := [(11, _), (14, undef)]) ⟨z9 11 rfl, z9 14 rfl, ⟨⟩⟩]
    exact qW (t := 23) rfl (vF h3) ⟨rfl, rfl, rfl⟩
   refine pD (fun W R z9 => ?_) ?_
   ·rw [zA 11 (z9 11 rfl)]
    exact qW (t := 23) rfl (vF h3) ⟨rfl, rfl, rfl⟩
   refine pD (fun W R z9 => ?_) ?_
   ·rw [zA 11 (z9 11 rfl)]
    exact qW (t := 23) rfl (vF h3) ⟨rfl, rfl, rfl⟩
   refine pD (fun W R z9 => ?_) ?_
   ·rw [eS (l := [(11, _), (17, undef)]) ⟨z9 11 rfl, z9 17 rfl, ⟨⟩⟩]
    exact qW (t := 23) rfl (vF h3) ⟨rfl, rfl, rfl⟩
   refine pD (fun W R z9 => ?_) ?_
   ·rw [eS (l := [(11, _), (16, undef), (18, undef)]) ⟨z9 11 rfl, z9 16 rfl, z9 18 rfl, ⟨⟩⟩]
    exact qW (t := 23) rfl (vF h3) ⟨rfl, rfl, rfl⟩
   refine pD (fun W R z9 => ?_) ?_
   ·rw [eS (l := [(11, _), (19, undef)]) ⟨z9 11 rfl, z9 19 rfl, ⟨⟩⟩]
    exact qW (t := 23) rfl (vF h3) ⟨rfl, rfl, rfl⟩
   exact stepsP.nil
  intro W hphi
  rw [eS (l := [(8, _), (11, _), (15, undef), (20, undef)]) ⟨(hphi 8 (by decide)), (hphi 11 (by decide)), (hphi 15 (by decide)), (hphi 20 (by decide)), ⟨⟩⟩]
  show XL _ _ _ _ _ _ _ (L)
  refine qm (t := 23) rfl (vF h3) (qo (t := 20) rfl (vF h2) (qQ (.bool (false)) (vF h3) rfl (cX (qQ (.bool (false)) (vF h2) rfl (qb (jG rfl (qx (qa (qd (ii ((k : Int))) rfl (cX (qD (((k + 1 : Nat) : Int)) rfl rfl (by omega) (by omega) (qg (ii (((k + 1 : Nat) : Int))) rfl (qb ?_)))))))))))))
  exact ⟨k + 1, _, FLe.refl _, rF, ⟨rfl, rfl, rfl, ⟨⟩⟩, sR, ⟨rfl, (by (try dsimp only) <;> omega), (fun i hi => (Nat.lt_or_ge i k).elim (fun h => hall i h) (fun h => by obtain rfl : i = k := (by omega); omega))⟩, (by omega)⟩
 refine jd (qp (qp (qJ (qc (qa (qg (.bool (true)) rfl (qb (qC (qv (L' := L) [.bool (true)] (.bool (true)) (.tmp rfl .nil) rfl rF rF sR ?_)))))))))
 exact ⟨(vB (set_iff.2 (fun i hi => hall i (by omega)))), rfl, rfl⟩

/- slices.Grow[[]int64,int64] -/
theorem GrowAny_spec {F : FH} {L : List HP}  {n : Nat} (hn : n ≤ 400000000) :
    Does prog 94 [sN, ii ((n : Int))] F (L) (fun v F' L' => F = F' ∧ IsSl v ∧ intsH 2 v ([]) :: L = L') := by
 refine qO func94 rfl rfl rfl (qc (qa (qg (sN) rfl (qb (qc (qc (qa (qd (ii ((n : Int))) rfl (cX (qV rfl rfl (qb ?_)))))))))))
 refine qE (p := (n : Int) < 0) rfl (fun h1 => ?_) (fun h1 => ?_)
 ·omega
 refine qx (qc (qc (qa (qd (ii ((n : Int))) rfl (qd (sN) rfl (cX (XOp.capNil qf rfl (qd (sN) rfl (cX (qG qf rfl SlV.nil (cX (js (0 - (((0 : Nat) : Int))) rfl rfl (by omega) (by omega) (cX (js (((n : Int)) - (0 - (((0 : Nat) : Int)))) rfl rfl (by omega) (by omega) (qg (ii (((n : Int)) - (0 - (((0 : Nat) : Int))))) rfl (qb (qc (qa ?_))))))))))))))))))
 refine qd (ii (((n : Int)) - (0 - (((0 : Nat) : Int))))) rfl (cX (jw rfl rfl (qb ?_)))
 refine qE (p := (((n : Int)) - (0 - (((0 : Nat) : Int))) : Int) > 0) rfl (fun h2 => ?_) (fun h2 => ?_)
 ·refine qa (qd (sN) rfl (qd (sN) rfl (cX (XOp.capNil qf rfl (cX (XOp.sliceNil qf qr rfl ⟨_, rfl⟩ (qd (ii (((n : Int)) - (0 - (((0 : Nat) : Int))))) rfl (cX (XOp.appendZ (s := 1) (bytes := 8) (n := (((n : Int)) - (0 - (((0 : Nat) : Int)))).toNat) [ii (0)] qf runUnderlying3 typeInfo2 rfl rfl rfl rfl rfl (by decide) rfl (by rw [show (((((n : Int)) - (0 - (((0 : Nat) : Int)))).toNat : Nat) : Int) = ((n : Int)) - (0 - (((0 : Nat) : Int))) from by omega]; rfl) (by omega) (by omega) (by omega) ?_)))))))))
  intro v1 hv1
  have hv2 : IsSl v1 := by obtain ⟨b0, c0, h0⟩ := hv1; exact ⟨_, _, _, h0⟩
  rw [intsH_zeros]
  refine qd (sN) rfl (cX (qG qf rfl SlV.nil (cX (XOp.sliceOwn (cs := List.map (Value.int .i64) ((List.replicate ((((n : Int)) - (0 - (((0 : Nat) : Int)))).toNat) 0))) [] _ 0 qf qr rfl rfl ⟨_, rfl⟩ (Nat.zero_le _) ?_))))
  intro v2 hs1
  show XL _ _ _ _ _ _ _ (intsH 2 v2 ([]) :: L)
  refine qg (v2) rfl (qb (qc (qa (qd (v2) rfl (qg (v2) rfl (qb (qC (qv (L' := intsH 2 v2 ([]) :: L) [v2] (v2) (.tmp rfl .nil) rfl rF rF (sC sR) ?_))))))))
  refine ⟨rfl, hs1, ?_⟩
  have hxs : ([] : List Int) = [] := rfl
  exact congrArg (fun z => intsH 2 _ z :: L) hxs
 refine qx (qc (qa (qd (sN) rfl (qg (sN) rfl (qb (qC (qv (L' := intsH 2 (sN) ([]) :: L) [sN] (sN) (.tmp rfl .nil) rfl rF rF (jj (intsH.addNil 2 none _) (sC sR)) ?_)))))))
 refine ⟨rfl, ⟨_, _, _, rfl⟩, ?_⟩
 have hxs : ([] : List Int) = [] := rfl
 exact congrArg (fun z => intsH 2 _ z :: L) hxs

/- slices.Concat[[]int64,int64] -/
theorem ConcatAny_spec {F : FH} {L : List HP} {xsv : Value} {xs : List (List Int)} (hxs : RowsF F xsv xs) (hn : xs.length ≤ 10) (hb : ∀ i, i < xs.length → (xs.getD i []).length ≤ 40000000) :
    Does prog 81 [xsv] F (L) (fun v F' L' => F = F' ∧ IsSl v ∧ intsH 2 v xs.flatten :: L = L') := by
 refine qO func81 rfl rfl rfl (qc (qa (qg (sN) rfl (qb (qc (qa (qg (ii (0)) rfl (qb (qc (qc (qa (qd (xsv) rfl (cX (qG qz rfl hxs.slv (qd (ii (0)) rfl (qb (qF ?_)))))))))))))))))
 refine jg (α := Nat × Nat) (fun xQ => [(0, xsv), (3, ii (((xQ.2 : Nat) : Int))), (9, xsv), (10, ii ((xs.length : Int))), (11, ii (((xQ.1 : Nat) : Int)))]) (fun xQ => L) (fun xQ F' => F = F' ∧ (xQ.1 ≤ xs.length) ∧ (xQ.2 = (xs.take xQ.1).flatten.length) ∧ (xQ.2 ≤ xQ.1 * 40000000)) (fun xQ => xs.length - xQ.1) (0, 0) ⟨rfl, rfl, rfl, rfl, rfl, ⟨⟩⟩ sR ⟨rfl, (by (try dsimp only) <;> omega), (rfl), (by (try dsimp only) <;> omega)⟩ ?_
 rintro ⟨k, z⟩ rE _ _ ⟨rfl, hk, hz, hz2⟩
 show X _ _ _ _ (envs [(0, xsv), (3, ii ((z : Int))), (9, xsv), (10, ii ((xs.length : Int))), (11, ii ((k : Int)))] rE) _ (L)
 dsimp only at hk hz hz2
 have hbk := hb k
 have hft := fun h => congrArg List.length (flatten_take (xs := xs) (k := k) h)
 simp only [List.length_append] at hft
 refine qc (qa (cX (qV rfl rfl (qb (qc ?_)))))
 refine qE (p := (k : Int) < (xs.length : Int)) rfl (fun h1 => ?_) (fun h1 => ?_)
 ·refine qx (qc (qF (qc (qa (cX (qy k qz qw rfl rfl rfl hxs.slv (by omega) (Nat.mul_one _) ?_))))))
  obtain ⟨a1, ha1, hr1⟩ := hxs.rd (i := k) (by omega)
  refine cX (qi qT rfl (hr1 _) (qg (a1) rfl (qb (qc (qa (qd (ii ((z : Int))) rfl (qd (a1) rfl (cX (qG qf rfl ha1.slv (cX (qD (((z + (((xs.getD k [])).length) : Nat) : Int)) rfl rfl (by omega) (by omega) (qg (ii (((z + (((xs.getD k [])).length) : Nat) : Int))) rfl (qb (qc (qa (qd (ii (((z + (((xs.getD k [])).length) : Nat) : Int))) rfl ?_))))))))))))))))
  refine cX (qV rfl rfl (qb ?_))
  refine qE (p := (((z + (((xs.getD k [])).length) : Nat) : Int) : Int) < 0) rfl (fun h2 => ?_) (fun h2 => ?_)
  ·omega
  refine qx (qa (cX (qD (((k + 1 : Nat) : Int)) rfl rfl (by omega) (by omega) (qd (ii (((k + 1 : Nat) : Int))) rfl (qb ?_)))))
  exact ⟨(k + 1, z + (((xs.getD k [])).length)), _, FLe.refl _, rF, ⟨rfl, rfl, rfl, rfl, rfl, ⟨⟩⟩, sR, ⟨rfl, (by (try dsimp only) <;> omega), (by (try dsimp only) <;> omega), (by (try dsimp only) <;> omega)⟩, (by omega)⟩
 refine jd (qp (qp (qJ (qc (qa (qd (ii ((z : Int))) rfl (cX (qq (args := [sN, ii (z : Int)]) call94 rfl (GrowAny_spec (n := z) (hn := (by omega))) ?_))))))))
 rintro v1 _ _ _ ⟨rfl, hs1, rfl⟩
 refine qg (v1) rfl (qb (qc (qc (qa (qd (xsv) rfl (cX (qG qz rfl hxs.slv (qd (ii (0)) rfl (qb (qF (jg (α := Nat × Value × List Int) (fun xQ => [(6, xQ.2.1), (25, xsv), (26, ii ((xs.length : Int))), (27, ii (((xQ.1 : Nat) : Int)))]) (fun xQ => intsH 2 xQ.2.1 xQ.2.2 :: L) (fun xQ F' => F = F' ∧ (IsSl xQ.2.1) ∧ (xQ.1 ≤ xs.length) ∧ (xQ.2.2 = (xs.take xQ.1).flatten)) (fun xQ => xs.length - xQ.1) (0, v1, ([])) ⟨rfl, rfl, rfl, rfl, ⟨⟩⟩ (sC sR) ⟨rfl, (hs1), (by (try dsimp only) <;> omega), (rfl)⟩ ?_)))))))))))
 rintro ⟨k, ov, os⟩ rE _ _ ⟨rfl, hov, hk, hos⟩
 show X _ _ _ _ (envs [(6, ov), (25, xsv), (26, ii ((xs.length : Int))), (27, ii ((k : Int)))] rE) _ (intsH 2 ov os :: L)
 dsimp only at hov hk hos
 have hbk := hb k
 have hol : os.length ≤ k * 40000000 := by rw [hos]; exact flatten_bound hb k (by omega)
 refine qc (qa (cX (qV rfl rfl (qb (qc ?_)))))
 refine qE (p := (k : Int) < (xs.length : Int)) rfl (fun h3 => ?_) (fun h3 => ?_)
 ·refine qx (qc (qF (qc (qa (cX (qy k qz qw rfl rfl rfl hxs.slv (by omega) (Nat.mul_one _) ?_))))))
  obtain ⟨a2, ha2, hr2⟩ := hxs.rd (i := k) (by omega)
  refine cX (qi qT rfl (hr2 _) (qg (a2) rfl (qb (qa (qd (ov) rfl (qd (a2) rfl (cX (XOp.appendI [] _ qf typeInfo2 rfl rfl rfl rfl rfl rfl ha2 (by (try simp only [List.length_append, List.length_nil, List.length_cons, List.length_singleton, List.length_take, List.length_drop]); omega) ?_))))))))
  intro v2 hs2 hn1 hm1
  refine qg (v2) rfl (qb (qa (cX (qD (((k + 1 : Nat) : Int)) rfl rfl (by omega) (by omega) (qd (ii (((k + 1 : Nat) : Int))) rfl (qb ?_))))))
  exact ⟨(k + 1, v2, os ++ ((xs.getD k []))), _, FLe.refl _, rF, ⟨rfl, rfl, rfl, rfl, ⟨⟩⟩, (sC sR), ⟨rfl, (hs2), (by (try dsimp only) <;> omega), ((by dsimp only; rw [hos, flatten_take (by omega)]))⟩, (by omega)⟩
 refine jd (qp (qp (qJ (qc (qa (qd (ov) rfl (qg (ov) rfl (qb (qC (qv (L' := intsH 2 ov os :: L) [ov] (ov) (.tmp rfl .nil) rfl rF rF (sC sR) ?_))))))))))
 refine ⟨rfl, hov, ?_⟩
 have hxs : (xs.flatten : List Int) = os := by rw [hos, List.take_of_length_le (by omega)]
 exact congrArg (fun z => intsH 2 _ z :: L) hxs

/- cmp.isNaN[int64] -/
theorem isNaN_spec {F : FH} {L : List HP} {x : Int} :
    Does prog 82 [ii (x)] F (L) (fun v F' L' => (.bool (false) : Value) = v ∧ F = F' ∧ L = L') := by
 refine qO func82 rfl rfl rfl (qc (qa (qg (.bool (false)) rfl (qb (qc (qa (qd (ii (x)) rfl (qd (ii (x)) rfl (cX (XOp.neq rfl rfl (qg (.bool (decide ((x : Int) ≠ x))) rfl (qb (qC (qv (L' := L) [.bool (decide ((x : Int) ≠ x))] (.bool (decide ((x : Int) ≠ x))) (.tmp rfl .nil) rfl rF rF sR ?_))))))))))))))
 exact ⟨(vB ((decide_eq_false (by omega)).symm)), rfl, rfl⟩

/- cmp.Compare[int64] -/
theorem cmpCompare_spec {F : FH} {L : List HP} {x : Int} {y : Int} :
    Does prog 64 [ii (x), ii (y)] F (L) (fun v F' L' => (ii (if x < y then -1 else if x = y then 0 else 1) : Value) = v ∧ F = F' ∧ L = L') := by
 refine qO func64 rfl rfl rfl (qc (qa (qg (ii (0)) rfl (qb (qc (qa (qd (ii (x)) rfl (cX (qq (args := [ii (x)]) call82 rfl (isNaN_spec (x := x)) ?_)))))))))
 rintro _ _ _ _ ⟨rfl, rfl, rfl⟩
 refine qg (.bool (false)) rfl (qb (qc (qa (qd (ii (y)) rfl (cX (qq (args := [ii (y)]) call82 rfl (isNaN_spec (x := y)) ?_))))))
 rintro _ _ _ _ ⟨rfl, rfl, rfl⟩
 refine qg (.bool (false)) rfl (qb (qc (qc (qa (qd (.bool (false)) rfl (qb (jG rfl (qx (qc (qc (qa (qd (.bool (false)) rfl (qb (jG rfl (qx (qc (qc (qa ?_))))))))))))))))))
 refine qd (ii (x)) rfl (qd (ii (y)) rfl (cX (qV rfl rfl (qb ?_))))
 refine qE (p := (x : Int) < y) rfl (fun h1 => ?_) (fun h1 => ?_)
 ·refine qc (qa (qg (ii (-1)) rfl (qb (qC (qn (qv (L' := L) [ii (-1)] (ii (-1)) (.tmp rfl .nil) rfl rF rF sR ?_))))))
  exact ⟨(vI (by first | rw [if_pos (by omega)] | rw [if_neg (by omega), if_pos (by omega)] | rw [if_neg (by omega), if_neg (by omega)])), rfl, rfl⟩
 refine qx (qc (qc (qa (qd (ii (x)) rfl (qd (ii (y)) rfl (cX (jw rfl rfl (qb ?_))))))))
 refine qE (p := (x : Int) > y) rfl (fun h2 => ?_) (fun h2 => ?_)
 ·refine qc (qa (qg (ii (1)) rfl (qb (qC (qn (qv (L' := L) [ii (1)] (ii (1)) (.tmp rfl .nil) rfl rF rF sR ?_))))))
  exact ⟨(vI (by first | rw [if_pos (by omega)] | rw [if_neg (by omega), if_pos (by omega)] | rw [if_neg (by omega), if_neg (by omega)])), rfl, rfl⟩
 refine qx (qc (qa (qg (ii (0)) rfl (qb (qC (qv (L' := L) [ii (0)] (ii (0)) (.tmp rfl .nil) rfl rF rF sR ?_))))))
 exact ⟨(vI (by first | rw [if_pos (by omega)] | rw [if_neg (by omega), if_pos (by omega)] | rw [if_neg (by omega), if_neg (by omega)])), rfl, rfl⟩

/- impl.compareInts -/
theorem compareInts_spec {F : FH} {L : List HP} {x : Int} {y : Int} :
    Does prog 80 [ii (x), ii (y)] F (L) (fun v F' L' => (ii (if x < y then -1 else if x = y then 0 else 1) : Value) = v ∧ F = F' ∧ L = L') := by
 refine qO func80 rfl rfl rfl (qc (qa (qg (ii (0)) rfl (qb (qc (qF (qc (qa (qd (ii (x)) rfl (qd (ii (y)) rfl (cX (qV rfl rfl (qg (.bool (decide ((x : Int) < y))) rfl (qb ?_))))))))))))))
 refine qE (p := (x : Int) < y) rfl (fun h1 => ?_) (fun h1 => ?_)
 ·refine qc (qa (qg (ii (-1)) rfl (qb (qC (qK (qn (qv (L' := L) [ii (-1)] (ii (-1)) (.tmp rfl .nil) rfl rF rF sR ?_)))))))
  exact ⟨(vI (by first | rw [if_pos (by omega)] | rw [if_neg (by omega), if_pos (by omega)] | rw [if_neg (by omega), if_neg (by omega)])), rfl, rfl⟩
 refine qc (qa (qd (ii (x)) rfl (qd (ii (y)) rfl (cX (jw rfl rfl (qg (.bool (decide ((x : Int) > y))) rfl (qb ?_)))))))
 refine qE (p := (x : Int) > y) rfl (fun h2 => ?_) (fun h2 => ?_)
 ·refine qc (qa (qg (ii (1)) rfl (qb (qC (qK (qn (qv (L' := L) [ii (1)] (ii (1)) (.tmp rfl .nil) rfl rF rF sR ?_)))))))
  exact ⟨(vI (by first | rw [if_pos (by omega)] | rw [if_neg (by omega), if_pos (by omega)] | rw [if_neg (by omega), if_neg (by omega)])), rfl, rfl⟩
 refine qx (qc (qa (qg (ii (0)) rfl (qb (qC (qv (L' := L) [ii (0)] (ii (0)) (.tmp rfl .nil) rfl rF rF sR ?_))))))
 exact ⟨(vI (by first | rw [if_pos (by omega)] | rw [if_neg (by omega), if_pos (by omega)] | rw [if_neg (by omega), if_neg (by omega)])), rfl, rfl⟩

/- slices.Compare[[]int64,int64] -/
theorem Compare_spec {F : FH} {L : List HP} {xsv : Value} {xs : List Int} (hxs : IntsF F xsv xs) {ysv : Value} {ys : List Int} (hys : IntsF F ysv ys) (hlx : xs.length ≤ 4000000) (hly : ys.length ≤ 4000000) :
    Does prog 28 [xsv, ysv] F (L) (fun v F' L' => F = F' ∧ ∃ (c : Int), (ii (c) : Value) = v ∧ (CmpI xs ys c) ∧ L = L') := by
 refine qO func28 rfl rfl rfl (qc (qa (qg (ii (0)) rfl (qb (qc (qc (qa (qd (xsv) rfl (cX (qG qf rfl hxs.slv (qd (ii (0)) rfl (qb (qF (jg (α := Nat) (fun k => [(0, xsv), (1, ysv), (9, xsv), (10, ii ((xs.length : Int))), (11, ii ((k : Int)))]) (fun k => L) (fun k F' => F = F' ∧ (k ≤ xs.length) ∧ (k ≤ ys.length) ∧ (∀ i, i < k → xs.getD i 0 = ys.getD i 0)) (fun k => xs.length - k) 0 ⟨rfl, rfl, rfl, rfl, rfl, ⟨⟩⟩ sR ⟨rfl, (by (try dsimp only) <;> omega), (by (try dsimp only) <;> omega), (fun i hi => absurd hi (by omega))⟩ ?_))))))))))))))
 rintro k rE _ _ ⟨rfl, hk, hk2, hpr⟩
 show X _ _ _ _ (envs [(0, xsv), (1, ysv), (9, xsv), (10, ii ((xs.length : Int))), (11, ii ((k : Int)))] rE) _ (L)
 refine qc (qa (cX (qV rfl rfl (qb (qc ?_)))))
 refine qE (p := (k : Int) < (xs.length : Int)) rfl (fun h1 => ?_) (fun h1 => ?_)
 ·refine qx (qc (qF (qc (qa (qd (ii ((k : Int))) rfl (cX (qy k qf qr rfl rfl rfl hxs.slv (by omega) (Nat.mul_one _) (cX (qi qM rfl (hxs.rd (by omega)) (qg (ii ((k : Int))) rfl (qg (ii (xs.getD k 0)) rfl (qb (qc (qc (qa (qd (ii ((k : Int))) rfl (qd (ysv) rfl (cX (qG qf rfl hys.slv ?_)))))))))))))))))))
  refine cX (XOp.geq rfl rfl (qb ?_))
  refine qE (p := (k : Int) ≥ (ys.length : Int)) rfl (fun h2 => ?_) (fun h2 => ?_)
  ·refine qc (qa (qg (ii (1)) rfl (qb (qC (qn (qK (qn (qn (qK (qn (qv (L' := L) [ii (1)] (ii (1)) (.tmp rfl .nil) rfl rF rF sR ?_)))))))))))
   exact ⟨rfl, _, rfl, CmpI.more (ltL_pre (by omega) (fun i hi => (hpr i (by omega)).symm)), rfl⟩
  refine qx (qc (qa (qd (ysv) rfl (qd (ii ((k : Int))) rfl (cX (qy k qf qr rfl rfl rfl hys.slv (by omega) (Nat.mul_one _) (cX (qi qM rfl (hys.rd (by omega)) (qg (ii (ys.getD k 0)) rfl (qb (qc (qa (qd (ii (xs.getD k 0)) rfl (qd (ii (ys.getD k 0)) rfl (cX (qq (args := [ii (xs.getD k 0), ii (ys.getD k 0)]) call64 rfl (cmpCompare_spec (x := xs.getD k 0) (y := ys.getD k 0)) ?_))))))))))))))))
  rintro _ _ _ _ ⟨rfl, rfl, rfl⟩
  refine qg (ii (if (xs.getD k 0) < (ys.getD k 0) then -1 else if (xs.getD k 0) = (ys.getD k 0) then 0 else 1)) rfl (qb (qc (qa (qd (ii (if (xs.getD k 0) < (ys.getD k 0) then -1 else if (xs.getD k 0) = (ys.getD k 0) then 0 else 1)) rfl (cX (XOp.neq rfl rfl (qb ?_)))))))
  refine qE (p := (if (xs.getD k 0) < (ys.getD k 0) then -1 else if (xs.getD k 0) = (ys.getD k 0) then 0 else 1 : Int) ≠ 0) rfl (fun h3 => ?_) (fun h3 => ?_)
  ·have hne : xs.getD k 0 ≠ ys.getD k 0 := fun e => by rw [e, if_neg (by omega), if_pos rfl] at h3; exact h3 rfl
   refine qc (qa (qd (ii (if (xs.getD k 0) < (ys.getD k 0) then -1 else if (xs.getD k 0) = (ys.getD k 0) then 0 else 1)) rfl (qg (ii (if (xs.getD k 0) < (ys.getD k 0) then -1 else if (xs.getD k 0) = (ys.getD k 0) then 0 else 1)) rfl (qb (qC (qK (qn (qn (qK (qn (qv (L' := L) [ii (if (xs.getD k 0) < (ys.getD k 0) then -1 else if (xs.getD k 0) = (ys.getD k 0) then 0 else 1)] (ii (if (xs.getD k 0) < (ys.getD k 0) then -1 else if (xs.getD k 0) = (ys.getD k 0) then 0 else 1)) (.tmp rfl .nil) rfl rF rF sR ?_)))))))))))
   exact ⟨rfl, _, rfl, CmpI.at (k := k) (by omega) (by omega) hpr hne (by rw [if_neg hne]), rfl⟩
  have heq : xs.getD k 0 = ys.getD k 0 := by have h9 := Classical.not_not.1 h3; split at h9 <;> first | omega | (split at h9 <;> omega)
  refine qx (qa (cX (qD (((k + 1 : Nat) : Int)) rfl rfl (by omega) (by omega) (qd (ii (((k + 1 : Nat) : Int))) rfl (qb ?_)))))
  exact ⟨k + 1, _, FLe.refl _, rF, ⟨rfl, rfl, rfl, rfl, rfl, ⟨⟩⟩, sR, ⟨rfl, (by (try dsimp only) <;> omega), (by (try dsimp only) <;> omega), (fun i hi => (Nat.lt_or_ge i k).elim (fun h => hpr i h) (fun h => by obtain rfl : i = k := (by omega); exact heq))⟩, (by omega)⟩
 refine jd (qp (qp (qJ (qc (qc (qa (qd (xsv) rfl (cX (qG qf rfl hxs.slv (qd (ysv) rfl (cX (qG qf rfl hys.slv (cX (qV rfl rfl (qb ?_)))))))))))))))
 refine qE (p := ((xs.length : Int) : Int) < (ys.length : Int)) rfl (fun h4 => ?_) (fun h4 => ?_)
 ·refine qc (qa (qg (ii (-1)) rfl (qb (qC (qn (qv (L' := L) [ii (-1)] (ii (-1)) (.tmp rfl .nil) rfl rF rF sR ?_))))))
  exact ⟨rfl, _, rfl, CmpI.less (ltL_pre (by omega) (fun i hi => hpr i (by omega))), rfl⟩
 refine qx (qc (qa (qg (ii (0)) rfl (qb (qC (qv (L' := L) [ii (0)] (ii (0)) (.tmp rfl .nil) rfl rF rF sR ?_))))))
 exact ⟨rfl, _, rfl, CmpI.same (eq_of_getD (by omega) (fun i hi => hpr i (by omega))), rfl⟩

/- spec.LessTerm -/
set_option maxRecDepth 20000 in
theorem LessTerm_spec {F : FH} {L : List HP} {tv : Value} {t : List Int} (ht : IntsF F tv t) {uv : Value} {u : List Int} (hu : IntsF F uv u) (hlt : t.length ≤ 4000000) (hlu : u.length ≤ 4000000) :
    Does prog 15 [tv, uv] F (L) (fun v F' L' => (.bool (lessB t u) : Value) = v ∧ F = F' ∧ L = L') := by
 refine qO func15 rfl rfl rfl (qc (qa (qg (.bool (false)) rfl (qb (qc (qc (qa (qd (tv) rfl (cX (qG qf rfl ht.slv (qd (uv) rfl (cX (qG qf rfl hu.slv (cX (XOp.neq rfl rfl (qb ?_))))))))))))))))
 refine qE (p := ((t.length : Int) : Int) ≠ (u.length : Int)) rfl (fun h1 => ?_) (fun h1 => ?_)
 ·have hln : t.length ≠ u.length := by omega
  refine qc (qa (qd (tv) rfl (cX (qG qf rfl ht.slv (qd (uv) rfl (cX (qG qf rfl hu.slv (cX (qV rfl rfl (qg (.bool (decide (((t.length : Int) : Int) < (u.length : Int)))) rfl (qb (qC (qn (qv (L' := L) [.bool (decide (((t.length : Int) : Int) < (u.length : Int)))] (.bool (decide (((t.length : Int) : Int) < (u.length : Int)))) (.tmp rfl .nil) rfl rF rF sR ?_))))))))))))))
  exact ⟨(vB (by first | exact less_len hln | exact (less_len hln).symm | exact less_at (k := k) hln (by omega) hpr hne | exact (less_at (k := k) hln (by omega) hpr hne).symm | exact less_same hln (fun i hi => hpr i (by omega)) | exact (less_same hln (fun i hi => hpr i (by omega))).symm)), rfl, rfl⟩
 have hln : t.length = u.length := by omega
 refine qx (qc (qc (qa (qg (ii (0)) rfl (qb (qF (jg (α := Nat) (fun k => [(0, tv), (1, uv), (5, ii ((k : Int)))]) (fun k => L) (fun k F' => F = F' ∧ (k ≤ t.length) ∧ (∀ i, i < k → t.getD i 0 = u.getD i 0)) (fun k => t.length - k) 0 ⟨rfl, rfl, rfl, ⟨⟩⟩ sR ⟨rfl, (by (try dsimp only) <;> omega), (fun i hi => absurd hi (by omega))⟩ ?_)))))))
 rintro k rE _ _ ⟨rfl, hk, hpr⟩
 show X _ _ _ _ (envs [(0, tv), (1, uv), (5, ii ((k : Int)))] rE) _ (L)
 refine qc (qc (qa (qd (ii ((k : Int))) rfl (qd (tv) rfl (cX (qG qf rfl ht.slv (cX (qV rfl rfl (qb ?_)))))))))
 refine qE (p := (k : Int) < (t.length : Int)) rfl (fun h2 => ?_) (fun h2 => ?_)
 ·refine qx (qc (qF (qc ?_)))
  refine jq [] L 8 [] [[], [], [0, 1], [2], [], [], [4, 5], [6]] (phiL [qe tv, qe (ii ((k : Int)) : Value), qe (.pointer (some (elemA tv (k)))), qe (ii (t.getD k 0)), qe uv, qe (ii ((k : Int)) : Value), qe (.pointer (some (elemA uv (k)))), qe (ii (u.getD k 0))]) (ownL []) mixed rfl rfl (by kernel_rfl) ?_ ?_
  ·refine pD (fun W R z9 => ?_) ?_
   ·refine qh (qk (tv) rfl ?_)
    exact ⟨rfl, rfl, rfl⟩
   refine pD (fun W R z9 => ?_) ?_
   ·refine qh (qk (ii ((k : Int))) rfl ?_)
    exact ⟨rfl, rfl, rfl⟩
   refine pD (fun W R z9 => ?_) ?_
   ·rw [zB 0 1 (z9 0 rfl) (z9 1 rfl)]
    refine qh (qy k qf qr rfl rfl rfl ht.slv (by omega) (Nat.mul_one _) ?_)
    exact ⟨rfl, rfl, rfl⟩
   refine pD (fun W R z9 => ?_) ?_
   ·rw [zA 2 (z9 2 rfl)]
    refine qh (qi qM rfl (ht.rd (by omega)) ?_)
    exact ⟨rfl, rfl, rfl⟩
   refine pD (fun W R z9 => ?_) ?_
   ·refine qh (qk (uv) rfl ?_)
    exact ⟨rfl, rfl, rfl⟩
   refine pD (fun W R z9 => ?_) ?_
   ·refine qh (qk (ii ((k : Int))) rfl ?_)
    exact ⟨rfl, rfl, rfl⟩
   refine pD (fun W R z9 => ?_) ?_
   ·rw [zB 4 5 (z9 4 rfl) (z9 5 rfl)]
    refine qh (qy k qf qr rfl rfl rfl hu.slv (by omega) (Nat.mul_one _) ?_)
    exact ⟨rfl, rfl, rfl⟩
   refine pD (fun W R z9 => ?_) ?_
   ·rw [zA 6 (z9 6 rfl)]
    refine qh (qi qM rfl (hu.rd (by omega)) ?_)
    exact ⟨rfl, rfl, rfl⟩
   exact stepsP.nil
  intro W hphi
  rw [zB 3 7 (hphi 3 (by decide)) (hphi 7 (by decide))]
  show XL _ _ _ _ _ _ _ (L)
  refine cX (XOp.neq rfl rfl (qb ?_))
  refine qE (p := (t.getD k 0 : Int) ≠ u.getD k 0) rfl (fun h3 => ?_) (fun h3 => ?_)
  ·have hne : t.getD k 0 ≠ u.getD k 0 := h3
   refine qc ?_
   refine jq [] L 8 [] [[], [], [0, 1], [2], [], [], [4, 5], [6]] (phiL [qe tv, qe (ii ((k : Int)) : Value), qe (.pointer (some (elemA tv (k)))), qe (ii (t.getD k 0)), qe uv, qe (ii ((k : Int)) : Value), qe (.pointer (some (elemA uv (k)))), qe (ii (u.getD k 0))]) (ownL []) mixed rfl rfl (by kernel_rfl) ?_ ?_
   ·refine pD (fun W R z9 => ?_) ?_
    ·refine qh (qk (tv) rfl ?_)
     exact ⟨rfl, rfl, rfl⟩
    refine pD (fun W R z9 => ?_) ?_
    ·refine qh (qk (ii ((k : Int))) rfl ?_)
     exact ⟨rfl, rfl, rfl⟩
    refine pD (fun W R z9 => ?_) ?_
    ·rw [zB 0 1 (z9 0 rfl) (z9 1 rfl)]
     refine qh (qy k qf qr rfl rfl rfl ht.slv (by omega) (Nat.mul_one _) ?_)
     exact ⟨rfl, rfl, rfl⟩
    refine pD (fun W R z9 => ?_) ?_
    ·rw [zA 2 (z9 2 rfl)]
     refine qh (qi qM rfl (ht.rd (by omega)) ?_)
     exact ⟨rfl, rfl, rfl⟩
    refine pD (fun W R z9 => ?_) ?_
    ·refine qh (qk (uv) rfl ?_)
     exact ⟨rfl, rfl, rfl⟩
    refine pD (fun W R z9 => ?_) ?_
    ·refine qh (qk (ii ((k : Int))) rfl ?_)
     exact ⟨rfl, rfl, rfl⟩
    refine pD (fun W R z9 => ?_) ?_
    ·rw [zB 4 5 (z9 4 rfl) (z9 5 rfl)]
     refine qh (qy k qf qr rfl rfl rfl hu.slv (by omega) (Nat.mul_one _) ?_)
     exact ⟨rfl, rfl, rfl⟩
    refine pD (fun W R z9 => ?_) ?_
    ·rw [zA 6 (z9 6 rfl)]
     refine qh (qi qM rfl (hu.rd (by omega)) ?_)
     exact ⟨rfl, rfl, rfl⟩
    exact stepsP.nil
   intro W hphi
   rw [zB 3 7 (hphi 3 (by decide)) (hphi 7 (by decide))]
   show XL _ _ _ _ _ _ _ (L)
   refine cX (qV rfl rfl (qg (.bool (decide ((t.getD k 0 : Int) < u.getD k 0))) rfl (qb (qC (qK (qn (qn (qK (qn (qv (L' := L) [.bool (decide ((t.getD k 0 : Int) < u.getD k 0))] (.bool (decide ((t.getD k 0 : Int) < u.getD k 0))) (.tmp rfl .nil) rfl rF rF sR ?_))))))))))
   exact ⟨(vB (by first | exact less_len hln | exact (less_len hln).symm | exact less_at (k := k) hln (by omega) hpr hne | exact (less_at (k := k) hln (by omega) hpr hne).symm | exact less_same hln (fun i hi => hpr i (by omega)) | exact (less_same hln (fun i hi => hpr i (by omega))).symm)), rfl, rfl⟩
  have heq : t.getD k 0 = u.getD k 0 := Classical.not_not.1 h3
  refine qx (qa (qd (ii ((k : Int))) rfl (cX (qD (((k + 1 : Nat) : Int)) rfl rfl (by omega) (by omega) (qg (ii (((k + 1 : Nat) : Int))) rfl (qb ?_))))))
  exact ⟨k + 1, _, FLe.refl _, rF, ⟨rfl, rfl, rfl, ⟨⟩⟩, sR, ⟨rfl, (by (try dsimp only) <;> omega), (fun i hi => (Nat.lt_or_ge i k).elim (fun h => hpr i h) (fun h => by obtain rfl : i = k := (by omega); exact heq))⟩, (by omega)⟩
 refine jd (qp (qp (qJ (qc (qa (qg (.bool (false)) rfl (qb (qC (qv (L' := L) [.bool (false)] (.bool (false)) (.tmp rfl .nil) rfl rF rF sR ?_)))))))))
 exact ⟨(vB (by first | exact less_len hln | exact (less_len hln).symm | exact less_at (k := k) hln (by omega) hpr hne | exact (less_at (k := k) hln (by omega) hpr hne).symm | exact less_same hln (fun i hi => hpr i (by omega)) | exact (less_same hln (fun i hi => hpr i (by omega))).symm)), rfl, rfl⟩

/- (impl.Auto).statesOk$1 -/
theorem statesOk1_spec {F : FH} {L : List HP} {q : Int} {n : Int} {rsv : Value} {rs : List TranT} (hrs : TransF F rsv rs) {fiv : Value} {fi : List Int} (hfi : IntsF F fiv fi) {b : Nat} (hzb : FzC F b [ii (n), rsv, fiv]) :
    Does prog 78 [ii (q), ptr b 0] F (L) (fun v F' L' => (.bool (!(decide (0 ≤ q ∧ q < n))) : Value) = v ∧ F = F' ∧ L = L') := by
 refine qO func78 rfl rfl rfl (qc (qa (qg (.bool (false)) rfl (qb (qc (qa (qd (ii (q)) rfl (cX (qV rfl rfl (qd (.bool (decide ((q : Int) < 0))) rfl ?_))))))))))
 by_cases h1 : (q : Int) < 0
 ·refine qm (t := 6) rfl (vT h1) (qm (t := 6) rfl (vT h1) (qm (t := 6) rfl (vT h1) (qm (t := 6) rfl (vT h1) (cX (qL (.bool (true)) (vT h1) rfl (qg (.bool (true)) rfl (qb (qC (qv (L' := L) [.bool (true)] (.bool (true)) (.tmp rfl .nil) rfl rF rF sR ?_)))))))))
  exact ⟨(vB (by first | (rw [decide_eq_false (by omega)]; rfl) | (rw [Bool.eq_iff_iff]; simp only [Bool.not_eq_true', decide_eq_false_iff_not, decide_eq_true_eq]; omega))), rfl, rfl⟩
 refine qo (t := 6) rfl (vF h1) (qk (ii (q)) rfl (qo (t := 6) rfl (vF h1) (ql (0) qA rfl qr (by decide) rfl rfl (qo (t := 6) rfl (vF h1) (qi qM rfl (FzC.rd1 hzb rfl) (qo (t := 6) rfl (vF h1) (XOp.geq rfl rfl (cX (qQ (.bool (decide ((q : Int) ≥ n))) (vF h1) rfl (qg (.bool (decide ((q : Int) ≥ n))) rfl (qb (qC (qv (L' := L) [.bool (decide ((q : Int) ≥ n))] (.bool (decide ((q : Int) ≥ n))) (.tmp rfl .nil) rfl rF rF sR ?_)))))))))))))
 exact ⟨(vB (by first | (rw [decide_eq_false (by omega)]; rfl) | (rw [Bool.eq_iff_iff]; simp only [Bool.not_eq_true', decide_eq_false_iff_not, decide_eq_true_eq]; omega))), rfl, rfl⟩

/- slices.IndexFunc[[]int64,int64] -/
theorem IndexFuncQ_spec {F : FH} {L : List HP} {tv : Value} {t : List Int} (ht : IntsF F tv t) {n : Int} {rsv : Value} {rs : List TranT} (hrs : TransF F rsv rs) {fiv : Value} {fi : List Int} (hfi : IntsF F fiv fi) {b : Nat} (hzb : FzC F b [ii (n), rsv, fiv]) (hlt : t.length ≤ 4000000) :
    Does prog 93 [tv, .func (.func 78) #[] #[ptr b 0]] F (L) (fun v F' L' => (ii (badG (fun q => decide (0 ≤ q ∧ q < n)) t) : Value) = v ∧ F = F' ∧ L = L') := by
 refine qO func93 rfl rfl rfl (qc (qa (qg (ii (0)) rfl (qb (qc (qc (qa (qd (tv) rfl (cX (qG qf rfl ht.slv (qd (ii (0)) rfl (qb (qF (jg (α := Nat) (fun k => [(0, tv), (1, .func (.func 78) #[] #[ptr b 0]), (7, ii ((t.length : Int))), (8, ii ((k : Int)))]) (fun k => L) (fun k F' => F = F' ∧ (k ≤ t.length) ∧ (∀ i, i < k → (fun q => decide (0 ≤ q ∧ q < n)) (t.getD i 0) = true)) (fun k => t.length - k) 0 ⟨rfl, rfl, rfl, rfl, ⟨⟩⟩ sR ⟨rfl, (by (try dsimp only) <;> omega), (fun i hi => absurd hi (by omega))⟩ ?_))))))))))))))
 rintro k rE _ _ ⟨rfl, hk, hall⟩
 show X _ _ _ _ (envs [(0, tv), (1, .func (.func 78) #[] #[ptr b 0]), (7, ii ((t.length : Int))), (8, ii ((k : Int)))] rE) _ (L)
 refine qc (qa (cX (qV rfl rfl (qb (qc ?_)))))
 refine qE (p := (k : Int) < (t.length : Int)) rfl (fun h1 => ?_) (fun h1 => ?_)
 ·refine qx (qc (qF (qc (qa (qd (ii ((k : Int))) rfl (qg (ii ((k : Int))) rfl (qb (qc (qa (qd (.func (.func 78) #[] #[ptr b 0]) rfl (qd (tv) rfl (qd (ii ((k : Int))) rfl (cX (qy k qf qr rfl rfl rfl ht.slv (by omega) (Nat.mul_one _) (cX (qi qM rfl (ht.rd (by omega)) (cX (XOp.callV (first := []) (captured := [ptr b 0]) (args := [ii (t.getD k 0), ptr b 0]) call78 rfl rfl (statesOk1_spec (q := t.getD k 0) hrs hfi hzb) ?_))))))))))))))))))
  rintro _ _ _ _ ⟨rfl, rfl, rfl⟩
  refine qb ?_
  refine jr (t := !(decide (0 ≤ (t.getD k 0) ∧ (t.getD k 0) < n))) rfl (fun h2 => ?_) (fun h2 => ?_)
  ·have hq9 : (fun q => decide (0 ≤ q ∧ q < n)) (t.getD k 0) = false := Bool.not_inj (y := false) h2
   refine qc (qa (qd (ii ((k : Int))) rfl (qg (ii ((k : Int))) rfl (qb (qC (qK (qn (qn (qK (qn (qv (L' := L) [ii ((k : Int))] (ii ((k : Int))) (.tmp rfl .nil) rfl rF rF sR ?_)))))))))))
   exact ⟨(vI (badG_at 0 (by omega) hq9 hall)), rfl, rfl⟩
  have hq9 : (fun q => decide (0 ≤ q ∧ q < n)) (t.getD k 0) = true := Bool.not_inj (y := true) h2
  refine qx (qa (cX (qD (((k + 1 : Nat) : Int)) rfl rfl (by omega) (by omega) (qd (ii (((k + 1 : Nat) : Int))) rfl (qb ?_)))))
  exact ⟨k + 1, _, FLe.refl _, rF, ⟨rfl, rfl, rfl, rfl, ⟨⟩⟩, sR, ⟨rfl, (by (try dsimp only) <;> omega), (fun i hi => (Nat.lt_or_ge i k).elim (fun h => hall i h) (fun h => by obtain rfl : i = k := (by omega); exact hq9))⟩, (by omega)⟩
 refine jd (qp (qp (qJ (qc (qa (qg (ii (-1)) rfl (qb (qC (qv (L' := L) [ii (-1)] (ii (-1)) (.tmp rfl .nil) rfl rF rF sR ?_)))))))))
 exact ⟨(vI (badG_none 0 (fun i hi => hall i (by omega)))), rfl, rfl⟩

/- slices.ContainsFunc[[]int64,int64] -/
theorem ContainsFuncQ_spec {F : FH} {L : List HP} {tv : Value} {t : List Int} (ht : IntsF F tv t) {n : Int} {rsv : Value} {rs : List TranT} (hrs : TransF F rsv rs) {fiv : Value} {fi : List Int} (hfi : IntsF F fiv fi) {b : Nat} (hzb : FzC F b [ii (n), rsv, fiv]) (hlt : t.length ≤ 4000000) :
    Does prog 77 [tv, .func (.func 78) #[] #[ptr b 0]] F (L) (fun v F' L' => (.bool (!(statesB n t)) : Value) = v ∧ F = F' ∧ L = L') := by
 refine qO func77 rfl rfl rfl (qc (qa (qg (.bool (false)) rfl (qb (qc (qa (qd (tv) rfl (qd (.func (.func 78) #[] #[ptr b 0]) rfl (cX (qq (args := [tv, .func (.func 78) #[] #[ptr b 0]]) call93 rfl (IndexFuncQ_spec ht hrs hfi hzb (hlt := (by first | assumption | rfl | omega | simp))) ?_))))))))))
 rintro _ _ _ _ ⟨rfl, rfl, rfl⟩
 refine cX (XOp.geq rfl rfl (qg (.bool (decide ((badG (fun q => decide (0 ≤ q ∧ q < n)) t : Int) ≥ 0))) rfl (qb (qC (qv (L' := L) [.bool (decide ((badG (fun q => decide (0 ≤ q ∧ q < n)) t : Int) ≥ 0))] (.bool (decide ((badG (fun q => decide (0 ≤ q ∧ q < n)) t : Int) ≥ 0))) (.tmp rfl .nil) rfl rF rF sR ?_)))))
 exact ⟨(vB (by have hb := badG_iff (q := (fun q => decide (0 ≤ q ∧ q < n))) (l := t); unfold statesB; cases hA : t.all (fun q => decide (0 ≤ q ∧ q < n)) <;> simp_all <;> omega)), rfl, rfl⟩

/- (impl.Auto).statesOk -/
theorem statesOk_spec {F : FH} {L : List HP} {n : Int} {rsv : Value} {rs : List TranT} (hrs : TransF F rsv rs) {fiv : Value} {fi : List Int} (hfi : IntsF F fiv fi) {lv : Value} {l : List Int} (hl : IntsF F lv l) (hlt : l.length ≤ 4000000) :
    Does prog 58 [.agg #[ii (n), rsv, fiv], lv] F (L) (fun v F' L' => (.bool (statesB n l) : Value) = v ∧ F = F' ∧ L = L') := by
 refine qO func58 rfl rfl rfl (qc (qa (cX (ji [ii (n), rsv, fiv] rfl rfl ?_))))
 intro b1
 refine qg (.bool (false)) rfl (qb (qc (qa (qd (lv) rfl (cX (XOp.makeFuncL [] [ptr b1 0] rfl rfl (XL.freeze [] _ _ rfl (fun F1 le1 hz1 => ?_))))))))
 replace hrs := hrs.mono le1
 replace hfi := hfi.mono le1
 replace hl := hl.mono le1
 have hf1 : FzC F1 b1 [ii (n), rsv, fiv] := Fz.cells hz1
 refine cX (qq (args := [lv, .func (.func 78) #[] #[ptr b1 0]]) call77 rfl (ContainsFuncQ_spec hl hrs hfi hf1 (hlt := (by first | assumption | rfl | omega | simp))) ?_)
 rintro _ _ _ _ ⟨rfl, rfl, rfl⟩
 refine cX (jx rfl (qg (.bool (!(!(statesB n l)))) rfl (qb (qC (qv (L' := L) [.bool (!(!(statesB n l)))] (.bool (!(!(statesB n l)))) (.tmp rfl .nil) rfl rF le1 sR ?_)))))
 exact ⟨(vB (by simp)), rfl, rfl⟩

/- impl.compareTrans -/
theorem compareTrans_spec {F : FH} {L : List HP} {ra : Int} {rbv : Value} {rb : List Int} (hrb : IntsF F rbv rb) {rc : Int} {sa : Int} {sbv : Value} {sb : List Int} (hsb : IntsF F sbv sb) {sc : Int} (hlx : rb.length ≤ 4000000) (hly : sb.length ≤ 4000000) :
    Does prog 61 [.agg #[ii (ra), rbv, ii (rc)], .agg #[ii (sa), sbv, ii (sc)]] F (L) (fun v F' L' => F = F' ∧ ∃ (c : Int), (ii (c) : Value) = v ∧ (c = 0 ↔ ((ra, rb, rc) : TranT) = ((sa, sb, sc) : TranT)) ∧ L = L') := by
 refine qO func61 rfl rfl rfl (qc (qa (cX (ji [ii (ra), rbv, ii (rc)] rfl rfl ?_))))
 intro b1
 refine cX (ji [ii (sa), sbv, ii (sc)] rfl rfl ?_)
 intro b2
 refine qg (ii (0)) rfl (qb (qc (qc (qa (cX (ql (0) qB rfl qr (by decide) rfl rfl (cX (qi qM rfl (Rd.own [_] rfl rfl) (cX (ql (0) qB rfl qr (by decide) rfl rfl (cX (qi qM rfl (Rd.own [] rfl rfl) (cX (XOp.neq rfl rfl (qb ?_)))))))))))))))
 refine qE (p := (ra : Int) ≠ sa) rfl (fun h1 => ?_) (fun h1 => ?_)
 ·refine qc (qa (cX (ql (0) qB rfl qr (by decide) rfl rfl (cX (qi qM rfl (Rd.own [_] rfl rfl) (cX (ql (0) qB rfl qr (by decide) rfl rfl (cX (qi qM rfl (Rd.own [] rfl rfl) (cX (qq (args := [ii (ra), ii (sa)]) call80 rfl (compareInts_spec (x := ra) (y := sa)) ?_)))))))))))
  rintro _ _ _ _ ⟨rfl, rfl, rfl⟩
  refine qg (ii (if ra < sa then -1 else if ra = sa then 0 else 1)) rfl (qb (qC (qn (qv (L' := L) [ii (if ra < sa then -1 else if ra = sa then 0 else 1)] (ii (if ra < sa then -1 else if ra = sa then 0 else 1)) (.tmp rfl .nil) rfl rF rF (sD (sD sR)) ?_))))
  exact ⟨rfl, _, rfl, by simp only [Prod.mk.injEq]; first | (split <;> first | omega | (split <;> omega)) | (have h9 := hr1.1; constructor <;> intro h8 <;> simp_all <;> omega), rfl⟩
 refine qx (qc (qc (qa (cX (ql (1) qB rfl qw (by decide) rfl rfl (cX (qi qT rfl (Rd.own [_] rfl rfl) (cX (ql (1) qB rfl qw (by decide) rfl rfl (cX (qi qT rfl (Rd.own [] rfl rfl) (cX (qq (args := [rbv, sbv]) call28 rfl (Compare_spec hrb hsb (hlx := (by first | assumption | rfl | omega | simp)) (hly := (by first | assumption | rfl | omega | simp))) ?_)))))))))))))
 rintro _ _ _ _ ⟨rfl, x1, rfl, hr1, rfl⟩
 refine qg (ii (x1)) rfl (qb (qc (qa (qd (ii (x1)) rfl (cX (XOp.neq rfl rfl (qb ?_)))))))
 refine qE (p := (x1 : Int) ≠ 0) rfl (fun h2 => ?_) (fun h2 => ?_)
 ·refine qc (qa (qd (ii (x1)) rfl (qg (ii (x1)) rfl (qb (qC (qn (qv (L' := L) [ii (x1)] (ii (x1)) (.tmp rfl .nil) rfl rF rF (sD (sD sR)) ?_)))))))
  exact ⟨rfl, _, rfl, by simp only [Prod.mk.injEq]; first | (split <;> first | omega | (split <;> omega)) | (have h9 := hr1.1; constructor <;> intro h8 <;> simp_all <;> omega), rfl⟩
 refine qx (qc (qa (cX (ql (2) qB rfl qr (by decide) rfl rfl (cX (qi qM rfl (Rd.own [_] rfl rfl) (cX (ql (2) qB rfl qr (by decide) rfl rfl (cX (qi qM rfl (Rd.own [] rfl rfl) (cX (qq (args := [ii (rc), ii (sc)]) call80 rfl (compareInts_spec (x := rc) (y := sc)) ?_))))))))))))
 rintro _ _ _ _ ⟨rfl, rfl, rfl⟩
 refine qg (ii (if rc < sc then -1 else if rc = sc then 0 else 1)) rfl (qb (qC (qv (L' := L) [ii (if rc < sc then -1 else if rc = sc then 0 else 1)] (ii (if rc < sc then -1 else if rc = sc then 0 else 1)) (.tmp rfl .nil) rfl rF rF (sD (sD sR)) ?_)))
 exact ⟨rfl, _, rfl, by simp only [Prod.mk.injEq]; first | (split <;> first | omega | (split <;> omega)) | (have h9 := hr1.1; constructor <;> intro h8 <;> simp_all <;> omega), rfl⟩
end Go.Proofs.Ytgdcboopbmpdoaa
