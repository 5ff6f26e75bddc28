/-
  Walks, one after the other (part 1).
-/
import Derived.Test.YtcdjpapjjoldeaaQRL2
import Derived.Test.YtcdjpapjjoldeaaProg
import Derived.KernelRfl
set_option linter.unusedSimpArgs false
set_option linter.unusedVariables false
namespace Go.Proofs.Ytcdjpapjjoldeaa
open Go X M Try
theorem qH : type_of% @X.region := @X.region
theorem qI : type_of% @XL.nil := @XL.nil
theorem qU : type_of% @runUnderlying27 := @runUnderlying27
theorem qX : type_of% @X.seq := @X.seq
theorem jb : type_of% @XL.mv := @XL.mv
theorem jc : type_of% @XL.as := @XL.as
theorem je : type_of% @XG.op := @XG.op
theorem jj : type_of% @XOp.load1 := @XOp.load1
theorem jk : type_of% @XOp.move := @XOp.move
theorem jl : type_of% @FLe.trans := @FLe.trans
theorem jq : type_of% @XOp.indexS := @XOp.indexS
theorem js : type_of% @sizeOf2 := @sizeOf2
theorem jw : type_of% @thenQ_ret := @thenQ_ret
theorem jA : type_of% @XL.no := @XL.no
theorem jB : type_of% @XL.yes := @XL.yes
theorem jE : type_of% @XOp.fieldP := @XOp.fieldP
theorem jF : type_of% @sizeOf27 := @sizeOf27
theorem jL : type_of% @XOp.call := @XOp.call
theorem jO : type_of% @thenQ_exit := @thenQ_exit
theorem jQ : type_of% @XOp.buildSlice := @XOp.buildSlice
theorem jR : type_of% @retEnd := @retEnd
theorem jT : type_of% @ones_cons := @ones_cons
theorem jU : type_of% @X.skip := @X.skip
theorem jV : type_of% @X.condD := @X.condD
theorem jW : type_of% @X.ret := @X.ret
theorem jX : type_of% @runUnderlying34 := @runUnderlying34
theorem jZ : type_of% @XOp.lenS := @XOp.lenS
theorem ya : type_of% @blockQ_ret := @blockQ_ret
theorem yc : type_of% @XOp.loadN := @XOp.loadN
theorem yd : type_of% @isAgg2 := @isAgg2
theorem ye : type_of% @Sub.front := @Sub.front
theorem yf : type_of% @X.block := @X.block
theorem yg : type_of% @runUnderlying76 := @runUnderlying76
theorem yh : type_of% @XG.yes := @XG.yes
theorem yi : type_of% @IntsF.isSl := @IntsF.isSl
theorem yj : type_of% @XOp.addR := @XOp.addR
theorem yk : type_of% @blockQ_exit := @blockQ_exit
theorem yl : type_of% @XOp.pickF := @XOp.pickF
theorem ym : type_of% @Does.of_X := @Does.of_X
theorem yn : type_of% @Sub.trans := @Sub.trans
theorem yo : type_of% @XOp.lss := @XOp.lss
theorem yp : type_of% @XOp.pickT := @XOp.pickT
theorem yq : type_of% @runUnderlying32 := @runUnderlying32
theorem yr : type_of% @XOp.extract := @XOp.extract
theorem ys : type_of% @sizeOf29 := @sizeOf29
theorem yt : type_of% @isAgg27 := @isAgg27
theorem yu : type_of% @runUnderlying72 := @runUnderlying72
theorem yv : type_of% @zeroValue2 := @zeroValue2
theorem yw : type_of% @XOp.nilCheck := @XOp.nilCheck
theorem yx : type_of% @XOp.subR := @XOp.subR
theorem yy : type_of% @runUnderlying30 := @runUnderlying30
theorem yz : type_of% @X.freezeF := @X.freezeF
theorem yA : type_of% @XG.no := @XG.no
theorem yB : type_of% @X.exit := @X.exit
theorem yC : type_of% @sizeOf76 := @sizeOf76
theorem yD : type_of% @XOp.box := @XOp.box
theorem yE : type_of% @one_sl := @one_sl
theorem yF : type_of% @isAgg29 := @isAgg29
theorem yG : type_of% @runUnderlying64 := @runUnderlying64
theorem yH : type_of% @isSl_lit := @isSl_lit
theorem yI : type_of% @X.loop := @X.loop
theorem yJ : type_of% @XOp.build := @XOp.build
theorem yK : type_of% @XL.weaken := @XL.weaken
theorem yL : type_of% @XOp.storeN := @XOp.storeN
theorem yM : type_of% @ones_nil := @ones_nil
theorem yN : type_of% @X.draw := @X.draw
theorem yO : type_of% @runUnderlying50 := @runUnderlying50
theorem yP : type_of% @sizeOf32 := @sizeOf32
theorem yQ : type_of% @XIL.cons := @XIL.cons
theorem yR : type_of% @XOp.notB := @XOp.notB
theorem yS : type_of% @sizeOf72 := @sizeOf72
theorem yT : type_of% @sizeOf34 := @sizeOf34
theorem yU : type_of% @XOp.eql := @XOp.eql
theorem yV : type_of% @X.condF := @X.condF
theorem yW : type_of% @zeroValue72 := @zeroValue72
theorem yX : type_of% @X.condT := @X.condT
theorem yY : type_of% @isAgg32 := @isAgg32
theorem yZ : type_of% @sizeOf30 := @sizeOf30
theorem Qa : type_of% @runUnderlying200 := @runUnderlying200
theorem Qb : type_of% @XOp.store1 := @XOp.store1
theorem Qc : type_of% @zeroValue76 := @zeroValue76
theorem Qd : type_of% @XL.freezeF := @XL.freezeF
theorem Qe : type_of% @XOp.alloc := @XOp.alloc
theorem Qf : type_of% @XOp.gtr := @XOp.gtr
theorem Qg : type_of% @runUnderlying196 := @runUnderlying196
theorem Qh : type_of% @XOp.fieldE := @XOp.fieldE
theorem Qi : type_of% @XOp.append1 := @XOp.append1
theorem Qj : type_of% @isAgg30 := @isAgg30
theorem Qk : type_of% @XOp.appendI := @XOp.appendI
theorem Ql : type_of% @runUnderlying29 := @runUnderlying29
theorem Qm : type_of% @sizeOf3 := @sizeOf3
theorem Qn : type_of% @zeroValue27 := @zeroValue27
theorem Qo : type_of% @XOp.frzF := @XOp.frzF
theorem Qp : type_of% @XOp.sliceI := @XOp.sliceI
theorem Qq : type_of% @runUnderlying88 := @runUnderlying88
theorem Qr : type_of% @runUnderlying128 := @runUnderlying128
theorem Qs : type_of% @runUnderlying198 := @runUnderlying198
theorem Qt : type_of% @runUnderlying230 := @runUnderlying230
theorem Qu : type_of% @runUnderlying234 := @runUnderlying234
theorem Qv : type_of% @isAgg34 := @isAgg34
theorem Qw : type_of% @XOp.notD := @XOp.notD
theorem Qx : type_of% @sizeOf50 := @sizeOf50
theorem Qy : type_of% @isAgg76 := @isAgg76

theorem mixed : prog.follows .mixedOrders = true := by kernel_rfl

/- impl.arityAt -/
theorem arityAt_spec {F : FH} {L : List HP} {arv : Value} {ar : List Int} (har : IntsF F arv ar) {n : Int} (hn : n < (ar.length : Int)) :
    Does prog 243 [.agg #[arv], ii (n)] F (L) (fun v F' L' => (ii (arity ar n) : Value) = v ∧ F = F' ∧ L = L') := by
 refine ym func243 rfl rfl rfl (qX (qH (cX (yD [arv] rfl rfl ?_))))
 intro b1
 refine jc (ii (0)) rfl (qI (qX (qX (qH (jb (ii (n)) rfl (cX (yo rfl rfl (qI ?_))))))))
 refine jV (p := (n : Int) < 0) rfl (fun h1 => ?_) (fun h1 => ?_)
 ·refine qX (qH (jc (ii (0)) rfl (qI (jW (jw (jR (L' := L) [ii (0)] (ii (0)) (.tmp rfl .nil) rfl rF rF (sD sR) ?_))))))
  exact ⟨(vI (by simp [arity, *])), rfl, rfl⟩
 refine jU (qX (qH (cX (jE (0) Ql rfl jF (by decide) rfl rfl (cX (jj yt rfl (Rd.own [] rfl rfl) (jb (ii (n)) rfl (cX (jq ((n).toNat) qU js rfl rfl (by omega) har.slv (by omega) (Nat.mul_one _) (cX (jj yd rfl (har.rd (by omega)) (jc (ii (ar.getD ((n).toNat) 0)) rfl (qI (jW (jR (L' := L) [ii (ar.getD ((n).toNat) 0)] (ii (ar.getD ((n).toNat) 0)) (.tmp rfl .nil) rfl rF rF (sD sR) ?_)))))))))))))))
 exact ⟨(vI (by simp [arity, *])), rfl, rfl⟩

/- impl.SigOk -/
theorem SigOk_spec {F : FH} {L : List HP} {arv : Value} {ar : List Int} (har : IntsF F arv ar) :
    Does prog 148 [.agg #[arv]] F (L) (fun v F' L' => (.bool (sigOk ar) : Value) = v ∧ F = F' ∧ L = L') := by
 refine ym func148 rfl rfl rfl (qX (qH (cX (yD [arv] rfl rfl ?_))))
 intro b1
 refine jc (.bool (false)) rfl (qI (qX (qX (qH (cX (jE (0) Ql rfl jF (by decide) rfl rfl (cX (jj yt rfl (Rd.own [] rfl rfl) (cX (jZ qU rfl har.slv (cX (yo rfl rfl (jb (.bool (decide (((ar.length : Int) : Int) < 1))) rfl ?_)))))))))))))
 by_cases h1 : ((ar.length : Int) : Int) < 1
 ·refine jA (t := 9) rfl (vT h1) (jA (t := 9) rfl (vT h1) (jA (t := 9) rfl (vT h1) (jA (t := 9) rfl (vT h1) (cX (yp (.bool (true)) (vT h1) rfl (qI (yX rfl (qX (qH (jc (.bool (false)) rfl (qI ?_)))))))))))
  refine jW (jw (jR (L' := L) [.bool (false)] (.bool (false)) (.tmp rfl .nil) rfl rF rF (sD sR) ?_))
  exact ⟨(vB (sigOk_short (by omega))), rfl, rfl⟩
 refine jB (t := 9) rfl (vF h1) (jE (0) Ql rfl jF (by decide) rfl rfl (jB (t := 9) rfl (vF h1) (jj yt rfl (Rd.own [] rfl rfl) (jB (t := 9) rfl (vF h1) (jZ qU rfl har.slv (jB (t := 9) rfl (vF h1) (Qf rfl rfl (cX (yl (.bool (decide (((ar.length : Int) : Int) > 8))) (vF h1) rfl (qI ?_))))))))))
 refine jV (p := ((ar.length : Int) : Int) > 8) rfl (fun h2 => ?_) (fun h2 => ?_)
 ·refine qX (qH (jc (.bool (false)) rfl (qI (jW (jw (jR (L' := L) [.bool (false)] (.bool (false)) (.tmp rfl .nil) rfl rF rF (sD sR) ?_))))))
  exact ⟨(vB (sigOk_short (by omega))), rfl, rfl⟩
 refine jU (qX (qX (qH (cX (jE (0) Ql rfl jF (by decide) rfl rfl (cX (jj yt rfl (Rd.own [] rfl rfl) (cX (jZ qU rfl har.slv (jb (ii (0)) rfl (qI (yf (yI (α := Nat) (fun k => [(16, arv), (17, ii ((ar.length : Int))), (18, ii ((k : Int)))]) (fun k => cellsH b1 [arv] 29 :: L) (fun k F' => F = F' ∧ (k ≤ ar.length) ∧ (∀ i, i < k → 0 ≤ ar.getD i 0 ∧ ar.getD i 0 ≤ 3)) (fun k => ar.length - k) 0 ⟨rfl, rfl, rfl, ⟨⟩⟩ (sC sR) ⟨rfl, (by omega), (fun i hi => absurd hi (by omega))⟩ ?_)))))))))))))
 rintro k rE _ _ ⟨rfl, hk, hall⟩
 show X _ _ _ _ (envs [(16, arv), (17, ii ((ar.length : Int))), (18, ii ((k : Int)))] rE) _ (cellsH b1 [arv] 29 :: L)
 refine qX (qH (cX (yo rfl rfl (qI (qX ?_)))))
 refine jV (p := (k : Int) < (ar.length : Int)) rfl (fun h3 => ?_) (fun h3 => ?_)
 ·refine jU (qX (yf (qX (qH (cX (jq k qU js rfl rfl rfl har.slv (by omega) (Nat.mul_one _) (cX (jj yd rfl (har.rd (by omega)) (jc (ii (ar.getD k 0)) rfl (qI (qX (qH (jb (ii (ar.getD k 0)) rfl (cX (yo rfl rfl (jb (.bool (decide ((ar.getD k 0 : Int) < 0))) rfl ?_))))))))))))))))
  by_cases h4 : (ar.getD k 0 : Int) < 0
  ·refine jA (t := 24) rfl (vT h4) (jA (t := 24) rfl (vT h4) (cX (yp (.bool (true)) (vT h4) rfl (qI (yX rfl (qX (qH (jc (.bool (false)) rfl (qI (jW (ya (jw (jw (ya (jw (jR (L' := L) [.bool (false)] (.bool (false)) (.tmp rfl .nil) rfl rF rF (sD sR) ?_))))))))))))))))
   exact ⟨(vB (sigOk_bad (i := k) (by omega) (by omega))), rfl, rfl⟩
  refine jB (t := 24) rfl (vF h4) (jk (ii (ar.getD k 0)) rfl (jB (t := 24) rfl (vF h4) (Qf rfl rfl (cX (yl (.bool (decide ((ar.getD k 0 : Int) > 3))) (vF h4) rfl (qI ?_))))))
  refine jV (p := (ar.getD k 0 : Int) > 3) rfl (fun h5 => ?_) (fun h5 => ?_)
  ·refine qX (qH (jc (.bool (false)) rfl (qI (jW (ya (jw (jw (ya (jw (jR (L' := L) [.bool (false)] (.bool (false)) (.tmp rfl .nil) rfl rF rF (sD sR) ?_))))))))))
   exact ⟨(vB (sigOk_bad (i := k) (by omega) (by omega))), rfl, rfl⟩
  refine jU (qH (cX (yj (((k + 1 : Nat) : Int)) rfl rfl (by omega) (by omega) (jb (ii (((k + 1 : Nat) : Int))) rfl (qI ?_)))))
  exact ⟨k + 1, _, FLe.refl _, rF, ⟨rfl, rfl, rfl, ⟨⟩⟩, (sC sR), ⟨rfl, (by omega), (fun i hi => (Nat.lt_or_ge i k).elim (fun h => hall i h) (fun h => by obtain rfl : i = k := (by omega); omega))⟩, (by omega)⟩
 refine yB (jO (jO (yk (qX (qH (jc (.bool (true)) rfl (qI (jW (jR (L' := L) [.bool (true)] (.bool (true)) (.tmp rfl .nil) rfl rF rF (sD sR) ?_)))))))))
 exact ⟨(vB (sigOk_of (by omega) (by omega) (fun i hi => hall i (by omega)))), rfl, rfl⟩

/- (*impl.cursor).next -/
theorem next_spec {F : FH} {L : List HP} {c p : Nat} {arv : Value} {ar : List Int} (har : IntsF F arv ar) {tv : Value} {t : List Int} (ht : IntsF F tv t) (hb : t.length ≤ 4000000) :
    Does prog 235 [ptr c 0] F (cellsH c [arv, tv, ii ((p : Int))] 196 :: L) (fun v F' L' => F = F' ∧ ((p < t.length ∧ t.getD p 0 < (ar.length : Int) ∧ (ii (arity ar (t.getD p 0)) : Value) = v ∧ cellsH c [arv, tv, ii ((p + 1 : Nat) : Int)] 196 :: L = L') ∨ (¬ (p < t.length ∧ t.getD p 0 < (ar.length : Int)) ∧ (ii (-1) : Value) = v ∧ cellsH c [arv, tv, ii (p : Int)] 196 :: L = L'))) := by
 refine ym func235 rfl rfl rfl (qX (qH (jc (ii (0)) rfl (qI (qX (qX ?_))))))
 by_cases h1 : (p : Int) ≥ (t.length : Int)
 ·refine yN [cellsH c [arv, tv, ii ((p : Int))] 196] L 27 [] [[], [0], [1], [2], [], [4], [5], [6], [7], [3, 8], [9], [10], [10, 11], [10, 12], [10, 13], [10], [10, 15], [10, 16], [10, 17], [10, 14, 18], [10, 19], [10], [10, 21], [10, 22], [10, 23], [10, 24], [10, 25]] (phiL [qe (ptr c 0), qe (ptr c 0), qe (ptr c 2), qe (ii ((p : Int)) : Value), qe (ptr c 0), qe (ptr c 0), qe (ptr c 1), qe tv, qe (ii ((t.length : Int)) : Value), qe (.bool (decide ((p : Int) ≥ (t.length : Int))) : Value), qe (.bool (decide ((p : Int) ≥ (t.length : Int))) : Value), qe undef, qe undef, qe undef, qe undef, qe undef, qe undef, qe undef, qe undef, qe undef, qe undef, qe undef, qe undef, qe undef, qe undef, qe undef, qe undef]) (ownL []) mixed rfl rfl (by kernel_rfl) ?_ ?_
  ·refine pD (fun W R z9 => ?_) ?_
   ·refine je (jk (ptr c 0) rfl ?_)
    exact ⟨rfl, rfl, rfl⟩
   refine pD (fun W R z9 => ?_) ?_
   ·rw [eS (l := [(0, _)]) ⟨z9 0 rfl, ⟨⟩⟩]
    refine je (yw rfl ?_)
    exact ⟨rfl, rfl, rfl⟩
   refine pD (fun W R z9 => ?_) ?_
   ·rw [eS (l := [(1, _)]) ⟨z9 1 rfl, ⟨⟩⟩]
    refine je (jE (2) Qg rfl Qm (by decide) rfl rfl ?_)
    exact ⟨rfl, rfl, rfl⟩
   refine pD (fun W R z9 => ?_) ?_
   ·rw [eS (l := [(2, _)]) ⟨z9 2 rfl, ⟨⟩⟩]
    refine je (jj isAgg3 rfl (Rd.own [] rfl rfl) ?_)
    exact ⟨rfl, rfl, rfl⟩
   refine pD (fun W R z9 => ?_) ?_
   ·refine je (jk (ptr c 0) rfl ?_)
    exact ⟨rfl, rfl, rfl⟩
   refine pD (fun W R z9 => ?_) ?_
   ·rw [eS (l := [(4, _)]) ⟨z9 4 rfl, ⟨⟩⟩]
    refine je (yw rfl ?_)
    exact ⟨rfl, rfl, rfl⟩
   refine pD (fun W R z9 => ?_) ?_
   ·rw [eS (l := [(5, _)]) ⟨z9 5 rfl, ⟨⟩⟩]
    refine je (jE (1) Qg rfl jF (by decide) rfl rfl ?_)
    exact ⟨rfl, rfl, rfl⟩
   refine pD (fun W R z9 => ?_) ?_
   ·rw [eS (l := [(6, _)]) ⟨z9 6 rfl, ⟨⟩⟩]
    refine je (jj yt rfl (Rd.own [] rfl rfl) ?_)
    exact ⟨rfl, rfl, rfl⟩
   refine pD (fun W R z9 => ?_) ?_
   ·rw [eS (l := [(7, _)]) ⟨z9 7 rfl, ⟨⟩⟩]
    refine je (jZ qU rfl ht.slv ?_)
    exact ⟨rfl, rfl, rfl⟩
   refine pD (fun W R z9 => ?_) ?_
   ·rw [eS (l := [(3, _), (8, _)]) ⟨z9 3 rfl, z9 8 rfl, ⟨⟩⟩]
    refine je (XOp.geq rfl rfl ?_)
    exact ⟨rfl, rfl, rfl⟩
   refine pD (fun W R z9 => ?_) ?_
   ·rw [eS (l := [(9, _)]) ⟨z9 9 rfl, ⟨⟩⟩]
    refine je (jk (.bool (decide ((p : Int) ≥ (t.length : Int)))) rfl ?_)
    exact ⟨rfl, rfl, rfl⟩
   refine pD (fun W R z9 => ?_) ?_
   ·rw [eS (l := [(10, _)]) ⟨z9 10 rfl, ⟨⟩⟩]
    exact yA (t := 13) rfl (vT h1) ⟨rfl, rfl, rfl⟩
   refine pD (fun W R z9 => ?_) ?_
   ·rw [eS (l := [(10, _), (11, undef)]) ⟨z9 10 rfl, z9 11 rfl, ⟨⟩⟩]
    exact yA (t := 13) rfl (vT h1) ⟨rfl, rfl, rfl⟩
   refine pD (fun W R z9 => ?_) ?_
   ·rw [eS (l := [(10, _), (12, undef)]) ⟨z9 10 rfl, z9 12 rfl, ⟨⟩⟩]
    exact yA (t := 13) rfl (vT h1) ⟨rfl, rfl, rfl⟩
   refine pD (fun W R z9 => ?_) ?_
   ·rw [eS (l := [(10, _), (13, undef)]) ⟨z9 10 rfl, z9 13 rfl, ⟨⟩⟩]
    exact yA (t := 13) rfl (vT h1) ⟨rfl, rfl, rfl⟩
   refine pD (fun W R z9 => ?_) ?_
   ·rw [eS (l := [(10, _)]) ⟨z9 10 rfl, ⟨⟩⟩]
    exact yA (t := 13) rfl (vT h1) ⟨rfl, rfl, rfl⟩
   refine pD (fun W R z9 => ?_) ?_
   ·rw [eS (l := [(10, _), (15, undef)]) ⟨z9 10 rfl, z9 15 rfl, ⟨⟩⟩]
    exact yA (t := 13) rfl (vT h1) ⟨rfl, rfl, rfl⟩
   refine pD (fun W R z9 => ?_) ?_
   ·rw [eS (l := [(10, _), (16, undef)]) ⟨z9 10 rfl, z9 16 rfl, ⟨⟩⟩]
    exact yA (t := 13) rfl (vT h1) ⟨rfl, rfl, rfl⟩
   refine pD (fun W R z9 => ?_) ?_
   ·rw [eS (l := [(10, _), (17, undef)]) ⟨z9 10 rfl, z9 17 rfl, ⟨⟩⟩]
    exact yA (t := 13) rfl (vT h1) ⟨rfl, rfl, rfl⟩
   refine pD (fun W R z9 => ?_) ?_
   ·rw [eS (l := [(10, _), (14, undef), (18, undef)]) ⟨z9 10 rfl, z9 14 rfl, z9 18 rfl, ⟨⟩⟩]
    exact yA (t := 13) rfl (vT h1) ⟨rfl, rfl, rfl⟩
   refine pD (fun W R z9 => ?_) ?_
   ·rw [eS (l := [(10, _), (19, undef)]) ⟨z9 10 rfl, z9 19 rfl, ⟨⟩⟩]
    exact yA (t := 13) rfl (vT h1) ⟨rfl, rfl, rfl⟩
   refine pD (fun W R z9 => ?_) ?_
   ·rw [eS (l := [(10, _)]) ⟨z9 10 rfl, ⟨⟩⟩]
    exact yA (t := 13) rfl (vT h1) ⟨rfl, rfl, rfl⟩
   refine pD (fun W R z9 => ?_) ?_
   ·rw [eS (l := [(10, _), (21, undef)]) ⟨z9 10 rfl, z9 21 rfl, ⟨⟩⟩]
    exact yA (t := 13) rfl (vT h1) ⟨rfl, rfl, rfl⟩
   refine pD (fun W R z9 => ?_) ?_
   ·rw [eS (l := [(10, _), (22, undef)]) ⟨z9 10 rfl, z9 22 rfl, ⟨⟩⟩]
    exact yA (t := 13) rfl (vT h1) ⟨rfl, rfl, rfl⟩
   refine pD (fun W R z9 => ?_) ?_
   ·rw [eS (l := [(10, _), (23, undef)]) ⟨z9 10 rfl, z9 23 rfl, ⟨⟩⟩]
    exact yA (t := 13) rfl (vT h1) ⟨rfl, rfl, rfl⟩
   refine pD (fun W R z9 => ?_) ?_
   ·rw [eS (l := [(10, _), (24, undef)]) ⟨z9 10 rfl, z9 24 rfl, ⟨⟩⟩]
    exact yA (t := 13) rfl (vT h1) ⟨rfl, rfl, rfl⟩
   refine pD (fun W R z9 => ?_) ?_
   ·rw [eS (l := [(10, _), (25, undef)]) ⟨z9 10 rfl, z9 25 rfl, ⟨⟩⟩]
    exact yA (t := 13) rfl (vT h1) ⟨rfl, rfl, rfl⟩
   exact stepsP.nil
  intro W hphi
  rw [eS (l := [(10, _), (20, undef), (26, undef)]) ⟨(hphi 10 (by decide)), (hphi 20 (by decide)), (hphi 26 (by decide)), ⟨⟩⟩]
  show XL _ _ _ _ _ _ _ (cellsH c [arv, tv, ii ((p : Int))] 196 :: L)
  refine jA (t := 13) rfl (vT h1) (cX (yp (.bool (true)) (vT h1) rfl (qI (yX rfl (qX (qH (jc (ii (-1)) rfl (qI (jW (jw (jR (L' := cellsH c [arv, tv, ii ((p : Int))] 196 :: L) [ii (-1)] (ii (-1)) (.tmp rfl .nil) rfl rF rF (sC sR) ?_)))))))))))
  exact ⟨rfl, .inr ⟨by omega, rfl, rfl⟩⟩
 refine yN [cellsH c [arv, tv, ii ((p : Int))] 196] L 27 [] [[], [0], [1], [2], [], [4], [5], [6], [7], [3, 8], [9], [10], [10, 11], [10, 12], [10, 13], [10], [10, 15], [10, 16], [10, 17], [10, 14, 18], [10, 19], [10], [10, 21], [10, 22], [10, 23], [10, 24], [10, 25]] (phiL [qe (ptr c 0), qe (ptr c 0), qe (ptr c 2), qe (ii ((p : Int)) : Value), qe (ptr c 0), qe (ptr c 0), qe (ptr c 1), qe tv, qe (ii ((t.length : Int)) : Value), qe (.bool (decide ((p : Int) ≥ (t.length : Int))) : Value), qe (.bool (decide ((p : Int) ≥ (t.length : Int))) : Value), qe (ptr c 0), qe (ptr c 0), qe (ptr c 1), qe tv, qe (ptr c 0), qe (ptr c 0), qe (ptr c 2), qe (ii ((p : Int)) : Value), qe (.pointer (some (elemA tv (p)))), qe (ii (t.getD p 0)), qe (ptr c 0), qe (ptr c 0), qe (ptr c 0), qe (ptr c 0), qe arv, qe (ii ((ar.length : Int)) : Value)]) (ownL []) mixed rfl rfl (by kernel_rfl) ?_ ?_
 ·refine pD (fun W R z9 => ?_) ?_
  ·refine je (jk (ptr c 0) rfl ?_)
   exact ⟨rfl, rfl, rfl⟩
  refine pD (fun W R z9 => ?_) ?_
  ·rw [eS (l := [(0, _)]) ⟨z9 0 rfl, ⟨⟩⟩]
   refine je (yw rfl ?_)
   exact ⟨rfl, rfl, rfl⟩
  refine pD (fun W R z9 => ?_) ?_
  ·rw [eS (l := [(1, _)]) ⟨z9 1 rfl, ⟨⟩⟩]
   refine je (jE (2) Qg rfl Qm (by decide) rfl rfl ?_)
   exact ⟨rfl, rfl, rfl⟩
  refine pD (fun W R z9 => ?_) ?_
  ·rw [eS (l := [(2, _)]) ⟨z9 2 rfl, ⟨⟩⟩]
   refine je (jj isAgg3 rfl (Rd.own [] rfl rfl) ?_)
   exact ⟨rfl, rfl, rfl⟩
  refine pD (fun W R z9 => ?_) ?_
  ·refine je (jk (ptr c 0) rfl ?_)
   exact ⟨rfl, rfl, rfl⟩
  refine pD (fun W R z9 => ?_) ?_
  ·rw [eS (l := [(4, _)]) ⟨z9 4 rfl, ⟨⟩⟩]
   refine je (yw rfl ?_)
   exact ⟨rfl, rfl, rfl⟩
  refine pD (fun W R z9 => ?_) ?_
  ·rw [eS (l := [(5, _)]) ⟨z9 5 rfl, ⟨⟩⟩]
   refine je (jE (1) Qg rfl jF (by decide) rfl rfl ?_)
   exact ⟨rfl, rfl, rfl⟩
  refine pD (fun W R z9 => ?_) ?_
  ·rw [eS (l := [(6, _)]) ⟨z9 6 rfl, ⟨⟩⟩]
   refine je (jj yt rfl (Rd.own [] rfl rfl) ?_)
   exact ⟨rfl, rfl, rfl⟩
  refine pD (fun W R z9 => ?_) ?_
  ·rw [eS (l := [(7, _)]) ⟨z9 7 rfl, ⟨⟩⟩]
   refine je (jZ qU rfl ht.slv ?_)
   exact ⟨rfl, rfl, rfl⟩
  refine pD (fun W R z9 => ?_) ?_
  ·rw [eS (l := [(3, _), (8, _)]) ⟨z9 3 rfl, z9 8 rfl, ⟨⟩⟩]
   refine je (XOp.geq rfl rfl ?_)
   exact ⟨rfl, rfl, rfl⟩
  refine pD (fun W R z9 => ?_) ?_
  ·rw [eS (l := [(9, _)]) ⟨z9 9 rfl, ⟨⟩⟩]
   refine je (jk (.bool (decide ((p : Int) ≥ (t.length : Int)))) rfl ?_)
   exact ⟨rfl, rfl, rfl⟩
  refine pD (fun W R z9 => ?_) ?_
  ·rw [eS (l := [(10, _)]) ⟨z9 10 rfl, ⟨⟩⟩]
   refine yh (t := 13) rfl (vF h1) (jk (ptr c 0) rfl ?_)
   exact ⟨rfl, rfl, rfl⟩
  refine pD (fun W R z9 => ?_) ?_
  ·rw [eS (l := [(10, _), (11, _)]) ⟨z9 10 rfl, z9 11 rfl, ⟨⟩⟩]
   refine yh (t := 13) rfl (vF h1) (yw rfl ?_)
   exact ⟨rfl, rfl, rfl⟩
  refine pD (fun W R z9 => ?_) ?_
  ·rw [eS (l := [(10, _), (12, _)]) ⟨z9 10 rfl, z9 12 rfl, ⟨⟩⟩]
   refine yh (t := 13) rfl (vF h1) (jE (1) Qg rfl jF (by decide) rfl rfl ?_)
   exact ⟨rfl, rfl, rfl⟩
  refine pD (fun W R z9 => ?_) ?_
  ·rw [eS (l := [(10, _), (13, _)]) ⟨z9 10 rfl, z9 13 rfl, ⟨⟩⟩]
   refine yh (t := 13) rfl (vF h1) (jj yt rfl (Rd.own [] rfl rfl) ?_)
   exact ⟨rfl, rfl, rfl⟩
  refine pD (fun W R z9 => ?_) ?_
  ·rw [eS (l := [(10, _)]) ⟨z9 10 rfl, ⟨⟩⟩]
   refine yh (t := 13) rfl (vF h1) (jk (ptr c 0) rfl ?_)
   exact ⟨rfl, rfl, rfl⟩
  refine pD (fun W R z9 => ?_) ?_
  ·rw [eS (l := [(10, _), (15, _)]) ⟨z9 10 rfl, z9 15 rfl, ⟨⟩⟩]
   refine yh (t := 13) rfl (vF h1) (yw rfl ?_)
   exact ⟨rfl, rfl, rfl⟩
  refine pD (fun W R z9 => ?_) ?_
  ·rw [eS (l := [(10, _), (16, _)]) ⟨z9 10 rfl, z9 16 rfl, ⟨⟩⟩]
   refine yh (t := 13) rfl (vF h1) (jE (2) Qg rfl Qm (by decide) rfl rfl ?_)
   exact ⟨rfl, rfl, rfl⟩
  refine pD (fun W R z9 => ?_) ?_
  ·rw [eS (l := [(10, _), (17, _)]) ⟨z9 10 rfl, z9 17 rfl, ⟨⟩⟩]
   refine yh (t := 13) rfl (vF h1) (jj isAgg3 rfl (Rd.own [] rfl rfl) ?_)
   exact ⟨rfl, rfl, rfl⟩
  refine pD (fun W R z9 => ?_) ?_
  ·rw [eS (l := [(10, _), (14, _), (18, _)]) ⟨z9 10 rfl, z9 14 rfl, z9 18 rfl, ⟨⟩⟩]
   refine yh (t := 13) rfl (vF h1) (jq p qU js rfl rfl rfl ht.slv (by omega) (Nat.mul_one _) ?_)
   exact ⟨rfl, rfl, rfl⟩
  refine pD (fun W R z9 => ?_) ?_
  ·rw [eS (l := [(10, _), (19, _)]) ⟨z9 10 rfl, z9 19 rfl, ⟨⟩⟩]
   refine yh (t := 13) rfl (vF h1) (jj yd rfl (ht.rd (by omega)) ?_)
   exact ⟨rfl, rfl, rfl⟩
  refine pD (fun W R z9 => ?_) ?_
  ·rw [eS (l := [(10, _)]) ⟨z9 10 rfl, ⟨⟩⟩]
   refine yh (t := 13) rfl (vF h1) (jk (ptr c 0) rfl ?_)
   exact ⟨rfl, rfl, rfl⟩
  refine pD (fun W R z9 => ?_) ?_
  ·rw [eS (l := [(10, _), (21, _)]) ⟨z9 10 rfl, z9 21 rfl, ⟨⟩⟩]
   refine yh (t := 13) rfl (vF h1) (yw rfl ?_)
   exact ⟨rfl, rfl, rfl⟩
  refine pD (fun W R z9 => ?_) ?_
  ·rw [eS (l := [(10, _), (22, _)]) ⟨z9 10 rfl, z9 22 rfl, ⟨⟩⟩]
   refine yh (t := 13) rfl (vF h1) (jE (0) Qg rfl ys (by decide) rfl rfl ?_)
   exact ⟨rfl, rfl, rfl⟩
  refine pD (fun W R z9 => ?_) ?_
  ·rw [eS (l := [(10, _), (23, _)]) ⟨z9 10 rfl, z9 23 rfl, ⟨⟩⟩]
   refine yh (t := 13) rfl (vF h1) (jE (0) Ql rfl jF (by decide) rfl rfl ?_)
   exact ⟨rfl, rfl, rfl⟩
  refine pD (fun W R z9 => ?_) ?_
  ·rw [eS (l := [(10, _), (24, _)]) ⟨z9 10 rfl, z9 24 rfl, ⟨⟩⟩]
   refine yh (t := 13) rfl (vF h1) (jj yt rfl (Rd.own [] rfl rfl) ?_)
   exact ⟨rfl, rfl, rfl⟩
  refine pD (fun W R z9 => ?_) ?_
  ·rw [eS (l := [(10, _), (25, _)]) ⟨z9 10 rfl, z9 25 rfl, ⟨⟩⟩]
   refine yh (t := 13) rfl (vF h1) (jZ qU rfl har.slv ?_)
   exact ⟨rfl, rfl, rfl⟩
  exact stepsP.nil
 intro W hphi
 rw [eS (l := [(10, _), (20, _), (26, _)]) ⟨(hphi 10 (by decide)), (hphi 20 (by decide)), (hphi 26 (by decide)), ⟨⟩⟩]
 show XL _ _ _ _ _ _ _ (cellsH c [arv, tv, ii ((p : Int))] 196 :: L)
 refine jB (t := 13) rfl (vF h1) (XOp.geq rfl rfl (cX (yl (.bool (decide ((t.getD p 0 : Int) ≥ (ar.length : Int)))) (vF h1) rfl (qI ?_))))
 refine jV (p := (t.getD p 0 : Int) ≥ (ar.length : Int)) rfl (fun h2 => ?_) (fun h2 => ?_)
 ·refine qX (qH (jc (ii (-1)) rfl (qI (jW (jw (jR (L' := cellsH c [arv, tv, ii ((p : Int))] 196 :: L) [ii (-1)] (ii (-1)) (.tmp rfl .nil) rfl rF rF (sC sR) ?_))))))
  exact ⟨rfl, .inr ⟨by omega, rfl, rfl⟩⟩
 refine jU (qX (qH (jb (ptr c 0) rfl (cX (yw rfl (cX (jE (2) Qg rfl Qm (by decide) rfl rfl (cX (jj isAgg3 rfl (Rd.own [] rfl rfl) (cX (yj (((p + 1 : Nat) : Int)) rfl rfl (by omega) (by omega) (cX (yw rfl (cX (jE (2) Qg rfl Qm (by decide) rfl rfl (cX (Qb [] _ [arv, tv, ii (((p + 1 : Nat) : Int))] Qm rfl rfl rfl rfl rfl rfl (qI (qX ?_)))))))))))))))))))
 refine yN [cellsH c [arv, tv, ii (((p + 1 : Nat) : Int))] 196] L 15 [] [[], [0], [1], [2], [], [4], [5], [6], [], [8], [9], [10], [11], [7, 12], [13]] (phiL [qe (ptr c 0), qe (ptr c 0), qe (ptr c 0), qe (.agg #[arv]), qe (ptr c 0), qe (ptr c 0), qe (ptr c 1), qe tv, qe (ptr c 0), qe (ptr c 0), qe (ptr c 2), qe (ii (((p + 1 : Nat) : Int)) : Value), qe (ii ((p : Int)) : Value), qe (.pointer (some (elemA tv (p)))), qe (ii (t.getD p 0))]) (ownL []) mixed rfl rfl (by kernel_rfl) ?_ ?_
 ·refine pD (fun W R z9 => ?_) ?_
  ·refine je (jk (ptr c 0) rfl ?_)
   exact ⟨rfl, rfl, rfl⟩
  refine pD (fun W R z9 => ?_) ?_
  ·rw [eS (l := [(0, _)]) ⟨z9 0 rfl, ⟨⟩⟩]
   refine je (yw rfl ?_)
   exact ⟨rfl, rfl, rfl⟩
  refine pD (fun W R z9 => ?_) ?_
  ·rw [eS (l := [(1, _)]) ⟨z9 1 rfl, ⟨⟩⟩]
   refine je (jE (0) Qg rfl ys (by decide) rfl rfl ?_)
   exact ⟨rfl, rfl, rfl⟩
  refine pD (fun W R z9 => ?_) ?_
  ·rw [eS (l := [(2, _)]) ⟨z9 2 rfl, ⟨⟩⟩]
   refine je (yc [arv] yF ys rfl rfl (Rd.ownN [] rfl rfl) ?_)
   exact ⟨rfl, rfl, rfl⟩
  refine pD (fun W R z9 => ?_) ?_
  ·refine je (jk (ptr c 0) rfl ?_)
   exact ⟨rfl, rfl, rfl⟩
  refine pD (fun W R z9 => ?_) ?_
  ·rw [eS (l := [(4, _)]) ⟨z9 4 rfl, ⟨⟩⟩]
   refine je (yw rfl ?_)
   exact ⟨rfl, rfl, rfl⟩
  refine pD (fun W R z9 => ?_) ?_
  ·rw [eS (l := [(5, _)]) ⟨z9 5 rfl, ⟨⟩⟩]
   refine je (jE (1) Qg rfl jF (by decide) rfl rfl ?_)
   exact ⟨rfl, rfl, rfl⟩
  refine pD (fun W R z9 => ?_) ?_
  ·rw [eS (l := [(6, _)]) ⟨z9 6 rfl, ⟨⟩⟩]
   refine je (jj yt rfl (Rd.own [] rfl rfl) ?_)
   exact ⟨rfl, rfl, rfl⟩
  refine pD (fun W R z9 => ?_) ?_
  ·refine je (jk (ptr c 0) rfl ?_)
   exact ⟨rfl, rfl, rfl⟩
  refine pD (fun W R z9 => ?_) ?_
  ·rw [eS (l := [(8, _)]) ⟨z9 8 rfl, ⟨⟩⟩]
   refine je (yw rfl ?_)
   exact ⟨rfl, rfl, rfl⟩
  refine pD (fun W R z9 => ?_) ?_
  ·rw [eS (l := [(9, _)]) ⟨z9 9 rfl, ⟨⟩⟩]
   refine je (jE (2) Qg rfl Qm (by decide) rfl rfl ?_)
   exact ⟨rfl, rfl, rfl⟩
  refine pD (fun W R z9 => ?_) ?_
  ·rw [eS (l := [(10, _)]) ⟨z9 10 rfl, ⟨⟩⟩]
   refine je (jj isAgg3 rfl (Rd.own [] rfl rfl) ?_)
   exact ⟨rfl, rfl, rfl⟩
  refine pD (fun W R z9 => ?_) ?_
  ·rw [eS (l := [(11, _)]) ⟨z9 11 rfl, ⟨⟩⟩]
   refine je (yx ((p : Int)) rfl rfl (by omega) (by omega) ?_)
   exact ⟨rfl, rfl, rfl⟩
  refine pD (fun W R z9 => ?_) ?_
  ·rw [eS (l := [(7, _), (12, _)]) ⟨z9 7 rfl, z9 12 rfl, ⟨⟩⟩]
   refine je (jq p qU js rfl rfl rfl ht.slv (by omega) (Nat.mul_one _) ?_)
   exact ⟨rfl, rfl, rfl⟩
  refine pD (fun W R z9 => ?_) ?_
  ·rw [eS (l := [(13, _)]) ⟨z9 13 rfl, ⟨⟩⟩]
   refine je (jj yd rfl (ht.rd (by omega)) ?_)
   exact ⟨rfl, rfl, rfl⟩
  exact stepsP.nil
 intro W hphi
 rw [eS (l := [(3, _), (14, _)]) ⟨(hphi 3 (by decide)), (hphi 14 (by decide)), ⟨⟩⟩]
 show XL _ _ _ _ _ _ _ (cellsH c [arv, tv, ii (((p + 1 : Nat) : Int))] 196 :: L)
 refine cX (jL (args := [.agg #[arv], ii (t.getD p 0)]) call243 rfl (arityAt_spec (n := t.getD p 0) har (hn := (by first | assumption | rfl | omega | simp))) ?_)
 rintro _ _ _ _ ⟨rfl, rfl, rfl⟩
 refine jc (ii (arity ar (t.getD p 0))) rfl (qI (jW (jR (L' := cellsH c [arv, tv, ii (((p + 1 : Nat) : Int))] 196 :: L) [ii (arity ar (t.getD p 0))] (ii (arity ar (t.getD p 0))) (.tmp rfl .nil) rfl rF rF (sC sR) ?_)))
 exact ⟨rfl, .inl ⟨by omega, by omega, rfl, rfl⟩⟩

/- (*impl.cursor).skip -/
theorem skip_spec {F : FH} {L : List HP} {c p0 : Nat} {arv : Value} {ar : List Int} (har : IntsF F arv ar) {tv : Value} {t : List Int} (ht : IntsF F tv t) (hb : t.length ≤ 4000000) (hs : sigOk ar = true) (hp : p0 ≤ t.length) :
    Does prog 207 [ptr c 0] F (cellsH c [arv, tv, ii ((p0 : Int))] 196 :: L) (fun v F' L' => F = F' ∧ ∃ q : Nat, (.bool (endGo ar (t.drop p0) 1).isSome : Value) = v ∧ (∀ e, endGo ar (t.drop p0) 1 = some e → q = p0 + e) ∧ cellsH c [arv, tv, ii (q : Int)] 196 :: L = L') := by
 refine ym func207 rfl rfl rfl (qX (qH (jc (.bool (false)) rfl (qI (qX (qX (qH (jc (ii (1)) rfl (qI (yf (yI (α := Nat × Nat) (fun xQ => [(0, ptr c 0), (3, ii (((xQ.1 : Nat) : Int)))]) (fun xQ => cellsH c [arv, tv, ii (((xQ.2 : Nat) : Int))] 196 :: L) (fun xQ F' => F = F' ∧ (endGo ar (t.drop p0) 1 = (endGo ar (t.drop xQ.2) xQ.1).map (· + (xQ.2 - p0))) ∧ (p0 ≤ xQ.2 ∧ xQ.2 ≤ t.length) ∧ (xQ.1 ≤ 1 + 3 * xQ.2)) (fun xQ => t.length - xQ.2) (1, p0) ⟨rfl, rfl, ⟨⟩⟩ (sC sR) ⟨rfl, (by simp), (by omega), (by omega)⟩ ?_)))))))))))
 rintro ⟨k, p⟩ rE _ _ ⟨rfl, hi, h1, h2⟩
 show X _ _ _ _ (envs [(0, ptr c 0), (3, ii ((k : Int)))] rE) _ (cellsH c [arv, tv, ii ((p : Int))] 196 :: L)
 dsimp only at hi h1 h2
 refine qX (qX (qH (jb (ii ((k : Int))) rfl (cX (Qf rfl rfl (qI ?_))))))
 refine jV (p := (k : Int) > 0) rfl (fun h1 => ?_) (fun h1 => ?_)
 ·refine jU (qX (yf (qX (qH (jb (ptr c 0) rfl (cX (jL (args := [ptr c 0]) call235 rfl (next_spec (p := p) har ht (by omega)) ?_)))))))
  rintro _ _ _ _ ⟨rfl, ⟨hn1a, hn1b, rfl, rfl⟩ | ⟨hn1c, rfl, rfl⟩⟩
  ·have hA := arity_le hs hn1b
   refine jc (ii (arity ar ((t).getD p 0))) rfl (qI (qX (qX (qH (jb (ii (arity ar ((t).getD p 0))) rfl (cX (yo rfl rfl (qI ?_))))))))
   refine jV (p := (arity ar ((t).getD p 0) : Int) < 0) rfl (fun h2 => ?_) (fun h2 => ?_)
   ·omega
   refine jU (qH (jb (ii ((k : Int))) rfl (jb (ii (arity ar ((t).getD p 0))) rfl (cX (yj (((k + (arity ar (t.getD p 0)).toNat : Nat) : Int)) rfl rfl (by omega) (by omega) (jc (ii (((k + (arity ar (t.getD p 0)).toNat : Nat) : Int))) rfl (qI (qH (jb (ii (((k + (arity ar (t.getD p 0)).toNat : Nat) : Int))) rfl (cX (yx (((k - 1 + (arity ar (t.getD p 0)).toNat : Nat) : Int)) rfl rfl (by omega) (by omega) (jc (ii (((k - 1 + (arity ar (t.getD p 0)).toNat : Nat) : Int))) rfl (qI ?_)))))))))))))
   exact ⟨(k - 1 + (arity ar (t.getD p 0)).toNat, p + 1), _, FLe.refl _, rF, ⟨rfl, rfl, ⟨⟩⟩, (sC sR), ⟨rfl, (by rw [hi, endGo_step (by omega) (by omega) (by omega), Option.map_map]; congr 1; funext e; simp; omega), (by omega), (by omega)⟩, (by omega)⟩
  refine jc (ii (-1)) rfl (qI (qX (qX (qH (jb (ii (-1)) rfl (cX (yo rfl rfl (qI (yX rfl (qX (qH (jc (.bool (false)) rfl (qI (jW (jw (ya (jw (jw (ya (jw (jR (L' := cellsH c [arv, tv, ii ((p : Int))] 196 :: L) [.bool (false)] (.bool (false)) (.tmp rfl .nil) rfl rF rF (sC sR) ?_)))))))))))))))))))))
  have hz : endGo ar (t.drop p0) 1 = none := by rw [hi, endGo_none (by omega) (by omega)]; rfl
  refine ⟨rfl, p, ?_, ?_, rfl⟩
  · rw [hz]; rfl
  · intro e he; rw [hz] at he; cases he
 refine yB (jO (jO (yk (qX (qH (jc (.bool (true)) rfl (qI (jW (jR (L' := cellsH c [arv, tv, ii ((p : Int))] 196 :: L) [.bool (true)] (.bool (true)) (.tmp rfl .nil) rfl rF rF (sC sR) ?_)))))))))
 obtain rfl : k = 0 := by omega
 have hz : endGo ar (t.drop p0) 1 = some (p - p0) := by rw [hi]; simp [endGo]
 refine ⟨rfl, p, ?_, ?_, rfl⟩
 · rw [hz]; rfl
 · intro e he; rw [hz] at he; cases he; omega

/- impl.endAt -/
theorem endAt_spec {F : FH} {L : List HP} {arv : Value} {ar : List Int} (har : IntsF F arv ar) {tv : Value} {t : List Int} (ht : IntsF F tv t) {p : Nat} (hs : sigOk ar = true) (hb : t.length ≤ 4000000) (hp : p ≤ t.length) :
    Does prog 150 [.agg #[arv], tv, ii ((p : Int))] F (L) (fun v F' L' => (ii (endZ ar t p) : Value) = v ∧ F = F' ∧ L = L') := by
 refine ym func150 rfl rfl rfl (qX (qH (cX (yD [arv] rfl rfl ?_))))
 intro b1
 refine jc (ii (0)) rfl (qI (qX (qH (cX (yc [arv] yF ys rfl rfl (Rd.ownN [] rfl rfl) (jb (tv) rfl (jb (ii ((p : Int))) rfl (cX (yJ [arv, tv, ii ((p : Int))] [sN, sN, ii (0)] [(0, 1), (1, 1), (2, 1)] [(0, [arv]), (1, [tv]), (2, [ii ((p : Int))])] Qg zeroValue196 rfl (.cons rfl ys (.cons rfl jF (.cons rfl Qm PlacesAre.nil))) rfl (.cons rfl (.cons (cells_one (yi ht)) (.cons rfl CellsAre.nil))) (cX (Qe [sN, sN, ii (0)] zeroValue196 rfl ?_)))))))))))
 intro b2
 refine cX (yL [] _ [arv, tv, ii ((p : Int))] sizeOf196 rfl rfl rfl (jT (yE (yi har)) (jT (yE (yi ht)) (jT rfl yM))) rfl rfl rfl (qI (qX (qX (qH (cX (jL (args := [ptr b2 0]) call207 rfl (skip_spec (p0 := p) har ht (by omega) hs (by omega)) ?_)))))))
 rintro _ _ _ _ ⟨rfl, q1, rfl, hq1, rfl⟩
 refine cX (yR rfl (qI ?_))
 refine X.cond (t := !((endGo ar (t.drop p) 1).isSome)) rfl (fun h1 => ?_) (fun h1 => ?_)
 ·refine qX (qH (jc (ii (-1)) rfl (qI (jW (jw (jR (L' := L) [ii (-1)] (ii (-1)) (.tmp rfl .nil) rfl rF rF (sD (sD sR)) ?_))))))
  exact ⟨(vI (endZ_none (by rw [Bool.eq_false_iff] at *; simpa using h1))), rfl, rfl⟩
 refine jU (qX (qH (cX (jE (2) Qg rfl Qm (by decide) rfl rfl (cX (jj isAgg3 rfl (Rd.own [] rfl rfl) (jc (ii ((q1 : Int))) rfl (qI (jW (jR (L' := L) [ii ((q1 : Int))] (ii ((q1 : Int))) (.tmp rfl .nil) rfl rF rF (sD (sD sR)) ?_))))))))))
 exact ⟨(vI (endZ_some hq1 (by simpa using h1))), rfl, rfl⟩

/- slices.Min[[]int64,int64] -/
theorem Min_spec {F : FH} {L : List HP} {xsv : Value} {xs : List Int} (hxs : IntsF F xsv xs) (h1 : 1 ≤ xs.length) (hbd : xs.length ≤ 4000000) :
    Does prog 149 [xsv] F (L) (fun v F' L' => (ii (minL xs) : Value) = v ∧ F = F' ∧ L = L') := by
 refine ym func149 rfl rfl rfl (qX (qH (jc (ii (0)) rfl (qI (qX (qX (qH (jb (xsv) rfl (cX (jZ qU rfl hxs.slv (cX (yo rfl rfl (qI ?_)))))))))))))
 refine jV (p := ((xs.length : Int) : Int) < 1) rfl (fun h1 => ?_) (fun h1 => ?_)
 ·omega
 refine jU (qX (qH (jb (xsv) rfl (cX (jq 0 qU js rfl rfl rfl hxs.slv (by omega) (Nat.mul_one _) (cX (jj yd rfl (hxs.rd (by omega)) (jc (ii (xs.getD 0 0)) rfl (qI (qX (qX (qH (jc (ii (1)) rfl (qI (yf (yI (α := Nat) (fun k => [(0, xsv), (3, ii (minL (xs.take k))), (4, ii ((k : Int)))]) (fun k => L) (fun k F' => F = F' ∧ (1 ≤ k ∧ k ≤ xs.length)) (fun k => xs.length - k) 1 ⟨rfl, (vI (minL_take1 (xs := xs) (by omega)).symm), rfl, ⟨⟩⟩ sR ⟨rfl, (by omega)⟩ ?_))))))))))))))))
 rintro k rE _ _ ⟨rfl, hk⟩
 show X _ _ _ _ (envs [(0, xsv), (3, ii (minL (xs.take k))), (4, ii ((k : Int)))] rE) _ (L)
 refine qX (qX (qH (jb (ii ((k : Int))) rfl (jb (xsv) rfl (cX (jZ qU rfl hxs.slv (cX (yo rfl rfl (qI ?_)))))))))
 refine jV (p := (k : Int) < (xs.length : Int)) rfl (fun h2 => ?_) (fun h2 => ?_)
 ·refine jU (qX (yf (qH (jb (ii (minL (xs.take k))) rfl (jb (xsv) rfl (jb (ii ((k : Int))) rfl (cX (jq k qU js rfl rfl rfl hxs.slv (by omega) (Nat.mul_one _) (cX (jj yd rfl (hxs.rd (by omega)) (cX (XOp.min2R (a := minL (xs.take k)) (b := xs.getD k 0) (minL (xs.take (k + 1))) rfl rfl ((minL_step (by omega) (by omega)).symm) (jc (ii (minL (xs.take (k + 1)))) rfl (qI (qH (jb (ii ((k : Int))) rfl ?_))))))))))))))))
  refine cX (yj (((k + 1 : Nat) : Int)) rfl rfl (by omega) (by omega) (jc (ii (((k + 1 : Nat) : Int))) rfl (qI ?_)))
  exact ⟨k + 1, _, FLe.refl _, rF, ⟨rfl, rfl, rfl, ⟨⟩⟩, sR, ⟨rfl, (by omega)⟩, (by omega)⟩
 refine yB (jO (jO (yk (qX (qH (jb (ii (minL (xs.take k))) rfl (jc (ii (minL (xs.take k))) rfl (qI (jW (jR (L' := L) [ii (minL (xs.take k))] (ii (minL (xs.take k))) (.tmp rfl .nil) rfl rF rF sR ?_))))))))))
 exact ⟨(vI (by rw [minL_take_all (by omega)])), rfl, rfl⟩

/- slices.Equal[[]int64,int64] -/
theorem Equal_spec {F : FH} {L : List HP} {av : Value} {a : List Int} (ha : IntsF F av a) {bv : Value} {b : List Int} (hb : IntsF F bv b) (hbd : a.length ≤ 9223372036854775807 ∨ b.length ≤ 9223372036854775807) :
    Does prog 67 [av, bv] F (L) (fun v F' L' => (.bool (decide (a = b)) : Value) = v ∧ F = F' ∧ L = L') := by
 refine ym func67 rfl rfl rfl (qX (qH (jc (.bool (false)) rfl (qI (qX (qX (qH (jb (av) rfl (cX (jZ qU rfl ha.slv (jb (bv) rfl (cX (jZ qU rfl hb.slv (cX (XOp.neq rfl rfl (qI ?_))))))))))))))))
 refine jV (p := ((a.length : Int) : Int) ≠ (b.length : Int)) rfl (fun h1 => ?_) (fun h1 => ?_)
 ·refine qX (qH (jc (.bool (false)) rfl (qI (jW (jw (jR (L' := L) [.bool (false)] (.bool (false)) (.tmp rfl .nil) rfl rF rF sR ?_))))))
  exact ⟨(vB (decide_eq_false (fun e => by rw [e] at h1; omega))), rfl, rfl⟩
 refine jU (qX (qX (qH (jb (av) rfl (cX (jZ qU rfl ha.slv (jb (ii (0)) rfl (qI (yf (yI (α := Nat) (fun k => [(0, av), (1, bv), (12, ii ((a.length : Int))), (13, ii ((k : Int)))]) (fun k => L) (fun k F' => F = F' ∧ (k ≤ a.length) ∧ (∀ i, i < k → a.getD i 0 = b.getD i 0)) (fun k => a.length - k) 0 ⟨rfl, rfl, rfl, rfl, ⟨⟩⟩ sR ⟨rfl, (by omega), (fun i hi => absurd hi (by omega))⟩ ?_))))))))))
 rintro k rE _ _ ⟨rfl, hk, hall⟩
 show X _ _ _ _ (envs [(0, av), (1, bv), (12, ii ((a.length : Int))), (13, ii ((k : Int)))] rE) _ (L)
 refine qX (qH (cX (yo rfl rfl (qI (qX ?_)))))
 refine jV (p := (k : Int) < (a.length : Int)) rfl (fun h2 => ?_) (fun h2 => ?_)
 ·refine jU (qX (yf (qX (qH (jb (ii ((k : Int))) rfl (jc (ii ((k : Int))) rfl (qI (qX ?_))))))))
  refine yN [] L 8 [] [[], [], [0, 1], [2], [], [], [4, 5], [6]] (phiL [qe av, qe (ii ((k : Int)) : Value), qe (.pointer (some (elemA av (k)))), qe (ii (a.getD k 0)), qe bv, qe (ii ((k : Int)) : Value), qe (.pointer (some (elemA bv (k)))), qe (ii (b.getD k 0))]) (ownL []) mixed rfl rfl (by kernel_rfl) ?_ ?_
  ·refine pD (fun W R z9 => ?_) ?_
   ·refine je (jk (av) rfl ?_)
    exact ⟨rfl, rfl, rfl⟩
   refine pD (fun W R z9 => ?_) ?_
   ·refine je (jk (ii ((k : Int))) rfl ?_)
    exact ⟨rfl, rfl, rfl⟩
   refine pD (fun W R z9 => ?_) ?_
   ·rw [eS (l := [(0, _), (1, _)]) ⟨z9 0 rfl, z9 1 rfl, ⟨⟩⟩]
    refine je (jq k qU js rfl rfl rfl ha.slv (by omega) (Nat.mul_one _) ?_)
    exact ⟨rfl, rfl, rfl⟩
   refine pD (fun W R z9 => ?_) ?_
   ·rw [eS (l := [(2, _)]) ⟨z9 2 rfl, ⟨⟩⟩]
    refine je (jj yd rfl (ha.rd (by omega)) ?_)
    exact ⟨rfl, rfl, rfl⟩
   refine pD (fun W R z9 => ?_) ?_
   ·refine je (jk (bv) rfl ?_)
    exact ⟨rfl, rfl, rfl⟩
   refine pD (fun W R z9 => ?_) ?_
   ·refine je (jk (ii ((k : Int))) rfl ?_)
    exact ⟨rfl, rfl, rfl⟩
   refine pD (fun W R z9 => ?_) ?_
   ·rw [eS (l := [(4, _), (5, _)]) ⟨z9 4 rfl, z9 5 rfl, ⟨⟩⟩]
    refine je (jq k qU js rfl rfl rfl hb.slv (by omega) (Nat.mul_one _) ?_)
    exact ⟨rfl, rfl, rfl⟩
   refine pD (fun W R z9 => ?_) ?_
   ·rw [eS (l := [(6, _)]) ⟨z9 6 rfl, ⟨⟩⟩]
    refine je (jj yd rfl (hb.rd (by omega)) ?_)
    exact ⟨rfl, rfl, rfl⟩
   exact stepsP.nil
  intro W hphi
  rw [eS (l := [(3, _), (7, _)]) ⟨(hphi 3 (by decide)), (hphi 7 (by decide)), ⟨⟩⟩]
  show XL _ _ _ _ _ _ _ (L)
  refine cX (XOp.neq rfl rfl (qI ?_))
  refine jV (p := (a.getD k 0 : Int) ≠ b.getD k 0) rfl (fun h3 => ?_) (fun h3 => ?_)
  ·refine qX (qH (jc (.bool (false)) rfl (qI (jW (ya (jw (jw (ya (jw (jR (L' := L) [.bool (false)] (.bool (false)) (.tmp rfl .nil) rfl rF rF sR ?_))))))))))
   exact ⟨(vB (decide_eq_false (ne_of_getD (i := k) (by omega)))), rfl, rfl⟩
  refine jU (qH (cX (yj (((k + 1 : Nat) : Int)) rfl rfl (by omega) (by omega) (jb (ii (((k + 1 : Nat) : Int))) rfl (qI ?_)))))
  exact ⟨k + 1, _, FLe.refl _, rF, ⟨rfl, rfl, rfl, rfl, ⟨⟩⟩, sR, ⟨rfl, (by omega), (fun i hi => (Nat.lt_or_ge i k).elim (fun h => hall i h) (fun h => by obtain rfl : i = k := (by omega); omega))⟩, (by omega)⟩
 refine yB (jO (jO (yk (qX (qH (jc (.bool (true)) rfl (qI (jW (jR (L' := L) [.bool (true)] (.bool (true)) (.tmp rfl .nil) rfl rF rF sR ?_)))))))))
 exact ⟨(vB (decide_eq_true (ext_getD (by omega) (fun i hi => hall i (by omega))))), rfl, rfl⟩

/- spec.SameTerm -/
theorem SameTerm_spec {F : FH} {L : List HP} {av : Value} {a : List Int} (ha : IntsF F av a) {bv : Value} {b : List Int} (hb : IntsF F bv b) (hbd : a.length ≤ 9223372036854775807 ∨ b.length ≤ 9223372036854775807) :
    Does prog 126 [av, bv] F (L) (fun v F' L' => (.bool (decide (a = b)) : Value) = v ∧ F = F' ∧ L = L') := by
 refine ym func126 rfl rfl rfl (qX (qH (jc (.bool (false)) rfl (qI (qX (qX (qH (jb (av) rfl (cX (jZ qU rfl ha.slv (jb (bv) rfl (cX (jZ qU rfl hb.slv (cX (XOp.neq rfl rfl (qI ?_))))))))))))))))
 refine jV (p := ((a.length : Int) : Int) ≠ (b.length : Int)) rfl (fun h1 => ?_) (fun h1 => ?_)
 ·refine qX (qH (jc (.bool (false)) rfl (qI (jW (jw (jR (L' := L) [.bool (false)] (.bool (false)) (.tmp rfl .nil) rfl rF rF sR ?_))))))
  exact ⟨(vB (decide_eq_false (fun e => by rw [e] at h1; omega))), rfl, rfl⟩
 refine jU (qX (qX (qH (jc (ii (0)) rfl (qI (yf (yI (α := Nat) (fun k => [(0, av), (1, bv), (5, ii ((k : Int)))]) (fun k => L) (fun k F' => F = F' ∧ (k ≤ a.length) ∧ (∀ i, i < k → a.getD i 0 = b.getD i 0)) (fun k => a.length - k) 0 ⟨rfl, rfl, rfl, ⟨⟩⟩ sR ⟨rfl, (by omega), (fun i hi => absurd hi (by omega))⟩ ?_)))))))
 rintro k rE _ _ ⟨rfl, hk, hall⟩
 show X _ _ _ _ (envs [(0, av), (1, bv), (5, ii ((k : Int)))] rE) _ (L)
 refine qX (qX (qH (jb (ii ((k : Int))) rfl (jb (av) rfl (cX (jZ qU rfl ha.slv (cX (yo rfl rfl (qI ?_)))))))))
 refine jV (p := (k : Int) < (a.length : Int)) rfl (fun h2 => ?_) (fun h2 => ?_)
 ·refine jU (qX (yf (qX ?_)))
  refine yN [] L 8 [] [[], [], [0, 1], [2], [], [], [4, 5], [6]] (phiL [qe av, qe (ii ((k : Int)) : Value), qe (.pointer (some (elemA av (k)))), qe (ii (a.getD k 0)), qe bv, qe (ii ((k : Int)) : Value), qe (.pointer (some (elemA bv (k)))), qe (ii (b.getD k 0))]) (ownL []) mixed rfl rfl (by kernel_rfl) ?_ ?_
  ·refine pD (fun W R z9 => ?_) ?_
   ·refine je (jk (av) rfl ?_)
    exact ⟨rfl, rfl, rfl⟩
   refine pD (fun W R z9 => ?_) ?_
   ·refine je (jk (ii ((k : Int))) rfl ?_)
    exact ⟨rfl, rfl, rfl⟩
   refine pD (fun W R z9 => ?_) ?_
   ·rw [eS (l := [(0, _), (1, _)]) ⟨z9 0 rfl, z9 1 rfl, ⟨⟩⟩]
    refine je (jq k qU js rfl rfl rfl ha.slv (by omega) (Nat.mul_one _) ?_)
    exact ⟨rfl, rfl, rfl⟩
   refine pD (fun W R z9 => ?_) ?_
   ·rw [eS (l := [(2, _)]) ⟨z9 2 rfl, ⟨⟩⟩]
    refine je (jj yd rfl (ha.rd (by omega)) ?_)
    exact ⟨rfl, rfl, rfl⟩
   refine pD (fun W R z9 => ?_) ?_
   ·refine je (jk (bv) rfl ?_)
    exact ⟨rfl, rfl, rfl⟩
   refine pD (fun W R z9 => ?_) ?_
   ·refine je (jk (ii ((k : Int))) rfl ?_)
    exact ⟨rfl, rfl, rfl⟩
   refine pD (fun W R z9 => ?_) ?_
   ·rw [eS (l := [(4, _), (5, _)]) ⟨z9 4 rfl, z9 5 rfl, ⟨⟩⟩]
    refine je (jq k qU js rfl rfl rfl hb.slv (by omega) (Nat.mul_one _) ?_)
    exact ⟨rfl, rfl, rfl⟩
   refine pD (fun W R z9 => ?_) ?_
   ·rw [eS (l := [(6, _)]) ⟨z9 6 rfl, ⟨⟩⟩]
    refine je (jj yd rfl (hb.rd (by omega)) ?_)
    exact ⟨rfl, rfl, rfl⟩
   exact stepsP.nil
  intro W hphi
  rw [eS (l := [(3, _), (7, _)]) ⟨(hphi 3 (by decide)), (hphi 7 (by decide)), ⟨⟩⟩]
  show XL _ _ _ _ _ _ _ (L)
  refine cX (XOp.neq rfl rfl (qI ?_))
  refine jV (p := (a.getD k 0 : Int) ≠ b.getD k 0) rfl (fun h3 => ?_) (fun h3 => ?_)
  ·refine qX (qH (jc (.bool (false)) rfl (qI (jW (ya (jw (jw (ya (jw (jR (L' := L) [.bool (false)] (.bool (false)) (.tmp rfl .nil) rfl rF rF sR ?_))))))))))
   exact ⟨(vB (decide_eq_false (ne_of_getD (i := k) (by omega)))), rfl, rfl⟩
  refine jU (qH (jb (ii ((k : Int))) rfl (cX (yj (((k + 1 : Nat) : Int)) rfl rfl (by omega) (by omega) (jc (ii (((k + 1 : Nat) : Int))) rfl (qI ?_))))))
  exact ⟨k + 1, _, FLe.refl _, rF, ⟨rfl, rfl, rfl, ⟨⟩⟩, sR, ⟨rfl, (by omega), (fun i hi => (Nat.lt_or_ge i k).elim (fun h => hall i h) (fun h => by obtain rfl : i = k := (by omega); omega))⟩, (by omega)⟩
 refine yB (jO (jO (yk (qX (qH (jc (.bool (true)) rfl (qI (jW (jR (L' := L) [.bool (true)] (.bool (true)) (.tmp rfl .nil) rfl rF rF sR ?_)))))))))
 exact ⟨(vB (decide_eq_true (ext_getD (by omega) (fun i hi => hall i (by omega))))), rfl, rfl⟩

/- laws.likeInts -/
theorem likeInts_spec {F : FH} {L : List HP} {av : Value} {a : List Int} (ha : IntsF F av a) {bv : Value} {b : List Int} (hb : IntsF F bv b) (hbd : a.length ≤ 9223372036854775807 ∨ b.length ≤ 9223372036854775807) :
    Does prog 18 [av, bv] F (L) (fun v F' L' => (.bool (decide (a = b)) : Value) = v ∧ F = F' ∧ L = L') := by
 refine ym func18 rfl rfl rfl (qX (qH (jc (.bool (false)) rfl (qI (qX (qX (qH (jb (av) rfl (cX (jZ qU rfl ha.slv (jb (bv) rfl (cX (jZ qU rfl hb.slv (cX (XOp.neq rfl rfl (qI ?_))))))))))))))))
 refine jV (p := ((a.length : Int) : Int) ≠ (b.length : Int)) rfl (fun h1 => ?_) (fun h1 => ?_)
 ·refine qX (qH (jc (.bool (false)) rfl (qI (jW (jw (jR (L' := L) [.bool (false)] (.bool (false)) (.tmp rfl .nil) rfl rF rF sR ?_))))))
  exact ⟨(vB (decide_eq_false (fun e => by rw [e] at h1; omega))), rfl, rfl⟩
 refine jU (qX (qX (qH (jc (ii (0)) rfl (qI (yf (yI (α := Nat) (fun k => [(0, av), (1, bv), (5, ii ((k : Int)))]) (fun k => L) (fun k F' => F = F' ∧ (k ≤ a.length) ∧ (∀ i, i < k → a.getD i 0 = b.getD i 0)) (fun k => a.length - k) 0 ⟨rfl, rfl, rfl, ⟨⟩⟩ sR ⟨rfl, (by omega), (fun i hi => absurd hi (by omega))⟩ ?_)))))))
 rintro k rE _ _ ⟨rfl, hk, hall⟩
 show X _ _ _ _ (envs [(0, av), (1, bv), (5, ii ((k : Int)))] rE) _ (L)
 refine qX (qX (qH (jb (ii ((k : Int))) rfl (jb (av) rfl (cX (jZ qU rfl ha.slv (cX (yo rfl rfl (qI ?_)))))))))
 refine jV (p := (k : Int) < (a.length : Int)) rfl (fun h2 => ?_) (fun h2 => ?_)
 ·refine jU (qX (yf (qX ?_)))
  refine yN [] L 8 [] [[], [], [0, 1], [2], [], [], [4, 5], [6]] (phiL [qe av, qe (ii ((k : Int)) : Value), qe (.pointer (some (elemA av (k)))), qe (ii (a.getD k 0)), qe bv, qe (ii ((k : Int)) : Value), qe (.pointer (some (elemA bv (k)))), qe (ii (b.getD k 0))]) (ownL []) mixed rfl rfl (by kernel_rfl) ?_ ?_
  ·refine pD (fun W R z9 => ?_) ?_
   ·refine je (jk (av) rfl ?_)
    exact ⟨rfl, rfl, rfl⟩
   refine pD (fun W R z9 => ?_) ?_
   ·refine je (jk (ii ((k : Int))) rfl ?_)
    exact ⟨rfl, rfl, rfl⟩
   refine pD (fun W R z9 => ?_) ?_
   ·rw [eS (l := [(0, _), (1, _)]) ⟨z9 0 rfl, z9 1 rfl, ⟨⟩⟩]
    refine je (jq k qU js rfl rfl rfl ha.slv (by omega) (Nat.mul_one _) ?_)
    exact ⟨rfl, rfl, rfl⟩
   refine pD (fun W R z9 => ?_) ?_
   ·rw [eS (l := [(2, _)]) ⟨z9 2 rfl, ⟨⟩⟩]
    refine je (jj yd rfl (ha.rd (by omega)) ?_)
    exact ⟨rfl, rfl, rfl⟩
   refine pD (fun W R z9 => ?_) ?_
   ·refine je (jk (bv) rfl ?_)
    exact ⟨rfl, rfl, rfl⟩
   refine pD (fun W R z9 => ?_) ?_
   ·refine je (jk (ii ((k : Int))) rfl ?_)
    exact ⟨rfl, rfl, rfl⟩
   refine pD (fun W R z9 => ?_) ?_
   ·rw [eS (l := [(4, _), (5, _)]) ⟨z9 4 rfl, z9 5 rfl, ⟨⟩⟩]
    refine je (jq k qU js rfl rfl rfl hb.slv (by omega) (Nat.mul_one _) ?_)
    exact ⟨rfl, rfl, rfl⟩
   refine pD (fun W R z9 => ?_) ?_
   ·rw [eS (l := [(6, _)]) ⟨z9 6 rfl, ⟨⟩⟩]
    refine je (jj yd rfl (hb.rd (by omega)) ?_)
    exact ⟨rfl, rfl, rfl⟩
   exact stepsP.nil
  intro W hphi
  rw [eS (l := [(3, _), (7, _)]) ⟨(hphi 3 (by decide)), (hphi 7 (by decide)), ⟨⟩⟩]
  show XL _ _ _ _ _ _ _ (L)
  refine cX (XOp.neq rfl rfl (qI ?_))
  refine jV (p := (a.getD k 0 : Int) ≠ b.getD k 0) rfl (fun h3 => ?_) (fun h3 => ?_)
  ·refine qX (qH (jc (.bool (false)) rfl (qI (jW (ya (jw (jw (ya (jw (jR (L' := L) [.bool (false)] (.bool (false)) (.tmp rfl .nil) rfl rF rF sR ?_))))))))))
   exact ⟨(vB (decide_eq_false (ne_of_getD (i := k) (by omega)))), rfl, rfl⟩
  refine jU (qH (jb (ii ((k : Int))) rfl (cX (yj (((k + 1 : Nat) : Int)) rfl rfl (by omega) (by omega) (jc (ii (((k + 1 : Nat) : Int))) rfl (qI ?_))))))
  exact ⟨k + 1, _, FLe.refl _, rF, ⟨rfl, rfl, rfl, ⟨⟩⟩, sR, ⟨rfl, (by omega), (fun i hi => (Nat.lt_or_ge i k).elim (fun h => hall i h) (fun h => by obtain rfl : i = k := (by omega); omega))⟩, (by omega)⟩
 refine yB (jO (jO (yk (qX (qH (jc (.bool (true)) rfl (qI (jW (jR (L' := L) [.bool (true)] (.bool (true)) (.tmp rfl .nil) rfl rF rF sR ?_)))))))))
 exact ⟨(vB (decide_eq_true (ext_getD (by omega) (fun i hi => hall i (by omega))))), rfl, rfl⟩

/- slices.Index[[]int64,int64] -/
theorem Index_spec {F : FH} {L : List HP} {xsv : Value} {xs : List Int} (hxs : IntsF F xsv xs) {n : Int} (hbd : xs.length ≤ 9223372036854775807) :
    Does prog 204 [xsv, ii (n)] F (L) (fun v F' L' => (ii (indexZ xs n) : Value) = v ∧ F = F' ∧ L = L') := by
 refine ym func204 rfl rfl rfl (qX (qH (jc (ii (0)) rfl (qI (qX (qX (qH (jb (xsv) rfl (cX (jZ qU rfl hxs.slv (jb (ii (0)) rfl (qI (yf (yI (α := Nat) (fun k => [(0, xsv), (1, ii (n)), (7, ii ((xs.length : Int))), (8, ii ((k : Int)))]) (fun k => L) (fun k F' => F = F' ∧ (k ≤ xs.length) ∧ (∀ i, i < k → xs.getD i 0 ≠ n)) (fun k => xs.length - k) 0 ⟨rfl, rfl, rfl, rfl, ⟨⟩⟩ sR ⟨rfl, (by omega), (fun i hi => absurd hi (by omega))⟩ ?_))))))))))))))
 rintro k rE _ _ ⟨rfl, hk, hall⟩
 show X _ _ _ _ (envs [(0, xsv), (1, ii (n)), (7, ii ((xs.length : Int))), (8, ii ((k : Int)))] rE) _ (L)
 refine qX (qH (cX (yo rfl rfl (qI (qX ?_)))))
 refine jV (p := (k : Int) < (xs.length : Int)) rfl (fun h1 => ?_) (fun h1 => ?_)
 ·refine jU (qX (yf (qX (qH (jb (ii ((k : Int))) rfl (jc (ii ((k : Int))) rfl (qI (qX (qH (jb (ii (n)) rfl (jb (xsv) rfl (jb (ii ((k : Int))) rfl (cX (jq k qU js rfl rfl rfl hxs.slv (by omega) (Nat.mul_one _) (cX (jj yd rfl (hxs.rd (by omega)) (cX (yU rfl rfl ?_))))))))))))))))))
  refine qI ?_
  refine jV (p := (n : Int) = xs.getD k 0) rfl (fun h2 => ?_) (fun h2 => ?_)
  ·refine qX (qH (jb (ii ((k : Int))) rfl (jc (ii ((k : Int))) rfl (qI (jW (ya (jw (jw (ya (jw (jR (L' := L) [ii ((k : Int))] (ii ((k : Int))) (.tmp rfl .nil) rfl rF rF sR ?_)))))))))))
   exact ⟨(vI (indexZ_some (by omega) (by omega) hall)), rfl, rfl⟩
  refine jU (qH (cX (yj (((k + 1 : Nat) : Int)) rfl rfl (by omega) (by omega) (jb (ii (((k + 1 : Nat) : Int))) rfl (qI ?_)))))
  exact ⟨k + 1, _, FLe.refl _, rF, ⟨rfl, rfl, rfl, rfl, ⟨⟩⟩, sR, ⟨rfl, (by omega), (fun i hi => (Nat.lt_or_ge i k).elim (fun h => hall i h) (fun h => by obtain rfl : i = k := (by omega); omega))⟩, (by omega)⟩
 refine yB (jO (jO (yk (qX (qH (jc (ii (-1)) rfl (qI (jW (jR (L' := L) [ii (-1)] (ii (-1)) (.tmp rfl .nil) rfl rF rF sR ?_)))))))))
 exact ⟨(vI (indexZ_none (fun i hi => hall i (by omega)))), rfl, rfl⟩

/- slices.Contains[[]int64,int64] -/
theorem Contains_spec {F : FH} {L : List HP} {xsv : Value} {xs : List Int} (hxs : IntsF F xsv xs) {n : Int} (hbd : xs.length ≤ 9223372036854775807) :
    Does prog 218 [xsv, ii (n)] F (L) (fun v F' L' => (.bool (decide (n ∈ xs)) : Value) = v ∧ F = F' ∧ L = L') := by
 refine ym func218 rfl rfl rfl (qX (qH (jc (.bool (false)) rfl (qI (qX (qH (jb (xsv) rfl (jb (ii (n)) rfl (cX (jL (args := [xsv, ii (n)]) call204 rfl (Index_spec (n := n) hxs (hbd := (by first | assumption | rfl | omega | simp))) ?_))))))))))
 rintro _ _ _ _ ⟨rfl, rfl, rfl⟩
 refine cX (XOp.geq rfl rfl (jc (.bool (decide ((indexZ xs n : Int) ≥ 0))) rfl (qI (jW (jR (L' := L) [.bool (decide ((indexZ xs n : Int) ≥ 0))] (.bool (decide ((indexZ xs n : Int) ≥ 0))) (.tmp rfl .nil) rfl rF rF sR ?_)))))
 exact ⟨(vB (decide_eq_decide.2 indexZ_mem.symm)), rfl, rfl⟩

/- spec.l1Has -/
theorem l1Has_spec {F : FH} {L : List HP} {xsv : Value} {xs : List Int} (hxs : IntsF F xsv xs) {n : Int} (hbd : xs.length ≤ 9223372036854775807) :
    Does prog 206 [xsv, ii (n)] F (L) (fun v F' L' => (.bool (decide (n ∈ xs)) : Value) = v ∧ F = F' ∧ L = L') := by
 refine ym func206 rfl rfl rfl (qX (qH (jc (.bool (false)) rfl (qI (qX (qX (qH (jc (ii (0)) rfl (qI (yf (yI (α := Nat) (fun k => [(0, xsv), (1, ii (n)), (5, ii ((k : Int)))]) (fun k => L) (fun k F' => F = F' ∧ (k ≤ xs.length) ∧ (∀ i, i < k → xs.getD i 0 ≠ n)) (fun k => xs.length - k) 0 ⟨rfl, rfl, rfl, ⟨⟩⟩ sR ⟨rfl, (by omega), (fun i hi => absurd hi (by omega))⟩ ?_)))))))))))
 rintro k rE _ _ ⟨rfl, hk, hall⟩
 show X _ _ _ _ (envs [(0, xsv), (1, ii (n)), (5, ii ((k : Int)))] rE) _ (L)
 refine qX (qX (qH (jb (ii ((k : Int))) rfl (jb (xsv) rfl (cX (jZ qU rfl hxs.slv (cX (yo rfl rfl (qI ?_)))))))))
 refine jV (p := (k : Int) < (xs.length : Int)) rfl (fun h1 => ?_) (fun h1 => ?_)
 ·refine jU (qX (yf (qX (qH (jb (xsv) rfl (jb (ii ((k : Int))) rfl (cX (jq k qU js rfl rfl rfl hxs.slv (by omega) (Nat.mul_one _) (cX (jj yd rfl (hxs.rd (by omega)) (jb (ii (n)) rfl (cX (yU rfl rfl (qI ?_))))))))))))))
  refine jV (p := (xs.getD k 0 : Int) = n) rfl (fun h2 => ?_) (fun h2 => ?_)
  ·refine qX (qH (jc (.bool (true)) rfl (qI (jW (ya (jw (jw (ya (jw (jR (L' := L) [.bool (true)] (.bool (true)) (.tmp rfl .nil) rfl rF rF sR ?_))))))))))
   exact ⟨(vB (decide_eq_true (mem_of_getD (k := k) (by omega) (by omega)))), rfl, rfl⟩
  refine jU (qH (jb (ii ((k : Int))) rfl (cX (yj (((k + 1 : Nat) : Int)) rfl rfl (by omega) (by omega) (jc (ii (((k + 1 : Nat) : Int))) rfl (qI ?_))))))
  exact ⟨k + 1, _, FLe.refl _, rF, ⟨rfl, rfl, rfl, ⟨⟩⟩, sR, ⟨rfl, (by omega), (fun i hi => (Nat.lt_or_ge i k).elim (fun h => hall i h) (fun h => by obtain rfl : i = k := (by omega); omega))⟩, (by omega)⟩
 refine yB (jO (jO (yk (qX (qH (jc (.bool (false)) rfl (qI (jW (jR (L' := L) [.bool (false)] (.bool (false)) (.tmp rfl .nil) rfl rF rF sR ?_)))))))))
 exact ⟨(vB (decide_eq_false (not_mem_of_getD (fun i hi => hall i (by omega))))), rfl, rfl⟩

/- spec.l1In -/
theorem l1In_spec {F : FH} {L : List HP} {n : Int} {a : Int} {b : Int} :
    Does prog 112 [ii (n), ii (a), ii (b)] F (L) (fun v F' L' => (.bool (decide (a ≤ n ∧ n ≤ b)) : Value) = v ∧ F = F' ∧ L = L') := by
 refine ym func112 rfl rfl rfl (qX (qH (jc (.bool (false)) rfl (qI (qX (qH (jb (ii (n)) rfl (jb (ii (a)) rfl (cX (XOp.geq rfl rfl (jb (.bool (decide ((n : Int) ≥ a))) rfl ?_)))))))))))
 by_cases h1 : (n : Int) ≥ a
 ·refine jB (t := 10) rfl (vT h1) (jk (ii (n)) rfl (jB (t := 10) rfl (vT h1) (jk (ii (b)) rfl (jB (t := 10) rfl (vT h1) (XOp.leq rfl rfl (cX (yp (.bool (decide ((n : Int) ≤ b))) (vT h1) rfl (jc (.bool (decide ((n : Int) ≤ b))) rfl (qI (jW (jR (L' := L) [.bool (decide ((n : Int) ≤ b))] (.bool (decide ((n : Int) ≤ b))) (.tmp rfl .nil) rfl rF rF sR ?_)))))))))))
  exact ⟨(vB (decide_eq_decide.2 (by omega))), rfl, rfl⟩
 refine jA (t := 10) rfl (vF h1) (jA (t := 10) rfl (vF h1) (jA (t := 10) rfl (vF h1) (cX (yl (.bool (false)) (vF h1) rfl (jc (.bool (false)) rfl (qI (jW (jR (L' := L) [.bool (false)] (.bool (false)) (.tmp rfl .nil) rfl rF rF sR ?_))))))))
 exact ⟨(vB (decide_eq_false (by omega))), rfl, rfl⟩

/- spec.l1There -/
theorem l1There_spec {F : FH} {L : List HP} {tv : Value} {t : List Int} (ht : IntsF F tv t) {n : Int} (hbd : t.length ≤ 9223372036854775807) :
    Does prog 111 [tv, ii (n)] F (L) (fun v F' L' => (.bool (decide (0 ≤ n ∧ n < (t.length : Int))) : Value) = v ∧ F = F' ∧ L = L') := by
 refine ym func111 rfl rfl rfl (qX (qH (jc (.bool (false)) rfl (qI (qX (qH (jb (ii (n)) rfl (jb (tv) rfl (cX (jZ qU rfl ht.slv (cX (yx (((t.length : Int)) - 1) rfl rfl (by omega) (by omega) (cX (jL (args := [ii (n), ii (0), ii (((t.length : Int)) - 1)]) call112 rfl (l1In_spec (n := n) (a := 0) (b := ((t.length : Int)) - 1)) ?_))))))))))))))
 rintro _ _ _ _ ⟨rfl, rfl, rfl⟩
 refine jc (.bool (decide (0 ≤ n ∧ n ≤ (((t.length : Int)) - 1)))) rfl (qI (jW (jR (L' := L) [.bool (decide (0 ≤ n ∧ n ≤ (((t.length : Int)) - 1)))] (.bool (decide (0 ≤ n ∧ n ≤ (((t.length : Int)) - 1)))) (.tmp rfl .nil) rfl rF rF sR ?_)))
 exact ⟨(vB (decide_eq_decide.2 (by omega))), rfl, rfl⟩

/- spec.l1Arity -/
theorem l1Arity_spec {F : FH} {L : List HP} {arv : Value} {ar : List Int} (har : IntsF F arv ar) {n : Int} (hla : ar.length ≤ 4000000) :
    Does prog 176 [.agg #[arv], ii (n)] F (L) (fun v F' L' => (ii (sArity ar n) : Value) = v ∧ F = F' ∧ L = L') := by
 refine ym func176 rfl rfl rfl (qX (qH (cX (yD [arv] rfl rfl ?_))))
 intro b1
 refine jc (ii (0)) rfl (qI (qX (yf (qX (qH (jb (ii (n)) rfl (cX (jL (args := [ii (n), ii (-24), ii (-1)]) call112 rfl (l1In_spec (n := n) (a := -24) (b := -1)) ?_))))))))
 rintro _ _ _ _ ⟨rfl, rfl, rfl⟩
 refine jc (.bool (decide ((-24) ≤ n ∧ n ≤ (-1)))) rfl (qI ?_)
 refine jV (p := (-24) ≤ n ∧ n ≤ (-1)) rfl (fun h1 => ?_) (fun h1 => ?_)
 ·refine qX (qH (jc (ii (0)) rfl (qI (jW (ya (jw (jR (L' := L) [ii (0)] (ii (0)) (.tmp rfl .nil) rfl rF rF (sD sR) ?_)))))))
  exact ⟨(vI (by unfold sArity; split <;> (try split) <;> first | rfl | omega)), rfl, rfl⟩
 refine qX (qH (jb (ii (n)) rfl (cX (jE (0) Ql rfl jF (by decide) rfl rfl (cX (jj yt rfl (Rd.own [] rfl rfl) (cX (jZ qU rfl har.slv (cX (yx (((ar.length : Int)) - 1) rfl rfl (by omega) (by omega) (cX (jL (args := [ii (n), ii (0), ii (((ar.length : Int)) - 1)]) call112 rfl (l1In_spec (n := n) (a := 0) (b := ((ar.length : Int)) - 1)) ?_))))))))))))
 rintro _ _ _ _ ⟨rfl, rfl, rfl⟩
 refine jc (.bool (decide (0 ≤ n ∧ n ≤ (((ar.length : Int)) - 1)))) rfl (qI ?_)
 refine jV (p := 0 ≤ n ∧ n ≤ (((ar.length : Int)) - 1)) rfl (fun h2 => ?_) (fun h2 => ?_)
 ·refine qX (qH (cX (jE (0) Ql rfl jF (by decide) rfl rfl (cX (jj yt rfl (Rd.own [] rfl rfl) (jb (ii (n)) rfl (cX (jq ((n).toNat) qU js rfl rfl (by omega) har.slv (by omega) (Nat.mul_one _) (cX (jj yd rfl (har.rd (by omega)) (jc (ii (ar.getD ((n).toNat) 0)) rfl (qI (jW (ya (jw (jR (L' := L) [ii (ar.getD ((n).toNat) 0)] (ii (ar.getD ((n).toNat) 0)) (.tmp rfl .nil) rfl rF rF (sD sR) ?_))))))))))))))))
  exact ⟨(vI (by unfold sArity; split <;> (try split) <;> first | rfl | omega)), rfl, rfl⟩
 refine jU (qX (qH (jc (ii (-1)) rfl (qI (jW (jR (L' := L) [ii (-1)] (ii (-1)) (.tmp rfl .nil) rfl rF rF (sD sR) ?_))))))
 exact ⟨(vI (by unfold sArity; split <;> (try split) <;> first | rfl | omega)), rfl, rfl⟩

/- spec.SigOk -/
theorem sSigOk_spec {F : FH} {L : List HP} {arv : Value} {ar : List Int} (har : IntsF F arv ar) (hla : ar.length ≤ 4000000) :
    Does prog 151 [.agg #[arv]] F (L) (fun v F' L' => (.bool (sigOk ar) : Value) = v ∧ F = F' ∧ L = L') := by
 refine ym func151 rfl rfl rfl (qX (qH (cX (yD [arv] rfl rfl ?_))))
 intro b1
 refine jc (.bool (false)) rfl (qI (qX (qX (qH (cX (jE (0) Ql rfl jF (by decide) rfl rfl (cX (jj yt rfl (Rd.own [] rfl rfl) (cX (jZ qU rfl har.slv (cX (jL (args := [ii ((ar.length : Int)), ii (1), ii (8)]) call112 rfl (l1In_spec (n := (ar.length : Int)) (a := 1) (b := 8)) ?_))))))))))))
 rintro _ _ _ _ ⟨rfl, rfl, rfl⟩
 refine cX (Qw rfl (qI ?_))
 refine jV (p := ¬(1 ≤ ((ar.length : Int)) ∧ ((ar.length : Int)) ≤ 8)) rfl (fun h1 => ?_) (fun h1 => ?_)
 ·refine qX (qH (jc (.bool (false)) rfl (qI (jW (jw (jR (L' := L) [.bool (false)] (.bool (false)) (.tmp rfl .nil) rfl rF rF (sD sR) ?_))))))
  exact ⟨(vB (sigOk_short (by omega))), rfl, rfl⟩
 refine jU (qX (qX (qH (jc (ii (0)) rfl (qI (yf (yI (α := Nat) (fun k => [(1, ptr b1 0), (3, ii ((k : Int)))]) (fun k => cellsH b1 [arv] 29 :: L) (fun k F' => F = F' ∧ (k ≤ ar.length) ∧ (∀ i, i < k → 0 ≤ ar.getD i 0 ∧ ar.getD i 0 ≤ 3)) (fun k => ar.length - k) 0 ⟨rfl, rfl, ⟨⟩⟩ (sC sR) ⟨rfl, (by omega), (fun i hi => absurd hi (by omega))⟩ ?_)))))))
 rintro k rE _ _ ⟨rfl, hk, hall⟩
 show X _ _ _ _ (envs [(1, ptr b1 0), (3, ii ((k : Int)))] rE) _ (cellsH b1 [arv] 29 :: L)
 refine qX (qX (qH (jb (ii ((k : Int))) rfl (cX (jE (0) Ql rfl jF (by decide) rfl rfl (cX (jj yt rfl (Rd.own [] rfl rfl) (cX (jZ qU rfl har.slv (cX (yo rfl rfl (qI ?_))))))))))))
 refine jV (p := (k : Int) < (ar.length : Int)) rfl (fun h2 => ?_) (fun h2 => ?_)
 ·refine jU (qX (yf (qX (qH (cX (jE (0) Ql rfl jF (by decide) rfl rfl (cX (jj yt rfl (Rd.own [] rfl rfl) (jb (ii ((k : Int))) rfl (cX (jq k qU js rfl rfl rfl har.slv (by omega) (Nat.mul_one _) (cX (jj yd rfl (har.rd (by omega)) (cX (jL (args := [ii (ar.getD k 0), ii (0), ii (3)]) call112 rfl (l1In_spec (n := ar.getD k 0) (a := 0) (b := 3)) ?_)))))))))))))))
  rintro _ _ _ _ ⟨rfl, rfl, rfl⟩
  refine cX (Qw rfl (qI ?_))
  refine jV (p := ¬(0 ≤ (ar.getD k 0) ∧ (ar.getD k 0) ≤ 3)) rfl (fun h3 => ?_) (fun h3 => ?_)
  ·refine qX (qH (jc (.bool (false)) rfl (qI (jW (ya (jw (jw (ya (jw (jR (L' := L) [.bool (false)] (.bool (false)) (.tmp rfl .nil) rfl rF rF (sD sR) ?_))))))))))
   exact ⟨(vB (sigOk_bad (i := k) (by omega) (by omega))), rfl, rfl⟩
  refine jU (qH (jb (ii ((k : Int))) rfl (cX (yj (((k + 1 : Nat) : Int)) rfl rfl (by omega) (by omega) (jc (ii (((k + 1 : Nat) : Int))) rfl (qI ?_))))))
  exact ⟨k + 1, _, FLe.refl _, rF, ⟨rfl, rfl, ⟨⟩⟩, (sC sR), ⟨rfl, (by omega), (fun i hi => (Nat.lt_or_ge i k).elim (fun h => hall i h) (fun h => by obtain rfl : i = k := (by omega); omega))⟩, (by omega)⟩
 refine yB (jO (jO (yk (qX (qH (jc (.bool (true)) rfl (qI (jW (jR (L' := L) [.bool (true)] (.bool (true)) (.tmp rfl .nil) rfl rF rF (sD sR) ?_)))))))))
 exact ⟨(vB (sigOk_of (by omega) (by omega) (fun i hi => hall i (by omega)))), rfl, rfl⟩

/- spec.l1End -/
theorem l1End_spec {F : FH} {L : List HP} {arv : Value} {ar : List Int} (har : IntsF F arv ar) {tv : Value} {t : List Int} (ht : IntsF F tv t) {p0 : Nat} (hs : sigOk ar = true) (hlt : t.length ≤ 4000000) (hp : p0 ≤ t.length) :
    Does prog 152 [.agg #[arv], tv, ii ((p0 : Int))] F (L) (fun v F' L' => (ii (sEndZ ar t p0) : Value) = v ∧ F = F' ∧ L = L') := by
 refine ym func152 rfl rfl rfl ?_
 have hsl := sigOk_spec hs
 refine qX (qH (cX (yD [arv] rfl rfl ?_)))
 intro b1
 refine jc (ii (0)) rfl (qI (qX (qH (jc (ii (1)) rfl (qI (qX (qX (qH (jb (ii ((p0 : Int))) rfl (jc (ii ((p0 : Int))) rfl (qI (yf (yI (α := Nat × Nat) (fun xQ => [(1, tv), (3, ptr b1 0), (7, ii (((xQ.1 : Nat) : Int))), (8, ii (((xQ.2 : Nat) : Int)))]) (fun xQ => cellsH b1 [arv] 29 :: L) (fun xQ F' => F = F' ∧ (sEndGo ar (t.drop p0) 1 = (sEndGo ar (t.drop xQ.2) xQ.1).map (· + (xQ.2 - p0))) ∧ (p0 ≤ xQ.2 ∧ xQ.2 ≤ t.length) ∧ (1 ≤ xQ.1 ∧ xQ.1 ≤ 1 + 3 * xQ.2)) (fun xQ => t.length - xQ.2) (1, p0) ⟨rfl, rfl, rfl, rfl, ⟨⟩⟩ (sC sR) ⟨rfl, (by simp), (by omega), (by omega)⟩ ?_)))))))))))))
 rintro ⟨k, p⟩ rE _ _ ⟨rfl, hi, h1, h2⟩
 show X _ _ _ _ (envs [(1, tv), (3, ptr b1 0), (7, ii ((k : Int))), (8, ii ((p : Int)))] rE) _ (cellsH b1 [arv] 29 :: L)
 dsimp only at hi h1 h2
 refine qX (qX (qH (jb (ii ((p : Int))) rfl (jb (tv) rfl (cX (jZ qU rfl ht.slv (cX (yo rfl rfl (qI ?_)))))))))
 refine jV (p := (p : Int) < (t.length : Int)) rfl (fun h1 => ?_) (fun h1 => ?_)
 ·refine jU (qX (yf (qX ?_)))
  refine yN [cellsH b1 [arv] 29] L 5 [] [[], [], [], [1, 2], [3]] (phiL [qe (.agg #[arv]), qe tv, qe (ii ((p : Int)) : Value), qe (.pointer (some (elemA tv (p)))), qe (ii (t.getD p 0))]) (ownL []) mixed rfl rfl (by kernel_rfl) ?_ ?_
  ·refine pD (fun W R z9 => ?_) ?_
   ·refine je (yc [arv] yF ys rfl rfl (Rd.ownN [] rfl rfl) ?_)
    exact ⟨rfl, rfl, rfl⟩
   refine pD (fun W R z9 => ?_) ?_
   ·refine je (jk (tv) rfl ?_)
    exact ⟨rfl, rfl, rfl⟩
   refine pD (fun W R z9 => ?_) ?_
   ·refine je (jk (ii ((p : Int))) rfl ?_)
    exact ⟨rfl, rfl, rfl⟩
   refine pD (fun W R z9 => ?_) ?_
   ·rw [eS (l := [(1, _), (2, _)]) ⟨z9 1 rfl, z9 2 rfl, ⟨⟩⟩]
    refine je (jq p qU js rfl rfl rfl ht.slv (by omega) (Nat.mul_one _) ?_)
    exact ⟨rfl, rfl, rfl⟩
   refine pD (fun W R z9 => ?_) ?_
   ·rw [eS (l := [(3, _)]) ⟨z9 3 rfl, ⟨⟩⟩]
    refine je (jj yd rfl (ht.rd (by omega)) ?_)
    exact ⟨rfl, rfl, rfl⟩
   exact stepsP.nil
  intro W hphi
  rw [eS (l := [(0, _), (4, _)]) ⟨(hphi 0 (by decide)), (hphi 4 (by decide)), ⟨⟩⟩]
  show XL _ _ _ _ _ _ _ (cellsH b1 [arv] 29 :: L)
  refine cX (jL (args := [.agg #[arv], ii (t.getD p 0)]) call176 rfl (l1Arity_spec (n := t.getD p 0) har (hla := (by first | assumption | rfl | omega | simp))) ?_)
  rintro _ _ _ _ ⟨rfl, rfl, rfl⟩
  refine jc (ii (sArity ar (t.getD p 0))) rfl (qI (qX (qX (qH (jb (ii (sArity ar (t.getD p 0))) rfl (cX (yo rfl rfl (qI ?_))))))))
  refine jV (p := (sArity ar (t.getD p 0) : Int) < 0) rfl (fun h2 => ?_) (fun h2 => ?_)
  ·rw [sArity_neg hs] at h2
   refine qX (qH (jc (ii (-1)) rfl (qI (jW (jw (ya (jw (jw (ya (jw (jR (L' := L) [ii (-1)] (ii (-1)) (.tmp rfl .nil) rfl rF rF (sD sR) ?_)))))))))))
   exact ⟨(vI (by unfold sEndZ; rw [hi, sEndGo_none (by omega) (by omega)]; rfl)), rfl, rfl⟩
  have hA : -24 ≤ t.getD p 0 ∧ t.getD p 0 < ar.length := by rw [sArity_neg hs] at h2; omega
  have hB := arity_le hs hA.2
  have hC := sArity_eq hA
  refine jU (qX (qH (jb (ii ((k : Int))) rfl (jb (ii (sArity ar (t.getD p 0))) rfl (cX (yj (((k + (arity ar (t.getD p 0)).toNat : Nat) : Int)) rfl rfl (by omega) (by omega) (cX (yx (((k - 1 + (arity ar (t.getD p 0)).toNat : Nat) : Int)) rfl rfl (by omega) (by omega) (jc (ii (((k - 1 + (arity ar (t.getD p 0)).toNat : Nat) : Int))) rfl (qI (qX (qH (jb (ii (((k - 1 + (arity ar (t.getD p 0)).toNat : Nat) : Int))) rfl (cX (yU rfl rfl (qI ?_))))))))))))))))
  refine jV (p := (((k - 1 + (arity ar (t.getD p 0)).toNat : Nat) : Int) : Int) = 0) rfl (fun h3 => ?_) (fun h3 => ?_)
  ·refine qX (qH (jb (ii ((p : Int))) rfl (cX (yj (((p + 1 : Nat) : Int)) rfl rfl (by omega) (by omega) (jc (ii (((p + 1 : Nat) : Int))) rfl (qI (jW (ya (jw (jw (ya (jw (jR (L' := L) [ii (((p + 1 : Nat) : Int))] (ii (((p + 1 : Nat) : Int))) (.tmp rfl .nil) rfl rF rF (sD sR) ?_)))))))))))))
   exact ⟨(vI (by have hz := sEndGo_step (ar := ar) (t := t) (p := p) (k := k) (by omega) (by omega) hA; rw [show k - 1 + (arity ar (t.getD p 0)).toNat = 0 from by omega] at hz; unfold sEndZ; rw [hi, hz]; simp [sEndGo]; omega)), rfl, rfl⟩
  refine jU (qH (jb (ii ((p : Int))) rfl (cX (yj (((p + 1 : Nat) : Int)) rfl rfl (by omega) (by omega) (jc (ii (((p + 1 : Nat) : Int))) rfl (qI ?_))))))
  exact ⟨(k - 1 + (arity ar (t.getD p 0)).toNat, p + 1), _, FLe.refl _, rF, ⟨rfl, rfl, rfl, rfl, ⟨⟩⟩, (sC sR), ⟨rfl, (by rw [hi, sEndGo_step (by omega) (by omega) (by omega), Option.map_map]; congr 1; funext e; simp; omega), (by omega), (by omega)⟩, (by omega)⟩
 refine yB (jO (jO (yk (qX (qH (jc (ii (-1)) rfl (qI (jW (jR (L' := L) [ii (-1)] (ii (-1)) (.tmp rfl .nil) rfl rF rF (sD sR) ?_)))))))))
 exact ⟨(vI (by unfold sEndZ; rw [hi, sEndGo_none (by omega) (by omega)]; rfl)), rfl, rfl⟩

/- impl.TermOk -/
theorem TermOk_spec {F : FH} {L : List HP} {arv : Value} {ar : List Int} (har : IntsF F arv ar) {tv : Value} {t : List Int} (ht : IntsF F tv t) :
    Does prog 79 [.agg #[arv], tv] F (L) (fun v F' L' => (.bool (termOk ar t) : Value) = v ∧ F = F' ∧ L = L') := by
 refine ym func79 rfl rfl rfl (qX (qH (cX (yD [arv] rfl rfl ?_))))
 intro b1
 refine jc (.bool (false)) rfl (qI (qX (qH (cX (yc [arv] yF ys rfl rfl (Rd.ownN [] rfl rfl) (cX (jL (args := [.agg #[arv]]) call148 rfl (SigOk_spec har) ?_)))))))
 rintro _ _ _ _ ⟨rfl, rfl, rfl⟩
 refine jb (.bool (sigOk ar)) rfl ?_
 by_cases h1 : (sigOk ar) = true
 ·refine jB (t := 7) rfl (vB h1) (jk (tv) rfl (jB (t := 7) rfl (vB h1) (jZ qU rfl ht.slv (jB (t := 7) rfl (vB h1) (Qf rfl rfl (cX (yp (.bool (decide (((t.length : Int) : Int) > 0))) (vB h1) rfl (jb (.bool (decide (((t.length : Int) : Int) > 0))) rfl ?_))))))))
  by_cases h2 : ((t.length : Int) : Int) > 0
  ·refine jB (t := 12) rfl (vT h2) (jk (tv) rfl (jB (t := 12) rfl (vT h2) (jZ qU rfl ht.slv (jB (t := 12) rfl (vT h2) (XOp.leq rfl rfl (cX (yp (.bool (decide (((t.length : Int) : Int) ≤ 60))) (vT h2) rfl (jb (.bool (decide (((t.length : Int) : Int) ≤ 60))) rfl ?_))))))))
   by_cases h3 : ((t.length : Int) : Int) ≤ 60
   ·refine jB (t := 17) rfl (vT h3) (jk (tv) rfl (jB (t := 17) rfl (vT h3) (jL (args := [tv]) call149 rfl (Min_spec ht (h1 := (by first | assumption | rfl | omega | simp)) (hbd := (by first | assumption | rfl | omega | simp))) ?_)))
    rintro _ _ _ _ ⟨rfl, rfl, rfl⟩
    refine jB (t := 17) rfl (vT h3) (XOp.geq rfl rfl (cX (yp (.bool (decide ((minL t : Int) ≥ -24))) (vT h3) rfl (jb (.bool (decide ((minL t : Int) ≥ -24))) rfl ?_))))
    by_cases h4 : (minL t : Int) ≥ -24
    ·refine jB (t := 22) rfl (vT h4) (yc [arv] yF ys rfl rfl (Rd.ownN [] rfl rfl) (jB (t := 22) rfl (vT h4) (jk (tv) rfl (jB (t := 22) rfl (vT h4) (jL (args := [.agg #[arv], tv, ii ((0 : Nat) : Int)]) call150 rfl (endAt_spec (p := 0) har ht (hs := (by first | assumption | rfl | omega | simp)) (hb := (by first | assumption | rfl | omega | simp)) (hp := (by first | assumption | rfl | omega | simp))) ?_)))))
     rintro _ _ _ _ ⟨rfl, rfl, rfl⟩
     refine jB (t := 22) rfl (vT h4) (jk (tv) rfl (jB (t := 22) rfl (vT h4) (jZ qU rfl ht.slv (jB (t := 22) rfl (vT h4) (yU rfl rfl (cX (yp (.bool (decide ((endZ ar t 0 : Int) = (t.length : Int)))) (vT h4) rfl (jc (.bool (decide ((endZ ar t 0 : Int) = (t.length : Int)))) rfl (qI (jW (jR (L' := L) [.bool (decide ((endZ ar t 0 : Int) = (t.length : Int)))] (.bool (decide ((endZ ar t 0 : Int) = (t.length : Int)))) (.tmp rfl .nil) rfl rF rF (sD sR) ?_)))))))))))
     exact ⟨(vB (termOk_of (by assumption) (by omega) (by omega) (by omega))), rfl, rfl⟩
    refine jA (t := 22) rfl (vF h4) (jA (t := 22) rfl (vF h4) (jA (t := 22) rfl (vF h4) (jA (t := 22) rfl (vF h4) (jA (t := 22) rfl (vF h4) (jA (t := 22) rfl (vF h4) (cX (yl (.bool (false)) (vF h4) rfl (jc (.bool (false)) rfl (qI (jW (jR (L' := L) [.bool (false)] (.bool (false)) (.tmp rfl .nil) rfl rF rF (sD sR) ?_)))))))))))
    exact ⟨(vB (by first | (refine termOk_nosig ?_; assumption) | (refine termOk_short ?_; omega) | (refine termOk_min ?_ ?_ <;> omega))), rfl, rfl⟩
   refine jA (t := 17) rfl (vF h3) (jA (t := 17) rfl (vF h3) (jA (t := 17) rfl (vF h3) (cX (yl (.bool (false)) (vF h3) rfl (jb (.bool (false)) rfl (jA (t := 22) rfl rfl (jA (t := 22) rfl rfl (jA (t := 22) rfl rfl (jA (t := 22) rfl rfl (jA (t := 22) rfl rfl ?_))))))))))
   refine jA (t := 22) rfl rfl (cX (yl (.bool (false)) rfl rfl (jc (.bool (false)) rfl (qI (jW (jR (L' := L) [.bool (false)] (.bool (false)) (.tmp rfl .nil) rfl rF rF (sD sR) ?_))))))
   exact ⟨(vB (by first | (refine termOk_nosig ?_; assumption) | (refine termOk_short ?_; omega) | (refine termOk_min ?_ ?_ <;> omega))), rfl, rfl⟩
  refine jA (t := 12) rfl (vF h2) (jA (t := 12) rfl (vF h2) (jA (t := 12) rfl (vF h2) (cX (yl (.bool (false)) (vF h2) rfl (jb (.bool (false)) rfl (jA (t := 17) rfl rfl (jA (t := 17) rfl rfl (jA (t := 17) rfl rfl (cX (yl (.bool (false)) rfl rfl (jb (.bool (false)) rfl ?_)))))))))))
  refine jA (t := 22) rfl rfl (jA (t := 22) rfl rfl (jA (t := 22) rfl rfl (jA (t := 22) rfl rfl (jA (t := 22) rfl rfl (jA (t := 22) rfl rfl (cX (yl (.bool (false)) rfl rfl (jc (.bool (false)) rfl (qI (jW (jR (L' := L) [.bool (false)] (.bool (false)) (.tmp rfl .nil) rfl rF rF (sD sR) ?_)))))))))))
  exact ⟨(vB (by first | (refine termOk_nosig ?_; assumption) | (refine termOk_short ?_; omega) | (refine termOk_min ?_ ?_ <;> omega))), rfl, rfl⟩
 rw [Bool.not_eq_true] at h1
 refine jA (t := 7) rfl (vB h1) (jA (t := 7) rfl (vB h1) (jA (t := 7) rfl (vB h1) (cX (yl (.bool (false)) (vB h1) rfl (jb (.bool (false)) rfl (jA (t := 12) rfl rfl (jA (t := 12) rfl rfl (jA (t := 12) rfl rfl (cX (yl (.bool (false)) rfl rfl (jb (.bool (false)) rfl ?_)))))))))))
 refine jA (t := 17) rfl rfl (jA (t := 17) rfl rfl (jA (t := 17) rfl rfl (cX (yl (.bool (false)) rfl rfl (jb (.bool (false)) rfl (jA (t := 22) rfl rfl (jA (t := 22) rfl rfl (jA (t := 22) rfl rfl (jA (t := 22) rfl rfl (jA (t := 22) rfl rfl ?_))))))))))
 refine jA (t := 22) rfl rfl (cX (yl (.bool (false)) rfl rfl (jc (.bool (false)) rfl (qI (jW (jR (L' := L) [.bool (false)] (.bool (false)) (.tmp rfl .nil) rfl rF rF (sD sR) ?_))))))
 exact ⟨(vB (by first | (refine termOk_nosig ?_; assumption) | (refine termOk_short ?_; omega) | (refine termOk_min ?_ ?_ <;> omega))), rfl, rfl⟩

/- spec.TermOk -/
theorem sTermOk_spec {F : FH} {L : List HP} {arv : Value} {ar : List Int} (har : IntsF F arv ar) {tv : Value} {t : List Int} (ht : IntsF F tv t) (hla : ar.length ≤ 4000000) (hlt : t.length ≤ 4000000) :
    Does prog 81 [.agg #[arv], tv] F (L) (fun v F' L' => (.bool (termOk ar t) : Value) = v ∧ F = F' ∧ L = L') := by
 refine ym func81 rfl rfl rfl (qX (qH (cX (yD [arv] rfl rfl ?_))))
 intro b1
 refine jc (.bool (false)) rfl (qI (qX (qH (cX (yc [arv] yF ys rfl rfl (Rd.ownN [] rfl rfl) (cX (jL (args := [.agg #[arv]]) call151 rfl (sSigOk_spec har (hla := (by first | assumption | rfl | omega | simp))) ?_)))))))
 rintro _ _ _ _ ⟨rfl, rfl, rfl⟩
 refine jb (.bool (sigOk ar)) rfl ?_
 by_cases h1 : (sigOk ar) = true
 ·refine jB (t := 7) rfl (vB h1) (jk (tv) rfl (jB (t := 7) rfl (vB h1) (jZ qU rfl ht.slv (jB (t := 7) rfl (vB h1) (jL (args := [ii ((t.length : Int)), ii (1), ii (60)]) call112 rfl (l1In_spec (n := (t.length : Int)) (a := 1) (b := 60)) ?_)))))
  rintro _ _ _ _ ⟨rfl, rfl, rfl⟩
  refine cX (yp (.bool (decide (1 ≤ ((t.length : Int)) ∧ ((t.length : Int)) ≤ 60))) (vB h1) rfl (jb (.bool (decide (1 ≤ ((t.length : Int)) ∧ ((t.length : Int)) ≤ 60))) rfl ?_))
  by_cases h2 : 1 ≤ ((t.length : Int)) ∧ ((t.length : Int)) ≤ 60
  ·refine jB (t := 12) rfl (vT h2) (yc [arv] yF ys rfl rfl (Rd.ownN [] rfl rfl) (jB (t := 12) rfl (vT h2) (jk (tv) rfl (jB (t := 12) rfl (vT h2) (jL (args := [.agg #[arv], tv, ii ((0 : Nat) : Int)]) call152 rfl (l1End_spec (p0 := 0) har ht (hs := (by first | assumption | rfl | omega | simp)) (hlt := (by first | assumption | rfl | omega | simp)) (hp := (by first | assumption | rfl | omega | simp))) ?_)))))
   rintro _ _ _ _ ⟨rfl, rfl, rfl⟩
   refine jB (t := 12) rfl (vT h2) (jk (tv) rfl (jB (t := 12) rfl (vT h2) (jZ qU rfl ht.slv (jB (t := 12) rfl (vT h2) (yU rfl rfl (cX (yp (.bool (decide ((sEndZ ar t 0 : Int) = (t.length : Int)))) (vT h2) rfl (jc (.bool (decide ((sEndZ ar t 0 : Int) = (t.length : Int)))) rfl (qI (jW (jR (L' := L) [.bool (decide ((sEndZ ar t 0 : Int) = (t.length : Int)))] (.bool (decide ((sEndZ ar t 0 : Int) = (t.length : Int)))) (.tmp rfl .nil) rfl rF rF (sD sR) ?_)))))))))))
   exact ⟨(vB (termOk_s (by assumption) (by omega))), rfl, rfl⟩
  refine jA (t := 12) rfl (vF h2) (jA (t := 12) rfl (vF h2) (jA (t := 12) rfl (vF h2) (jA (t := 12) rfl (vF h2) (jA (t := 12) rfl (vF h2) (jA (t := 12) rfl (vF h2) (cX (yl (.bool (false)) (vF h2) rfl (jc (.bool (false)) rfl (qI (jW (jR (L' := L) [.bool (false)] (.bool (false)) (.tmp rfl .nil) rfl rF rF (sD sR) ?_)))))))))))
  exact ⟨(vB (by first | (refine termOk_nosig ?_; assumption) | (refine termOk_short ?_; omega))), rfl, rfl⟩
 rw [Bool.not_eq_true] at h1
 refine jA (t := 7) rfl (vB h1) (jA (t := 7) rfl (vB h1) (jA (t := 7) rfl (vB h1) (cX (yl (.bool (false)) (vB h1) rfl (jb (.bool (false)) rfl (jA (t := 12) rfl rfl (jA (t := 12) rfl rfl (jA (t := 12) rfl rfl (jA (t := 12) rfl rfl (jA (t := 12) rfl rfl ?_))))))))))
 refine jA (t := 12) rfl rfl (cX (yl (.bool (false)) rfl rfl (jc (.bool (false)) rfl (qI (jW (jR (L' := L) [.bool (false)] (.bool (false)) (.tmp rfl .nil) rfl rF rF (sD sR) ?_))))))
 exact ⟨(vB (by first | (refine termOk_nosig ?_; assumption) | (refine termOk_short ?_; omega))), rfl, rfl⟩

theorem endAt_ok {F : FH} {L : List HP} {p : Nat} {arv : Value} {ar : List Int} (har : IntsF F arv ar) {tv : Value} {t : List Int} (ht : IntsF F tv t) (ho : termOk ar t = true) (hp : p < t.length) :
    Does prog 150 [.agg #[arv], tv, ii (p : Int)] F L (fun v F' L' => (ii ((endN ar t p : Nat) : Int) : Value) = v ∧ F = F' ∧ L = L') := by
  have hl := termOk_len ho
  have h := endAt_spec (F := F) (L := L) (p := p) har ht (termOk_sig ho) (by omega) (by omega)
  rw [endZ_endN ho hp] at h
  exact h

theorem l1End_ok {F : FH} {L : List HP} {p : Nat} {arv : Value} {ar : List Int} (har : IntsF F arv ar) {tv : Value} {t : List Int} (ht : IntsF F tv t) (ho : termOk ar t = true) (hp : p < t.length) :
    Does prog 152 [.agg #[arv], tv, ii (p : Int)] F L (fun v F' L' => (ii ((endN ar t p : Nat) : Int) : Value) = v ∧ F = F' ∧ L = L') := by
  have hl := termOk_len ho
  have h := l1End_spec (F := F) (L := L) (p0 := p) har ht (termOk_sig ho) (by omega) (by omega)
  rw [sEndZ_endN ho hp] at h
  exact h


/- impl.subAt -/
theorem subAt_spec {F : FH} {L : List HP} {arv : Value} {ar : List Int} (har : IntsF F arv ar) {tv : Value} {t : List Int} (ht : IntsF F tv t) {p : Nat} (ho : termOk ar t = true) (hp : p < t.length) (hnn : isNil tv = false) :
    Does prog 224 [.agg #[arv], tv, ii ((p : Int))] F (L) (fun v F' L' => F = F' ∧ L = L' ∧ IntsF F v (sub ar t p) ∧ isNil v = false) := by
 refine ym func224 rfl rfl rfl ?_
 have hsl := sigOk_spec (termOk_sig ho)
 have htl := termOk_len ho
 have hsig := termOk_sig ho
 have hee := endN_spec ho hp
 refine qX (qH (cX (yD [arv] rfl rfl ?_)))
 intro b1
 refine jc (sN) rfl (qI (qX (qH (jb (tv) rfl (jb (ii ((p : Int))) rfl (cX (yc [arv] yF ys rfl rfl (Rd.ownN [] rfl rfl) (jb (tv) rfl (jb (ii ((p : Int))) rfl (cX (jL (args := [.agg #[arv], tv, ii (p : Int)]) call150 rfl (endAt_ok (p := p) har ht (ho := (by first | assumption | rfl | omega | (left; simp; done) | (right; simp; done))) (hp := (by first | assumption | rfl | omega | (left; simp; done) | (right; simp; done)))) ?_)))))))))))
 rintro _ _ _ _ ⟨rfl, rfl, rfl⟩
 refine cX (Qp p (endN ar t p) qU js rfl ht ⟨_, rfl⟩ ⟨_, rfl⟩ (by omega) (by omega) ?_)
 intro v1 hv1 hn1
 refine jc (v1) rfl (qI (jW (jR (L' := L) [v1] (v1) (.tmp rfl .nil) rfl rF rF (sD sR) ?_)))
 exact ⟨rfl, rfl, hv1, by rw [hn1]; exact hnn⟩

/- spec.l1Copy -/
theorem l1Copy_spec {F : FH} {L : List HP} {tv : Value} {t : List Int} (ht : IntsF F tv t) (hlt : t.length ≤ 4000000) :
    Does prog 193 [tv] F (L) (fun v F' L' => F = F' ∧ IsSl v ∧ intsH 2 v t :: L = L') := by
 refine ym func193 rfl rfl rfl (qX (qH (jc (sN) rfl (qI (qX (qH (cX (jQ (s := 1) [] [ii (0)] [] qU js yv rfl (by decide) rfl CellsAre.nil rfl ?_))))))))
 intro v1 hv1
 refine jb (tv) rfl ?_
 show XL _ _ _ _ _ _ _ (intsH 2 v1 ([] : List Int) :: L)
 refine cX (Qk [] _ qU typeInfo2 rfl rfl rfl rfl rfl rfl ht (by (try simp only [List.length_append, List.length_nil, List.length_cons, List.length_singleton, List.length_take, List.length_drop]); omega) ?_)
 intro v2 hs1 hn1 hm1
 refine jc (v2) rfl (qI (jW (jR (L' := intsH 2 v2 (([] : List Int) ++ t) :: L) [v2] (v2) (.tmp rfl .nil) rfl rF rF (sC sR) ?_)))
 refine ⟨rfl, hs1, ?_⟩
 have hxs : (t : List Int) = ([] : List Int) ++ t := by simp
 exact congrArg (fun z => intsH 2 _ z :: L) hxs

/- slices.Clone[[]int64,int64] -/
theorem Clone_spec {F : FH} {L : List HP} {tv : Value} {t : List Int} (ht : IntsF F tv t) (hlt : t.length ≤ 4000000) :
    Does prog 188 [tv] F (L) (fun v F' L' => F = F' ∧ IsSl v ∧ intsH 2 v t :: L = L') := by
 refine ym func188 rfl rfl rfl (qX (qH (jc (sN) rfl (qI (qX (qX (qH (jb (tv) rfl (cX (XOp.eqNil qU rfl rfl (yi ht) (qI ?_)))))))))))
 refine X.cond (t := isNil tv) rfl (fun h1 => ?_) (fun h1 => ?_)
 ·refine qX (qH (jc (sN) rfl (qI (jW (jw (jR (L' := intsH 2 (sN) ([]) :: L) [sN] (sN) (.tmp rfl .nil) rfl rF rF (yn (intsH.addNil 2 none _) (sC sR)) ?_))))))
  refine ⟨rfl, ⟨_, _, _, rfl⟩, ?_⟩
  have hxs : (t : List Int) = [] := by exact nil_of_isNil ht h1
  exact congrArg (fun z => intsH 2 _ z :: L) hxs
 refine jU (qX (qH (cX (jQ (s := 1) [] [ii (0)] [] qU js yv rfl (by decide) rfl CellsAre.nil rfl ?_))))
 intro v1 hv1
 refine jb (tv) rfl ?_
 show XL _ _ _ _ _ _ _ (intsH 2 v1 ([] : List Int) :: L)
 refine cX (Qk [] _ qU typeInfo2 rfl rfl rfl rfl rfl rfl ht (by (try simp only [List.length_append, List.length_nil, List.length_cons, List.length_singleton, List.length_take, List.length_drop]); omega) ?_)
 intro v2 hs1 hn1 hm1
 refine jc (v2) rfl (qI (jW (jR (L' := intsH 2 v2 (([] : List Int) ++ t) :: L) [v2] (v2) (.tmp rfl .nil) rfl rF rF (sC sR) ?_)))
 refine ⟨rfl, hs1, ?_⟩
 have hxs : (t : List Int) = ([] : List Int) ++ t := by simp
 exact congrArg (fun z => intsH 2 _ z :: L) hxs

/- spec.l1Sub -/
theorem l1Sub_spec {F : FH} {L : List HP} {arv : Value} {ar : List Int} (har : IntsF F arv ar) {tv : Value} {t : List Int} (ht : IntsF F tv t) {p : Nat} (ho : termOk ar t = true) (hp : p < t.length) :
    Does prog 174 [.agg #[arv], tv, ii ((p : Int))] F (L) (fun v F' L' => F = F' ∧ IsSl v ∧ intsH 2 v (sub ar t p) :: L = L') := by
 refine ym func174 rfl rfl rfl ?_
 have hsl := sigOk_spec (termOk_sig ho)
 have htl := termOk_len ho
 have hsig := termOk_sig ho
 have hee := endN_spec ho hp
 refine qX (qH (cX (yD [arv] rfl rfl ?_)))
 intro b1
 refine jc (sN) rfl (qI (qX (qH (jb (tv) rfl (jb (ii ((p : Int))) rfl (cX (yc [arv] yF ys rfl rfl (Rd.ownN [] rfl rfl) (jb (tv) rfl (jb (ii ((p : Int))) rfl (cX (jL (args := [.agg #[arv], tv, ii (p : Int)]) call152 rfl (l1End_ok (p := p) har ht (ho := (by first | assumption | rfl | omega | (left; simp; done) | (right; simp; done))) (hp := (by first | assumption | rfl | omega | (left; simp; done) | (right; simp; done)))) ?_)))))))))))
 rintro _ _ _ _ ⟨rfl, rfl, rfl⟩
 refine cX (Qp p (endN ar t p) qU js rfl ht ⟨_, rfl⟩ ⟨_, rfl⟩ (by omega) (by omega) ?_)
 intro v1 hv1 hn1
 refine cX (jL (args := [v1]) call193 rfl (l1Copy_spec hv1 (hlt := (by rw [List.length_take, List.length_drop]; omega))) ?_)
 rintro v2 _ _ _ ⟨rfl, hs1, rfl⟩
 refine jc (v2) rfl (qI (jW (jR (L' := intsH 2 v2 (((((t.drop p).take ((endN ar t p) - p))))) :: L) [v2] (v2) (.tmp rfl .nil) rfl rF rF (sC (sD sR)) ?_)))
 refine ⟨rfl, hs1, ?_⟩
 have hxs : (sub ar t p : List Int) = ((((t.drop p).take ((endN ar t p) - p)))) := rfl
 exact congrArg (fun z => intsH 2 _ z :: L) hxs

/- impl.RuleOk -/
theorem RuleOk_spec {F : FH} {L : List HP} {arv : Value} {ar : List Int} (har : IntsF F arv ar) {lv : Value} {l : List Int} (hl : IntsF F lv l) {rv : Value} {r : List Int} (hr : IntsF F rv r) :
    Does prog 170 [.agg #[arv], .agg #[lv, rv]] F (L) (fun v F' L' => (.bool (ruleOk ar l r) : Value) = v ∧ F = F' ∧ L = L') := by
 refine ym func170 rfl rfl rfl (qX (qH (cX (yD [arv] rfl rfl ?_))))
 intro b1
 refine cX (yD [lv, rv] rfl rfl ?_)
 intro b2
 refine jc (.bool (false)) rfl (qI (qX (qX (qH (cX (yc [arv] yF ys rfl rfl (Rd.ownN [_] rfl rfl) (cX (jE (0) yu rfl jF (by decide) rfl rfl (cX (jj yt rfl (Rd.own [] rfl rfl) (cX (jL (args := [.agg #[arv], lv]) call79 rfl (TermOk_spec har hl) ?_))))))))))))
 rintro _ _ _ _ ⟨rfl, rfl, rfl⟩
 refine cX (yR rfl (jb (.bool (!(termOk ar l))) rfl ?_))
 by_cases h1 : (!(termOk ar l)) = true
 ·refine jA (t := 12) rfl (vB h1) (jA (t := 12) rfl (vB h1) (jA (t := 12) rfl (vB h1) (jA (t := 12) rfl (vB h1) (jA (t := 12) rfl (vB h1) (cX (yp (.bool (true)) (vB h1) rfl (jb (.bool (true)) rfl (jA (t := 19) rfl rfl (jA (t := 19) rfl rfl (jA (t := 19) rfl rfl ?_))))))))))
  refine jA (t := 19) rfl rfl (jA (t := 19) rfl rfl (cX (yp (.bool (true)) rfl rfl (qI (yX rfl (qX (qH (jc (.bool (false)) rfl (qI (jW (jw (jR (L' := L) [.bool (false)] (.bool (false)) (.tmp rfl .nil) rfl rF rF (sD (sD sR)) ?_))))))))))))
  exact ⟨(vB (ruleOk_false (fun h => by have := h.left; have := h.right; have := h.head; simp_all <;> omega))), rfl, rfl⟩
 rw [Bool.not_eq_true] at h1
 have hlo : termOk ar l = true := by simpa using h1
 have hl60 := termOk_len hlo
 refine jB (t := 12) rfl (vB h1) (yc [arv] yF ys rfl rfl (Rd.ownN [_] rfl rfl) (jB (t := 12) rfl (vB h1) (jE (1) yu rfl jF (by decide) rfl rfl (jB (t := 12) rfl (vB h1) (jj yt rfl (Rd.own [] rfl rfl) (jB (t := 12) rfl (vB h1) (jL (args := [.agg #[arv], rv]) call79 rfl (TermOk_spec har hr) ?_)))))))
 rintro _ _ _ _ ⟨rfl, rfl, rfl⟩
 refine jB (t := 12) rfl (vB h1) (yR rfl (cX (yl (.bool (!(termOk ar r))) (vB h1) rfl (jb (.bool (!(termOk ar r))) rfl ?_))))
 by_cases h2 : (!(termOk ar r)) = true
 ·refine jA (t := 19) rfl (vB h2) (jA (t := 19) rfl (vB h2) (jA (t := 19) rfl (vB h2) (jA (t := 19) rfl (vB h2) (jA (t := 19) rfl (vB h2) (cX (yp (.bool (true)) (vB h2) rfl (qI (yX rfl (qX (qH (jc (.bool (false)) rfl ?_)))))))))))
  refine qI (jW (jw (jR (L' := L) [.bool (false)] (.bool (false)) (.tmp rfl .nil) rfl rF rF (sD (sD sR)) ?_)))
  exact ⟨(vB (ruleOk_false (fun h => by have := h.left; have := h.right; have := h.head; simp_all <;> omega))), rfl, rfl⟩
 rw [Bool.not_eq_true] at h2
 have hro : termOk ar r = true := by simpa using h2
 have hr60 := termOk_len hro
 refine jB (t := 19) rfl (vB h2) (jE (0) yu rfl jF (by decide) rfl rfl (jB (t := 19) rfl (vB h2) (jj yt rfl (Rd.own [] rfl rfl) (jB (t := 19) rfl (vB h2) (jq 0 qU js rfl rfl rfl hl.slv (by omega) (Nat.mul_one _) (jB (t := 19) rfl (vB h2) (jj yd rfl (hl.rd (by omega)) (jB (t := 19) rfl (vB h2) (yo rfl rfl (cX (yl (.bool (decide ((l.getD 0 0 : Int) < 0))) (vB h2) rfl (qI ?_))))))))))))
 refine jV (p := (l.getD 0 0 : Int) < 0) rfl (fun h3 => ?_) (fun h3 => ?_)
 ·refine qX (qH (jc (.bool (false)) rfl (qI (jW (jw (jR (L' := L) [.bool (false)] (.bool (false)) (.tmp rfl .nil) rfl rF rF (sD (sD sR)) ?_))))))
  exact ⟨(vB (ruleOk_false (fun h => by have := h.left; have := h.right; have := h.head; simp_all <;> omega))), rfl, rfl⟩
 refine jU (qX (qX (qH (cX (jE (1) yu rfl jF (by decide) rfl rfl (cX (jj yt rfl (Rd.own [] rfl rfl) (cX (jZ qU rfl hr.slv (jb (ii (0)) rfl (qI (yf (yI (α := Nat) (fun k => [(3, ptr b2 0), (27, rv), (28, ii ((r.length : Int))), (29, ii ((k : Int)))]) (fun k => cellsH b2 [lv, rv] 72 :: cellsH b1 [arv] 29 :: L) (fun k F' => F = F' ∧ (k ≤ r.length) ∧ (∀ i, i < k → r.getD i 0 < 0 → r.getD i 0 ∈ l)) (fun k => r.length - k) 0 ⟨rfl, rfl, rfl, rfl, ⟨⟩⟩ (sC (sC sR)) ⟨rfl, (by omega), (fun i hi => absurd hi (by omega))⟩ ?_)))))))))))))
 rintro k rE _ _ ⟨rfl, hk, hall⟩
 show X _ _ _ _ (envs [(3, ptr b2 0), (27, rv), (28, ii ((r.length : Int))), (29, ii ((k : Int)))] rE) _ (cellsH b2 [lv, rv] 72 :: cellsH b1 [arv] 29 :: L)
 refine qX (qH (cX (yo rfl rfl (qI (qX ?_)))))
 refine jV (p := (k : Int) < (r.length : Int)) rfl (fun h4 => ?_) (fun h4 => ?_)
 ·refine jU (qX (yf (qX (qH (cX (jq k qU js rfl rfl rfl hr.slv (by omega) (Nat.mul_one _) (cX (jj yd rfl (hr.rd (by omega)) (jc (ii (r.getD k 0)) rfl (qI (qX (qH (jb (ii (r.getD k 0)) rfl (cX (yo rfl rfl (jb (.bool (decide ((r.getD k 0 : Int) < 0))) rfl ?_))))))))))))))))
  by_cases h5 : (r.getD k 0 : Int) < 0
  ·refine jB (t := 35) rfl (vT h5) (jE (0) yu rfl jF (by decide) rfl rfl (jB (t := 35) rfl (vT h5) (jj yt rfl (Rd.own [] rfl rfl) (jB (t := 35) rfl (vT h5) (jk (ii (r.getD k 0)) rfl (jB (t := 35) rfl (vT h5) (jL (args := [lv, ii (r.getD k 0)]) call218 rfl (Contains_spec (n := r.getD k 0) hl (hbd := (by first | assumption | rfl | omega | simp))) ?_)))))))
   rintro _ _ _ _ ⟨rfl, rfl, rfl⟩
   refine jB (t := 35) rfl (vT h5) (Qw rfl (cX (yp (.bool (decide (¬((r.getD k 0) ∈ l)))) (vT h5) rfl (qI ?_))))
   refine jV (p := ¬((r.getD k 0) ∈ l)) rfl (fun h6 => ?_) (fun h6 => ?_)
   ·refine qX (qH (jc (.bool (false)) rfl (qI (jW (ya (jw (jw (ya (jw (jR (L' := L) [.bool (false)] (.bool (false)) (.tmp rfl .nil) rfl rF rF (sD (sD sR)) ?_))))))))))
    exact ⟨(vB (ruleOk_false (fun h => by have := h.vars (r.getD k 0) (mem_of_getD (k := k) (by omega) rfl); simp_all))), rfl, rfl⟩
   refine jU (qH (cX (yj (((k + 1 : Nat) : Int)) rfl rfl (by omega) (by omega) (jb (ii (((k + 1 : Nat) : Int))) rfl (qI ?_)))))
   exact ⟨k + 1, _, FLe.refl _, rF, ⟨rfl, rfl, rfl, rfl, ⟨⟩⟩, (sC (sC sR)), ⟨rfl, (by omega), (fun i hi h0 => (Nat.lt_or_ge i k).elim (fun h => hall i h h0) (fun h => by obtain rfl : i = k := (by omega); first | assumption | (exfalso; omega) | simp_all))⟩, (by omega)⟩
  refine jA (t := 35) rfl (vF h5) (jA (t := 35) rfl (vF h5) (jA (t := 35) rfl (vF h5) (jA (t := 35) rfl (vF h5) (jA (t := 35) rfl (vF h5) (cX (yl (.bool (false)) (vF h5) rfl (qI (yV rfl (jU (qH (cX (yj (((k + 1 : Nat) : Int)) rfl rfl (by omega) (by omega) ?_))))))))))))
  refine jb (ii (((k + 1 : Nat) : Int))) rfl (qI ?_)
  exact ⟨k + 1, _, FLe.refl _, rF, ⟨rfl, rfl, rfl, rfl, ⟨⟩⟩, (sC (sC sR)), ⟨rfl, (by omega), (fun i hi h0 => (Nat.lt_or_ge i k).elim (fun h => hall i h h0) (fun h => by obtain rfl : i = k := (by omega); first | assumption | (exfalso; omega) | simp_all))⟩, (by omega)⟩
 refine yB (jO (jO (yk (qX (qH (jc (.bool (true)) rfl (qI (jW (jR (L' := L) [.bool (true)] (.bool (true)) (.tmp rfl .nil) rfl rF rF (sD (sD sR)) ?_)))))))))
 exact ⟨(vB (ruleOk_iff.2 ⟨hlo, hro, by omega, fun n hn h0 => by obtain ⟨i, hi, rfl⟩ := List.getElem_of_mem hn; have := hall i (by omega); simp [List.getD, hi] at this; exact this h0⟩)), rfl, rfl⟩

/- impl.SystemOk -/
theorem SystemOk_spec {F : FH} {L : List HP} {arv : Value} {ar : List Int} (har : IntsF F arv ar) {rsv : Value} {rs : List (List Int × List Int)} (hrs : PairsF F rsv rs) :
    Does prog 97 [.agg #[arv, rsv]] F (L) (fun v F' L' => (.bool (sysOk ar rs) : Value) = v ∧ F = F' ∧ L = L') := by
 refine ym func97 rfl rfl rfl (qX (qH (cX (yD [arv, rsv] rfl rfl ?_))))
 intro b1
 refine jc (.bool (false)) rfl (qI (qX (qX (qH (cX (jE (0) yq rfl ys (by decide) rfl rfl (cX (yc [arv] yF ys rfl rfl (Rd.ownN [] rfl rfl) (cX (jL (args := [.agg #[arv]]) call148 rfl (SigOk_spec har) ?_))))))))))
 rintro _ _ _ _ ⟨rfl, rfl, rfl⟩
 refine cX (yR rfl (jb (.bool (!(sigOk ar))) rfl ?_))
 by_cases h1 : (!(sigOk ar)) = true
 ·refine jA (t := 9) rfl (vB h1) (jA (t := 9) rfl (vB h1) (jA (t := 9) rfl (vB h1) (jA (t := 9) rfl (vB h1) (cX (yp (.bool (true)) (vB h1) rfl (qI (yX rfl (qX (qH (jc (.bool (false)) rfl (qI ?_)))))))))))
  refine jW (jw (jR (L' := L) [.bool (false)] (.bool (false)) (.tmp rfl .nil) rfl rF rF (sD sR) ?_))
  exact ⟨(vB (sysOk_false (fun h => by have := h.1; have := h.2.1; simp_all <;> omega))), rfl, rfl⟩
 rw [Bool.not_eq_true] at h1
 refine jB (t := 9) rfl (vB h1) (jE (1) yq rfl yZ (by decide) rfl rfl (jB (t := 9) rfl (vB h1) (jj Qj rfl (Rd.own [] rfl rfl) (jB (t := 9) rfl (vB h1) (jZ yy rfl hrs.slv (jB (t := 9) rfl (vB h1) (Qf rfl rfl (cX (yl (.bool (decide (((rs.length : Int) : Int) > 12))) (vB h1) rfl (qI ?_))))))))))
 refine jV (p := ((rs.length : Int) : Int) > 12) rfl (fun h2 => ?_) (fun h2 => ?_)
 ·refine qX (qH (jc (.bool (false)) rfl (qI (jW (jw (jR (L' := L) [.bool (false)] (.bool (false)) (.tmp rfl .nil) rfl rF rF (sD sR) ?_))))))
  exact ⟨(vB (sysOk_false (fun h => by have := h.1; have := h.2.1; simp_all <;> omega))), rfl, rfl⟩
 refine jU (qX (qX (qH (cX (jE (1) yq rfl yZ (by decide) rfl rfl (cX (jj Qj rfl (Rd.own [] rfl rfl) (cX (jZ yy rfl hrs.slv (jb (ii (0)) rfl (qI (yf (yI (α := Nat) (fun k => [(1, ptr b1 0), (16, rsv), (17, ii ((rs.length : Int))), (18, ii ((k : Int)))]) (fun k => cellsH b1 [arv, rsv] 32 :: L) (fun k F' => F = F' ∧ (k ≤ rs.length) ∧ (∀ i, i < k → ruleOk ar (rs.getD i ([], [])).1 (rs.getD i ([], [])).2 = true)) (fun k => rs.length - k) 0 ⟨rfl, rfl, rfl, rfl, ⟨⟩⟩ (sC sR) ⟨rfl, (by omega), (fun i hi => absurd hi (by omega))⟩ ?_)))))))))))))
 rintro k rE _ _ ⟨rfl, hk, hall⟩
 show X _ _ _ _ (envs [(1, ptr b1 0), (16, rsv), (17, ii ((rs.length : Int))), (18, ii ((k : Int)))] rE) _ (cellsH b1 [arv, rsv] 32 :: L)
 refine qX (qH (cX (yo rfl rfl (qI (qX ?_)))))
 refine jV (p := (k : Int) < (rs.length : Int)) rfl (fun h3 => ?_) (fun h3 => ?_)
 ·refine jU (qX (yf (qX (qH (cX (jq k yy yS rfl rfl rfl hrs.slv (by omega) rfl ?_))))))
  obtain ⟨a1, a2, ha1, ha2, hr1, hr2⟩ := hrs.rd (i := k) (by omega)
  refine cX (yc [a1, a2] isAgg72 yS rfl rfl (Rd.two (hr1 _) (hr2 _)) (cX (Qe [sN, sN] yW rfl ?_)))
  intro b2
  refine cX (yL [] _ [a1, a2] yS rfl rfl rfl (jT (yE (yi ha1)) (jT (yE (yi ha2)) yM)) rfl rfl rfl (qI (qX (qH (cX (jE (0) yq rfl ys (by decide) rfl rfl (cX (yc [arv] yF ys rfl rfl (Rd.ownN [_] rfl rfl) (cX (yc [a1, a2] isAgg72 yS rfl rfl (Rd.ownN [] rfl rfl) (cX (jL (args := [.agg #[arv], .agg #[a1, a2]]) call170 rfl (RuleOk_spec har ha1 ha2) ?_))))))))))))
  rintro _ _ _ _ ⟨rfl, rfl, rfl⟩
  refine cX (yR rfl (qI ?_))
  refine X.cond (t := !(ruleOk ar ((rs.getD k ([], [])).1) ((rs.getD k ([], [])).2))) rfl (fun h4 => ?_) (fun h4 => ?_)
  ·refine qX (qH (jc (.bool (false)) rfl (qI (jW (ya (jw (jw (ya (jw (jR (L' := L) [.bool (false)] (.bool (false)) (.tmp rfl .nil) rfl rF rF (sD (sD sR)) ?_))))))))))
   exact ⟨(vB (sysOk_false (fun h => by have := h.2.2 k (by omega); simp_all))), rfl, rfl⟩
  refine jU (qH (cX (yj (((k + 1 : Nat) : Int)) rfl rfl (by omega) (by omega) (jb (ii (((k + 1 : Nat) : Int))) rfl (qI ?_)))))
  exact ⟨k + 1, _, FLe.refl _, rF, ⟨rfl, rfl, rfl, rfl, ⟨⟩⟩, (sD (sC sR)), ⟨rfl, (by omega), (fun i hi => (Nat.lt_or_ge i k).elim (fun h => hall i h) (fun h => by obtain rfl : i = k := (by omega); first | assumption | simp_all))⟩, (by omega)⟩
 refine yB (jO (jO (yk (qX (qH (jc (.bool (true)) rfl (qI (jW (jR (L' := L) [.bool (true)] (.bool (true)) (.tmp rfl .nil) rfl rF rF (sD sR) ?_)))))))))
 exact ⟨(vB (sysOk_iff.2 ⟨by first | assumption | simp_all, by omega, fun i hi => hall i (by omega)⟩)), rfl, rfl⟩

/- spec.RuleOk -/
theorem sRuleOk_spec {F : FH} {L : List HP} {arv : Value} {ar : List Int} (har : IntsF F arv ar) {lv : Value} {l : List Int} (hl : IntsF F lv l) {rv : Value} {r : List Int} (hr : IntsF F rv r) (hla : ar.length ≤ 4000000) (hlb : l.length ≤ 4000000) (hlc : r.length ≤ 4000000) :
    Does prog 167 [.agg #[arv], .agg #[lv, rv]] F (L) (fun v F' L' => (.bool (ruleOk ar l r) : Value) = v ∧ F = F' ∧ L = L') := by
 refine ym func167 rfl rfl rfl (qX (qH (cX (yD [arv] rfl rfl ?_))))
 intro b1
 refine cX (yD [lv, rv] rfl rfl ?_)
 intro b2
 refine jc (.bool (false)) rfl (qI (qX (qX (qH (cX (yc [arv] yF ys rfl rfl (Rd.ownN [_] rfl rfl) (cX (jE (0) yu rfl jF (by decide) rfl rfl (cX (jj yt rfl (Rd.own [] rfl rfl) (cX (jL (args := [.agg #[arv], lv]) call81 rfl (sTermOk_spec har hl (hla := (by first | assumption | rfl | omega | simp)) (hlt := (by first | assumption | rfl | omega | simp))) ?_))))))))))))
 rintro _ _ _ _ ⟨rfl, rfl, rfl⟩
 refine cX (yR rfl (jb (.bool (!(termOk ar l))) rfl ?_))
 by_cases h1 : (!(termOk ar l)) = true
 ·refine jA (t := 11) rfl (vB h1) (jA (t := 11) rfl (vB h1) (jA (t := 11) rfl (vB h1) (jA (t := 11) rfl (vB h1) (jA (t := 11) rfl (vB h1) (cX (yp (.bool (true)) (vB h1) rfl (jb (.bool (true)) rfl (jA (t := 18) rfl rfl (jA (t := 18) rfl rfl (jA (t := 18) rfl rfl ?_))))))))))
  refine jA (t := 18) rfl rfl (jA (t := 18) rfl rfl (cX (yp (.bool (true)) rfl rfl (qI (yX rfl (qX (qH (jc (.bool (false)) rfl (qI (jW (jw (jR (L' := L) [.bool (false)] (.bool (false)) (.tmp rfl .nil) rfl rF rF (sD (sD sR)) ?_))))))))))))
  exact ⟨(vB (ruleOk_false (fun h => by have := h.left; have := h.right; have := h.head; simp_all <;> omega))), rfl, rfl⟩
 rw [Bool.not_eq_true] at h1
 have hlo : termOk ar l = true := by simpa using h1
 have hl60 := termOk_len hlo
 refine jB (t := 11) rfl (vB h1) (yc [arv] yF ys rfl rfl (Rd.ownN [_] rfl rfl) (jB (t := 11) rfl (vB h1) (jE (1) yu rfl jF (by decide) rfl rfl (jB (t := 11) rfl (vB h1) (jj yt rfl (Rd.own [] rfl rfl) (jB (t := 11) rfl (vB h1) (jL (args := [.agg #[arv], rv]) call81 rfl (sTermOk_spec har hr (hla := (by first | assumption | rfl | omega | simp)) (hlt := (by first | assumption | rfl | omega | simp))) ?_)))))))
 rintro _ _ _ _ ⟨rfl, rfl, rfl⟩
 refine jB (t := 11) rfl (vB h1) (yR rfl (cX (yl (.bool (!(termOk ar r))) (vB h1) rfl (jb (.bool (!(termOk ar r))) rfl ?_))))
 by_cases h2 : (!(termOk ar r)) = true
 ·refine jA (t := 18) rfl (vB h2) (jA (t := 18) rfl (vB h2) (jA (t := 18) rfl (vB h2) (jA (t := 18) rfl (vB h2) (jA (t := 18) rfl (vB h2) (cX (yp (.bool (true)) (vB h2) rfl (qI (yX rfl (qX (qH (jc (.bool (false)) rfl ?_)))))))))))
  refine qI (jW (jw (jR (L' := L) [.bool (false)] (.bool (false)) (.tmp rfl .nil) rfl rF rF (sD (sD sR)) ?_)))
  exact ⟨(vB (ruleOk_false (fun h => by have := h.left; have := h.right; have := h.head; simp_all <;> omega))), rfl, rfl⟩
 rw [Bool.not_eq_true] at h2
 have hro : termOk ar r = true := by simpa using h2
 have hr60 := termOk_len hro
 refine jB (t := 18) rfl (vB h2) (jE (0) yu rfl jF (by decide) rfl rfl (jB (t := 18) rfl (vB h2) (jj yt rfl (Rd.own [] rfl rfl) (jB (t := 18) rfl (vB h2) (jq 0 qU js rfl rfl rfl hl.slv (by omega) (Nat.mul_one _) (jB (t := 18) rfl (vB h2) (jj yd rfl (hl.rd (by omega)) (jB (t := 18) rfl (vB h2) (yo rfl rfl (cX (yl (.bool (decide ((l.getD 0 0 : Int) < 0))) (vB h2) rfl (qI ?_))))))))))))
 refine jV (p := (l.getD 0 0 : Int) < 0) rfl (fun h3 => ?_) (fun h3 => ?_)
 ·refine qX (qH (jc (.bool (false)) rfl (qI (jW (jw (jR (L' := L) [.bool (false)] (.bool (false)) (.tmp rfl .nil) rfl rF rF (sD (sD sR)) ?_))))))
  exact ⟨(vB (ruleOk_false (fun h => by have := h.left; have := h.right; have := h.head; simp_all <;> omega))), rfl, rfl⟩
 refine jU (qX (qX (qH (jc (ii (0)) rfl (qI (yf (yI (α := Nat) (fun k => [(3, ptr b2 0), (5, ii ((k : Int)))]) (fun k => cellsH b2 [lv, rv] 72 :: cellsH b1 [arv] 29 :: L) (fun k F' => F = F' ∧ (k ≤ r.length) ∧ (∀ i, i < k → r.getD i 0 < 0 → r.getD i 0 ∈ l)) (fun k => r.length - k) 0 ⟨rfl, rfl, ⟨⟩⟩ (sC (sC sR)) ⟨rfl, (by omega), (fun i hi => absurd hi (by omega))⟩ ?_)))))))
 rintro k rE _ _ ⟨rfl, hk, hall⟩
 show X _ _ _ _ (envs [(3, ptr b2 0), (5, ii ((k : Int)))] rE) _ (cellsH b2 [lv, rv] 72 :: cellsH b1 [arv] 29 :: L)
 refine qX (qX (qH (jb (ii ((k : Int))) rfl (cX (jE (1) yu rfl jF (by decide) rfl rfl (cX (jj yt rfl (Rd.own [] rfl rfl) (cX (jZ qU rfl hr.slv (cX (yo rfl rfl (qI ?_))))))))))))
 refine jV (p := (k : Int) < (r.length : Int)) rfl (fun h4 => ?_) (fun h4 => ?_)
 ·refine jU (qX (yf (qX ?_)))
  by_cases h5 : (r.getD k 0 : Int) < 0
  ·refine yN [cellsH b2 [lv, rv] 72, cellsH b1 [arv] 29] L 14 [] [[], [0], [], [1, 2], [3], [4], [5], [6], [6, 7], [6], [6, 9], [6], [6, 10, 11], [6, 12]] (phiL [qe (ptr b2 1), qe rv, qe (ii ((k : Int)) : Value), qe (.pointer (some (elemA rv (k)))), qe (ii (r.getD k 0)), qe (.bool (decide ((r.getD k 0 : Int) < 0)) : Value), qe (.bool (decide ((r.getD k 0 : Int) < 0)) : Value), qe (ptr b2 0), qe lv, qe (ptr b2 1), qe rv, qe (ii ((k : Int)) : Value), qe (.pointer (some (elemA rv (k)))), qe (ii (r.getD k 0))]) (ownL []) mixed rfl rfl (by kernel_rfl) ?_ ?_
   ·refine pD (fun W R z9 => ?_) ?_
    ·refine je (jE (1) yu rfl jF (by decide) rfl rfl ?_)
     exact ⟨rfl, rfl, rfl⟩
    refine pD (fun W R z9 => ?_) ?_
    ·rw [eS (l := [(0, _)]) ⟨z9 0 rfl, ⟨⟩⟩]
     refine je (jj yt rfl (Rd.own [] rfl rfl) ?_)
     exact ⟨rfl, rfl, rfl⟩
    refine pD (fun W R z9 => ?_) ?_
    ·refine je (jk (ii ((k : Int))) rfl ?_)
     exact ⟨rfl, rfl, rfl⟩
    refine pD (fun W R z9 => ?_) ?_
    ·rw [eS (l := [(1, _), (2, _)]) ⟨z9 1 rfl, z9 2 rfl, ⟨⟩⟩]
     refine je (jq k qU js rfl rfl rfl hr.slv (by omega) (Nat.mul_one _) ?_)
     exact ⟨rfl, rfl, rfl⟩
    refine pD (fun W R z9 => ?_) ?_
    ·rw [eS (l := [(3, _)]) ⟨z9 3 rfl, ⟨⟩⟩]
     refine je (jj yd rfl (hr.rd (by omega)) ?_)
     exact ⟨rfl, rfl, rfl⟩
    refine pD (fun W R z9 => ?_) ?_
    ·rw [eS (l := [(4, _)]) ⟨z9 4 rfl, ⟨⟩⟩]
     refine je (yo rfl rfl ?_)
     exact ⟨rfl, rfl, rfl⟩
    refine pD (fun W R z9 => ?_) ?_
    ·rw [eS (l := [(5, _)]) ⟨z9 5 rfl, ⟨⟩⟩]
     refine je (jk (.bool (decide ((r.getD k 0 : Int) < 0))) rfl ?_)
     exact ⟨rfl, rfl, rfl⟩
    refine pD (fun W R z9 => ?_) ?_
    ·rw [eS (l := [(6, _)]) ⟨z9 6 rfl, ⟨⟩⟩]
     refine yh (t := 38) rfl (vT h5) (jE (0) yu rfl jF (by decide) rfl rfl ?_)
     exact ⟨rfl, rfl, rfl⟩
    refine pD (fun W R z9 => ?_) ?_
    ·rw [eS (l := [(6, _), (7, _)]) ⟨z9 6 rfl, z9 7 rfl, ⟨⟩⟩]
     refine yh (t := 38) rfl (vT h5) (jj yt rfl (Rd.own [] rfl rfl) ?_)
     exact ⟨rfl, rfl, rfl⟩
    refine pD (fun W R z9 => ?_) ?_
    ·rw [eS (l := [(6, _)]) ⟨z9 6 rfl, ⟨⟩⟩]
     refine yh (t := 38) rfl (vT h5) (jE (1) yu rfl jF (by decide) rfl rfl ?_)
     exact ⟨rfl, rfl, rfl⟩
    refine pD (fun W R z9 => ?_) ?_
    ·rw [eS (l := [(6, _), (9, _)]) ⟨z9 6 rfl, z9 9 rfl, ⟨⟩⟩]
     refine yh (t := 38) rfl (vT h5) (jj yt rfl (Rd.own [] rfl rfl) ?_)
     exact ⟨rfl, rfl, rfl⟩
    refine pD (fun W R z9 => ?_) ?_
    ·rw [eS (l := [(6, _)]) ⟨z9 6 rfl, ⟨⟩⟩]
     refine yh (t := 38) rfl (vT h5) (jk (ii ((k : Int))) rfl ?_)
     exact ⟨rfl, rfl, rfl⟩
    refine pD (fun W R z9 => ?_) ?_
    ·rw [eS (l := [(6, _), (10, _), (11, _)]) ⟨z9 6 rfl, z9 10 rfl, z9 11 rfl, ⟨⟩⟩]
     refine yh (t := 38) rfl (vT h5) (jq k qU js rfl rfl rfl hr.slv (by omega) (Nat.mul_one _) ?_)
     exact ⟨rfl, rfl, rfl⟩
    refine pD (fun W R z9 => ?_) ?_
    ·rw [eS (l := [(6, _), (12, _)]) ⟨z9 6 rfl, z9 12 rfl, ⟨⟩⟩]
     refine yh (t := 38) rfl (vT h5) (jj yd rfl (hr.rd (by omega)) ?_)
     exact ⟨rfl, rfl, rfl⟩
    exact stepsP.nil
   intro W hphi
   rw [eS (l := [(6, _), (8, _), (13, _)]) ⟨(hphi 6 (by decide)), (hphi 8 (by decide)), (hphi 13 (by decide)), ⟨⟩⟩]
   show XL _ _ _ _ _ _ _ (cellsH b2 [lv, rv] 72 :: cellsH b1 [arv] 29 :: L)
   refine jB (t := 38) rfl (vT h5) (jL (args := [lv, ii (r.getD k 0)]) call206 rfl (l1Has_spec (n := r.getD k 0) hl (hbd := (by first | assumption | rfl | omega | simp))) ?_)
   rintro _ _ _ _ ⟨rfl, rfl, rfl⟩
   refine jB (t := 38) rfl (vT h5) (Qw rfl (cX (yp (.bool (decide (¬((r.getD k 0) ∈ l)))) (vT h5) rfl (qI ?_))))
   refine jV (p := ¬((r.getD k 0) ∈ l)) rfl (fun h6 => ?_) (fun h6 => ?_)
   ·refine qX (qH (jc (.bool (false)) rfl (qI (jW (ya (jw (jw (ya (jw (jR (L' := L) [.bool (false)] (.bool (false)) (.tmp rfl .nil) rfl rF rF (sD (sD sR)) ?_))))))))))
    exact ⟨(vB (ruleOk_false (fun h => by have := h.vars (r.getD k 0) (mem_of_getD (k := k) (by omega) rfl); simp_all))), rfl, rfl⟩
   refine jU (qH (jb (ii ((k : Int))) rfl (cX (yj (((k + 1 : Nat) : Int)) rfl rfl (by omega) (by omega) (jc (ii (((k + 1 : Nat) : Int))) rfl (qI ?_))))))
   exact ⟨k + 1, _, FLe.refl _, rF, ⟨rfl, rfl, ⟨⟩⟩, (sC (sC sR)), ⟨rfl, (by omega), (fun i hi h0 => (Nat.lt_or_ge i k).elim (fun h => hall i h h0) (fun h => by obtain rfl : i = k := (by omega); first | assumption | (exfalso; omega) | simp_all))⟩, (by omega)⟩
  refine yN [cellsH b2 [lv, rv] 72, cellsH b1 [arv] 29] L 14 [] [[], [0], [], [1, 2], [3], [4], [5], [6], [6, 7], [6], [6, 9], [6], [6, 10, 11], [6, 12]] (phiL [qe (ptr b2 1), qe rv, qe (ii ((k : Int)) : Value), qe (.pointer (some (elemA rv (k)))), qe (ii (r.getD k 0)), qe (.bool (decide ((r.getD k 0 : Int) < 0)) : Value), qe (.bool (decide ((r.getD k 0 : Int) < 0)) : Value), qe undef, qe undef, qe undef, qe undef, qe undef, qe undef, qe undef]) (ownL []) mixed rfl rfl (by kernel_rfl) ?_ ?_
  ·refine pD (fun W R z9 => ?_) ?_
   ·refine je (jE (1) yu rfl jF (by decide) rfl rfl ?_)
    exact ⟨rfl, rfl, rfl⟩
   refine pD (fun W R z9 => ?_) ?_
   ·rw [eS (l := [(0, _)]) ⟨z9 0 rfl, ⟨⟩⟩]
    refine je (jj yt rfl (Rd.own [] rfl rfl) ?_)
    exact ⟨rfl, rfl, rfl⟩
   refine pD (fun W R z9 => ?_) ?_
   ·refine je (jk (ii ((k : Int))) rfl ?_)
    exact ⟨rfl, rfl, rfl⟩
   refine pD (fun W R z9 => ?_) ?_
   ·rw [eS (l := [(1, _), (2, _)]) ⟨z9 1 rfl, z9 2 rfl, ⟨⟩⟩]
    refine je (jq k qU js rfl rfl rfl hr.slv (by omega) (Nat.mul_one _) ?_)
    exact ⟨rfl, rfl, rfl⟩
   refine pD (fun W R z9 => ?_) ?_
   ·rw [eS (l := [(3, _)]) ⟨z9 3 rfl, ⟨⟩⟩]
    refine je (jj yd rfl (hr.rd (by omega)) ?_)
    exact ⟨rfl, rfl, rfl⟩
   refine pD (fun W R z9 => ?_) ?_
   ·rw [eS (l := [(4, _)]) ⟨z9 4 rfl, ⟨⟩⟩]
    refine je (yo rfl rfl ?_)
    exact ⟨rfl, rfl, rfl⟩
   refine pD (fun W R z9 => ?_) ?_
   ·rw [eS (l := [(5, _)]) ⟨z9 5 rfl, ⟨⟩⟩]
    refine je (jk (.bool (decide ((r.getD k 0 : Int) < 0))) rfl ?_)
    exact ⟨rfl, rfl, rfl⟩
   refine pD (fun W R z9 => ?_) ?_
   ·rw [eS (l := [(6, _)]) ⟨z9 6 rfl, ⟨⟩⟩]
    exact yA (t := 38) rfl (vF h5) ⟨rfl, rfl, rfl⟩
   refine pD (fun W R z9 => ?_) ?_
   ·rw [eS (l := [(6, _), (7, undef)]) ⟨z9 6 rfl, z9 7 rfl, ⟨⟩⟩]
    exact yA (t := 38) rfl (vF h5) ⟨rfl, rfl, rfl⟩
   refine pD (fun W R z9 => ?_) ?_
   ·rw [eS (l := [(6, _)]) ⟨z9 6 rfl, ⟨⟩⟩]
    exact yA (t := 38) rfl (vF h5) ⟨rfl, rfl, rfl⟩
   refine pD (fun W R z9 => ?_) ?_
   ·rw [eS (l := [(6, _), (9, undef)]) ⟨z9 6 rfl, z9 9 rfl, ⟨⟩⟩]
    exact yA (t := 38) rfl (vF h5) ⟨rfl, rfl, rfl⟩
   refine pD (fun W R z9 => ?_) ?_
   ·rw [eS (l := [(6, _)]) ⟨z9 6 rfl, ⟨⟩⟩]
    exact yA (t := 38) rfl (vF h5) ⟨rfl, rfl, rfl⟩
   refine pD (fun W R z9 => ?_) ?_
   ·rw [eS (l := [(6, _), (10, undef), (11, undef)]) ⟨z9 6 rfl, z9 10 rfl, z9 11 rfl, ⟨⟩⟩]
    exact yA (t := 38) rfl (vF h5) ⟨rfl, rfl, rfl⟩
   refine pD (fun W R z9 => ?_) ?_
   ·rw [eS (l := [(6, _), (12, undef)]) ⟨z9 6 rfl, z9 12 rfl, ⟨⟩⟩]
    exact yA (t := 38) rfl (vF h5) ⟨rfl, rfl, rfl⟩
   exact stepsP.nil
  intro W hphi
  rw [eS (l := [(6, _), (8, undef), (13, undef)]) ⟨(hphi 6 (by decide)), (hphi 8 (by decide)), (hphi 13 (by decide)), ⟨⟩⟩]
  show XL _ _ _ _ _ _ _ (cellsH b2 [lv, rv] 72 :: cellsH b1 [arv] 29 :: L)
  refine jA (t := 38) rfl (vF h5) (jA (t := 38) rfl (vF h5) (cX (yl (.bool (false)) (vF h5) rfl (qI (yV rfl (jU (qH (jb (ii ((k : Int))) rfl (cX (yj (((k + 1 : Nat) : Int)) rfl rfl (by omega) (by omega) (jc (ii (((k + 1 : Nat) : Int))) rfl (qI ?_))))))))))))
  exact ⟨k + 1, _, FLe.refl _, rF, ⟨rfl, rfl, ⟨⟩⟩, (sC (sC sR)), ⟨rfl, (by omega), (fun i hi h0 => (Nat.lt_or_ge i k).elim (fun h => hall i h h0) (fun h => by obtain rfl : i = k := (by omega); first | assumption | (exfalso; omega) | simp_all))⟩, (by omega)⟩
 refine yB (jO (jO (yk (qX (qH (jc (.bool (true)) rfl (qI (jW (jR (L' := L) [.bool (true)] (.bool (true)) (.tmp rfl .nil) rfl rF rF (sD (sD sR)) ?_)))))))))
 exact ⟨(vB (ruleOk_iff.2 ⟨hlo, hro, by omega, fun n hn h0 => by obtain ⟨i, hi, rfl⟩ := List.getElem_of_mem hn; have := hall i (by omega); simp [List.getD, hi] at this; exact this h0⟩)), rfl, rfl⟩

/- spec.SystemOk -/
theorem sSystemOk_spec {F : FH} {L : List HP} {arv : Value} {ar : List Int} (har : IntsF F arv ar) {rsv : Value} {rs : List (List Int × List Int)} (hrs : PairsF F rsv rs) (hla : ar.length ≤ 4000000) (hlr : rs.length ≤ 4000000) (hrb : ∀ i, i < rs.length → (rs.getD i ([], [])).1.length ≤ 4000000 ∧ (rs.getD i ([], [])).2.length ≤ 4000000) :
    Does prog 95 [.agg #[arv, rsv]] F (L) (fun v F' L' => (.bool (sysOk ar rs) : Value) = v ∧ F = F' ∧ L = L') := by
 refine ym func95 rfl rfl rfl (qX (qH (cX (yD [arv, rsv] rfl rfl ?_))))
 intro b1
 refine jc (.bool (false)) rfl (qI (qX (qX (qH (cX (jE (0) yq rfl ys (by decide) rfl rfl (cX (yc [arv] yF ys rfl rfl (Rd.ownN [] rfl rfl) (cX (jL (args := [.agg #[arv]]) call151 rfl (sSigOk_spec har (hla := (by first | assumption | rfl | omega | simp))) ?_))))))))))
 rintro _ _ _ _ ⟨rfl, rfl, rfl⟩
 refine cX (yR rfl (jb (.bool (!(sigOk ar))) rfl ?_))
 by_cases h1 : (!(sigOk ar)) = true
 ·refine jA (t := 8) rfl (vB h1) (jA (t := 8) rfl (vB h1) (jA (t := 8) rfl (vB h1) (jA (t := 8) rfl (vB h1) (cX (yp (.bool (true)) (vB h1) rfl (qI (yX rfl (qX (qH (jc (.bool (false)) rfl (qI ?_)))))))))))
  refine jW (jw (jR (L' := L) [.bool (false)] (.bool (false)) (.tmp rfl .nil) rfl rF rF (sD sR) ?_))
  exact ⟨(vB (sysOk_false (fun h => by have := h.1; have := h.2.1; simp_all <;> omega))), rfl, rfl⟩
 rw [Bool.not_eq_true] at h1
 refine jB (t := 8) rfl (vB h1) (jE (1) yq rfl yZ (by decide) rfl rfl (jB (t := 8) rfl (vB h1) (jj Qj rfl (Rd.own [] rfl rfl) (jB (t := 8) rfl (vB h1) (jZ yy rfl hrs.slv (jB (t := 8) rfl (vB h1) (Qf rfl rfl (cX (yl (.bool (decide (((rs.length : Int) : Int) > 12))) (vB h1) rfl (qI ?_))))))))))
 refine jV (p := ((rs.length : Int) : Int) > 12) rfl (fun h2 => ?_) (fun h2 => ?_)
 ·refine qX (qH (jc (.bool (false)) rfl (qI (jW (jw (jR (L' := L) [.bool (false)] (.bool (false)) (.tmp rfl .nil) rfl rF rF (sD sR) ?_))))))
  exact ⟨(vB (sysOk_false (fun h => by have := h.1; have := h.2.1; simp_all <;> omega))), rfl, rfl⟩
 refine jU (qX (qX (qH (jc (ii (0)) rfl (qI (yf (yI (α := Nat) (fun k => [(1, ptr b1 0), (3, ii ((k : Int)))]) (fun k => cellsH b1 [arv, rsv] 32 :: L) (fun k F' => F = F' ∧ (k ≤ rs.length) ∧ (∀ i, i < k → ruleOk ar (rs.getD i ([], [])).1 (rs.getD i ([], [])).2 = true)) (fun k => rs.length - k) 0 ⟨rfl, rfl, ⟨⟩⟩ (sC sR) ⟨rfl, (by omega), (fun i hi => absurd hi (by omega))⟩ ?_)))))))
 rintro k rE _ _ ⟨rfl, hk, hall⟩
 show X _ _ _ _ (envs [(1, ptr b1 0), (3, ii ((k : Int)))] rE) _ (cellsH b1 [arv, rsv] 32 :: L)
 refine qX (qX (qH (jb (ii ((k : Int))) rfl (cX (jE (1) yq rfl yZ (by decide) rfl rfl (cX (jj Qj rfl (Rd.own [] rfl rfl) (cX (jZ yy rfl hrs.slv (cX (yo rfl rfl (qI ?_))))))))))))
 refine jV (p := (k : Int) < (rs.length : Int)) rfl (fun h3 => ?_) (fun h3 => ?_)
 ·refine jU (qX (yf (qX ?_)))
  obtain ⟨a1, a2, ha1, ha2, hr1, hr2⟩ := hrs.rd (i := k) (by omega)
  refine yN [cellsH b1 [arv, rsv] 32] L 7 [] [[], [0], [], [2], [], [3, 4], [5]] (phiL [qe (ptr b1 0), qe (.agg #[arv]), qe (ptr b1 1), qe rsv, qe (ii ((k : Int)) : Value), qe (.pointer (some (elemA rsv (k * 2)))), qe (.agg #[a1, a2])]) (ownL []) mixed rfl rfl (by kernel_rfl) ?_ ?_
  ·refine pD (fun W R z9 => ?_) ?_
   ·refine je (jE (0) yq rfl ys (by decide) rfl rfl ?_)
    exact ⟨rfl, rfl, rfl⟩
   refine pD (fun W R z9 => ?_) ?_
   ·rw [eS (l := [(0, _)]) ⟨z9 0 rfl, ⟨⟩⟩]
    refine je (yc [arv] yF ys rfl rfl (Rd.ownN [] rfl rfl) ?_)
    exact ⟨rfl, rfl, rfl⟩
   refine pD (fun W R z9 => ?_) ?_
   ·refine je (jE (1) yq rfl yZ (by decide) rfl rfl ?_)
    exact ⟨rfl, rfl, rfl⟩
   refine pD (fun W R z9 => ?_) ?_
   ·rw [eS (l := [(2, _)]) ⟨z9 2 rfl, ⟨⟩⟩]
    refine je (jj Qj rfl (Rd.own [] rfl rfl) ?_)
    exact ⟨rfl, rfl, rfl⟩
   refine pD (fun W R z9 => ?_) ?_
   ·refine je (jk (ii ((k : Int))) rfl ?_)
    exact ⟨rfl, rfl, rfl⟩
   refine pD (fun W R z9 => ?_) ?_
   ·rw [eS (l := [(3, _), (4, _)]) ⟨z9 3 rfl, z9 4 rfl, ⟨⟩⟩]
    refine je (jq k yy yS rfl rfl rfl hrs.slv (by omega) rfl ?_)
    exact ⟨rfl, rfl, rfl⟩
   refine pD (fun W R z9 => ?_) ?_
   ·rw [eS (l := [(5, _)]) ⟨z9 5 rfl, ⟨⟩⟩]
    refine je (yc [a1, a2] isAgg72 yS rfl rfl (Rd.two (hr1 _) (hr2 _)) ?_)
    exact ⟨rfl, rfl, rfl⟩
   exact stepsP.nil
  intro W hphi
  rw [eS (l := [(1, _), (6, _)]) ⟨(hphi 1 (by decide)), (hphi 6 (by decide)), ⟨⟩⟩]
  show XL _ _ _ _ _ _ _ (cellsH b1 [arv, rsv] 32 :: L)
  refine cX (jL (args := [.agg #[arv], .agg #[a1, a2]]) call167 rfl (sRuleOk_spec har ha1 ha2 (hla := (by first | assumption | rfl | omega | simp)) (hlb := ((hrb k (by omega)).1)) (hlc := ((hrb k (by omega)).2))) ?_)
  rintro _ _ _ _ ⟨rfl, rfl, rfl⟩
  refine cX (yR rfl (qI ?_))
  refine X.cond (t := !(ruleOk ar ((rs.getD k ([], [])).1) ((rs.getD k ([], [])).2))) rfl (fun h4 => ?_) (fun h4 => ?_)
  ·refine qX (qH (jc (.bool (false)) rfl (qI (jW (ya (jw (jw (ya (jw (jR (L' := L) [.bool (false)] (.bool (false)) (.tmp rfl .nil) rfl rF rF (sD sR) ?_))))))))))
   exact ⟨(vB (sysOk_false (fun h => by have := h.2.2 k (by omega); simp_all))), rfl, rfl⟩
  refine jU (qH (jb (ii ((k : Int))) rfl (cX (yj (((k + 1 : Nat) : Int)) rfl rfl (by omega) (by omega) (jc (ii (((k + 1 : Nat) : Int))) rfl (qI ?_))))))
  exact ⟨k + 1, _, FLe.refl _, rF, ⟨rfl, rfl, ⟨⟩⟩, (sC sR), ⟨rfl, (by omega), (fun i hi => (Nat.lt_or_ge i k).elim (fun h => hall i h) (fun h => by obtain rfl : i = k := (by omega); first | assumption | simp_all))⟩, (by omega)⟩
 refine yB (jO (jO (yk (qX (qH (jc (.bool (true)) rfl (qI (jW (jR (L' := L) [.bool (true)] (.bool (true)) (.tmp rfl .nil) rfl rF rF (sD sR) ?_)))))))))
 exact ⟨(vB (sysOk_iff.2 ⟨by first | assumption | simp_all, by omega, fun i hi => hall i (by omega)⟩)), rfl, rfl⟩

/- impl.wide -/
theorem wide_spec {F : FH} {L : List HP} {xsv : Value} {xs : List Int} (hxs : IntsF F xsv xs) (hlx : xs.length ≤ 4000000) :
    Does prog 123 [xsv] F (L) (fun v F' L' => F = F' ∧ IsSl v ∧ intsH 2 v xs :: L = L') := by
 refine ym func123 rfl rfl rfl (qX (qH (jc (sN) rfl (qI (qX (qH (jc (sN) rfl (qI (qX (qX (qH (jb (xsv) rfl (cX (jZ Qr rfl hxs.slv (jb (ii (0)) rfl (qI (yf ?_)))))))))))))))))
 refine yI (α := Nat × Value × List Int) (fun xQ => [(3, xQ.2.1), (6, xsv), (7, ii ((xs.length : Int))), (8, ii (((xQ.1 : Nat) : Int)))]) (fun xQ => intsH 2 xQ.2.1 xQ.2.2 :: L) (fun xQ F' => F = F' ∧ (IsSl xQ.2.1) ∧ (xQ.1 ≤ xs.length) ∧ (xQ.2.2 = xs.take xQ.1)) (fun xQ => xs.length - xQ.1) (0, sN, []) ⟨rfl, rfl, rfl, rfl, ⟨⟩⟩ (yn (intsH.addNil 2 none _) (sC sR)) ⟨rfl, (⟨_, _, _, rfl⟩), (by (try dsimp only) <;> omega), (rfl)⟩ ?_
 rintro ⟨k, ov, os⟩ rE _ _ ⟨rfl, hov, hk, hos⟩
 show X _ _ _ _ (envs [(3, ov), (6, xsv), (7, ii ((xs.length : Int))), (8, ii ((k : Int)))] rE) _ (intsH 2 ov os :: L)
 dsimp only at hov hk hos
 have hol : os.length ≤ k := by rw [hos, List.length_take]; omega
 refine qX (qH (cX (yo rfl rfl (qI (qX ?_)))))
 refine jV (p := (k : Int) < (xs.length : Int)) rfl (fun h1 => ?_) (fun h1 => ?_)
 ·refine jU (qX (yf (qX (qH (cX (jq k Qr Qm rfl rfl rfl hxs.slv (by omega) (Nat.mul_one _) (cX (jj isAgg3 rfl (hxs.rd (by omega)) (jc (ii (xs.getD k 0)) rfl (qI (qH (jb (ov) rfl (jb (ii (xs.getD k 0)) rfl (cX (jQ (s := 1) [ii (xs.getD k 0)] [ii (0)] [(0, [ii (xs.getD k 0)])] qU js yv rfl (by decide) rfl (.cons rfl CellsAre.nil) rfl ?_)))))))))))))))
  intro v1 hv1
  refine cX (Qi (u := xs.getD k 0) [_] _ qU typeInfo2 rfl rfl rfl rfl rfl rfl (SlV.own [] rfl) (Rd.sl [] rfl rfl) (by (try simp only [List.length_append, List.length_nil, List.length_cons, List.length_singleton, List.length_take, List.length_drop]); omega) ?_)
  intro v2 hs1 hn1
  refine jc (v2) rfl (qI (qH (cX (yj (((k + 1 : Nat) : Int)) rfl rfl (by omega) (by omega) (jb (ii (((k + 1 : Nat) : Int))) rfl (qI ?_))))))
  exact ⟨(k + 1, v2, os ++ [xs.getD k 0]), _, FLe.refl _, rF, ⟨rfl, rfl, rfl, rfl, ⟨⟩⟩, (sD (sC sR)), ⟨rfl, (hs1), (by (try dsimp only) <;> omega), ((by dsimp only; rw [hos, take_succ_getD 0 (by omega)]))⟩, (by omega)⟩
 refine yB (jO (jO (yk (qX (qH (jb (ov) rfl (jc (ov) rfl (qI (jW (jR (L' := intsH 2 ov os :: L) [ov] (ov) (.tmp rfl .nil) rfl rF rF (sC sR) ?_))))))))))
 refine ⟨rfl, hov, ?_⟩
 have hxs : (xs : List Int) = os := by rw [hos, List.take_of_length_le (by omega)]
 exact congrArg (fun z => intsH 2 _ z :: L) hxs

/- slices.Grow[[]int64,int64] -/
theorem GrowNil_spec {F : FH} {L : List HP}  {n : Nat} (hg1 : 1 ≤ n) (hn : n ≤ 400000000) :
    Does prog 244 [sN, ii ((n : Int))] F (L) (fun v F' L' => F = F' ∧ IsSl v ∧ intsH 2 v ([]) :: L = L') := by
 refine ym func244 rfl rfl rfl (qX (qH (jc (sN) rfl (qI (qX (qX (qH (jb (ii ((n : Int))) rfl (cX (yo rfl rfl (qI ?_)))))))))))
 refine jV (p := (n : Int) < 0) rfl (fun h1 => ?_) (fun h1 => ?_)
 ·omega
 refine jU (qX (qX (qH (jb (ii ((n : Int))) rfl (jb (sN) rfl (cX (XOp.capNil qU rfl (jb (sN) rfl (cX (jZ qU rfl SlV.nil (cX (yx (0 - (((0 : Nat) : Int))) rfl rfl (by omega) (by omega) (cX (yx (((n : Int)) - (0 - (((0 : Nat) : Int)))) rfl rfl (by omega) (by omega) (jc (ii (((n : Int)) - (0 - (((0 : Nat) : Int))))) rfl (qI (qX (qH ?_))))))))))))))))))
 refine jb (ii (((n : Int)) - (0 - (((0 : Nat) : Int))))) rfl (cX (Qf rfl rfl (qI ?_)))
 refine jV (p := (((n : Int)) - (0 - (((0 : Nat) : Int))) : Int) > 0) rfl (fun h2 => ?_) (fun h2 => ?_)
 ·refine qH (jb (sN) rfl (jb (sN) rfl (cX (XOp.capNil qU rfl (cX (XOp.sliceNil qU js rfl ⟨_, rfl⟩ (jb (ii (((n : Int)) - (0 - (((0 : Nat) : Int))))) rfl (cX (XOp.appendZ (s := 1) (bytes := 8) (n := (((n : Int)) - (0 - (((0 : Nat) : Int)))).toNat) [ii (0)] qU runUnderlying3 typeInfo2 rfl rfl rfl rfl rfl (by decide) rfl (by rw [show (((((n : Int)) - (0 - (((0 : Nat) : Int)))).toNat : Nat) : Int) = ((n : Int)) - (0 - (((0 : Nat) : Int))) from by omega]; rfl) (by omega) (by omega) (by omega) ?_)))))))))
  intro v1 hv1
  have hv2 : IsSl v1 := by obtain ⟨b0, c0, h0⟩ := hv1; exact ⟨_, _, _, h0⟩
  rw [intsH_zeros]
  refine jb (sN) rfl (cX (jZ qU rfl SlV.nil (cX (XOp.sliceOwn (cs := List.map (Value.int .i64) ((List.replicate ((((n : Int)) - (0 - (((0 : Nat) : Int)))).toNat) 0))) [] _ 0 qU js rfl rfl ⟨_, rfl⟩ (Nat.zero_le _) ?_))))
  intro v2 hs1
  show XL _ _ _ _ _ _ _ (intsH 2 v2 ([]) :: L)
  refine jc (v2) rfl (qI (qX (qH (jb (v2) rfl (jc (v2) rfl (qI (jW (jR (L' := intsH 2 v2 ([]) :: L) [v2] (v2) (.tmp rfl .nil) rfl rF rF (sC sR) ?_))))))))
  refine ⟨rfl, hs1, ?_⟩
  have hxs : ([] : List Int) = [] := rfl
  exact congrArg (fun z => intsH 2 _ z :: L) hxs
 omega

/- slices.Concat[[]int64,int64] -/
theorem Concat_spec {F : FH} {L : List HP} {xsv : Value} {xs : List (List Int)} (hxs : RowsF F xsv xs) (hg1 : 1 ≤ xs.flatten.length) (hn : xs.length ≤ 10) (hb : ∀ i, i < xs.length → (xs.getD i []).length ≤ 4000000) :
    Does prog 225 [xsv] F (L) (fun v F' L' => F = F' ∧ IsSl v ∧ intsH 2 v xs.flatten :: L = L') := by
 refine ym func225 rfl rfl rfl (qX (qH (jc (sN) rfl (qI (qX (qH (jc (ii (0)) rfl (qI (qX (qX (qH (jb (xsv) rfl (cX (jZ jX rfl hxs.slv (jb (ii (0)) rfl (qI (yf ?_)))))))))))))))))
 refine yI (α := Nat × Nat) (fun xQ => [(0, xsv), (3, ii (((xQ.2 : Nat) : Int))), (9, xsv), (10, ii ((xs.length : Int))), (11, ii (((xQ.1 : Nat) : Int)))]) (fun xQ => L) (fun xQ F' => F = F' ∧ (xQ.1 ≤ xs.length) ∧ (xQ.2 = (xs.take xQ.1).flatten.length) ∧ (xQ.2 ≤ xQ.1 * 4000000)) (fun xQ => xs.length - xQ.1) (0, 0) ⟨rfl, rfl, rfl, rfl, rfl, ⟨⟩⟩ sR ⟨rfl, (by (try dsimp only) <;> omega), (rfl), (by (try dsimp only) <;> omega)⟩ ?_
 rintro ⟨k, z⟩ rE _ _ ⟨rfl, hk, hz, hz2⟩
 show X _ _ _ _ (envs [(0, xsv), (3, ii ((z : Int))), (9, xsv), (10, ii ((xs.length : Int))), (11, ii ((k : Int)))] rE) _ (L)
 dsimp only at hk hz hz2
 have hbk := hb k
 have hft := fun h => congrArg List.length (flatten_take (xs := xs) (k := k) h)
 simp only [List.length_append] at hft
 refine qX (qH (cX (yo rfl rfl (qI (qX ?_)))))
 refine jV (p := (k : Int) < (xs.length : Int)) rfl (fun h1 => ?_) (fun h1 => ?_)
 ·refine jU (qX (yf (qX (qH (cX (jq k jX jF rfl rfl rfl hxs.slv (by omega) (Nat.mul_one _) ?_))))))
  obtain ⟨a1, ha1, hr1⟩ := hxs.rd (i := k) (by omega)
  refine cX (jj yt rfl (hr1 _) (jc (a1) rfl (qI (qX (qH (jb (ii ((z : Int))) rfl (jb (a1) rfl (cX (jZ qU rfl ha1.slv (cX (yj (((z + (((xs.getD k [])).length) : Nat) : Int)) rfl rfl (by omega) (by omega) (jc (ii (((z + (((xs.getD k [])).length) : Nat) : Int))) rfl (qI (qX (qH (jb (ii (((z + (((xs.getD k [])).length) : Nat) : Int))) rfl ?_))))))))))))))))
  refine cX (yo rfl rfl (qI ?_))
  refine jV (p := (((z + (((xs.getD k [])).length) : Nat) : Int) : Int) < 0) rfl (fun h2 => ?_) (fun h2 => ?_)
  ·omega
  refine jU (qH (cX (yj (((k + 1 : Nat) : Int)) rfl rfl (by omega) (by omega) (jb (ii (((k + 1 : Nat) : Int))) rfl (qI ?_)))))
  exact ⟨(k + 1, z + (((xs.getD k [])).length)), _, FLe.refl _, rF, ⟨rfl, rfl, rfl, rfl, rfl, ⟨⟩⟩, sR, ⟨rfl, (by (try dsimp only) <;> omega), (by (try dsimp only) <;> omega), (by (try dsimp only) <;> omega)⟩, (by omega)⟩
 refine yB (jO (jO (yk (qX (qH ?_)))))
 have hz1 : 1 ≤ z := by rw [hz, show xs.take k = xs from List.take_of_length_le (by omega)]; exact hg1
 refine jb (ii ((z : Int))) rfl (cX (jL (args := [sN, ii (z : Int)]) call244 rfl (GrowNil_spec (n := z) (hg1 := (hz1)) (hn := (by omega))) ?_))
 rintro v1 _ _ _ ⟨rfl, hs1, rfl⟩
 refine jc (v1) rfl (qI (qX (qX (qH (jb (xsv) rfl (cX (jZ jX rfl hxs.slv (jb (ii (0)) rfl (qI (yf (yI (α := Nat × Value × List Int) (fun xQ => [(6, xQ.2.1), (25, xsv), (26, ii ((xs.length : Int))), (27, ii (((xQ.1 : Nat) : Int)))]) (fun xQ => intsH 2 xQ.2.1 xQ.2.2 :: L) (fun xQ F' => F = F' ∧ (IsSl xQ.2.1) ∧ (xQ.1 ≤ xs.length) ∧ (xQ.2.2 = (xs.take xQ.1).flatten)) (fun xQ => xs.length - xQ.1) (0, v1, ([])) ⟨rfl, rfl, rfl, rfl, ⟨⟩⟩ (sC sR) ⟨rfl, (hs1), (by (try dsimp only) <;> omega), (rfl)⟩ ?_)))))))))))
 rintro ⟨k, ov, os⟩ rE _ _ ⟨rfl, hov, hk, hos⟩
 show X _ _ _ _ (envs [(6, ov), (25, xsv), (26, ii ((xs.length : Int))), (27, ii ((k : Int)))] rE) _ (intsH 2 ov os :: L)
 dsimp only at hov hk hos
 have hbk := hb k
 have hol : os.length ≤ k * 4000000 := by rw [hos]; exact flatten_bound hb k (by omega)
 refine qX (qH (cX (yo rfl rfl (qI (qX ?_)))))
 refine jV (p := (k : Int) < (xs.length : Int)) rfl (fun h3 => ?_) (fun h3 => ?_)
 ·refine jU (qX (yf (qX (qH (cX (jq k jX jF rfl rfl rfl hxs.slv (by omega) (Nat.mul_one _) ?_))))))
  obtain ⟨a2, ha2, hr2⟩ := hxs.rd (i := k) (by omega)
  refine cX (jj yt rfl (hr2 _) (jc (a2) rfl (qI (qH (jb (ov) rfl (jb (a2) rfl (cX (Qk [] _ qU typeInfo2 rfl rfl rfl rfl rfl rfl ha2 (by (try simp only [List.length_append, List.length_nil, List.length_cons, List.length_singleton, List.length_take, List.length_drop]); omega) ?_))))))))
  intro v2 hs2 hn1 hm1
  refine jc (v2) rfl (qI (qH (cX (yj (((k + 1 : Nat) : Int)) rfl rfl (by omega) (by omega) (jb (ii (((k + 1 : Nat) : Int))) rfl (qI ?_))))))
  exact ⟨(k + 1, v2, os ++ ((xs.getD k []))), _, FLe.refl _, rF, ⟨rfl, rfl, rfl, rfl, ⟨⟩⟩, (sC sR), ⟨rfl, (hs2), (by (try dsimp only) <;> omega), ((by dsimp only; rw [hos, flatten_take (by omega)]))⟩, (by omega)⟩
 refine yB (jO (jO (yk (qX (qH (jb (ov) rfl (jc (ov) rfl (qI (jW (jR (L' := intsH 2 ov os :: L) [ov] (ov) (.tmp rfl .nil) rfl rF rF (sC sR) ?_))))))))))
 refine ⟨rfl, hov, ?_⟩
 have hxs : (xs.flatten : List Int) = os := by rw [hos, List.take_of_length_le (by omega)]
 exact congrArg (fun z => intsH 2 _ z :: L) hxs

/- impl.put -/
theorem put_spec {F : FH} {L : List HP} {arv : Value} {ar : List Int} (har : IntsF F arv ar) {tv : Value} {t : List Int} (ht : IntsF F tv t) {p : Nat} {uv : Value} {u : List Int} (hu : IntsF F uv u) (ho : termOk ar t = true) (hp : p < t.length) (hul : 1 ≤ u.length ∧ u.length ≤ 4000000) :
    Does prog 184 [.agg #[arv], tv, ii ((p : Int)), uv] F (L) (fun v F' L' => ∃ (a : Value), (.tuple #[a, .bool ((putL ar t p u).isSome)] : Value) = v ∧ (IntsF F' a ((putL ar t p u).getD [])) ∧ ((putL ar t p u).isSome = true → isNil a = false) ∧ (Fresh F F' (intsH 2 a ((putL ar t p u).getD []))) ∧ L = L') := by
 refine ym func184 rfl rfl rfl ?_
 have hsig := termOk_sig ho
 have hsl := sigOk_spec hsig
 have htl := termOk_len ho
 have hee := endN_spec ho hp
 refine qX (qH (cX (yD [arv] rfl rfl ?_)))
 intro b1
 refine jc (sN) rfl (jc (.bool (false)) rfl (qI (qX ?_)))
 refine X.drawG [cellsH b1 [arv] 29] L 10 [] [[], [], [0, 1], [], [], [], [], [], [5, 6, 7], [4, 8]] [] (phiG [pe tv, pe (ii ((p : Int)) : Value), fun FF us v => (v : Value) = v ∧ (IntsF FF v ((t.drop 0).take (p - 0))) ∧ (isNil v = isNil tv), pe uv, pe tv, pe (.agg #[arv]), pe tv, pe (ii ((p : Int)) : Value), pe (ii (((endN ar t p : Nat) : Int)) : Value), fun FF us v => (v : Value) = v ∧ (IntsF FF v ((t.drop (endN ar t p)).take (((t).length) - (endN ar t p)))) ∧ (isNil v = isNil tv)]) (ownL []) mixed rfl rfl (by kernel_rfl) (by kernel_rfl) (MonoG.get (m1 (m1 (mC (fun le h => ⟨h.1, h.2.1.mono le, h.2.2⟩) (m1 (m1 (m1 (m1 (m1 (m1 (mC (fun le h => ⟨h.1, h.2.1.mono le, h.2.2⟩) MonoG.nil))))))))))) ?_ ?_
 ·refine gD (fun W Fs R lF z9 => ?_) ?_
  ·refine je (jk (tv) rfl ?_)
   exact ⟨rfl, rfl⟩
  refine gD (fun W Fs R lF z9 => ?_) ?_
  ·refine je (jk (ii ((p : Int))) rfl ?_)
   exact ⟨rfl, rfl⟩
  refine gD (fun W Fs R lF z9 => ?_) ?_
  ·replace har := har.mono lF
   replace ht := ht.mono lF
   replace hu := hu.mono lF
   rw [eS (l := [(0, _), (1, _)]) ⟨z9 0 rfl, z9 1 rfl, ⟨⟩⟩]
   refine je (Qp 0 p qU js rfl ht rfl ⟨_, rfl⟩ (by omega) (by omega) ?_)
   intro v3 hv3 hn3
   exact ⟨⟨rfl, hv3, hn3⟩, rfl⟩
  refine gD (fun W Fs R lF z9 => ?_) ?_
  ·refine je (jk (uv) rfl ?_)
   exact ⟨rfl, rfl⟩
  refine gD (fun W Fs R lF z9 => ?_) ?_
  ·refine je (jk (tv) rfl ?_)
   exact ⟨rfl, rfl⟩
  refine gD (fun W Fs R lF z9 => ?_) ?_
  ·replace har := har.mono lF
   replace ht := ht.mono lF
   replace hu := hu.mono lF
   refine je (yc [arv] yF ys rfl rfl (Rd.ownN [] rfl rfl) ?_)
   exact ⟨rfl, rfl⟩
  refine gD (fun W Fs R lF z9 => ?_) ?_
  ·refine je (jk (tv) rfl ?_)
   exact ⟨rfl, rfl⟩
  refine gD (fun W Fs R lF z9 => ?_) ?_
  ·refine je (jk (ii ((p : Int))) rfl ?_)
   exact ⟨rfl, rfl⟩
  refine gD (fun W Fs R lF z9 => ?_) ?_
  ·replace har := har.mono lF
   replace ht := ht.mono lF
   replace hu := hu.mono lF
   rw [eS (l := [(5, _), (6, _), (7, _)]) ⟨z9 5 rfl, z9 6 rfl, z9 7 rfl, ⟨⟩⟩]
   refine je (jL (args := [.agg #[arv], tv, ii (p : Int)]) call150 rfl (endAt_ok (p := p) har ht (ho := (by first | assumption | rfl | omega | (left; simp; done) | (right; simp; done))) (hp := (by first | assumption | rfl | omega | (left; simp; done) | (right; simp; done)))) ?_)
   rintro _ _ _ _ ⟨rfl, rfl, rfl⟩
   exact ⟨rfl, rfl⟩
  refine gD (fun W Fs R lF z9 => ?_) ?_
  ·replace har := har.mono lF
   replace ht := ht.mono lF
   replace hu := hu.mono lF
   rw [eS (l := [(4, _), (8, _)]) ⟨z9 4 rfl, z9 8 rfl, ⟨⟩⟩]
   refine je (Qp (endN ar t p) ((t).length) qU js rfl ht ⟨_, rfl⟩ rfl (by omega) (by omega) ?_)
   intro v4 hv4 hn4
   exact ⟨⟨rfl, hv4, hn4⟩, rfl⟩
  exact stepsG.nil
 intro W F1 le1 hphi
 obtain ⟨e2, f2_1hv, f2_1hn⟩ := hphi 2 (by decide)
 obtain ⟨e9, f9_1hv, f9_1hn⟩ := hphi 9 (by decide)
 generalize hu1 : (W 2) = u1 at e2 f2_1hv f2_1hn e9 f9_1hv f9_1hn
 generalize hu2 : (W 9) = u2 at e2 f2_1hv f2_1hn e9 f9_1hv f9_1hn
 rw [eS (l := [(2, u1), (3, _), (9, u2)]) ⟨hu1, (hphi 3 (by decide)), hu2, ⟨⟩⟩]
 replace hu := hu.mono le1
 show XL _ _ _ _ _ _ _ (cellsH b1 [arv] 29 :: L)
 refine cX (jQ (s := 1) [u1, uv, u2] [sN] [(0, [u1]), (1, [uv]), (2, [u2])] jX jF Qn rfl (by decide) rfl (.cons (cells_one (yi f2_1hv)) (.cons (cells_one (yi hu)) (.cons (cells_one (yi f9_1hv)) CellsAre.nil))) rfl ?_)
 intro v5 hv5
 have hc1 : RowsC F1 [u1, uv, u2] ([((t.drop 0).take (p - 0)), u, ((t.drop (endN ar t p)).take (((t).length) - (endN ar t p)))] : List (List Int)) := (RowsC.snoc (RowsC.snoc (RowsC.snoc (CO.nil : RowsC F1 [] []) f2_1hv) hu) f9_1hv)
 refine Qd [] _ _ rfl (fun F2 le2 hz1 => ?_)
 replace hc1 := hc1.mono le2
 have hf1 : RowsF F2 v5 (([((t.drop 0).take (p - 0)), u, ((t.drop (endN ar t p)).take (((t).length) - (endN ar t p)))] : List (List Int))) := CO.fz hc1 (by first | rfl | omega | (rw [List.length_set]; omega) | (simp; done)) hz1.fz
 refine cX (Qo <| jL (args := [v5]) call225 rfl (Concat_spec hf1 (hg1 := (by simp; omega)) (hn := (by first | assumption | rfl | omega | simp)) (hb := (fun i hi => by match i, hi with | 0, _ => simp; omega | 1, _ => simp; omega | 2, _ => simp; omega))) ?_)
 rintro v6 _ _ _ ⟨rfl, hs1, rfl⟩
 refine ⟨_, _, rfl, fun F3 le3 hz2 => ?_⟩
 have hf2 : IntsF F3 v6 (((([((t.drop 0).take (p - 0)), u, ((t.drop (endN ar t p)).take (((t).length) - (endN ar t p)))] : List (List Int))).flatten)) := intsH.fz (xs := ((([((t.drop 0).take (p - 0)), u, ((t.drop (endN ar t p)).take (((t).length) - (endN ar t p)))] : List (List Int))).flatten)) hz2.fz
 refine jc (v6) rfl (qI (qX (qX (qH (jb (v6) rfl (cX (jZ qU rfl hf2.slv (cX (Qf rfl rfl (qI ?_))))))))))
 refine jV (p := ((((((([((t.drop 0).take (p - 0)), u, ((t.drop (endN ar t p)).take (((t).length) - (endN ar t p)))] : List (List Int))).flatten)).length : Nat) : Int) : Int) > 60) rfl (fun h1 => ?_) (fun h1 => ?_)
 ·refine qX (qH (jc (sN) rfl (jc (.bool (false)) rfl (qI (jW (jw (jR (L' := L) [sN, .bool (false)] (.tuple #[sN, .bool (false)]) (.tmp rfl (.tmp rfl .nil)) rfl (jl (jl le1 le2) le3) rF (sD sR) ?_)))))))
  have hz : putL ar t p u = none := putL_none put_flat (by omega)
  exact ⟨_, by rw [hz]; rfl, by rw [hz]; exact IntsF.nilV, fun h => (by rw [hz] at h; cases h), by rw [hz]; exact Fresh.ofNil _, rfl⟩
 refine jU (qX (qH (jb (v6) rfl (jc (v6) rfl (jc (.bool (true)) rfl (qI (jW (jR (L' := L) [v6, .bool (true)] (.tuple #[v6, .bool (true)]) (.tmp rfl (.tmp rfl .nil)) rfl (jl (jl le1 le2) le3) rF (sD sR) ?_))))))))
 have hz := putL_some (ar := ar) (t := t) (p := p) (u := u) put_flat (by omega)
 exact ⟨_, by rw [hz]; rfl, by rw [hz]; exact hf2, fun _ => notNil_of_pos hf2 (by rw [put_flat]; simp; omega), by rw [hz]; exact (hz2.base (jl le1 le2)), rfl⟩

/- spec.l2Gives -/
theorem l2Gives_spec {F : FH} {L : List HP} {sv : Value} {s : List (List Int)} (hs : RowsF F sv s) {i : Nat} (hsl : s.length ≤ 4000000) (hi : i ≤ 4000000) (hsb : (s.getD i []).length ≤ 4000000) :
    Does prog 145 [.agg #[sv], ii ((i : Int))] F (L) (fun v F' L' => F = F' ∧ IsSl v ∧ intsH 2 v (lk s (-1 - (i : Int))) :: L = L') := by
 refine ym func145 rfl rfl rfl (qX (qH (cX (yD [sv] rfl rfl ?_))))
 intro b1
 refine jc (sN) rfl (qI (qX (qX (qH (jb (ii ((i : Int))) rfl (cX (jE (0) yO rfl yT (by decide) rfl rfl (cX (jj Qv rfl (Rd.own [] rfl rfl) (cX (jZ jX rfl hs.slv (cX (yo rfl rfl (jb (.bool (decide ((i : Int) < (s.length : Int)))) rfl ?_))))))))))))))
 by_cases h1 : (i : Int) < (s.length : Int)
 ·refine jB (t := 10) rfl (vT h1) (jE (0) yO rfl yT (by decide) rfl rfl (jB (t := 10) rfl (vT h1) (jj Qv rfl (Rd.own [] rfl rfl) (jB (t := 10) rfl (vT h1) (jk (ii ((i : Int))) rfl (jB (t := 10) rfl (vT h1) (jq i jX jF rfl rfl rfl hs.slv (by omega) (Nat.mul_one _) ?_)))))))
  obtain ⟨a1, ha1, hr1⟩ := hs.rd (i := i) (by omega)
  refine jB (t := 10) rfl (vT h1) (jj yt rfl (hr1 _) (jB (t := 10) rfl (vT h1) (jZ qU rfl ha1.slv (jB (t := 10) rfl (vT h1) (Qf rfl rfl (cX (yp (.bool (decide ((((((s.getD i [])).length : Nat) : Int) : Int) > 0))) (vT h1) rfl (qI ?_))))))))
  refine jV (p := (((((s.getD i [])).length : Nat) : Int) : Int) > 0) rfl (fun h2 => ?_) (fun h2 => ?_)
  ·refine qX (qH (cX (jE (0) yO rfl yT (by decide) rfl rfl (cX (jj Qv rfl (Rd.own [] rfl rfl) (jb (ii ((i : Int))) rfl (cX (jq i jX jF rfl rfl rfl hs.slv (by omega) (Nat.mul_one _) (cX (jj yt rfl (hr1 _) (cX (jL (args := [a1]) call193 rfl (l1Copy_spec ha1 (hlt := (by first | assumption | rfl | omega | simp))) ?_))))))))))))
   rintro v1 _ _ _ ⟨rfl, hs1, rfl⟩
   refine jc (v1) rfl (qI (jW (jw (jR (L' := intsH 2 v1 ((((s.getD i [])))) :: L) [v1] (v1) (.tmp rfl .nil) rfl rF rF (sC (sD sR)) ?_))))
   refine ⟨rfl, hs1, ?_⟩
   have hxs : (lk s (-1 - (i : Int)) : List Int) = (((s.getD i []))) := lk_copy (by omega)
   exact congrArg (fun z => intsH 2 _ z :: L) hxs
  refine jU (qX (qH (jb (ii ((i : Int))) rfl (cX (yx ((-1) - ((i : Int))) rfl rfl (by omega) (by omega) (cX (jQ (s := 1) [ii ((-1) - ((i : Int)))] [ii (0)] [(0, [ii ((-1) - ((i : Int)))])] qU js yv rfl (by decide) rfl (.cons rfl CellsAre.nil) rfl ?_)))))))
  intro v2 hv1
  refine jc (v2) rfl (qI (jW (jR (L' := intsH 2 v2 ([(-1) - ((i : Int))]) :: L) [v2] (v2) (.tmp rfl .nil) rfl rF rF (sC (sD sR)) ?_)))
  refine ⟨rfl, (yH hv1), ?_⟩
  have hxs : (lk s (-1 - (i : Int)) : List Int) = [(-1) - ((i : Int))] := lk_self (by first | omega | (rw [getD_out (by omega)]; simp))
  exact congrArg (fun z => intsH 2 _ z :: L) hxs
 refine jA (t := 10) rfl (vF h1) (jA (t := 10) rfl (vF h1) (jA (t := 10) rfl (vF h1) (jA (t := 10) rfl (vF h1) (jA (t := 10) rfl (vF h1) (jA (t := 10) rfl (vF h1) (jA (t := 10) rfl (vF h1) (cX (yl (.bool (false)) (vF h1) rfl (qI (yV rfl ?_))))))))))
 refine jU (qX (qH (jb (ii ((i : Int))) rfl (cX (yx ((-1) - ((i : Int))) rfl rfl (by omega) (by omega) (cX (jQ (s := 1) [ii ((-1) - ((i : Int)))] [ii (0)] [(0, [ii ((-1) - ((i : Int)))])] qU js yv rfl (by decide) rfl (.cons rfl CellsAre.nil) rfl ?_)))))))
 intro v3 hv2
 refine jc (v3) rfl (qI (jW (jR (L' := intsH 2 v3 ([(-1) - ((i : Int))]) :: L) [v3] (v3) (.tmp rfl .nil) rfl rF rF (sC (sD sR)) ?_)))
 refine ⟨rfl, (yH hv2), ?_⟩
 have hxs : (lk s (-1 - (i : Int)) : List Int) = [(-1) - ((i : Int))] := lk_self (by first | omega | (rw [getD_out (by omega)]; simp))
 exact congrArg (fun z => intsH 2 _ z :: L) hxs

/- spec.l2Plain -/
theorem l2Plain_spec {F : FH} {L : List HP} {sv : Value} {s : List (List Int)} (hs : RowsF F sv s) (hsl : s.length ≤ 24) (hsb : ∀ i, (s.getD i []).length ≤ 4000000) :
    Does prog 186 [.agg #[sv]] F (L) (fun v F' L' => ∃ (a : Value), (.agg #[a] : Value) = v ∧ (RowsF F' a (plainL s)) ∧ L = L') := by
 refine ym func186 rfl rfl rfl (qX (qH (cX (yD [sv] rfl rfl ?_))))
 intro b1
 refine cX (Qe [sN] zeroValue50 rfl ?_)
 intro b2
 refine qI (qX (qH (cX (yJ [sN] [sN] [(0, 1)] [] yO zeroValue50 rfl (.cons rfl yT PlacesAre.nil) rfl CellsAre.nil (cX (Qe [sN] zeroValue50 rfl ?_))))))
 intro b3
 refine cX (yL [] _ [sN] Qx rfl rfl rfl (jT rfl yM) rfl rfl rfl (qI (qX (qX (qH (jc (ii (0)) rfl (qI (yf (yI (α := Nat × Value × RowL × FH) (fun xQ => [(1, ptr b1 0), (2, ptr b2 0), (3, ptr b3 0), (4, ii (((xQ.1 : Nat) : Int)))]) (fun xQ => rowsH 27 xQ.2.2.2 xQ.2.1 xQ.2.2.1 :: cellsH b3 [xQ.2.1] 50 :: cellsH b2 [sN] 50 :: cellsH b1 [sv] 50 :: L) (fun xQ F' => xQ.2.2.2 = F' ∧ F ≤ xQ.2.2.2 ∧ (IsSl xQ.2.1) ∧ (xQ.2.2.1 = (plainGo 0 s).take xQ.1) ∧ (xQ.1 ≤ s.length)) (fun xQ => s.length - xQ.1) (0, sN, [], F) ⟨rfl, rfl, rfl, rfl, ⟨⟩⟩ (coH.addNil none (sC (sC (sC sR)))) ⟨rfl, FLe.refl _, (⟨_, _, _, rfl⟩), (rfl), (by (try dsimp only) <;> omega)⟩ ?_)))))))))
 rintro ⟨k, ov, os, G1⟩ rE _ _ ⟨rfl, leG, hov, hos, hk⟩
 show X _ _ _ _ (envs [(1, ptr b1 0), (2, ptr b2 0), (3, ptr b3 0), (4, ii ((k : Int)))] rE) _ (rowsH 27 G1 ov os :: cellsH b3 [ov] 50 :: cellsH b2 [sN] 50 :: cellsH b1 [sv] 50 :: L)
 replace leG : F ≤ G1 := leG
 dsimp only at hov hos hk
 have hol : os.length ≤ k := by rw [hos, List.length_take]; omega
 have hsbk := hsb k
 have hlkb : (lk s (-1 - (k : Int))).length ≤ 4000000 := by rw [lk_var]; split <;> simp; exact hsbk
 have leG1 := leG
 replace hs := hs.mono leG1
 refine X.open [] rfl (fun cs1 hc1 => ?_)
 replace hc1 : RowsC G1 cs1 os := hc1
 refine qX (qX (qH (jb (ii ((k : Int))) rfl (cX (jE (0) yO rfl yT (by decide) rfl rfl (cX (jj Qv rfl (Rd.own [_, _, _] rfl rfl) (cX (jZ jX rfl hs.slv (cX (yo rfl rfl (qI ?_))))))))))))
 refine jV (p := (k : Int) < (s.length : Int)) rfl (fun h1 => ?_) (fun h1 => ?_)
 ·refine jU (qX (yf (qX (qH (cX (yc [sv] isAgg50 Qx rfl rfl (Rd.ownN [_, _, _] rfl rfl) (jb (ii ((k : Int))) rfl (cX (Qo <| jL (args := [.agg #[sv], ii (k : Int)]) call145 rfl (l2Gives_spec (i := k) hs (hsl := (by first | assumption | rfl | omega | simp)) (hi := (by first | assumption | rfl | omega | simp)) (hsb := (hsb k))) ?_)))))))))
  rintro v1 _ _ _ ⟨rfl, hs1, rfl⟩
  refine ⟨_, _, rfl, fun F1 le1 hz1 => ?_⟩
  replace hc1 := hc1.mono le1
  have hf1 : IntsF F1 v1 ((lk s (-1 - (k : Int)))) := intsH.fz (xs := (lk s (-1 - (k : Int)))) hz1.fz
  refine jc (v1) rfl (qI (qX (qX (qH (jb (v1) rfl (cX (jZ qU rfl hf1.slv (cX (yU rfl rfl (jb (.bool (decide ((((((lk s (-1 - (k : Int)))).length : Nat) : Int) : Int) = 1))) rfl ?_))))))))))
  by_cases h2 : (((((lk s (-1 - (k : Int)))).length : Nat) : Int) : Int) = 1
  ·refine jB (t := 20) rfl (vT h2) (jk (v1) rfl (jB (t := 20) rfl (vT h2) (jq 0 qU js rfl rfl rfl hf1.slv (by omega) (Nat.mul_one _) (jB (t := 20) rfl (vT h2) (jj yd rfl (hf1.rd (by omega)) (jB (t := 20) rfl (vT h2) (jk (ii ((k : Int))) rfl (jB (t := 20) rfl (vT h2) (yx ((-1) - ((k : Int))) rfl rfl (by omega) (by omega) (jB (t := 20) rfl (vT h2) (yU rfl rfl (cX (yp (.bool (decide ((((lk s (-1 - (k : Int)))).getD 0 0 : Int) = (-1) - ((k : Int))))) (vT h2) rfl (qI ?_))))))))))))))
   refine jV (p := (((lk s (-1 - (k : Int)))).getD 0 0 : Int) = (-1) - ((k : Int))) rfl (fun h3 => ?_) (fun h3 => ?_)
   ·refine qH (cX (jQ (s := 1) [] [ii (0)] [] qU js yv rfl (by decide) rfl CellsAre.nil rfl ?_))
    intro v2 hv1
    refine jc (v2) rfl (qI (qH (cX (jE (0) yO rfl yT (by decide) rfl rfl (cX (jj Qv rfl (Rd.own [_, _] rfl rfl) (jb (v2) rfl (cX (jQ (s := 1) [v2] [sN] [(0, [v2])] jX jF Qn rfl (by decide) rfl (.cons (cells_one (yH hv1)) CellsAre.nil) rfl ?_)))))))))
    intro v3 hv2
    show XL _ _ _ _ _ _ _ (slH 27 1 v3 1 [v2] :: intsH 2 v2 ([] : List Int) :: slH 27 1 ov ((os).length) cs1 :: cellsH b3 [ov] 50 :: cellsH b2 [sN] 50 :: cellsH b1 [sv] 50 :: L)
    refine Qd [_] _ _ rfl (fun F2 le2 hz2 => ?_)
    replace hc1 := hc1.mono le2
    replace hf1 := hf1.mono le2
    have hf2 : IntsF F2 v2 ([]) := intsH.fz (xs := []) hz2.fz
    refine cX (XOp.append (m := 1) (bytes := 24) (cs := cs1) [_] _ [v2] jX typeInfo27 rfl rfl rfl rfl rfl rfl rfl (SlV.own [] rfl) rfl (Rd.lit [] rfl) (jT (yE (yi hf2)) yM) (by (try simp only [List.length_append, List.length_nil, List.length_cons, List.length_singleton]); omega) (by (try simp only [List.length_append, List.length_nil, List.length_cons, List.length_singleton]); omega) ?_)
    intro v4 hs2 hn1 hm1
    have hc2 := RowsC.snoc hc1 hf2
    refine cX (jE (0) yO rfl yT (by decide) rfl rfl (cX (Qb [_, _] _ [v4] yT rfl rfl (yE hs2) rfl rfl rfl (qI (qH (jb (ii ((k : Int))) rfl (cX (yj (((k + 1 : Nat) : Int)) rfl rfl (by omega) (by omega) (jc (ii (((k + 1 : Nat) : Int))) rfl (qI ?_))))))))))
    exact ⟨(k + 1, v4, os ++ [[]], F2), _, (jl (jl leG1 le1) le2), rF, ⟨rfl, rfl, rfl, rfl, ⟨⟩⟩, (sD (coH.close hc2 (by first | rfl | simp) (sC (sC (sC sR))))), ⟨rfl, (jl (jl leG1 le1) le2), (hs2), (by dsimp only; rw [hos, plainGo_take (by omega), plainGo_self (one_eq (by omega) (by omega))]), (by (try dsimp only) <;> omega)⟩, (by omega)⟩
   refine jU (qH (cX (jE (0) yO rfl yT (by decide) rfl rfl (cX (jj Qv rfl (Rd.own [_] rfl rfl) (jb (v1) rfl (cX (jQ (s := 1) [v1] [sN] [(0, [v1])] jX jF Qn rfl (by decide) rfl (.cons (cells_one (yi hf1)) CellsAre.nil) rfl ?_))))))))
   intro v5 hv3
   refine cX (XOp.append (m := 1) (bytes := 24) (cs := cs1) [_] _ [v1] jX typeInfo27 rfl rfl rfl rfl rfl rfl rfl (SlV.own [] rfl) rfl (Rd.lit [] rfl) (jT (yE (yi hf1)) yM) (by (try simp only [List.length_append, List.length_nil, List.length_cons, List.length_singleton]); omega) (by (try simp only [List.length_append, List.length_nil, List.length_cons, List.length_singleton]); omega) ?_)
   intro v6 hs3 hn2 hm2
   have hc3 := RowsC.snoc hc1 hf1
   refine cX (jE (0) yO rfl yT (by decide) rfl rfl (cX (Qb [_, _] _ [v6] yT rfl rfl (yE hs3) rfl rfl rfl (qI (qH (jb (ii ((k : Int))) rfl (cX (yj (((k + 1 : Nat) : Int)) rfl rfl (by omega) (by omega) (jc (ii (((k + 1 : Nat) : Int))) rfl (qI ?_))))))))))
   exact ⟨(k + 1, v6, os ++ [(lk s (-1 - (k : Int)))], F1), _, (jl leG1 le1), rF, ⟨rfl, rfl, rfl, rfl, ⟨⟩⟩, (sD (coH.close hc3 (by first | rfl | simp) (sC (sC (sC sR))))), ⟨rfl, (jl leG1 le1), (hs3), (by dsimp only; rw [hos, plainGo_take (by omega), plainGo_other (by intro e; have e1 := congrArg List.length e; have e2 := congrArg (fun l => l.getD 0 0) e; simp only [List.length_singleton, List.getD_cons_zero] at e1 e2; omega)]), (by (try dsimp only) <;> omega)⟩, (by omega)⟩
  refine jA (t := 20) rfl (vF h2) (jA (t := 20) rfl (vF h2) (jA (t := 20) rfl (vF h2) (jA (t := 20) rfl (vF h2) (jA (t := 20) rfl (vF h2) (jA (t := 20) rfl (vF h2) (cX (yl (.bool (false)) (vF h2) rfl (qI (yV rfl (jU (qH ?_)))))))))))
  refine cX (jE (0) yO rfl yT (by decide) rfl rfl (cX (jj Qv rfl (Rd.own [_] rfl rfl) (jb (v1) rfl (cX (jQ (s := 1) [v1] [sN] [(0, [v1])] jX jF Qn rfl (by decide) rfl (.cons (cells_one (yi hf1)) CellsAre.nil) rfl ?_))))))
  intro v7 hv4
  refine cX (XOp.append (m := 1) (bytes := 24) (cs := cs1) [_] _ [v1] jX typeInfo27 rfl rfl rfl rfl rfl rfl rfl (SlV.own [] rfl) rfl (Rd.lit [] rfl) (jT (yE (yi hf1)) yM) (by (try simp only [List.length_append, List.length_nil, List.length_cons, List.length_singleton]); omega) (by (try simp only [List.length_append, List.length_nil, List.length_cons, List.length_singleton]); omega) ?_)
  intro v8 hs4 hn3 hm3
  have hc4 := RowsC.snoc hc1 hf1
  refine cX (jE (0) yO rfl yT (by decide) rfl rfl (cX (Qb [_, _] _ [v8] yT rfl rfl (yE hs4) rfl rfl rfl (qI (qH (jb (ii ((k : Int))) rfl (cX (yj (((k + 1 : Nat) : Int)) rfl rfl (by omega) (by omega) (jc (ii (((k + 1 : Nat) : Int))) rfl (qI ?_))))))))))
  exact ⟨(k + 1, v8, os ++ [(lk s (-1 - (k : Int)))], F1), _, (jl leG1 le1), rF, ⟨rfl, rfl, rfl, rfl, ⟨⟩⟩, (sD (coH.close hc4 (by first | rfl | simp) (sC (sC (sC sR))))), ⟨rfl, (jl leG1 le1), (hs4), (by dsimp only; rw [hos, plainGo_take (by omega), plainGo_other (by intro e; have e1 := congrArg List.length e; have e2 := congrArg (fun l => l.getD 0 0) e; simp only [List.length_singleton, List.getD_cons_zero] at e1 e2; omega)]), (by (try dsimp only) <;> omega)⟩, (by omega)⟩
 refine yB (jO (jO (yk (qX (yf (yI (α := Value × RowL × FH) (fun xQ => [(2, ptr b2 0), (3, ptr b3 0)]) (fun xQ => rowsH 27 xQ.2.2 xQ.1 xQ.2.1 :: cellsH b3 [xQ.1] 50 :: cellsH b2 [sN] 50 :: cellsH b1 [sv] 50 :: L) (fun xQ F' => xQ.2.2 = F' ∧ G1 ≤ xQ.2.2 ∧ (IsSl xQ.1) ∧ (trim xQ.2.1 = plainL s) ∧ (xQ.2.1.length ≤ 24)) (fun xQ => xQ.2.1.length) (ov, os, G1) ⟨rfl, rfl, ⟨⟩⟩ (coH.close hc1 (by first | rfl | simp) (sC (sC (sC sR)))) ⟨rfl, FLe.refl _, (hov), (by dsimp only; rw [hos, plainL, List.take_of_length_le (by rw [plainGo_length]; omega)]), (by dsimp only; rw [hos, List.length_take, plainGo_length]; omega)⟩ ?_))))))
 rintro ⟨ov2, os2, G2⟩ rE _ _ ⟨rfl, leG, hov2, hos2, hl2⟩
 show X _ _ _ _ (envs [(2, ptr b2 0), (3, ptr b3 0)] rE) _ (rowsH 27 G2 ov2 os2 :: cellsH b3 [ov2] 50 :: cellsH b2 [sN] 50 :: cellsH b1 [sv] 50 :: L)
 replace leG : G1 ≤ G2 := leG
 dsimp only at hov2 hos2 hl2
 have leG2 := leG
 refine X.open [] rfl (fun cs2 hc5 => ?_)
 replace hc5 : RowsC G2 cs2 os2 := hc5
 refine qX (qX (qH (cX (jE (0) yO rfl yT (by decide) rfl rfl (cX (jj Qv rfl (Rd.own [_] rfl rfl) (cX (jZ jX rfl (SlV.own [] rfl) (cX (Qf rfl rfl (jb (.bool (decide (((os2.length : Int) : Int) > 0))) rfl ?_)))))))))))
 by_cases h4 : ((os2.length : Int) : Int) > 0
 ·refine jB (t := 39) rfl (vT h4) (jE (0) yO rfl yT (by decide) rfl rfl (jB (t := 39) rfl (vT h4) (jj Qv rfl (Rd.own [_] rfl rfl) (jB (t := 39) rfl (vT h4) (jE (0) yO rfl yT (by decide) rfl rfl (jB (t := 39) rfl (vT h4) (jj Qv rfl (Rd.own [_] rfl rfl) (jB (t := 39) rfl (vT h4) (jZ jX rfl (SlV.own [] rfl) (jB (t := 39) rfl (vT h4) (yx (((os2.length - 1 : Nat) : Int)) rfl rfl (by omega) (by omega) (jB (t := 39) rfl (vT h4) (jq (os2.length - 1) jX jF rfl rfl rfl (SlV.own [] rfl) (by omega) (Nat.mul_one _) ?_)))))))))))))
  obtain ⟨a1, ha1, he1⟩ := hc5.get (i := os2.length - 1) (by omega)
  refine jB (t := 39) rfl (vT h4) (jj yt rfl (Rd.sl [] rfl he1) (jB (t := 39) rfl (vT h4) (jZ qU rfl ha1.slv (jB (t := 39) rfl (vT h4) (yU rfl rfl (cX (yp (.bool (decide ((((((os2.getD (os2.length - 1) [])).length : Nat) : Int) : Int) = 0))) (vT h4) rfl (qI ?_))))))))
  refine jV (p := (((((os2.getD (os2.length - 1) [])).length : Nat) : Int) : Int) = 0) rfl (fun h5 => ?_) (fun h5 => ?_)
  ·refine jU (yf (qH (cX (jE (0) yO rfl yT (by decide) rfl rfl (cX (jj Qv rfl (Rd.own [_] rfl rfl) (cX (jE (0) yO rfl yT (by decide) rfl rfl (cX (jj Qv rfl (Rd.own [_] rfl rfl) (cX (jZ jX rfl (SlV.own [] rfl) (cX (yx (((os2.length - 1 : Nat) : Int)) rfl rfl (by omega) (by omega) (cX (XOp.sliceOwn (cs := cs2) [] _ (os2.length - 1) jX jF rfl rfl ⟨_, rfl⟩ (by omega) ?_))))))))))))))))
   intro v9 hs5
   have hc6 : RowsC G2 _ _ := CO.take hc5 (k := os2.length - 1) (by omega)
   refine cX (jE (0) yO rfl yT (by decide) rfl rfl (cX (Qb [_] _ [v9] yT rfl rfl (yE hs5) rfl rfl rfl (qI ?_))))
   exact ⟨(v9, (os2.take (os2.length - 1)), G2), _, leG2, rF, ⟨rfl, rfl, ⟨⟩⟩, (coH.close hc6 (by first | rfl | simp) (sC (sC (sC sR)))), ⟨rfl, leG2, (hs5), (by dsimp only; rw [trim_cut (by omega) (List.eq_nil_of_length_eq_zero (by omega))]; exact hos2), (by dsimp only; rw [List.length_take]; omega)⟩, (by dsimp only; rw [List.length_take]; omega)⟩
  refine yB (jO (jO (yk (qX (qH (cX (yc [ov2] isAgg50 Qx rfl rfl (Rd.ownN [_] rfl rfl) (cX (yL [_, _] _ [ov2] Qx rfl rfl rfl (jT (yE hov2) yM) rfl rfl rfl (qI (yz [] _ _ rfl (fun F3 le3 hz3 => ?_))))))))))))
  replace hc5 := hc5.mono le3
  have hf3 : RowsF F3 ov2 os2 := CO.fz hc5 (by first | rfl | omega | (rw [List.length_set]; omega) | (simp; done)) hz3.fz
  refine jW (jR (L' := L) [.agg #[ov2]] (.agg #[ov2]) (.cell rfl (loadNV [ov2] isAgg50 Qx rfl (Rd.ownN [_] rfl rfl)) .nil) rfl (jl (jl leG1 leG2) le3) rF (sD (sD (sD sR))) ?_)
  have e : os2 = plainL s := by rw [← hos2]; exact (trim_last (fun h0 e => by have := congrArg List.length e; simp only [List.length_nil] at this; omega)).symm
  exact ⟨_, rfl, by rw [← e]; exact hf3, rfl⟩
 refine jA (t := 39) rfl (vF h4) (jA (t := 39) rfl (vF h4) (jA (t := 39) rfl (vF h4) (jA (t := 39) rfl (vF h4) (jA (t := 39) rfl (vF h4) (jA (t := 39) rfl (vF h4) (jA (t := 39) rfl (vF h4) (jA (t := 39) rfl (vF h4) (jA (t := 39) rfl (vF h4) (jA (t := 39) rfl (vF h4) ?_)))))))))
 refine cX (yl (.bool (false)) (vF h4) rfl (qI (yV rfl (yB (jO (jO (yk (qX (qH (cX (yc [ov2] isAgg50 Qx rfl rfl (Rd.ownN [_] rfl rfl) (cX (yL [_, _] _ [ov2] Qx rfl rfl rfl (jT (yE hov2) yM) rfl rfl rfl (qI (yz [] _ _ rfl (fun F4 le4 hz4 => ?_))))))))))))))))
 replace hc5 := hc5.mono le4
 have hf4 : RowsF F4 ov2 os2 := CO.fz hc5 (by first | rfl | omega | (rw [List.length_set]; omega) | (simp; done)) hz4.fz
 refine jW (jR (L' := L) [.agg #[ov2]] (.agg #[ov2]) (.cell rfl (loadNV [ov2] isAgg50 Qx rfl (Rd.ownN [_] rfl rfl)) .nil) rfl (jl (jl leG1 leG2) le4) rF (sD (sD (sD sR))) ?_)
 have e : os2 = plainL s := by rw [← hos2]; exact (trim_last (fun h0 e => by have := congrArg List.length e; simp only [List.length_nil] at this; omega)).symm
 exact ⟨_, rfl, by rw [← e]; exact hf4, rfl⟩

/- spec.l4Match -/
theorem l4Match_spec {F : FH} {L : List HP} {arv : Value} {ar : List Int} (har : IntsF F arv ar) {pv : Value} {p : List Int} (hp : IntsF F pv p) {tv : Value} {t : List Int} (ht : IntsF F tv t) (ho : termOk ar t = true) (hpo : termOk ar p = true) :
    Does prog 120 [.agg #[arv], pv, tv] F (L) (fun v F' L' => ∃ (a : Value), (.tuple #[.agg #[a], .bool ((matchB ar p t).isSome)] : Value) = v ∧ (RowsF F' a (matchP ar p t)) ∧ L = L') := by
 refine ym func120 rfl rfl rfl ?_
 have hpl := termOk_len hpo
 have hpg := fun k (hk : k < p.length) => termOk_ge hpo hk
 have htl := termOk_len ho
 have hsl := sigOk_spec (termOk_sig ho)
 refine qX (qH (cX (yD [arv] rfl rfl ?_)))
 intro b1
 refine cX (Qe [sN] zeroValue50 rfl ?_)
 intro b2
 refine jc (.bool (false)) rfl (qI (qX (qH (cX (XOp.makeSlice (n := 24) (bytes := 24) [sN] jX jF typeInfo27 rfl Qn rfl rfl rfl rfl (by omega) (by omega) ?_)))))
 intro v1 hv1
 rw [nils]
 have hc1 : RowsC F _ _ := RowsC.nils 24
 refine cX (yJ [v1] [sN] [(0, 1)] [(0, [v1])] yO zeroValue50 rfl (.cons rfl yT PlacesAre.nil) rfl (.cons (cells_one (yH hv1)) CellsAre.nil) (cX (Qe [sN] zeroValue50 rfl ?_)))
 intro b3
 refine cX (yL [] _ [v1] Qx rfl rfl rfl (jT (yE (yH hv1)) yM) rfl rfl rfl (qI (qX (qH (jc (ii (0)) rfl (qI (qX (qX (qH (jc (ii (0)) rfl (qI (yf (yI (α := Nat × Nat × RowL × FH) (fun xQ => [(1, pv), (2, tv), (3, ptr b1 0), (6, ptr b2 0), (8, ptr b3 0), (9, ii (((xQ.2.1 : Nat) : Int))), (10, ii (((xQ.1 : Nat) : Int)))]) (fun xQ => cellsH b3 [v1] 50 :: rowsH 27 xQ.2.2.2 v1 xQ.2.2.1 :: cellsH b2 [sN] 50 :: cellsH b1 [arv] 29 :: L) (fun xQ F' => xQ.2.2.2 = F' ∧ F ≤ xQ.2.2.2 ∧ (xQ.2.2.1.length = 24) ∧ (xQ.1 ≤ p.length) ∧ (xQ.2.1 ≤ t.length) ∧ (matchB ar p t = mGo ar t (p.drop xQ.1) xQ.2.1 xQ.2.2.1)) (fun xQ => p.length - xQ.1) (0, 0, (List.replicate 24 [] : List (List Int)), F) ⟨rfl, rfl, rfl, rfl, rfl, rfl, rfl, ⟨⟩⟩ (sC (coH.close hc1 (by first | rfl | simp) (sC (sC sR)))) ⟨rfl, FLe.refl _, (by simp), (by (try dsimp only) <;> omega), (by (try dsimp only) <;> omega), (rfl)⟩ ?_)))))))))))))
 rintro ⟨k, i, bl, G1⟩ rE _ _ ⟨rfl, leG, hbl, hk, hi, hm⟩
 show X _ _ _ _ (envs [(1, pv), (2, tv), (3, ptr b1 0), (6, ptr b2 0), (8, ptr b3 0), (9, ii ((i : Int))), (10, ii ((k : Int)))] rE) _ (cellsH b3 [v1] 50 :: rowsH 27 G1 v1 bl :: cellsH b2 [sN] 50 :: cellsH b1 [arv] 29 :: L)
 replace leG : F ≤ G1 := leG
 dsimp only at hbl hk hi hm
 have hpk := hpg k
 have hsl2 := fun h => sub_length (p := i) ho h
 have hee := fun h => endN_spec (p := i) ho h
 have leG1 := leG
 replace har := har.mono leG1
 replace hp := hp.mono leG1
 replace ht := ht.mono leG1
 refine X.open [_] rfl (fun cs1 hc2 => ?_)
 replace hc2 : RowsC G1 cs1 bl := hc2
 refine qX (qX (qH (jb (ii ((k : Int))) rfl (jb (pv) rfl (cX (jZ qU rfl hp.slv (cX (yo rfl rfl (qI ?_)))))))))
 refine jV (p := (k : Int) < (p.length : Int)) rfl (fun h1 => ?_) (fun h1 => ?_)
 ·refine jU (qX (yf (qX (qX (qH (jb (ii ((i : Int))) rfl (jb (tv) rfl (cX (jZ qU rfl ht.slv (cX (XOp.geq rfl rfl (qI ?_))))))))))))
  refine jV (p := (i : Int) ≥ (t.length : Int)) rfl (fun h2 => ?_) (fun h2 => ?_)
  ·refine qX (qH (cX (yJ [sN] [sN] [(0, 1)] [] yO zeroValue50 rfl (.cons rfl yT PlacesAre.nil) rfl CellsAre.nil (cX (yL [_, _] _ [sN] Qx rfl rfl rfl (jT rfl yM) rfl rfl rfl (jc (.bool (false)) rfl (qI (jW (jw (ya (jw (jw (ya (jw (jR (L' := L) [.agg #[sN], .bool (false)] (.tuple #[.agg #[sN], .bool (false)]) (.cell rfl (loadNV [sN] isAgg50 Qx rfl (Rd.ownN [_, _] rfl rfl)) (.tmp rfl .nil)) rfl leG1 rF (sD (sD (sD (sD sR)))) ?_)))))))))))))))
   have hz : matchB ar p t = none := hm.trans (mGo_short (by omega) (by omega))
   exact ⟨_, by rw [hz]; rfl, by rw [matchP, hz]; exact SlOf.nilV, rfl⟩
  refine jU (qX (qX (qH (jb (pv) rfl (jb (ii ((k : Int))) rfl (cX (jq k qU js rfl rfl rfl hp.slv (by omega) (Nat.mul_one _) (cX (jj yd rfl (hp.rd (by omega)) (cX (XOp.geq rfl rfl (qI ?_))))))))))))
  refine jV (p := (p.getD k 0 : Int) ≥ 0) rfl (fun h3 => ?_) (fun h3 => ?_)
  ·refine qX (qX ?_)
   refine yN [cellsH b3 [v1] 50, slH 27 1 v1 ((bl).length) cs1, cellsH b2 [sN] 50, cellsH b1 [arv] 29] L 8 [] [[], [], [0, 1], [2], [], [], [4, 5], [6]] (phiL [qe pv, qe (ii ((k : Int)) : Value), qe (.pointer (some (elemA pv (k)))), qe (ii (p.getD k 0)), qe tv, qe (ii ((i : Int)) : Value), qe (.pointer (some (elemA tv (i)))), qe (ii (t.getD i 0))]) (ownL []) mixed rfl rfl (by kernel_rfl) ?_ ?_
   ·refine pD (fun W R z9 => ?_) ?_
    ·refine je (jk (pv) rfl ?_)
     exact ⟨rfl, rfl, rfl⟩
    refine pD (fun W R z9 => ?_) ?_
    ·refine je (jk (ii ((k : Int))) rfl ?_)
     exact ⟨rfl, rfl, rfl⟩
    refine pD (fun W R z9 => ?_) ?_
    ·rw [eS (l := [(0, _), (1, _)]) ⟨z9 0 rfl, z9 1 rfl, ⟨⟩⟩]
     refine je (jq k qU js rfl rfl rfl hp.slv (by omega) (Nat.mul_one _) ?_)
     exact ⟨rfl, rfl, rfl⟩
    refine pD (fun W R z9 => ?_) ?_
    ·rw [eS (l := [(2, _)]) ⟨z9 2 rfl, ⟨⟩⟩]
     refine je (jj yd rfl (hp.rd (by omega)) ?_)
     exact ⟨rfl, rfl, rfl⟩
    refine pD (fun W R z9 => ?_) ?_
    ·refine je (jk (tv) rfl ?_)
     exact ⟨rfl, rfl, rfl⟩
    refine pD (fun W R z9 => ?_) ?_
    ·refine je (jk (ii ((i : Int))) rfl ?_)
     exact ⟨rfl, rfl, rfl⟩
    refine pD (fun W R z9 => ?_) ?_
    ·rw [eS (l := [(4, _), (5, _)]) ⟨z9 4 rfl, z9 5 rfl, ⟨⟩⟩]
     refine je (jq i qU js rfl rfl rfl ht.slv (by omega) (Nat.mul_one _) ?_)
     exact ⟨rfl, rfl, rfl⟩
    refine pD (fun W R z9 => ?_) ?_
    ·rw [eS (l := [(6, _)]) ⟨z9 6 rfl, ⟨⟩⟩]
     refine je (jj yd rfl (ht.rd (by omega)) ?_)
     exact ⟨rfl, rfl, rfl⟩
    exact stepsP.nil
   intro W hphi
   rw [eS (l := [(3, _), (7, _)]) ⟨(hphi 3 (by decide)), (hphi 7 (by decide)), ⟨⟩⟩]
   show XL _ _ _ _ _ _ _ (cellsH b3 [v1] 50 :: slH 27 1 v1 ((bl).length) cs1 :: cellsH b2 [sN] 50 :: cellsH b1 [arv] 29 :: L)
   refine cX (XOp.neq rfl rfl (qI ?_))
   refine jV (p := (p.getD k 0 : Int) ≠ t.getD i 0) rfl (fun h4 => ?_) (fun h4 => ?_)
   ·refine qX (qH (cX (yJ [sN] [sN] [(0, 1)] [] yO zeroValue50 rfl (.cons rfl yT PlacesAre.nil) rfl CellsAre.nil (cX (yL [_, _] _ [sN] Qx rfl rfl rfl (jT rfl yM) rfl rfl rfl (jc (.bool (false)) rfl (qI (jW (jw (jw (ya (jw (jw (ya (jw (jR (L' := L) [.agg #[sN], .bool (false)] (.tuple #[.agg #[sN], .bool (false)]) (.cell rfl (loadNV [sN] isAgg50 Qx rfl (Rd.ownN [_, _] rfl rfl)) (.tmp rfl .nil)) rfl leG1 rF (sD (sD (sD (sD sR)))) ?_))))))))))))))))
    have hz : matchB ar p t = none := hm.trans (mGo_ne (by omega) (by omega) (by omega) (by omega))
    exact ⟨_, by rw [hz]; rfl, by rw [matchP, hz]; exact SlOf.nilV, rfl⟩
   refine jU (qX (qH (jb (ii ((i : Int))) rfl (cX (yj (((i + 1 : Nat) : Int)) rfl rfl (by omega) (by omega) (jc (ii (((i + 1 : Nat) : Int))) rfl (qI (yB (jO (yk (qH (jb (ii ((k : Int))) rfl (cX (yj (((k + 1 : Nat) : Int)) rfl rfl (by omega) (by omega) (jc (ii (((k + 1 : Nat) : Int))) rfl ?_)))))))))))))))
   refine qI ?_
   exact ⟨(k + 1, i + 1, bl, G1), _, leG1, rF, ⟨rfl, rfl, rfl, rfl, rfl, rfl, rfl, ⟨⟩⟩, (sC (coH.close hc2 (by first | rfl | simp) (sC (sC sR)))), ⟨rfl, leG1, (by (try dsimp only); (try simp only [List.length_set]) <;> omega), (by (try dsimp only) <;> omega), (by (try dsimp only) <;> omega), (hm.trans (mGo_sym (by omega) (by omega) (by omega) (by omega)))⟩, (by omega)⟩
  refine jU (qX (qH (cX (yc [arv] yF ys rfl rfl (Rd.ownN [_, _, _] rfl rfl) (jb (tv) rfl (jb (ii ((i : Int))) rfl (cX (Qo <| jL (args := [.agg #[arv], tv, ii (i : Int)]) call174 rfl (l1Sub_spec (p := i) har ht (ho := (by first | assumption | rfl | omega | simp)) (hp := (by first | assumption | rfl | omega | simp))) ?_))))))))
  rintro v2 _ _ _ ⟨rfl, hs1, rfl⟩
  refine ⟨_, _, rfl, fun F1 le1 hz1 => ?_⟩
  replace hp := hp.mono le1
  replace hc2 := hc2.mono le1
  have hf1 : IntsF F1 v2 ((sub ar t i)) := intsH.fz (xs := (sub ar t i)) hz1.fz
  refine jc (v2) rfl (qI (qX ?_))
  refine yN [cellsH b3 [v1] 50, slH 27 1 v1 ((bl).length) cs1, cellsH b2 [sN] 50, cellsH b1 [arv] 29] L 7 [] [[], [0], [], [], [2, 3], [4], [5]] (phiL [qe (ptr b3 0), qe v1, qe pv, qe (ii ((k : Int)) : Value), qe (.pointer (some (elemA pv (k)))), qe (ii (p.getD k 0)), qe (ii ((-1) - (p.getD k 0)))]) (ownL []) mixed rfl rfl (by kernel_rfl) ?_ ?_
  ·refine pD (fun W R z9 => ?_) ?_
   ·refine je (jE (0) yO rfl yT (by decide) rfl rfl ?_)
    exact ⟨rfl, rfl, rfl⟩
   refine pD (fun W R z9 => ?_) ?_
   ·rw [eS (l := [(0, _)]) ⟨z9 0 rfl, ⟨⟩⟩]
    refine je (jj Qv rfl (Rd.own [] rfl rfl) ?_)
    exact ⟨rfl, rfl, rfl⟩
   refine pD (fun W R z9 => ?_) ?_
   ·refine je (jk (pv) rfl ?_)
    exact ⟨rfl, rfl, rfl⟩
   refine pD (fun W R z9 => ?_) ?_
   ·refine je (jk (ii ((k : Int))) rfl ?_)
    exact ⟨rfl, rfl, rfl⟩
   refine pD (fun W R z9 => ?_) ?_
   ·rw [eS (l := [(2, _), (3, _)]) ⟨z9 2 rfl, z9 3 rfl, ⟨⟩⟩]
    refine je (jq k qU js rfl rfl rfl hp.slv (by omega) (Nat.mul_one _) ?_)
    exact ⟨rfl, rfl, rfl⟩
   refine pD (fun W R z9 => ?_) ?_
   ·rw [eS (l := [(4, _)]) ⟨z9 4 rfl, ⟨⟩⟩]
    refine je (jj yd rfl (hp.rd (by omega)) ?_)
    exact ⟨rfl, rfl, rfl⟩
   refine pD (fun W R z9 => ?_) ?_
   ·rw [eS (l := [(5, _)]) ⟨z9 5 rfl, ⟨⟩⟩]
    refine je (yx ((-1) - (p.getD k 0)) rfl rfl (by omega) (by omega) ?_)
    exact ⟨rfl, rfl, rfl⟩
   exact stepsP.nil
  intro W hphi
  rw [eS (l := [(1, _), (6, _)]) ⟨(hphi 1 (by decide)), (hphi 6 (by decide)), ⟨⟩⟩]
  show XL _ _ _ _ _ _ _ (cellsH b3 [v1] 50 :: slH 27 1 v1 ((bl).length) cs1 :: cellsH b2 [sN] 50 :: cellsH b1 [arv] 29 :: L)
  refine cX (jq (((-1) - (p.getD k 0)).toNat) jX jF rfl rfl (by omega) (SlV.own [_] rfl) (by omega) (Nat.mul_one _) ?_)
  obtain ⟨a1, ha1, he1⟩ := hc2.get (i := ((-1) - (p.getD k 0)).toNat) (by omega)
  refine cX (jj yt rfl (Rd.sl [_] rfl he1) (jc (a1) rfl (qI (qX (qX (qH (jb (a1) rfl (cX (jZ qU rfl ha1.slv (cX (Qf rfl rfl (jb (.bool (decide ((((((bl.getD (((-1) - (p.getD k 0)).toNat) [])).length : Nat) : Int) : Int) > 0))) rfl ?_))))))))))))
  by_cases h5 : (((((bl.getD (((-1) - (p.getD k 0)).toNat) [])).length : Nat) : Int) : Int) > 0
  ·refine jB (t := 59) rfl (vT h5) (jk (a1) rfl (jB (t := 59) rfl (vT h5) (jk (v2) rfl (jB (t := 59) rfl (vT h5) (jL (args := [a1, v2]) call126 rfl (SameTerm_spec ha1 hf1 (hbd := (by first | assumption | rfl | omega | (left; simp; done) | (right; simp; done)))) ?_)))))
   rintro _ _ _ _ ⟨rfl, rfl, rfl⟩
   refine jB (t := 59) rfl (vT h5) (Qw rfl (cX (yp (.bool (decide (¬(((bl.getD (((-1) - (p.getD k 0)).toNat) [])) = ((sub ar t i)))))) (vT h5) rfl (qI ?_))))
   refine jV (p := ¬(((bl.getD (((-1) - (p.getD k 0)).toNat) [])) = ((sub ar t i)))) rfl (fun h6 => ?_) (fun h6 => ?_)
   ·refine qX (qH (cX (yJ [sN] [sN] [(0, 1)] [] yO zeroValue50 rfl (.cons rfl yT PlacesAre.nil) rfl CellsAre.nil (cX (yL [_, _] _ [sN] Qx rfl rfl rfl (jT rfl yM) rfl rfl rfl (jc (.bool (false)) rfl (qI (jW (jw (ya (jw (jw (ya (jw (jR (L' := L) [.agg #[sN], .bool (false)] (.tuple #[.agg #[sN], .bool (false)]) (.cell rfl (loadNV [sN] isAgg50 Qx rfl (Rd.ownN [_, _] rfl rfl)) (.tmp rfl .nil)) rfl (jl leG1 le1) rF (sD (sD (sD (sD sR)))) ?_)))))))))))))))
    have hz : matchB ar p t = none := hm.trans (mGo_clash (by omega) (by omega) (by omega) (by intro e; have := congrArg List.length (show bl.getD (-1 - p.getD k 0).toNat [] = [] from e); simp only [List.length_nil] at this; omega) (by assumption))
    exact ⟨_, by rw [hz]; rfl, by rw [matchP, hz]; exact SlOf.nilV, rfl⟩
   refine jU (qX ?_)
   refine yN [cellsH b3 [v1] 50, slH 27 1 v1 ((bl).length) cs1, cellsH b2 [sN] 50, cellsH b1 [arv] 29] L 8 [] [[], [0], [], [], [2, 3], [4], [5]] (phiL [qe (ptr b3 0), qe v1, qe pv, qe (ii ((k : Int)) : Value), qe (.pointer (some (elemA pv (k)))), qe (ii (p.getD k 0)), qe (ii ((-1) - (p.getD k 0))), qe v2]) (ownL []) mixed rfl rfl (by kernel_rfl) ?_ ?_
   ·refine pD (fun W R z9 => ?_) ?_
    ·refine je (jE (0) yO rfl yT (by decide) rfl rfl ?_)
     exact ⟨rfl, rfl, rfl⟩
    refine pD (fun W R z9 => ?_) ?_
    ·rw [eS (l := [(0, _)]) ⟨z9 0 rfl, ⟨⟩⟩]
     refine je (jj Qv rfl (Rd.own [] rfl rfl) ?_)
     exact ⟨rfl, rfl, rfl⟩
    refine pD (fun W R z9 => ?_) ?_
    ·refine je (jk (pv) rfl ?_)
     exact ⟨rfl, rfl, rfl⟩
    refine pD (fun W R z9 => ?_) ?_
    ·refine je (jk (ii ((k : Int))) rfl ?_)
     exact ⟨rfl, rfl, rfl⟩
    refine pD (fun W R z9 => ?_) ?_
    ·rw [eS (l := [(2, _), (3, _)]) ⟨z9 2 rfl, z9 3 rfl, ⟨⟩⟩]
     refine je (jq k qU js rfl rfl rfl hp.slv (by omega) (Nat.mul_one _) ?_)
     exact ⟨rfl, rfl, rfl⟩
    refine pD (fun W R z9 => ?_) ?_
    ·rw [eS (l := [(4, _)]) ⟨z9 4 rfl, ⟨⟩⟩]
     refine je (jj yd rfl (hp.rd (by omega)) ?_)
     exact ⟨rfl, rfl, rfl⟩
    refine pD (fun W R z9 => ?_) ?_
    ·rw [eS (l := [(5, _)]) ⟨z9 5 rfl, ⟨⟩⟩]
     refine je (yx ((-1) - (p.getD k 0)) rfl rfl (by omega) (by omega) ?_)
     exact ⟨rfl, rfl, rfl⟩
    refine pD (fun W R z9 => ?_) ?_
    ·refine je (jk (v2) rfl ?_)
     exact ⟨rfl, rfl, rfl⟩
    exact stepsP.nil
   intro W hphi
   rw [eS (l := [(1, _), (6, _), (7, _)]) ⟨(hphi 1 (by decide)), (hphi 6 (by decide)), (hphi 7 (by decide)), ⟨⟩⟩]
   show XL _ _ _ _ _ _ _ (cellsH b3 [v1] 50 :: slH 27 1 v1 ((bl).length) cs1 :: cellsH b2 [sN] 50 :: cellsH b1 [arv] 29 :: L)
   refine cX (jq (((-1) - (p.getD k 0)).toNat) jX jF rfl rfl (by omega) (SlV.own [_] rfl) (by omega) (Nat.mul_one _) (cX (XOp.storeS (i := ((-1) - (p.getD k 0)).toNat) (cs := cs1) [_] _ jF rfl rfl (yE (yi hf1)) rfl (by have h9 := CO.len hc2; (try simp only [List.length_set, List.length_replicate] at h9 ⊢) <;> omega) ?_)))
   have hc3 := hc2.set (((-1) - (p.getD k 0)).toNat) hf1
   refine qI (qH (jb (ii ((i : Int))) rfl (jb (v2) rfl (cX (jZ qU rfl hf1.slv (cX (yj (((i + (((sub ar t i)).length) : Nat) : Int)) rfl rfl (by omega) (by omega) (jc (ii (((i + (((sub ar t i)).length) : Nat) : Int))) rfl (qI (qH (jb (ii ((k : Int))) rfl (cX (yj (((k + 1 : Nat) : Int)) rfl rfl (by omega) (by omega) (jc (ii (((k + 1 : Nat) : Int))) rfl ?_))))))))))))))
   refine qI ?_
   exact ⟨(k + 1, i + (((sub ar t i)).length), (bl.set (((-1) - (p.getD k 0)).toNat) ((sub ar t i))), F1), _, (jl leG1 le1), rF, ⟨rfl, rfl, rfl, rfl, rfl, rfl, rfl, ⟨⟩⟩, (sC (coH.close hc3 (by first | rfl | simp) (sC (sC sR)))), ⟨rfl, (jl leG1 le1), (by (try dsimp only); (try simp only [List.length_set]) <;> omega), (by (try dsimp only) <;> omega), (by (try dsimp only) <;> omega), (hm.trans (m4_next (by omega) (by omega) (by omega) (by first | (left; exact List.eq_nil_of_length_eq_zero (show (bl.getD (-1 - p.getD k 0).toNat []).length = 0 by omega)) | (right; first | assumption | exact Classical.not_not.1 (by assumption)))))⟩, (by omega)⟩
  refine jA (t := 59) rfl (vF h5) (jA (t := 59) rfl (vF h5) (jA (t := 59) rfl (vF h5) (jA (t := 59) rfl (vF h5) (cX (yl (.bool (false)) (vF h5) rfl (qI (yV rfl (jU (qX ?_)))))))))
  refine yN [cellsH b3 [v1] 50, slH 27 1 v1 ((bl).length) cs1, cellsH b2 [sN] 50, cellsH b1 [arv] 29] L 8 [] [[], [0], [], [], [2, 3], [4], [5]] (phiL [qe (ptr b3 0), qe v1, qe pv, qe (ii ((k : Int)) : Value), qe (.pointer (some (elemA pv (k)))), qe (ii (p.getD k 0)), qe (ii ((-1) - (p.getD k 0))), qe v2]) (ownL []) mixed rfl rfl (by kernel_rfl) ?_ ?_
  ·refine pD (fun W R z9 => ?_) ?_
   ·refine je (jE (0) yO rfl yT (by decide) rfl rfl ?_)
    exact ⟨rfl, rfl, rfl⟩
   refine pD (fun W R z9 => ?_) ?_
   ·rw [eS (l := [(0, _)]) ⟨z9 0 rfl, ⟨⟩⟩]
    refine je (jj Qv rfl (Rd.own [] rfl rfl) ?_)
    exact ⟨rfl, rfl, rfl⟩
   refine pD (fun W R z9 => ?_) ?_
   ·refine je (jk (pv) rfl ?_)
    exact ⟨rfl, rfl, rfl⟩
   refine pD (fun W R z9 => ?_) ?_
   ·refine je (jk (ii ((k : Int))) rfl ?_)
    exact ⟨rfl, rfl, rfl⟩
   refine pD (fun W R z9 => ?_) ?_
   ·rw [eS (l := [(2, _), (3, _)]) ⟨z9 2 rfl, z9 3 rfl, ⟨⟩⟩]
    refine je (jq k qU js rfl rfl rfl hp.slv (by omega) (Nat.mul_one _) ?_)
    exact ⟨rfl, rfl, rfl⟩
   refine pD (fun W R z9 => ?_) ?_
   ·rw [eS (l := [(4, _)]) ⟨z9 4 rfl, ⟨⟩⟩]
    refine je (jj yd rfl (hp.rd (by omega)) ?_)
    exact ⟨rfl, rfl, rfl⟩
   refine pD (fun W R z9 => ?_) ?_
   ·rw [eS (l := [(5, _)]) ⟨z9 5 rfl, ⟨⟩⟩]
    refine je (yx ((-1) - (p.getD k 0)) rfl rfl (by omega) (by omega) ?_)
    exact ⟨rfl, rfl, rfl⟩
   refine pD (fun W R z9 => ?_) ?_
   ·refine je (jk (v2) rfl ?_)
    exact ⟨rfl, rfl, rfl⟩
   exact stepsP.nil
  intro W hphi
  rw [eS (l := [(1, _), (6, _), (7, _)]) ⟨(hphi 1 (by decide)), (hphi 6 (by decide)), (hphi 7 (by decide)), ⟨⟩⟩]
  show XL _ _ _ _ _ _ _ (cellsH b3 [v1] 50 :: slH 27 1 v1 ((bl).length) cs1 :: cellsH b2 [sN] 50 :: cellsH b1 [arv] 29 :: L)
  refine cX (jq (((-1) - (p.getD k 0)).toNat) jX jF rfl rfl (by omega) (SlV.own [_] rfl) (by omega) (Nat.mul_one _) (cX (XOp.storeS (i := ((-1) - (p.getD k 0)).toNat) (cs := cs1) [_] _ jF rfl rfl (yE (yi hf1)) rfl (by have h9 := CO.len hc2; (try simp only [List.length_set, List.length_replicate] at h9 ⊢) <;> omega) ?_)))
  have hc4 := hc2.set (((-1) - (p.getD k 0)).toNat) hf1
  refine qI (qH (jb (ii ((i : Int))) rfl (jb (v2) rfl (cX (jZ qU rfl hf1.slv (cX (yj (((i + (((sub ar t i)).length) : Nat) : Int)) rfl rfl (by omega) (by omega) (jc (ii (((i + (((sub ar t i)).length) : Nat) : Int))) rfl (qI (qH (jb (ii ((k : Int))) rfl (cX (yj (((k + 1 : Nat) : Int)) rfl rfl (by omega) (by omega) (jc (ii (((k + 1 : Nat) : Int))) rfl ?_))))))))))))))
  refine qI ?_
  exact ⟨(k + 1, i + (((sub ar t i)).length), (bl.set (((-1) - (p.getD k 0)).toNat) ((sub ar t i))), F1), _, (jl leG1 le1), rF, ⟨rfl, rfl, rfl, rfl, rfl, rfl, rfl, ⟨⟩⟩, (sC (coH.close hc4 (by first | rfl | simp) (sC (sC sR)))), ⟨rfl, (jl leG1 le1), (by (try dsimp only); (try simp only [List.length_set]) <;> omega), (by (try dsimp only) <;> omega), (by (try dsimp only) <;> omega), (hm.trans (m4_next (by omega) (by omega) (by omega) (by first | (left; exact List.eq_nil_of_length_eq_zero (show (bl.getD (-1 - p.getD k 0).toNat []).length = 0 by omega)) | (right; first | assumption | exact Classical.not_not.1 (by assumption)))))⟩, (by omega)⟩
 refine yB (jO (jO (yk (qX (qH (cX (yc [v1] isAgg50 Qx rfl rfl (Rd.ownN [] rfl rfl) ?_)))))))
 have hmb := (matchB_len (hm.trans (mGo_done (by omega)))).2
 refine Qd [_] _ _ rfl (fun F2 le2 hz2 => ?_)
 replace hc2 := hc2.mono le2
 have hf2 : RowsF F2 v1 bl := CO.fz hc2 (by first | rfl | omega | (rw [List.length_set]; omega) | (simp; done)) hz2.fz
 refine cX (jL (args := [.agg #[v1]]) call186 rfl (l2Plain_spec hf2 (hsl := (by omega)) (hsb := (fun j => by have := hmb j; omega))) ?_)
 rintro _ F3 _ le3 ⟨x1, rfl, hr1, rfl⟩
 refine cX (yL [_] _ [x1] Qx rfl rfl rfl (jT (yE (RowsF.isSl hr1)) yM) rfl rfl rfl (jc (.bool (true)) rfl (qI (jW (jR (L' := L) [.agg #[x1], .bool (true)] (.tuple #[.agg #[x1], .bool (true)]) (.cell rfl (loadNV [x1] isAgg50 Qx rfl (Rd.ownN [_] rfl rfl)) (.tmp rfl .nil)) rfl (jl (jl leG1 le2) le3) rF (sD (sD (sD sR))) ?_)))))
 have hz : matchB ar p t = some bl := hm.trans (mGo_done (by omega))
 exact ⟨_, by rw [hz]; rfl, by rw [matchP, hz]; exact hr1, rfl⟩

/- spec.l7Right -/
theorem l7Right_spec {F : FH} {L : List HP} {arv : Value} {ar : List Int} (har : IntsF F arv ar) {rsv : Value} {rs : List (List Int × List Int)} (hrs : PairsF F rsv rs) {tv : Value} {t : List Int} (ht : IntsF F tv t) (hla : ar.length ≤ 4000000) (hlr : rs.length ≤ 4000000) (hrb : ∀ i, i < rs.length → (rs.getD i ([], [])).1.length ≤ 4000000 ∧ (rs.getD i ([], [])).2.length ≤ 4000000) (hlt : t.length ≤ 4000000) :
    Does prog 61 [.agg #[arv, rsv], tv] F (L) (fun v F' L' => (.bool (rightB ar rs t) : Value) = v ∧ F = F' ∧ L = L') := by
 refine ym func61 rfl rfl rfl (qX (qH (cX (yD [arv, rsv] rfl rfl ?_))))
 intro b1
 refine jc (.bool (false)) rfl (qI (qX (qH (cX (yc [arv, rsv] yY yP rfl rfl (Rd.ownN [] rfl rfl) (cX (jL (args := [.agg #[arv, rsv]]) call95 rfl (sSystemOk_spec har hrs (hla := (by first | assumption | rfl | omega | simp)) (hlr := (by first | assumption | rfl | omega | simp)) (hrb := (by first | assumption | rfl | omega | simp))) ?_)))))))
 rintro _ _ _ _ ⟨rfl, rfl, rfl⟩
 refine jb (.bool (sysOk ar rs)) rfl ?_
 by_cases h1 : (sysOk ar rs) = true
 ·refine jB (t := 7) rfl (vB h1) (jE (0) yq rfl ys (by decide) rfl rfl (jB (t := 7) rfl (vB h1) (yc [arv] yF ys rfl rfl (Rd.ownN [] rfl rfl) (jB (t := 7) rfl (vB h1) (jk (tv) rfl (jB (t := 7) rfl (vB h1) (jL (args := [.agg #[arv], tv]) call81 rfl (sTermOk_spec har ht (hla := (by first | assumption | rfl | omega | simp)) (hlt := (by first | assumption | rfl | omega | simp))) ?_)))))))
  rintro _ _ _ _ ⟨rfl, rfl, rfl⟩
  refine cX (yp (.bool (termOk ar t)) (vB h1) rfl (jc (.bool (termOk ar t)) rfl (qI (jW (jR (L' := L) [.bool (termOk ar t)] (.bool (termOk ar t)) (.tmp rfl .nil) rfl rF rF (sD sR) ?_)))))
  exact ⟨(vB (by rw [rightB]; simp_all)), rfl, rfl⟩
 rw [Bool.not_eq_true] at h1
 refine jA (t := 7) rfl (vB h1) (jA (t := 7) rfl (vB h1) (jA (t := 7) rfl (vB h1) (jA (t := 7) rfl (vB h1) (cX (yl (.bool (false)) (vB h1) rfl (jc (.bool (false)) rfl (qI (jW (jR (L' := L) [.bool (false)] (.bool (false)) (.tmp rfl .nil) rfl rF rF (sD sR) ?_)))))))))
 exact ⟨(vB (by rw [rightB]; simp_all)), rfl, rfl⟩

/- spec.l2Filled -/
theorem l2Filled_spec {F : FH} {L : List HP} {sv : Value} {s : List (List Int)} (hs : RowsF F sv s) {tv : Value} {t : List Int} (ht : IntsF F tv t) (hsl : s.length ≤ 4000000) (hsb : ∀ i, (s.getD i []).length ≤ 4000000) (htl : t.length ≤ 4000000) (htg : ∀ k, k < t.length → -4000000 ≤ t.getD k 0) :
    Does prog 77 [.agg #[sv], tv] F (L) (fun v F' L' => ∃ (a : Value), (.tuple #[a, .bool ((fillL s t).isSome)] : Value) = v ∧ (IntsF F' a ((fillL s t).getD [])) ∧ L = L') := by
 refine ym func77 rfl rfl rfl (qX (qH (cX (yD [sv] rfl rfl ?_))))
 intro b1
 refine jc (sN) rfl (jc (.bool (false)) rfl (qI (qX (qH (cX (jQ (s := 1) [] [ii (0)] [] qU js yv rfl (by decide) rfl CellsAre.nil rfl ?_))))))
 intro v1 hv1
 refine jc (v1) rfl (qI (qX (qX (qH (jc (ii (0)) rfl (qI (yf (yI (α := Nat × Value × List Int) (fun xQ => [(1, tv), (2, ptr b1 0), (6, xQ.2.1), (7, ii (((xQ.1 : Nat) : Int)))]) (fun xQ => intsH 2 xQ.2.1 xQ.2.2 :: cellsH b1 [sv] 50 :: L) (fun xQ F' => F = F' ∧ (IsSl xQ.2.1) ∧ (xQ.1 ≤ t.length) ∧ (fillL s t = fillGo s (t.drop xQ.1) xQ.2.2) ∧ (xQ.2.2.length ≤ 60)) (fun xQ => t.length - xQ.1) (0, v1, []) ⟨rfl, rfl, rfl, rfl, ⟨⟩⟩ (sC (sC sR)) ⟨rfl, ((yH hv1)), (by (try dsimp only) <;> omega), (rfl), (by simp)⟩ ?_))))))))
 rintro ⟨k, ov, os⟩ rE _ _ ⟨rfl, hov, hk, hm, hol⟩
 show X _ _ _ _ (envs [(1, tv), (2, ptr b1 0), (6, ov), (7, ii ((k : Int)))] rE) _ (intsH 2 ov os :: cellsH b1 [sv] 50 :: L)
 dsimp only at hov hk hm hol
 have htk := htg k
 have hlk0 := lk_bound (N := 4000000) (by omega) hsb (-1 - (((-1 - t.getD k 0).toNat : Nat) : Int))
 refine qX (qX (qH (jb (ii ((k : Int))) rfl (jb (tv) rfl (cX (jZ qU rfl ht.slv (cX (yo rfl rfl (qI ?_)))))))))
 refine jV (p := (k : Int) < (t.length : Int)) rfl (fun h1 => ?_) (fun h1 => ?_)
 ·refine jU (qX (yf (qX (qX (qH (jb (tv) rfl (jb (ii ((k : Int))) rfl (cX (jq k qU js rfl rfl rfl ht.slv (by omega) (Nat.mul_one _) (cX (jj yd rfl (ht.rd (by omega)) (cX (yo rfl rfl (qI ?_))))))))))))))
  refine jV (p := (t.getD k 0 : Int) < 0) rfl (fun h2 => ?_) (fun h2 => ?_)
  ·refine X.drawG [intsH 2 ov os, cellsH b1 [sv] 50] L 8 [] [[], [], [], [], [2, 3], [4], [5], [1, 6]] [] (phiG [pe ov, pe (.agg #[sv]), pe tv, pe (ii ((k : Int)) : Value), pe (.pointer (some (elemA tv (k)))), pe (ii (t.getD k 0)), pe (ii ((-1) - (t.getD k 0))), fun FF us v => ((v) : Value) = v ∧ (IntsF FF (v) (lk s (-1 - ((((-1) - (t.getD k 0)).toNat) : Int))))]) (ownL []) mixed rfl rfl (by kernel_rfl) (by kernel_rfl) (MonoG.get (m1 (m1 (m1 (m1 (m1 (m1 (m1 (mC (fun le h => ⟨h.1, h.2.mono le⟩) MonoG.nil))))))))) ?_ ?_
   ·refine gD (fun W Fs R lF z9 => ?_) ?_
    ·refine je (jk (ov) rfl ?_)
     exact ⟨rfl, rfl⟩
    refine gD (fun W Fs R lF z9 => ?_) ?_
    ·replace hs := hs.mono lF
     replace ht := ht.mono lF
     refine je (yc [sv] isAgg50 Qx rfl rfl (Rd.ownN [_] rfl rfl) ?_)
     exact ⟨rfl, rfl⟩
    refine gD (fun W Fs R lF z9 => ?_) ?_
    ·refine je (jk (tv) rfl ?_)
     exact ⟨rfl, rfl⟩
    refine gD (fun W Fs R lF z9 => ?_) ?_
    ·refine je (jk (ii ((k : Int))) rfl ?_)
     exact ⟨rfl, rfl⟩
    refine gD (fun W Fs R lF z9 => ?_) ?_
    ·replace hs := hs.mono lF
     replace ht := ht.mono lF
     rw [eS (l := [(2, _), (3, _)]) ⟨z9 2 rfl, z9 3 rfl, ⟨⟩⟩]
     refine je (jq k qU js rfl rfl rfl ht.slv (by omega) (Nat.mul_one _) ?_)
     exact ⟨rfl, rfl⟩
    refine gD (fun W Fs R lF z9 => ?_) ?_
    ·replace hs := hs.mono lF
     replace ht := ht.mono lF
     rw [eS (l := [(4, _)]) ⟨z9 4 rfl, ⟨⟩⟩]
     refine je (jj yd rfl (ht.rd (by omega)) ?_)
     exact ⟨rfl, rfl⟩
    refine gD (fun W Fs R lF z9 => ?_) ?_
    ·rw [eS (l := [(5, _)]) ⟨z9 5 rfl, ⟨⟩⟩]
     refine je (yx ((-1) - (t.getD k 0)) rfl rfl (by omega) (by omega) ?_)
     exact ⟨rfl, rfl⟩
    refine gD (fun W Fs R lF z9 => ?_) ?_
    ·replace hs := hs.mono lF
     replace ht := ht.mono lF
     rw [eS (l := [(1, _), (6, _)]) ⟨z9 1 rfl, z9 6 rfl, ⟨⟩⟩]
     refine je (Qo <| jL (args := [.agg #[sv], ii ((((-1) - (t.getD k 0)).toNat : Nat) : Int)]) call145 (by rw [show ((((-1) - (t.getD k 0)).toNat : Nat) : Int) = (-1) - (t.getD k 0) from by omega]; rfl) (l2Gives_spec (i := ((-1) - (t.getD k 0)).toNat) hs (hsl := (by first | assumption | rfl | omega | simp)) (hi := (by first | assumption | rfl | omega | simp)) (hsb := (hsb _))) ?_)
     rintro v3 _ _ _ ⟨rfl, hs2, rfl⟩
     refine ⟨_, _, rfl, fun F1 le1 hz1 => ?_⟩
     replace ht := ht.mono le1
     have hf1 : IntsF F1 v3 ((lk s (-1 - ((((-1) - (t.getD k 0)).toNat) : Int)))) := intsH.fz (xs := (lk s (-1 - ((((-1) - (t.getD k 0)).toNat) : Int)))) hz1.fz
     exact ⟨⟨rfl, hf1⟩, rfl⟩
    exact stepsG.nil
   intro W F2 le2 hphi
   obtain ⟨e7, f7_1ha⟩ := hphi 7 (by decide)
   generalize hu1 : ((W 7)) = u1 at e7 f7_1ha
   rw [eS (l := [(0, _), (7, u1)]) ⟨(hphi 0 (by decide)), hu1, ⟨⟩⟩]
   replace ht := ht.mono le2
   show XL _ _ _ _ _ _ _ (intsH 2 ov os :: cellsH b1 [sv] 50 :: L)
   refine cX (Qk [] _ qU typeInfo2 rfl rfl rfl rfl rfl rfl f7_1ha (by (try simp only [List.length_append, List.length_nil, List.length_cons, List.length_singleton, List.length_take, List.length_drop]); omega) ?_)
   intro v4 hs3 hn1 hm1
   refine jc (v4) rfl (qI (qX (qH (jb (v4) rfl (cX (jZ qU rfl (intsH.slv [] rfl) (cX (Qf rfl rfl (qI ?_)))))))))
   refine jV (p := ((((os ++ ((lk s (-1 - ((((-1) - (t.getD k 0)).toNat) : Int))))).length : Nat) : Int) : Int) > 60) rfl (fun h3 => ?_) (fun h3 => ?_)
   ·refine qX (qH (cX (jQ (s := 1) [] [ii (0)] [] qU js yv rfl (by decide) rfl CellsAre.nil rfl ?_)))
    intro v5 hv2
    refine jc (v5) rfl (jc (.bool (false)) rfl (qI ?_))
    show X _ _ _ _ _ _ (intsH 2 v5 ([] : List Int) :: intsH 2 v4 (os ++ ((lk s (-1 - ((((-1) - (t.getD k 0)).toNat) : Int))))) :: cellsH b1 [sv] 50 :: L)
    refine yz [] _ _ rfl (fun F3 le3 hz2 => ?_)
    replace ht := ht.mono le3
    have hf2 : IntsF F3 v5 ([]) := intsH.fz (xs := []) hz2.fz
    refine jW (ya (jw (jw (ya (jw (jR (L' := L) [v5, .bool (false)] (.tuple #[v5, .bool (false)]) (.tmp rfl (.tmp rfl .nil)) rfl (jl le2 le3) rF (sD (sD sR)) ?_))))))
    have hz : fillL s t = none := hm.trans (fillGo_long (a := os ++ ((lk s (-1 - ((((-1) - (t.getD k 0)).toNat) : Int))))) (by omega) (by rw [show (-1 - (((-1 - t.getD k 0).toNat : Nat) : Int)) = t.getD k 0 from by omega]) (by omega))
    exact ⟨_, by rw [hz]; rfl, by rw [hz]; exact hf2, rfl⟩
   refine jU (qH (jb (ii ((k : Int))) rfl (cX (yj (((k + 1 : Nat) : Int)) rfl rfl (by omega) (by omega) (jc (ii (((k + 1 : Nat) : Int))) rfl (qI ?_))))))
   exact ⟨(k + 1, v4, os ++ ((lk s (-1 - ((((-1) - (t.getD k 0)).toNat) : Int))))), _, FLe.refl _, le2, ⟨rfl, rfl, rfl, rfl, ⟨⟩⟩, (sC (sC sR)), ⟨rfl, (hs3), (by (try dsimp only) <;> omega), (by dsimp only; exact hm.trans (fillGo_next (by omega) (by rw [show (-1 - (((-1 - t.getD k 0).toNat : Nat) : Int)) = t.getD k 0 from by omega]) (by omega))), (by dsimp only; omega)⟩, (by omega)⟩
  refine qH (jb (ov) rfl (jb (tv) rfl (jb (ii ((k : Int))) rfl (cX (jq k qU js rfl rfl rfl ht.slv (by omega) (Nat.mul_one _) (cX (jj yd rfl (ht.rd (by omega)) (cX (jQ (s := 1) [ii (t.getD k 0)] [ii (0)] [(0, [ii (t.getD k 0)])] qU js yv rfl (by decide) rfl (.cons rfl CellsAre.nil) rfl ?_)))))))))
  intro v6 hv3
  refine cX (Qi (u := t.getD k 0) [_] _ qU typeInfo2 rfl rfl rfl rfl rfl rfl (SlV.own [] rfl) (Rd.sl [] rfl rfl) (by (try simp only [List.length_append, List.length_nil, List.length_cons, List.length_singleton, List.length_take, List.length_drop]); omega) ?_)
  intro v7 hs4 hn2
  refine jc (v7) rfl (qI (qX (qH (jb (v7) rfl (cX (jZ qU rfl (intsH.slv [_] rfl) (cX (Qf rfl rfl (qI ?_)))))))))
  refine jV (p := ((((os ++ [t.getD k 0]).length : Nat) : Int) : Int) > 60) rfl (fun h4 => ?_) (fun h4 => ?_)
  ·refine qX (qH (cX (jQ (s := 1) [] [ii (0)] [] qU js yv rfl (by decide) rfl CellsAre.nil rfl ?_)))
   intro v8 hv4
   refine jc (v8) rfl (jc (.bool (false)) rfl (qI ?_))
   show X _ _ _ _ _ _ (intsH 2 v8 ([] : List Int) :: slH 2 1 v6 1 [ii (t.getD k 0)] :: intsH 2 v7 (os ++ [t.getD k 0]) :: cellsH b1 [sv] 50 :: L)
   refine yz [] _ _ rfl (fun F4 le4 hz3 => ?_)
   have hf3 : IntsF F4 v8 ([]) := intsH.fz (xs := []) hz3.fz
   refine jW (ya (jw (jw (ya (jw (jR (L' := L) [v8, .bool (false)] (.tuple #[v8, .bool (false)]) (.tmp rfl (.tmp rfl .nil)) rfl le4 rF (sD (sD (sD sR))) ?_))))))
   have hz : fillL s t = none := hm.trans (fillGo_long (a := os ++ [t.getD k 0]) (by omega) (by rw [lk_sym (by omega)]) (by omega))
   exact ⟨_, by rw [hz]; rfl, by rw [hz]; exact hf3, rfl⟩
  refine jU (qH (jb (ii ((k : Int))) rfl (cX (yj (((k + 1 : Nat) : Int)) rfl rfl (by omega) (by omega) (jc (ii (((k + 1 : Nat) : Int))) rfl (qI ?_))))))
  exact ⟨(k + 1, v7, os ++ [t.getD k 0]), _, FLe.refl _, rF, ⟨rfl, rfl, rfl, rfl, ⟨⟩⟩, (sD (sC (sC sR))), ⟨rfl, (hs4), (by (try dsimp only) <;> omega), (by dsimp only; exact hm.trans (fillGo_next (by omega) (by rw [lk_sym (by omega)]) (by omega))), (by dsimp only; omega)⟩, (by omega)⟩
 refine yB (jO (jO (yk (qX (qH (jb (ov) rfl (jc (ov) rfl (jc (.bool (true)) rfl (qI (yz [] _ _ rfl (fun F5 le5 hz4 => ?_)))))))))))
 have hf4 : IntsF F5 ov os := intsH.fz (xs := os) hz4.fz
 refine jW (jR (L' := L) [ov, .bool (true)] (.tuple #[ov, .bool (true)]) (.tmp rfl (.tmp rfl .nil)) rfl le5 rF (sD sR) ?_)
 have hz : fillL s t = some os := hm.trans (fillGo_done (by omega))
 exact ⟨_, by rw [hz]; rfl, by rw [hz]; exact hf4, rfl⟩

/- spec.l3Put -/
theorem l3Put_spec {F : FH} {L : List HP} {arv : Value} {ar : List Int} (har : IntsF F arv ar) {tv : Value} {t : List Int} (ht : IntsF F tv t) {p : Nat} {uv : Value} {u : List Int} (hu : IntsF F uv u) (ho : termOk ar t = true) (hp : p < t.length) (hul : u.length ≤ 4000000) :
    Does prog 175 [.agg #[arv], tv, ii ((p : Int)), uv] F (L) (fun v F' L' => ∃ (a : Value), (.tuple #[a, .bool ((putL ar t p u).isSome)] : Value) = v ∧ (IntsF F' a ((putL ar t p u).getD [])) ∧ L = L') := by
 refine ym func175 rfl rfl rfl ?_
 have hsig := termOk_sig ho
 have hsl := sigOk_spec hsig
 have htl := termOk_len ho
 have hee := endN_spec ho hp
 refine qX (qH (cX (yD [arv] rfl rfl ?_)))
 intro b1
 refine jc (sN) rfl (jc (.bool (false)) rfl (qI (qX (qH (jb (tv) rfl (jb (ii ((p : Int))) rfl (cX (Qp 0 p qU js rfl ht rfl ⟨_, rfl⟩ (by omega) (by omega) ?_))))))))
 intro v1 hv1 hn1
 refine cX (jL (args := [v1]) call193 rfl (l1Copy_spec hv1 (hlt := (by simp; omega))) ?_)
 rintro v2 _ _ _ ⟨rfl, hs1, rfl⟩
 refine jb (uv) rfl (cX (Qk [] _ qU typeInfo2 rfl rfl rfl rfl rfl rfl hu (by (try simp only [List.length_append, List.length_nil, List.length_cons, List.length_singleton, List.length_take, List.length_drop]); omega) ?_))
 intro v3 hs2 hn2 hm1
 refine jc (v3) rfl (qI (qX (qH (jb (v3) rfl (jb (tv) rfl (cX (yc [arv] yF ys rfl rfl (Rd.ownN [_] rfl rfl) (jb (tv) rfl (jb (ii ((p : Int))) rfl (cX (jL (args := [.agg #[arv], tv, ii (p : Int)]) call152 rfl (l1End_ok (p := p) har ht (ho := (by first | assumption | rfl | omega | (left; simp; done) | (right; simp; done))) (hp := (by first | assumption | rfl | omega | (left; simp; done) | (right; simp; done)))) ?_)))))))))))
 rintro _ _ _ _ ⟨rfl, rfl, rfl⟩
 refine cX (Qp (endN ar t p) ((t).length) qU js rfl ht ⟨_, rfl⟩ rfl (by omega) (by omega) ?_)
 intro v4 hv2 hn3
 refine cX (Qk [] _ qU typeInfo2 rfl rfl rfl rfl rfl rfl hv2 (by (try simp only [List.length_append, List.length_nil, List.length_cons, List.length_singleton, List.length_take, List.length_drop]); omega) ?_)
 intro v5 hs3 hn4 hm2
 refine jc (v5) rfl (qI (qX (qX (qH (jb (v5) rfl (cX (jZ qU rfl (intsH.slv [] rfl) (cX (Qf rfl rfl (qI ?_))))))))))
 refine jV (p := ((((((((((t.drop 0).take (p - 0))))) ++ u) ++ (((t.drop (endN ar t p)).take (((t).length) - (endN ar t p))))).length : Nat) : Int) : Int) > 60) rfl (fun h1 => ?_) (fun h1 => ?_)
 ·refine qX (qH (cX (jQ (s := 1) [] [ii (0)] [] qU js yv rfl (by decide) rfl CellsAre.nil rfl ?_)))
  intro v6 hv3
  refine jc (v6) rfl (jc (.bool (false)) rfl (qI ?_))
  show X _ _ _ _ _ _ (intsH 2 v6 ([] : List Int) :: intsH 2 v5 (((((((t.drop 0).take (p - 0))))) ++ u) ++ (((t.drop (endN ar t p)).take (((t).length) - (endN ar t p))))) :: cellsH b1 [arv] 29 :: L)
  refine yz [] _ _ rfl (fun F1 le1 hz1 => ?_)
  have hf1 : IntsF F1 v6 ([]) := intsH.fz (xs := []) hz1.fz
  refine jW (jw (jR (L' := L) [v6, .bool (false)] (.tuple #[v6, .bool (false)]) (.tmp rfl (.tmp rfl .nil)) rfl le1 rF (sD (sD sR)) ?_))
  have hz : putL ar t p u = none := putL_none put_three (by omega)
  exact ⟨_, by rw [hz]; rfl, by rw [hz]; exact hf1, rfl⟩
 refine jU (qX (qH (jb (v5) rfl (jc (v5) rfl (jc (.bool (true)) rfl (qI (yz [] _ _ rfl (fun F2 le2 hz2 => ?_))))))))
 have hf2 : IntsF F2 v5 (((((((t.drop 0).take (p - 0))))) ++ u) ++ (((t.drop (endN ar t p)).take (((t).length) - (endN ar t p))))) := intsH.fz (xs := ((((((t.drop 0).take (p - 0))))) ++ u) ++ (((t.drop (endN ar t p)).take (((t).length) - (endN ar t p))))) hz2.fz
 refine jW (jR (L' := L) [v5, .bool (true)] (.tuple #[v5, .bool (true)]) (.tmp rfl (.tmp rfl .nil)) rfl le2 rF (sD sR) ?_)
 have hz := putL_some (ar := ar) (t := t) (p := p) (u := u) put_three (by omega)
 exact ⟨_, by rw [hz]; rfl, by rw [hz]; exact hf2, rfl⟩

/- spec.l7Step -/
theorem l7Step_spec {F : FH} {L : List HP} {arv : Value} {ar : List Int} (har : IntsF F arv ar) {rsv : Value} {rs : List (List Int × List Int)} (hrs : PairsF F rsv rs) {tv : Value} {t : List Int} (ht : IntsF F tv t) {p : Nat} {r : Nat} (hsys : sysOk ar rs = true) (ho : termOk ar t = true) (hp : p < t.length) (hr : r < rs.length) :
    Does prog 113 [.agg #[arv, rsv], tv, ii ((p : Int)), ii ((r : Int))] F (L) (fun v F' L' => ∃ (a : Value), (.tuple #[a, .bool ((stepL ar rs t p r).isSome)] : Value) = v ∧ (IntsF F' a ((stepL ar rs t p r).getD [])) ∧ L = L') := by
 refine ym func113 rfl rfl rfl ?_
 have hnn := notNil_of_pos ht (by have := termOk_len ho; omega)
 have htl := termOk_len ho
 have hrl := (sysOk_iff.1 hsys).2.1
 have hsig := (sysOk_iff.1 hsys).1
 have hsl := sigOk_spec hsig
 have hR := ruleOk_iff.1 ((sysOk_iff.1 hsys).2.2 r hr)
 have hRl := hR.left
 have hRr := hR.right
 have hso := sub_ok ho hp
 have hsb := sub_length ho hp
 have hee := endN_spec ho hp
 have hRrl := termOk_len hRr
 have hRg := fun k (hk : k < (rs.getD r ([], [])).2.length) => termOk_ge hRr hk
 have hmp := matchP_len (ar := ar) (p := (rs.getD r ([], [])).1) (t := sub ar t p)
 have hmp2 := hmp.2
 have hmp3 := hmp.1
 refine qX (qH (cX (yD [arv, rsv] rfl rfl ?_)))
 intro b1
 refine jc (sN) rfl (jc (.bool (false)) rfl (qI (qX (qH (cX (jE (1) yq rfl yZ (by decide) rfl rfl (cX (jj Qj rfl (Rd.own [] rfl rfl) (jb (ii ((r : Int))) rfl (cX (jq r yy yS rfl rfl rfl hrs.slv (by omega) rfl ?_)))))))))))
 obtain ⟨a1, a2, ha1, ha2, hr1, hr2⟩ := hrs.rd (i := r) (by omega)
 refine cX (yc [a1, a2] isAgg72 yS rfl rfl (Rd.two (hr1 _) (hr2 _)) (cX (Qe [sN, sN] yW rfl ?_)))
 intro b2
 refine cX (yL [] _ [a1, a2] yS rfl rfl rfl (jT (yE (yi ha1)) (jT (yE (yi ha2)) yM)) rfl rfl rfl (qI (qX ?_)))
 refine X.drawG [cellsH b2 [a1, a2] 72, cellsH b1 [arv, rsv] 32] L 15 [[], [], [], [], [], [], [], [], [], [], [9], [9], [], [], [9, 13]] [[], [0], [], [2], [], [4], [], [], [5, 6, 7], [1, 3, 8], [9], [9, 10], [9, 10], [], [9, 11, 13]] [[], [], [], [], [], [], [], [], [], [], [], [], [], [], [13]] (phiG [pe (ptr b1 0), pe (.agg #[arv]), pe (ptr b2 0), pe a1, pe (ptr b1 0), pe (.agg #[arv]), pe tv, pe (ii ((p : Int)) : Value), fun FF us v => ((v) : Value) = v ∧ (IntsF FF (v) (sub ar t p)), fun FF us v => (.tuple #[.agg #[((aggAt (tupAt v 0) 0))], .bool ((matchB ar ((rs.getD r ([], [])).1) ((sub ar t p))).isSome)] : Value) = v ∧ (RowsF FF ((aggAt (tupAt v 0) 0)) (matchP ar ((rs.getD r ([], [])).1) ((sub ar t p)))), fun FF us v => v = (.tuple #[.agg #[((aggAt (tupAt (us.getD 0 undef) 0) 0))], .bool ((matchB ar ((rs.getD r ([], [])).1) ((sub ar t p))).isSome)] : Value), fun FF us v => v = (.agg #[((aggAt (tupAt (us.getD 0 undef) 0) 0))] : Value), pe (.bool ((matchB ar ((rs.getD r ([], [])).1) ((sub ar t p))).isSome)), fun FF us v => v = ptr (blk v) 0, fun FF us v => True]) (ownL [o0, o0, o0, o0, o0, o0, o0, o0, o0, o0, o0, o0, o0, fun us v => [cellsH (blk v) [sN] 50], fun us v => [cellsH (blk (us.getD 1 undef)) [((aggAt (tupAt (us.getD 0 undef) 0) 0))] 50]]) mixed rfl rfl (by kernel_rfl) (by kernel_rfl) (MonoG.get (m1 (m1 (m1 (m1 (m1 (m1 (m1 (m1 (mC (fun le h => ⟨h.1, h.2.mono le⟩) (mC (fun le h => ⟨h.1, h.2.mono le⟩) (mC (fun le h => h) (mC (fun le h => h) (m1 (mC (fun le h => h) (mC (fun le h => h) MonoG.nil)))))))))))))))) ?_ ?_
 ·refine gD (fun W Fs R lF z9 => ?_) ?_
  ·refine je (jE (0) yq rfl ys (by decide) rfl rfl ?_)
   exact ⟨rfl, rfl⟩
  refine gD (fun W Fs R lF z9 => ?_) ?_
  ·replace har := har.mono lF
   replace ht := ht.mono lF
   replace ha1 := ha1.mono lF
   replace ha2 := ha2.mono lF
   rw [eS (l := [(0, _)]) ⟨z9 0 rfl, ⟨⟩⟩]
   refine je (yc [arv] yF ys rfl rfl (Rd.ownN [_] rfl rfl) ?_)
   exact ⟨rfl, rfl⟩
  refine gD (fun W Fs R lF z9 => ?_) ?_
  ·refine je (jE (0) yu rfl jF (by decide) rfl rfl ?_)
   exact ⟨rfl, rfl⟩
  refine gD (fun W Fs R lF z9 => ?_) ?_
  ·replace har := har.mono lF
   replace ht := ht.mono lF
   replace ha1 := ha1.mono lF
   replace ha2 := ha2.mono lF
   rw [eS (l := [(2, _)]) ⟨z9 2 rfl, ⟨⟩⟩]
   refine je (jj yt rfl (Rd.own [] rfl rfl) ?_)
   exact ⟨rfl, rfl⟩
  refine gD (fun W Fs R lF z9 => ?_) ?_
  ·refine je (jE (0) yq rfl ys (by decide) rfl rfl ?_)
   exact ⟨rfl, rfl⟩
  refine gD (fun W Fs R lF z9 => ?_) ?_
  ·replace har := har.mono lF
   replace ht := ht.mono lF
   replace ha1 := ha1.mono lF
   replace ha2 := ha2.mono lF
   rw [eS (l := [(4, _)]) ⟨z9 4 rfl, ⟨⟩⟩]
   refine je (yc [arv] yF ys rfl rfl (Rd.ownN [_] rfl rfl) ?_)
   exact ⟨rfl, rfl⟩
  refine gD (fun W Fs R lF z9 => ?_) ?_
  ·refine je (jk (tv) rfl ?_)
   exact ⟨rfl, rfl⟩
  refine gD (fun W Fs R lF z9 => ?_) ?_
  ·refine je (jk (ii ((p : Int))) rfl ?_)
   exact ⟨rfl, rfl⟩
  refine gD (fun W Fs R lF z9 => ?_) ?_
  ·replace har := har.mono lF
   replace ht := ht.mono lF
   replace ha1 := ha1.mono lF
   replace ha2 := ha2.mono lF
   rw [eS (l := [(5, _), (6, _), (7, _)]) ⟨z9 5 rfl, z9 6 rfl, z9 7 rfl, ⟨⟩⟩]
   refine je (Qo <| jL (args := [.agg #[arv], tv, ii (p : Int)]) call174 rfl (l1Sub_spec (p := p) har ht (ho := (by first | assumption | rfl | omega | simp)) (hp := (by first | assumption | rfl | omega | simp))) ?_)
   rintro v2 _ _ _ ⟨rfl, hs2, rfl⟩
   refine ⟨_, _, rfl, fun F2 le2 hz1 => ?_⟩
   replace har := har.mono le2
   replace ht := ht.mono le2
   replace ha1 := ha1.mono le2
   replace ha2 := ha2.mono le2
   have hf1 : IntsF F2 v2 ((sub ar t p)) := intsH.fz (xs := (sub ar t p)) hz1.fz
   exact ⟨⟨rfl, hf1⟩, rfl⟩
  refine gD (fun W Fs R lF z9 => ?_) ?_
  ·obtain ⟨e8, f8_1ha⟩ := z9 8 rfl
   replace har := har.mono lF
   replace ht := ht.mono lF
   replace ha1 := ha1.mono lF
   replace ha2 := ha2.mono lF
   rw [eS (l := [(1, _), (3, _), (8, ((W 8)))]) ⟨z9 1 rfl, z9 3 rfl, (e8).symm, ⟨⟩⟩]
   refine je (jL (args := [.agg #[arv], a1, ((W 8))]) call120 rfl (l4Match_spec har ha1 f8_1ha (ho := (by first | assumption | rfl | omega | simp)) (hpo := (by first | assumption | rfl | omega | simp))) ?_)
   rintro _ F3 _ le3 ⟨x2, rfl, hr4, rfl⟩
   replace har := har.mono le3
   replace ht := ht.mono le3
   replace ha2 := ha2.mono le3
   replace f8_1ha := f8_1ha.mono le3
   exact ⟨⟨rfl, hr4⟩, rfl⟩
  refine gD (fun W Fs R lF z9 => ?_) ?_
  ·obtain ⟨e9, f9_1hr⟩ := z9 9 rfl
   rw [eS (l := [(9, (.tuple #[.agg #[((aggAt (tupAt (W 9) 0) 0))], .bool ((matchB ar ((rs.getD r ([], [])).1) ((sub ar t p))).isSome)]))]) ⟨(e9).symm, ⟨⟩⟩]
   refine je (jk (.tuple #[.agg #[((aggAt (tupAt (W 9) 0) 0))], .bool ((matchB ar ((rs.getD r ([], [])).1) ((sub ar t p))).isSome)]) rfl ?_)
   exact ⟨rfl, rfl⟩
  refine gD (fun W Fs R lF z9 => ?_) ?_
  ·obtain ⟨e9, f9_1hr⟩ := z9 9 rfl
   have e10 : W 10 = (.tuple #[.agg #[((aggAt (tupAt (W 9) 0) 0))], .bool ((matchB ar ((rs.getD r ([], [])).1) ((sub ar t p))).isSome)] : Value) := z9 10 rfl
   rw [eS (l := [(9, (.tuple #[.agg #[((aggAt (tupAt (W 9) 0) 0))], .bool ((matchB ar ((rs.getD r ([], [])).1) ((sub ar t p))).isSome)])), (10, (.tuple #[.agg #[((aggAt (tupAt (W 9) 0) 0))], .bool ((matchB ar ((rs.getD r ([], [])).1) ((sub ar t p))).isSome)]))]) ⟨(e9).symm, e10, ⟨⟩⟩]
   refine je (yr (.agg #[((aggAt (tupAt (W 9) 0) 0))]) rfl rfl ?_)
   exact ⟨rfl, rfl⟩
  refine gD (fun W Fs R lF z9 => ?_) ?_
  ·obtain ⟨e9, f9_1hr⟩ := z9 9 rfl
   have e10 : W 10 = (.tuple #[.agg #[((aggAt (tupAt (W 9) 0) 0))], .bool ((matchB ar ((rs.getD r ([], [])).1) ((sub ar t p))).isSome)] : Value) := z9 10 rfl
   rw [eS (l := [(9, (.tuple #[.agg #[((aggAt (tupAt (W 9) 0) 0))], .bool ((matchB ar ((rs.getD r ([], [])).1) ((sub ar t p))).isSome)])), (10, (.tuple #[.agg #[((aggAt (tupAt (W 9) 0) 0))], .bool ((matchB ar ((rs.getD r ([], [])).1) ((sub ar t p))).isSome)]))]) ⟨(e9).symm, e10, ⟨⟩⟩]
   refine je (yr (.bool ((matchB ar ((rs.getD r ([], [])).1) ((sub ar t p))).isSome)) rfl rfl ?_)
   exact ⟨rfl, rfl⟩
  refine gD (fun W Fs R lF z9 => ?_) ?_
  ·replace har := har.mono lF
   replace ht := ht.mono lF
   replace ha2 := ha2.mono lF
   refine je (Qe [sN] zeroValue50 rfl ?_)
   intro b4
   exact ⟨rfl, rfl⟩
  refine gD (fun W Fs R lF z9 => ?_) ?_
  ·obtain ⟨e9, f9_1hr⟩ := z9 9 rfl
   have e11 : W 11 = (.agg #[((aggAt (tupAt (W 9) 0) 0))] : Value) := z9 11 rfl
   have e13 : W 13 = ptr (blk (W 13)) 0 := z9 13 rfl
   replace har := har.mono lF
   replace ht := ht.mono lF
   replace ha2 := ha2.mono lF
   rw [eS (l := [(9, (.tuple #[.agg #[((aggAt (tupAt (W 9) 0) 0))], .bool ((matchB ar ((rs.getD r ([], [])).1) ((sub ar t p))).isSome)])), (11, (.agg #[((aggAt (tupAt (W 9) 0) 0))])), (13, ptr (blk (W 13)) 0)]) ⟨(e9).symm, e11, e13, ⟨⟩⟩]
   show XG _ _ _ _ _ (cellsH (blk (W 13)) [sN] 50 :: ([cellsH b2 [a1, a2] 72, cellsH b1 [arv, rsv] 32] ++ R)) _
   refine je (yL [] _ [((aggAt (tupAt (W 9) 0) 0))] Qx rfl rfl rfl (jT (yE (RowsF.isSl f9_1hr)) yM) rfl rfl rfl ?_)
   exact ⟨trivial, rfl⟩
  exact stepsG.nil
 intro W F4 le4 hphi
 obtain ⟨e8, f8_1ha⟩ := hphi 8 (by decide)
 obtain ⟨e9, f9_1hr⟩ := hphi 9 (by decide)
 have e10 : W 10 = (.tuple #[.agg #[((aggAt (tupAt (W 9) 0) 0))], .bool ((matchB ar ((rs.getD r ([], [])).1) ((sub ar t p))).isSome)] : Value) := hphi 10 (by decide)
 have e11 : W 11 = (.agg #[((aggAt (tupAt (W 9) 0) 0))] : Value) := hphi 11 (by decide)
 have e13 : W 13 = ptr (blk (W 13)) 0 := hphi 13 (by decide)
 generalize hu1 : ((W 8)) = u1 at e8 f8_1ha e9 f9_1hr e10 e11 e13
 generalize hu2 : ((aggAt (tupAt (W 9) 0) 0)) = u2 at e8 f8_1ha e9 f9_1hr e10 e11 e13
 generalize hu3 : blk (W 13) = b5 at e8 f8_1ha e9 f9_1hr e10 e11 e13
 rw [eS (l := [(9, (.tuple #[.agg #[u2], .bool ((matchB ar ((rs.getD r ([], [])).1) ((sub ar t p))).isSome)])), (12, _), (13, ptr b5 0)]) ⟨(e9).symm, (hphi 12 (by decide)), e13, ⟨⟩⟩]
 replace har := har.mono le4
 replace ht := ht.mono le4
 replace ha2 := ha2.mono le4
 show XL _ _ _ _ _ _ _ (cellsH b5 [u2] 50 :: cellsH b2 [a1, a2] 72 :: cellsH b1 [arv, rsv] 32 :: L)
 refine jc (.bool ((matchB ar ((rs.getD r ([], [])).1) ((sub ar t p))).isSome)) rfl (qI (qX (qX (qH (jb (.bool ((matchB ar ((rs.getD r ([], [])).1) ((sub ar t p))).isSome)) rfl (cX (yR rfl (qI ?_))))))))
 refine X.cond (t := !((matchB ar ((rs.getD r ([], [])).1) ((sub ar t p))).isSome)) rfl (fun h1 => ?_) (fun h1 => ?_)
 ·have hms : (matchB ar (rs.getD r ([], [])).1 (sub ar t p)).isSome = false := by simpa using h1
  refine qX (qH (cX (jQ (s := 1) [] [ii (0)] [] qU js yv rfl (by decide) rfl CellsAre.nil rfl ?_)))
  intro v3 hv1
  refine jc (v3) rfl (jc (.bool (false)) rfl (qI ?_))
  show X _ _ _ _ _ _ (intsH 2 v3 ([] : List Int) :: cellsH b5 [u2] 50 :: cellsH b2 [a1, a2] 72 :: cellsH b1 [arv, rsv] 32 :: L)
  refine yz [] _ _ rfl (fun F5 le5 hz2 => ?_)
  replace har := har.mono le5
  replace ht := ht.mono le5
  replace ha2 := ha2.mono le5
  replace f9_1hr := f9_1hr.mono le5
  have hf2 : IntsF F5 v3 ([]) := intsH.fz (xs := []) hz2.fz
  refine jW (jw (jR (L' := L) [v3, .bool (false)] (.tuple #[v3, .bool (false)]) (.tmp rfl (.tmp rfl .nil)) rfl (jl le4 le5) rF (sD (sD (sD sR))) ?_))
  have hz := stepL_nomatch hms
  exact ⟨_, by rw [hz]; rfl, by rw [hz]; exact hf2, rfl⟩
 have hms : (matchB ar (rs.getD r ([], [])).1 (sub ar t p)).isSome = true := by simpa using h1
 refine jU (qX (qH (cX (yc [u2] isAgg50 Qx rfl rfl (Rd.ownN [] rfl rfl) (cX (jE (1) yu rfl jF (by decide) rfl rfl (cX (jj yt rfl (Rd.own [_] rfl rfl) (cX (jL (args := [.agg #[u2], a2]) call77 rfl (l2Filled_spec f9_1hr ha2 (hsl := (by first | assumption | rfl | omega | simp)) (hsb := (fun i => by have := hmp2 i; omega)) (htl := (by first | assumption | rfl | omega | simp)) (htg := (fun k hk => by have := hRg k hk; omega))) ?_))))))))))
 rintro _ F6 _ le6 ⟨x3, rfl, hr5, rfl⟩
 replace har := har.mono le6
 replace ht := ht.mono le6
 refine jb (.tuple #[x3, .bool ((fillL (matchP ar ((rs.getD r ([], [])).1) ((sub ar t p))) ((rs.getD r ([], [])).2)).isSome)]) rfl (cX (yr (x3) rfl rfl (cX (yr (.bool ((fillL (matchP ar ((rs.getD r ([], [])).1) ((sub ar t p))) ((rs.getD r ([], [])).2)).isSome)) rfl rfl (jc (x3) rfl (jc (.bool ((fillL (matchP ar ((rs.getD r ([], [])).1) ((sub ar t p))) ((rs.getD r ([], [])).2)).isSome)) rfl (qI (qX (qX (qH (jb (.bool ((fillL (matchP ar ((rs.getD r ([], [])).1) ((sub ar t p))) ((rs.getD r ([], [])).2)).isSome)) rfl (cX (yR rfl (qI ?_))))))))))))))
 refine X.cond (t := !((fillL (matchP ar ((rs.getD r ([], [])).1) ((sub ar t p))) ((rs.getD r ([], [])).2)).isSome)) rfl (fun h2 => ?_) (fun h2 => ?_)
 ·have hfs : (fillL (matchP ar (rs.getD r ([], [])).1 (sub ar t p)) (rs.getD r ([], [])).2).isSome = false := by simpa using h2
  refine qX (qH (cX (jQ (s := 1) [] [ii (0)] [] qU js yv rfl (by decide) rfl CellsAre.nil rfl ?_)))
  intro v4 hv2
  refine jc (v4) rfl (jc (.bool (false)) rfl (qI ?_))
  show X _ _ _ _ _ _ (intsH 2 v4 ([] : List Int) :: cellsH b5 [u2] 50 :: cellsH b2 [a1, a2] 72 :: cellsH b1 [arv, rsv] 32 :: L)
  refine yz [] _ _ rfl (fun F7 le7 hz3 => ?_)
  replace har := har.mono le7
  replace ht := ht.mono le7
  replace hr5 := hr5.mono le7
  have hf3 : IntsF F7 v4 ([]) := intsH.fz (xs := []) hz3.fz
  refine jW (jw (jR (L' := L) [v4, .bool (false)] (.tuple #[v4, .bool (false)]) (.tmp rfl (.tmp rfl .nil)) rfl (jl (jl le4 le6) le7) rF (sD (sD (sD sR))) ?_))
  have hz := stepL_nofill hms hfs
  exact ⟨_, by rw [hz]; rfl, by rw [hz]; exact hf3, rfl⟩
 have hfs : (fillL (matchP ar (rs.getD r ([], [])).1 (sub ar t p)) (rs.getD r ([], [])).2).isSome = true := by simpa using h2
 have hfl := fill_getD_len hfs (by omega)
 refine jU (qX (qH (cX (jE (0) yq rfl ys (by decide) rfl rfl (cX (yc [arv] yF ys rfl rfl (Rd.ownN [_, _] rfl rfl) (jb (tv) rfl (jb (ii ((p : Int))) rfl (jb (x3) rfl (cX (jL (args := [.agg #[arv], tv, ii (p : Int), x3]) call175 rfl (l3Put_spec (p := p) har ht hr5 (ho := (by first | assumption | rfl | omega | simp)) (hp := (by first | assumption | rfl | omega | simp)) (hul := (by first | assumption | rfl | omega | simp))) ?_)))))))))))
 rintro _ F8 _ le8 ⟨x4, rfl, hr6, rfl⟩
 refine cX (yr (x4) rfl rfl (cX (yr (.bool ((putL ar t p ((fillL (matchP ar ((rs.getD r ([], [])).1) ((sub ar t p))) ((rs.getD r ([], [])).2)).getD [])).isSome)) rfl rfl (jc (x4) rfl (jc (.bool ((putL ar t p ((fillL (matchP ar ((rs.getD r ([], [])).1) ((sub ar t p))) ((rs.getD r ([], [])).2)).getD [])).isSome)) rfl (qI (jW (jR (L' := L) [x4, .bool ((putL ar t p ((fillL (matchP ar ((rs.getD r ([], [])).1) ((sub ar t p))) ((rs.getD r ([], [])).2)).getD [])).isSome)] (.tuple #[x4, .bool ((putL ar t p ((fillL (matchP ar ((rs.getD r ([], [])).1) ((sub ar t p))) ((rs.getD r ([], [])).2)).getD [])).isSome)]) (.tmp rfl (.tmp rfl .nil)) rfl (jl (jl le4 le6) le8) rF (sD (sD (sD sR))) ?_))))))))
 have hz := stepL_put hms hfs
 exact ⟨_, by rw [hz], by rw [hz]; exact hr6, rfl⟩

/- spec.StepAt -/
theorem sStepAt_spec {F : FH} {L : List HP} {arv : Value} {ar : List Int} (har : IntsF F arv ar) {rsv : Value} {rs : List (List Int × List Int)} (hrs : PairsF F rsv rs) {tv : Value} {t : List Int} (ht : IntsF F tv t) {p : Int} {r : Int} (hla : ar.length ≤ 4000000) (hlr : rs.length ≤ 4000000) (hrb : ∀ i, i < rs.length → (rs.getD i ([], [])).1.length ≤ 4000000 ∧ (rs.getD i ([], [])).2.length ≤ 4000000) (hlt : t.length ≤ 4000000) :
    Does prog 49 [.agg #[arv, rsv], tv, ii (p), ii (r)] F (L) (fun v F' L' => ∃ (a : Value), (.tuple #[a, .bool ((stepAtL ar rs t p r).isSome)] : Value) = v ∧ (IntsF F' a ((stepAtL ar rs t p r).getD [])) ∧ L = L') := by
 refine ym func49 rfl rfl rfl (qX (qH (cX (yD [arv, rsv] rfl rfl ?_))))
 intro b1
 refine jc (sN) rfl (jc (.bool (false)) rfl (qI (qX (qX (qH (cX (yc [arv, rsv] yY yP rfl rfl (Rd.ownN [] rfl rfl) (jb (tv) rfl (cX (jL (args := [.agg #[arv, rsv], tv]) call61 rfl (l7Right_spec har hrs ht (hla := (by first | assumption | rfl | omega | simp)) (hlr := (by first | assumption | rfl | omega | simp)) (hrb := (by first | assumption | rfl | omega | simp)) (hlt := (by first | assumption | rfl | omega | simp))) ?_))))))))))
 rintro _ _ _ _ ⟨rfl, rfl, rfl⟩
 refine cX (yR rfl (jb (.bool (!(rightB ar rs t))) rfl ?_))
 by_cases h1 : (!(rightB ar rs t)) = true
 ·refine jA (t := 14) rfl (vB h1) (jA (t := 14) rfl (vB h1) (jA (t := 14) rfl (vB h1) (jA (t := 14) rfl (vB h1) (cX (yp (.bool (true)) (vB h1) rfl (jb (.bool (true)) rfl (jA (t := 20) rfl rfl (jA (t := 20) rfl rfl (jA (t := 20) rfl rfl (jA (t := 20) rfl rfl ?_))))))))))
  refine jA (t := 20) rfl rfl (jA (t := 20) rfl rfl (jA (t := 20) rfl rfl (cX (yp (.bool (true)) rfl rfl (qI (yX rfl (qX (qH (cX (jQ (s := 1) [] [ii (0)] [] qU js yv rfl (by decide) rfl CellsAre.nil rfl ?_))))))))))
  intro v1 hv1
  refine jc (v1) rfl (jc (.bool (false)) rfl (qI ?_))
  show X _ _ _ _ _ _ (intsH 2 v1 ([] : List Int) :: cellsH b1 [arv, rsv] 32 :: L)
  refine yz [] _ _ rfl (fun F1 le1 hz1 => ?_)
  replace har := har.mono le1
  replace hrs := hrs.mono le1
  replace ht := ht.mono le1
  have hf1 : IntsF F1 v1 ([]) := intsH.fz (xs := []) hz1.fz
  refine jW (jw (jR (L' := L) [v1, .bool (false)] (.tuple #[v1, .bool (false)]) (.tmp rfl (.tmp rfl .nil)) rfl le1 rF (sD sR) ?_))
  have hz0 : stepAtL ar rs t p r = none := by rw [stepAtL, if_neg (by unfold stepAtOk; cases hA : rightB ar rs t <;> simp_all <;> omega)]
  exact ⟨_, by rw [hz0]; rfl, by rw [hz0]; exact hf1, rfl⟩
 rw [Bool.not_eq_true] at h1
 refine jB (t := 14) rfl (vB h1) (jk (tv) rfl (jB (t := 14) rfl (vB h1) (jk (ii (p)) rfl (jB (t := 14) rfl (vB h1) (jL (args := [tv, ii (p)]) call111 rfl (l1There_spec (n := p) ht (hbd := (by first | assumption | rfl | omega | simp))) ?_)))))
 rintro _ _ _ _ ⟨rfl, rfl, rfl⟩
 refine jB (t := 14) rfl (vB h1) (Qw rfl (cX (yl (.bool (decide (¬(0 ≤ p ∧ p < (t.length : Int))))) (vB h1) rfl (jb (.bool (decide (¬(0 ≤ p ∧ p < (t.length : Int))))) rfl ?_))))
 by_cases h2 : ¬(0 ≤ p ∧ p < (t.length : Int))
 ·refine jA (t := 20) rfl (vT h2) (jA (t := 20) rfl (vT h2) (jA (t := 20) rfl (vT h2) (jA (t := 20) rfl (vT h2) (jA (t := 20) rfl (vT h2) (jA (t := 20) rfl (vT h2) (jA (t := 20) rfl (vT h2) (cX (yp (.bool (true)) (vT h2) rfl (qI (yX rfl ?_))))))))))
  refine qX (qH (cX (jQ (s := 1) [] [ii (0)] [] qU js yv rfl (by decide) rfl CellsAre.nil rfl ?_)))
  intro v2 hv2
  refine jc (v2) rfl (jc (.bool (false)) rfl (qI ?_))
  show X _ _ _ _ _ _ (intsH 2 v2 ([] : List Int) :: cellsH b1 [arv, rsv] 32 :: L)
  refine yz [] _ _ rfl (fun F2 le2 hz2 => ?_)
  replace har := har.mono le2
  replace hrs := hrs.mono le2
  replace ht := ht.mono le2
  have hf2 : IntsF F2 v2 ([]) := intsH.fz (xs := []) hz2.fz
  refine jW (jw (jR (L' := L) [v2, .bool (false)] (.tuple #[v2, .bool (false)]) (.tmp rfl (.tmp rfl .nil)) rfl le2 rF (sD sR) ?_))
  have hz0 : stepAtL ar rs t p r = none := by rw [stepAtL, if_neg (by unfold stepAtOk; cases hA : rightB ar rs t <;> simp_all <;> omega)]
  exact ⟨_, by rw [hz0]; rfl, by rw [hz0]; exact hf2, rfl⟩
 refine jB (t := 20) rfl (vF h2) (jk (ii (r)) rfl (jB (t := 20) rfl (vF h2) (jE (1) yq rfl yZ (by decide) rfl rfl (jB (t := 20) rfl (vF h2) (jj Qj rfl (Rd.own [] rfl rfl) (jB (t := 20) rfl (vF h2) (jZ yy rfl hrs.slv (jB (t := 20) rfl (vF h2) (yx (((rs.length : Int)) - 1) rfl rfl (by omega) (by omega) (jB (t := 20) rfl (vF h2) (jL (args := [ii (r), ii (0), ii (((rs.length : Int)) - 1)]) call112 rfl (l1In_spec (n := r) (a := 0) (b := ((rs.length : Int)) - 1)) ?_)))))))))))
 rintro _ _ _ _ ⟨rfl, rfl, rfl⟩
 refine jB (t := 20) rfl (vF h2) (Qw rfl (cX (yl (.bool (decide (¬(0 ≤ r ∧ r ≤ (((rs.length : Int)) - 1))))) (vF h2) rfl (qI ?_))))
 refine jV (p := ¬(0 ≤ r ∧ r ≤ (((rs.length : Int)) - 1))) rfl (fun h3 => ?_) (fun h3 => ?_)
 ·refine qX (qH (cX (jQ (s := 1) [] [ii (0)] [] qU js yv rfl (by decide) rfl CellsAre.nil rfl ?_)))
  intro v3 hv3
  refine jc (v3) rfl (jc (.bool (false)) rfl (qI ?_))
  show X _ _ _ _ _ _ (intsH 2 v3 ([] : List Int) :: cellsH b1 [arv, rsv] 32 :: L)
  refine yz [] _ _ rfl (fun F3 le3 hz3 => ?_)
  replace har := har.mono le3
  replace hrs := hrs.mono le3
  replace ht := ht.mono le3
  have hf3 : IntsF F3 v3 ([]) := intsH.fz (xs := []) hz3.fz
  refine jW (jw (jR (L' := L) [v3, .bool (false)] (.tuple #[v3, .bool (false)]) (.tmp rfl (.tmp rfl .nil)) rfl le3 rF (sD sR) ?_))
  have hz0 : stepAtL ar rs t p r = none := by rw [stepAtL, if_neg (by unfold stepAtOk; cases hA : rightB ar rs t <;> simp_all <;> omega)]
  exact ⟨_, by rw [hz0]; rfl, by rw [hz0]; exact hf3, rfl⟩
 refine jU (qX (qH ?_))
 have hok : stepAtOk ar rs t p r = true := by unfold stepAtOk; cases hA : rightB ar rs t <;> simp_all <;> omega
 have hok2 := hok
 unfold stepAtOk rightB at hok2
 simp only [Bool.and_eq_true, decide_eq_true_eq] at hok2
 obtain ⟨⟨⟨hsys, ho⟩, hp1⟩, hr1⟩ := hok2
 refine cX (yc [arv, rsv] yY yP rfl rfl (Rd.ownN [] rfl rfl) (jb (tv) rfl (jb (ii (p)) rfl (jb (ii (r)) rfl (cX (jL (args := [.agg #[arv, rsv], tv, ii (((p).toNat : Nat) : Int), ii (((r).toNat : Nat) : Int)]) call113 (by rw [show (((p).toNat : Nat) : Int) = p from by omega, show (((r).toNat : Nat) : Int) = r from by omega]; rfl) (l7Step_spec (p := (p).toNat) (r := (r).toNat) har hrs ht (hsys := (by first | assumption | rfl | omega | simp)) (ho := (by first | assumption | rfl | omega | simp)) (hp := (by first | assumption | rfl | omega | simp)) (hr := (by first | assumption | rfl | omega | simp))) ?_))))))
 rintro _ F4 _ le4 ⟨x1, rfl, hr1, rfl⟩
 refine cX (yr (x1) rfl rfl (cX (yr (.bool ((stepL ar rs t ((p).toNat) ((r).toNat)).isSome)) rfl rfl (jc (x1) rfl (jc (.bool ((stepL ar rs t ((p).toNat) ((r).toNat)).isSome)) rfl (qI (jW (jR (L' := L) [x1, .bool ((stepL ar rs t ((p).toNat) ((r).toNat)).isSome)] (.tuple #[x1, .bool ((stepL ar rs t ((p).toNat) ((r).toNat)).isSome)]) (.tmp rfl (.tmp rfl .nil)) rfl le4 rF (sD sR) ?_))))))))
 have e := show stepAtL ar rs t p r = stepL ar rs t p.toNat r.toNat from by rw [stepAtL, if_pos hok]
 exact ⟨_, by rw [e], by rw [e]; exact hr1, rfl⟩
end Go.Proofs.Ytcdjpapjjoldeaa
