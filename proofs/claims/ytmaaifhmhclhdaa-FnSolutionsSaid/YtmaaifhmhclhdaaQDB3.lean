/-
  Walks, one after the other (part 4).
-/
import Derived.Test.YtmaaifhmhclhdaaQDL1
import Derived.Test.YtmaaifhmhclhdaaQDB2
set_option linter.unusedSimpArgs false
set_option linter.unusedVariables false
namespace Go.Proofs.Ytmaaifhmhclhdaa
open Go X M Try

/- laws.big -/
theorem big_spec {F : FH} {L : List HP} {bsv : Value} {bs : List Int} (hbs : BytesF F bsv bs) :
    Does prog 8 [bsv] F (L) (fun v F' L' => (.bool (decide ((bs.length : Int) > 4096)) : Value) = v ∧ F = F' ∧ L = L') := by
 refine Does.of_X func8 rfl rfl rfl ?_
 refine X.seq (X.region ?_)
 refine XL.as (.bool (false)) rfl ?_
 refine XL.nil (X.seq (X.region ?_))
 refine XL.mv (bsv) rfl ?_
 refine cX (XOp.lenS (v := bsv) (n := (bs).length) runUnderlying22 rfl hbs.slv ?_)
 refine cX (XOp.gtr (a := (bs.length : Int)) (b := 4096) rfl rfl ?_)
 refine XL.as (.bool (decide (((bs.length : Int) : Int) > 4096))) rfl ?_
 refine XL.nil ?_
 refine X.ret (retEnd (L' := L) [.bool (decide (((bs.length : Int) : Int) > 4096))] (.bool (decide (((bs.length : Int) : Int) > 4096))) (.tmp rfl .nil) rfl rF rF sR ?_)
 exact ⟨rfl, rfl, rfl⟩

/- laws.roll -/
theorem roll_spec {F : FH} {L : List HP} {bsv : Value} {bs : List Int} (hbs : BytesF F bsv bs) (hlb : bs.length ≤ 4000000) {s : Int} :
    Does prog 20 [bsv, .int .u64 (s)] F (L) (fun v F' L' => ∃ cb : Nat, (ptr cb 0 : Value) = v ∧ F = F' ∧ curH .u64 90 cb bsv bs.length :: L = L') := by
 refine Does.of_X func20 rfl rfl rfl ?_
 refine X.seq (X.region ?_)
 refine XL.as ((.pointer none)) rfl ?_
 refine XL.nil (X.seq (X.region ?_))
 refine XL.mv (bsv) rfl ?_
 refine XL.mv (.int .u64 (s)) rfl ?_
 refine cX (XOp.mulW (a := s) (b := 7919) rfl rfl ?_)
 intro r1
 refine XL.mv (bsv) rfl ?_
 refine cX (XOp.lenS (v := bsv) (n := (bs).length) runUnderlying22 rfl hbs.slv ?_)
 refine cX (XOp.convW (k' := .i64) (a := (bs.length : Int)) runUnderlying3 runUnderlying40 rfl ?_)
 intro r2
 refine cX (XOp.addW (a := r1) (b := r2) rfl rfl ?_)
 intro r3
 refine cX (XOp.build [bsv, .int .i64 (0), .int .u64 (r3)] [(.slice none 0 0), .int .i64 (0), .int .u64 (0)] [(0, 1), (1, 1), (2, 1)] [(0, [bsv]), (2, [.int .u64 (r3)])] runUnderlying90 zeroValue90 rfl (.cons rfl sizeOf22 (.cons rfl sizeOf3 (.cons rfl sizeOf40 PlacesAre.nil))) rfl (.cons (cells_one (BytesF.isSl hbs)) (.cons rfl CellsAre.nil)) ?_)
 refine cX (XOp.box [bsv, .int .i64 (0), .int .u64 (r3)] rfl rfl ?_)
 intro b1
 refine XL.as (ptr b1 0) rfl ?_
 refine XL.nil (X.seq (X.seq (X.region ?_)))
 refine XL.as (.int .i64 (0)) rfl ?_
 refine XL.nil (X.block ?_)
 refine X.loop (α := Nat × Int) (fun xQ => [(0, bsv), (5, ptr b1 0), (6, .int .i64 (((xQ.1 : Nat) : Int)))]) (fun xQ => cellsH b1 [bsv, .int .i64 (0), .int .u64 (xQ.2)] 90 :: L) (fun xQ F' => F = F' ∧ (xQ.1 ≤ bs.length)) (fun xQ => bs.length - xQ.1) (0, r3) ⟨rfl, rfl, rfl, trivial⟩ (sC sR) ⟨rfl, (Nat.zero_le _)⟩ ?_
 rintro ⟨k, h⟩ rE _ _ ⟨rfl, hk⟩
 show X _ _ _ _ (envs [(0, bsv), (5, ptr b1 0), (6, .int .i64 ((k : Int)))] rE) _ (cellsH b1 [bsv, .int .i64 (0), .int .u64 (h)] 90 :: L)
 dsimp only at hk
 refine X.seq (X.seq (X.region ?_))
 refine XL.mv (.int .i64 ((k : Int))) rfl ?_
 refine XL.mv (bsv) rfl ?_
 refine cX (XOp.lenS (v := bsv) (n := (bs).length) runUnderlying22 rfl hbs.slv ?_)
 refine cX (XOp.lss (a := (k : Int)) (b := (bs.length : Int)) rfl rfl ?_)
 refine XL.nil ?_
 refine X.condD (p := (k : Int) < (bs.length : Int)) rfl (fun h1 => ?_) (fun h1 => ?_)
 ·refine X.skip (X.seq (X.block ?_))
  refine X.drawG [cellsH b1 [bsv, .int .i64 (0), .int .u64 (h)] 90] L 13 [[], [], [], [], [], [], [], [], [], [], [], [], []] [[], [], [1], [2], [3], [4], [], [], [6, 7], [8], [9], [5, 10], [11]] [[], [], [], [], [], [], [], [], [], [], [], [], []] (phiG [fun FF us v => v = ptr b1 0, fun FF us v => v = ptr b1 0, fun FF us v => v = ptr b1 0, fun FF us v => v = ptr b1 2, fun FF us v => v = (.int .u64 (h) : Value), fun FF us v => (.int .u64 ((intAt v)) : Value) = v, fun FF us v => v = bsv, fun FF us v => v = (.int .i64 ((k : Int)) : Value), fun FF us v => v = (.pointer (some (elemA bsv (k))) : Value), fun FF us v => v = (.int .u8 (bs.getD k 0) : Value), fun FF us v => (.int .u64 ((intAt v)) : Value) = v, fun FF us v => (.int .u64 ((intAt v)) : Value) = v, fun FF us v => (.int .u64 ((intAt v)) : Value) = v]) (ownL [fun us v => [], fun us v => [], fun us v => [], fun us v => [], fun us v => [], fun us v => [], fun us v => [], fun us v => [], fun us v => [], fun us v => [], fun us v => [], fun us v => [], fun us v => []]) mixed rfl rfl (by kernel_rfl) (by kernel_rfl) (MonoG.get (mC (fun le h => h) (mC (fun le h => h) (mC (fun le h => h) (mC (fun le h => h) (mC (fun le h => h) (mC (fun le h => h) (mC (fun le h => h) (mC (fun le h => h) (mC (fun le h => h) (mC (fun le h => h) (mC (fun le h => h) (mC (fun le h => h) (mC (fun le h => h) MonoG.nil)))))))))))))) ?_ ?_
  ·refine gC (fun vals Fs R leFs hpZ => ?_) ?_
   ·refine XG.op (XOp.move (ptr b1 0) rfl ?_)
    exact ⟨rfl, rfl⟩
   refine gC (fun vals Fs R leFs hpZ => ?_) ?_
   ·refine XG.op (XOp.move (ptr b1 0) rfl ?_)
    exact ⟨rfl, rfl⟩
   refine gC (fun vals Fs R leFs hpZ => ?_) ?_
   ·replace hbs := hbs.mono leFs
    rw [eS (l := [(1, ptr b1 0)]) ⟨(hpZ 1 (by decide)), trivial⟩]
    refine XG.op (XOp.nilCheck (a := ⟨b1, 0, none⟩) rfl ?_)
    exact ⟨rfl, rfl⟩
   refine gC (fun vals Fs R leFs hpZ => ?_) ?_
   ·rw [eS (l := [(2, ptr b1 0)]) ⟨(hpZ 2 (by decide)), trivial⟩]
    refine XG.op (XOp.fieldP (b := b1) (2) runUnderlying90 rfl sizeOf40 (by decide) rfl rfl ?_)
    exact ⟨rfl, rfl⟩
   refine gC (fun vals Fs R leFs hpZ => ?_) ?_
   ·replace hbs := hbs.mono leFs
    rw [eS (l := [(3, ptr b1 2)]) ⟨(hpZ 3 (by decide)), trivial⟩]
    refine XG.op (XOp.load1 (v := .int .u64 (h)) isAgg40 rfl (Rd.own [] rfl rfl) ?_)
    exact ⟨rfl, rfl⟩
   refine gC (fun vals Fs R leFs hpZ => ?_) ?_
   ·rw [eS (l := [(4, (.int .u64 (h) : Value))]) ⟨(hpZ 4 (by decide)), trivial⟩]
    refine XG.op (XOp.mulW (a := h) (b := 1099511628211) rfl rfl ?_)
    intro r8
    exact ⟨rfl, rfl⟩
   refine gC (fun vals Fs R leFs hpZ => ?_) ?_
   ·refine XG.op (XOp.move (bsv) rfl ?_)
    exact ⟨rfl, rfl⟩
   refine gC (fun vals Fs R leFs hpZ => ?_) ?_
   ·refine XG.op (XOp.move (.int .i64 ((k : Int))) rfl ?_)
    exact ⟨rfl, rfl⟩
   refine gC (fun vals Fs R leFs hpZ => ?_) ?_
   ·replace hbs := hbs.mono leFs
    rw [eS (l := [(6, bsv), (7, (.int .i64 ((k : Int)) : Value))]) ⟨(hpZ 6 (by decide)), (hpZ 7 (by decide)), trivial⟩]
    refine XG.op (XOp.indexS (v := bsv) (i := (k : Int)) (n := (bs).length) k runUnderlying22 sizeOf5 rfl rfl rfl hbs.slv (by omega) (Nat.mul_one _) ?_)
    exact ⟨rfl, rfl⟩
   refine gC (fun vals Fs R leFs hpZ => ?_) ?_
   ·replace hbs := hbs.mono leFs
    rw [eS (l := [(8, (.pointer (some (elemA bsv (k))) : Value))]) ⟨(hpZ 8 (by decide)), trivial⟩]
    refine XG.op (XOp.load1 (v := .int .u8 (bs.getD k 0)) isAgg5 rfl (hbs.rd (by omega) _) ?_)
    exact ⟨rfl, rfl⟩
   refine gC (fun vals Fs R leFs hpZ => ?_) ?_
   ·replace hbs := hbs.mono leFs
    rw [eS (l := [(9, (.int .u8 (bs.getD k 0) : Value))]) ⟨(hpZ 9 (by decide)), trivial⟩]
    refine XG.op (XOp.convW (k' := .u8) (a := bs.getD k 0) runUnderlying5 runUnderlying40 rfl ?_)
    intro r9
    exact ⟨rfl, rfl⟩
   refine gC (fun vals Fs R leFs hpZ => ?_) ?_
   ·have e5 : (.int .u64 ((intAt (vals 5))) : Value) = (vals 5) := hpZ 5 (by decide)
    have e10 : (.int .u64 ((intAt (vals 10))) : Value) = (vals 10) := hpZ 10 (by decide)
    rw [eS (l := [(5, (.int .u64 ((intAt (vals 5))) : Value)), (10, (.int .u64 ((intAt (vals 10))) : Value))]) ⟨(e5).symm, (e10).symm, trivial⟩]
    refine XG.op (XOp.addW (a := (intAt (vals 5))) (b := (intAt (vals 10))) rfl rfl ?_)
    intro r10
    exact ⟨rfl, rfl⟩
   refine gC (fun vals Fs R leFs hpZ => ?_) ?_
   ·have e11 : (.int .u64 ((intAt (vals 11))) : Value) = (vals 11) := hpZ 11 (by decide)
    rw [eS (l := [(11, (.int .u64 ((intAt (vals 11))) : Value))]) ⟨(e11).symm, trivial⟩]
    refine XG.op (XOp.addW (a := (intAt (vals 11))) (b := 3) rfl rfl ?_)
    intro r11
    exact ⟨rfl, rfl⟩
   exact stepsG.nil
  intro vals F1 le1 hphi
  have e5 : (.int .u64 ((intAt (vals 5))) : Value) = (vals 5) := hphi 5 (by decide)
  have e10 : (.int .u64 ((intAt (vals 10))) : Value) = (vals 10) := hphi 10 (by decide)
  have e11 : (.int .u64 ((intAt (vals 11))) : Value) = (vals 11) := hphi 11 (by decide)
  have e12 : (.int .u64 ((intAt (vals 12))) : Value) = (vals 12) := hphi 12 (by decide)
  generalize hu1 : (intAt (vals 5)) = u1 at e5 e10 e11 e12
  generalize hu2 : (intAt (vals 10)) = u2 at e5 e10 e11 e12
  generalize hu3 : (intAt (vals 11)) = u3 at e5 e10 e11 e12
  generalize hu4 : (intAt (vals 12)) = u4 at e5 e10 e11 e12
  rw [eS (l := [(0, ptr b1 0), (12, (.int .u64 (u4) : Value))]) ⟨(hphi 0 (by decide)), (e12).symm, trivial⟩]
  show XL _ _ _ _ _ _ _ (cellsH b1 [bsv, .int .i64 (0), .int .u64 (h)] 90 :: L)
  refine cX (XOp.nilCheck (a := ⟨b1, 0, none⟩) rfl ?_)
  refine cX (XOp.fieldP (b := b1) (2) runUnderlying90 rfl sizeOf40 (by decide) rfl rfl ?_)
  refine cX (XOp.store1 (v := .int .u64 (u4)) [] _ [bsv, .int .i64 (0), .int .u64 (u4)] sizeOf40 rfl rfl rfl rfl rfl rfl ?_)
  refine XL.nil (X.region ?_)
  refine XL.mv (.int .i64 ((k : Int))) rfl ?_
  refine cX (XOp.addR (a := (k : Int)) (b := 1) (((k + 1 : Nat) : Int)) rfl rfl (by omega) (by omega) ?_)
  refine XL.as (.int .i64 (((k + 1 : Nat) : Int))) rfl ?_
  refine XL.nil ?_
  exact ⟨(k + 1, u4), _, FLe.refl _, le1, ⟨rfl, rfl, rfl, trivial⟩, (sC sR), ⟨rfl, (by (try dsimp only) <;> omega)⟩, (by omega)⟩
 refine X.exit (thenQ_exit (thenQ_exit (blockQ_exit ?_)))
 refine X.seq (X.region ?_)
 refine XL.mv (ptr b1 0) rfl ?_
 refine XL.as (ptr b1 0) rfl ?_
 refine XL.nil ?_
 refine X.ret (retEnd (L' := curH .u64 90 b1 bsv bs.length :: L) [ptr b1 0] (ptr b1 0) (.tmp rfl .nil) rfl rF rF (Sub.keep (curH.of (by omega) (by omega)) sR) ?_)
 exact ⟨_, rfl, rfl, rfl⟩

/- (*laws.dice).below -/
theorem below_spec0 {F : FH} {L : List HP} {cb : Nat} {bsv : Value} {bs : List Int} (hbs : BytesF F bsv bs) (hbl : bs.length ≤ 4000000) {i h n : Int} (h0 : 0 ≤ i) (h1 : i ≤ bs.length) (hn : 1 ≤ n ∧ n ≤ 1000000) :
    Does prog 22 [ptr cb 0, .int .i64 (n)] F (cellsH cb [bsv, .int .i64 (i), .int .u64 (h)] 90 :: L) (fun v F' L' => (F = F' ∧ ∃ x : Int, (.int .i64 x : Value) = v ∧ (0 ≤ x ∧ x < n)) ∧ ∃ i' h' : Int, 0 ≤ i' ∧ i' ≤ bs.length ∧ cellsH cb [bsv, .int .i64 (i'), .int .u64 (h')] 90 :: L = L') := by
 refine Does.of_X func22 rfl rfl rfl ?_
 refine X.seq (X.region ?_)
 refine XL.as (.int .i64 (0)) rfl ?_
 refine XL.nil (X.seq (X.region ?_))
 refine XL.mv (ptr cb 0) rfl ?_
 refine XL.mv (ptr cb 0) rfl ?_
 refine cX (XOp.nilCheck (a := ⟨cb, 0, none⟩) rfl ?_)
 refine cX (XOp.fieldP (b := cb) (2) runUnderlying90 rfl sizeOf40 (by decide) rfl rfl ?_)
 refine cX (XOp.load1 (v := .int .u64 (h)) isAgg40 rfl (Rd.own [] rfl rfl) ?_)
 refine cX (XOp.mulW (a := h) (b := 6364136223846793005) rfl rfl ?_)
 intro r1
 refine cX (XOp.addW (a := r1) (b := 1442695040888963407) rfl rfl ?_)
 intro r2
 refine cX (XOp.nilCheck (a := ⟨cb, 0, none⟩) rfl ?_)
 refine cX (XOp.fieldP (b := cb) (2) runUnderlying90 rfl sizeOf40 (by decide) rfl rfl ?_)
 refine cX (XOp.store1 (v := .int .u64 (r2)) [] _ [bsv, .int .i64 (i), .int .u64 (r2)] sizeOf40 rfl rfl rfl rfl rfl rfl ?_)
 refine XL.nil (X.seq (X.region ?_))
 refine XL.mv (ptr cb 0) rfl ?_
 refine cX (XOp.nilCheck (a := ⟨cb, 0, none⟩) rfl ?_)
 refine cX (XOp.fieldP (b := cb) (2) runUnderlying90 rfl sizeOf40 (by decide) rfl rfl ?_)
 refine cX (XOp.load1 (v := .int .u64 (r2)) isAgg40 rfl (Rd.own [] rfl rfl) ?_)
 refine cX (XOp.shrW (a := r2) (b := 33) rfl rfl (by decide) ?_)
 intro r3
 refine cX (XOp.andW (a := r3) (b := 16777215) rfl rfl rfl (by decide) ?_)
 intro r4 hr1
 refine cX (XOp.convI (k' := .u64) (a := r4) (r4) runUnderlying40 runUnderlying2 rfl (IntWalk.i64_in _ (by omega)) ?_)
 refine XL.as (.int .i64 (r4)) rfl ?_
 refine XL.nil (X.seq (X.seq ?_))
 refine X.draw [cellsH cb [bsv, .int .i64 (i), .int .u64 (r2)] 90] L 9 [[], [], [], [], [], [], [], [], []] [[], [0], [1], [2], [], [4], [5], [6], [7]] (phiL [fun us v => v = ptr cb 0, fun us v => v = ptr cb 0, fun us v => v = ptr cb 1, fun us v => v = (.int .i64 (i) : Value), fun us v => v = ptr cb 0, fun us v => v = ptr cb 0, fun us v => v = ptr cb 0, fun us v => v = bsv, fun us v => v = (.int .i64 ((bs.length : Int)) : Value)]) (ownL [fun us v => [], fun us v => [], fun us v => [], fun us v => [], fun us v => [], fun us v => [], fun us v => [], fun us v => [], fun us v => []]) mixed rfl rfl (by kernel_rfl) ?_ ?_
 ·refine pC (fun vals R hpZ => ?_) ?_
  ·refine XG.op (XOp.move (ptr cb 0) rfl ?_)
   exact ⟨rfl, rfl, rfl⟩
  refine pC (fun vals R hpZ => ?_) ?_
  ·rw [eS (l := [(0, ptr cb 0)]) ⟨hpZ 0 (by decide), trivial⟩]
   refine XG.op (XOp.nilCheck (a := ⟨cb, 0, none⟩) rfl ?_)
   exact ⟨rfl, rfl, rfl⟩
  refine pC (fun vals R hpZ => ?_) ?_
  ·rw [eS (l := [(1, ptr cb 0)]) ⟨hpZ 1 (by decide), trivial⟩]
   refine XG.op (XOp.fieldP (b := cb) (1) runUnderlying90 rfl sizeOf3 (by decide) rfl rfl ?_)
   exact ⟨rfl, rfl, rfl⟩
  refine pC (fun vals R hpZ => ?_) ?_
  ·rw [eS (l := [(2, ptr cb 1)]) ⟨hpZ 2 (by decide), trivial⟩]
   refine XG.op (XOp.load1 (v := .int .i64 (i)) isAgg3 rfl (Rd.own [] rfl rfl) ?_)
   exact ⟨rfl, rfl, rfl⟩
  refine pC (fun vals R hpZ => ?_) ?_
  ·refine XG.op (XOp.move (ptr cb 0) rfl ?_)
   exact ⟨rfl, rfl, rfl⟩
  refine pC (fun vals R hpZ => ?_) ?_
  ·rw [eS (l := [(4, ptr cb 0)]) ⟨hpZ 4 (by decide), trivial⟩]
   refine XG.op (XOp.nilCheck (a := ⟨cb, 0, none⟩) rfl ?_)
   exact ⟨rfl, rfl, rfl⟩
  refine pC (fun vals R hpZ => ?_) ?_
  ·rw [eS (l := [(5, ptr cb 0)]) ⟨hpZ 5 (by decide), trivial⟩]
   refine XG.op (XOp.fieldP (b := cb) (0) runUnderlying90 rfl sizeOf22 (by decide) rfl rfl ?_)
   exact ⟨rfl, rfl, rfl⟩
  refine pC (fun vals R hpZ => ?_) ?_
  ·rw [eS (l := [(6, ptr cb 0)]) ⟨hpZ 6 (by decide), trivial⟩]
   refine XG.op (XOp.load1 (v := bsv) isAgg22 rfl (Rd.own [] rfl rfl) ?_)
   exact ⟨rfl, rfl, rfl⟩
  refine pC (fun vals R hpZ => ?_) ?_
  ·rw [eS (l := [(7, bsv)]) ⟨hpZ 7 (by decide), trivial⟩]
   refine XG.op (XOp.lenS (v := bsv) (n := (bs).length) runUnderlying22 rfl hbs.slv ?_)
   exact ⟨rfl, rfl, rfl⟩
  exact stepsP.nil
 intro vals hphi
 rw [eS (l := [(3, (.int .i64 (i) : Value)), (8, (.int .i64 ((bs.length : Int)) : Value))]) ⟨(hphi 3 (by decide)), (hphi 8 (by decide)), trivial⟩]
 show XL _ _ _ _ _ _ _ (cellsH cb [bsv, .int .i64 (i), .int .u64 (r2)] 90 :: L)
 refine cX (XOp.lss (a := i) (b := (bs.length : Int)) rfl rfl ?_)
 refine XL.nil ?_
 refine X.condD (p := (i : Int) < (bs.length : Int)) rfl (fun h1 => ?_) (fun h1 => ?_)
 ·have hrg := hbs.range (i := i.toNat) (by omega)
  refine X.seq ?_
  refine X.draw [cellsH cb [bsv, .int .i64 (i), .int .u64 (r2)] 90] L 12 [[], [], [], [], [], [], [], [], [], [], [], []] [[], [], [1], [2], [3], [], [5], [6], [7], [4, 8], [9], [10]] (phiL [fun us v => v = (.int .i64 (r4) : Value), fun us v => v = ptr cb 0, fun us v => v = ptr cb 0, fun us v => v = ptr cb 0, fun us v => v = bsv, fun us v => v = ptr cb 0, fun us v => v = ptr cb 0, fun us v => v = ptr cb 1, fun us v => v = (.int .i64 (i) : Value), fun us v => v = (.pointer (some (elemA bsv ((i).toNat))) : Value), fun us v => v = (.int .u8 (bs.getD ((i).toNat) 0) : Value), fun us v => v = (.int .i64 (bs.getD ((i).toNat) 0) : Value)]) (ownL [fun us v => [], fun us v => [], fun us v => [], fun us v => [], fun us v => [], fun us v => [], fun us v => [], fun us v => [], fun us v => [], fun us v => [], fun us v => [], fun us v => []]) mixed rfl rfl (by kernel_rfl) ?_ ?_
  ·refine pC (fun vals R hpZ => ?_) ?_
   ·refine XG.op (XOp.move (.int .i64 (r4)) rfl ?_)
    exact ⟨rfl, rfl, rfl⟩
   refine pC (fun vals R hpZ => ?_) ?_
   ·refine XG.op (XOp.move (ptr cb 0) rfl ?_)
    exact ⟨rfl, rfl, rfl⟩
   refine pC (fun vals R hpZ => ?_) ?_
   ·rw [eS (l := [(1, ptr cb 0)]) ⟨hpZ 1 (by decide), trivial⟩]
    refine XG.op (XOp.nilCheck (a := ⟨cb, 0, none⟩) rfl ?_)
    exact ⟨rfl, rfl, rfl⟩
   refine pC (fun vals R hpZ => ?_) ?_
   ·rw [eS (l := [(2, ptr cb 0)]) ⟨hpZ 2 (by decide), trivial⟩]
    refine XG.op (XOp.fieldP (b := cb) (0) runUnderlying90 rfl sizeOf22 (by decide) rfl rfl ?_)
    exact ⟨rfl, rfl, rfl⟩
   refine pC (fun vals R hpZ => ?_) ?_
   ·rw [eS (l := [(3, ptr cb 0)]) ⟨hpZ 3 (by decide), trivial⟩]
    refine XG.op (XOp.load1 (v := bsv) isAgg22 rfl (Rd.own [] rfl rfl) ?_)
    exact ⟨rfl, rfl, rfl⟩
   refine pC (fun vals R hpZ => ?_) ?_
   ·refine XG.op (XOp.move (ptr cb 0) rfl ?_)
    exact ⟨rfl, rfl, rfl⟩
   refine pC (fun vals R hpZ => ?_) ?_
   ·rw [eS (l := [(5, ptr cb 0)]) ⟨hpZ 5 (by decide), trivial⟩]
    refine XG.op (XOp.nilCheck (a := ⟨cb, 0, none⟩) rfl ?_)
    exact ⟨rfl, rfl, rfl⟩
   refine pC (fun vals R hpZ => ?_) ?_
   ·rw [eS (l := [(6, ptr cb 0)]) ⟨hpZ 6 (by decide), trivial⟩]
    refine XG.op (XOp.fieldP (b := cb) (1) runUnderlying90 rfl sizeOf3 (by decide) rfl rfl ?_)
    exact ⟨rfl, rfl, rfl⟩
   refine pC (fun vals R hpZ => ?_) ?_
   ·rw [eS (l := [(7, ptr cb 1)]) ⟨hpZ 7 (by decide), trivial⟩]
    refine XG.op (XOp.load1 (v := .int .i64 (i)) isAgg3 rfl (Rd.own [] rfl rfl) ?_)
    exact ⟨rfl, rfl, rfl⟩
   refine pC (fun vals R hpZ => ?_) ?_
   ·rw [eS (l := [(4, bsv), (8, (.int .i64 (i) : Value))]) ⟨hpZ 4 (by decide), hpZ 8 (by decide), trivial⟩]
    refine XG.op (XOp.indexS (v := bsv) (i := i) (n := (bs).length) ((i).toNat) runUnderlying22 sizeOf5 rfl rfl (by omega) hbs.slv (by omega) (Nat.mul_one _) ?_)
    exact ⟨rfl, rfl, rfl⟩
   refine pC (fun vals R hpZ => ?_) ?_
   ·rw [eS (l := [(9, (.pointer (some (elemA bsv ((i).toNat))) : Value))]) ⟨hpZ 9 (by decide), trivial⟩]
    refine XG.op (XOp.load1 (v := .int .u8 (bs.getD ((i).toNat) 0)) isAgg5 rfl (hbs.rd (by omega) _) ?_)
    exact ⟨rfl, rfl, rfl⟩
   refine pC (fun vals R hpZ => ?_) ?_
   ·rw [eS (l := [(10, (.int .u8 (bs.getD ((i).toNat) 0) : Value))]) ⟨hpZ 10 (by decide), trivial⟩]
    refine XG.op (XOp.convI (k' := .u8) (a := bs.getD ((i).toNat) 0) (bs.getD ((i).toNat) 0) runUnderlying5 runUnderlying2 rfl (IntWalk.i64_in _ (by omega)) ?_)
    exact ⟨rfl, rfl, rfl⟩
   exact stepsP.nil
  intro vals hphi
  rw [eS (l := [(0, (.int .i64 (r4) : Value)), (11, (.int .i64 (bs.getD ((i).toNat) 0) : Value))]) ⟨(hphi 0 (by decide)), (hphi 11 (by decide)), trivial⟩]
  show XL _ _ _ _ _ _ _ (cellsH cb [bsv, .int .i64 (i), .int .u64 (r2)] 90 :: L)
  refine cX (XOp.addR (a := r4) (b := bs.getD ((i).toNat) 0) (r4 + (bs.getD ((i).toNat) 0)) rfl rfl (by omega) (by omega) ?_)
  refine XL.as (.int .i64 (r4 + (bs.getD ((i).toNat) 0))) rfl ?_
  refine XL.nil (X.region ?_)
  refine XL.mv (ptr cb 0) rfl ?_
  refine XL.mv (ptr cb 0) rfl ?_
  refine cX (XOp.nilCheck (a := ⟨cb, 0, none⟩) rfl ?_)
  refine cX (XOp.fieldP (b := cb) (1) runUnderlying90 rfl sizeOf3 (by decide) rfl rfl ?_)
  refine cX (XOp.load1 (v := .int .i64 (i)) isAgg3 rfl (Rd.own [] rfl rfl) ?_)
  refine cX (XOp.addR (a := i) (b := 1) (i + 1) rfl rfl (by omega) (by omega) ?_)
  refine cX (XOp.nilCheck (a := ⟨cb, 0, none⟩) rfl ?_)
  refine cX (XOp.fieldP (b := cb) (1) runUnderlying90 rfl sizeOf3 (by decide) rfl rfl ?_)
  refine cX (XOp.store1 (v := .int .i64 (i + 1)) [] _ [bsv, .int .i64 (i + 1), .int .u64 (r2)] sizeOf3 rfl rfl rfl rfl rfl rfl ?_)
  refine XL.nil (X.seq (X.region ?_))
  refine XL.mv (.int .i64 (r4 + (bs.getD ((i).toNat) 0))) rfl ?_
  refine XL.mv (.int .i64 (n)) rfl ?_
  refine cX (XOp.remV (a := r4 + (bs.getD ((i).toNat) 0)) (b := n) rfl rfl (by omega) (by omega) ?_)
  intro r5 hr2
  refine XL.as (.int .i64 (r5)) rfl ?_
  refine XL.nil ?_
  refine X.ret (retEnd (L' := cellsH cb [bsv, .int .i64 (i + 1), .int .u64 (r2)] 90 :: L) [.int .i64 (r5)] (.int .i64 (r5)) (.tmp rfl .nil) rfl rF rF (sC sR) ?_)
  exact ⟨⟨rfl, _, rfl, hr2⟩, _, _, by omega, by omega, rfl⟩
 refine X.skip (X.seq (X.region ?_))
 refine XL.mv (.int .i64 (r4)) rfl ?_
 refine XL.mv (.int .i64 (n)) rfl ?_
 refine cX (XOp.remV (a := r4) (b := n) rfl rfl (by omega) (by omega) ?_)
 intro r6 hr3
 refine XL.as (.int .i64 (r6)) rfl ?_
 refine XL.nil ?_
 refine X.ret (retEnd (L' := cellsH cb [bsv, .int .i64 (i), .int .u64 (r2)] 90 :: L) [.int .i64 (r6)] (.int .i64 (r6)) (.tmp rfl .nil) rfl rF rF (sC sR) ?_)
 exact ⟨⟨rfl, _, rfl, hr3⟩, _, _, by omega, by omega, rfl⟩
theorem below_spec {F : FH} {L : List HP} {cb : Nat} {bsv : Value} {bs : List Int} (hbs : BytesF F bsv bs) (hbl : bs.length ≤ 4000000) {n : Int} (hn : 1 ≤ n ∧ n ≤ 1000000) : Does prog 22 [ptr cb 0, .int .i64 n] F (curH .u64 90 cb bsv bs.length :: L) (fun v F' L' => (F = F' ∧ ∃ (x : Int), (.int .i64 x : Value) = v ∧ (0 ≤ x ∧ x < n)) ∧ curH .u64 90 cb bsv bs.length :: L = L') :=
  Does.cur (Q := fun v F' => F = F' ∧ ∃ (x : Int), (.int .i64 x : Value) = v ∧ (0 ≤ x ∧ x < n)) fun i h h0 h1 => below_spec0 hbs hbl h0 h1 hn

/- laws.w6Sig -/
theorem w6Sig_spec {F : FH} {L : List HP} :
    Does prog 67 [] F (L) (fun v F' L' => ∃ (a : Value), (.agg #[a] : Value) = v ∧ (IntsF F' a [2, 1, 0]) ∧ L = L') := by
 refine Does.of_X func67 rfl rfl rfl ?_
 refine X.seq (X.region ?_)
 refine cX (XOp.alloc [(.slice none 0 0)] zeroValue26 rfl ?_)
 intro b1
 refine XL.nil (X.seq (X.region ?_))
 refine cX (XOp.buildSlice (s := 1) [.int .i64 (2), .int .i64 (1), .int .i64 (0)] [.int .i64 (0)] [(0, [.int .i64 (2)]), (1, [.int .i64 (1)]), (2, [.int .i64 (0)])] runUnderlying24 sizeOf2 zeroValue2 rfl (by decide) rfl (.cons rfl (.cons rfl (.cons rfl CellsAre.nil))) rfl ?_)
 intro v1 hv1
 refine cX (XOp.build [v1] [(.slice none 0 0)] [(0, 1)] [(0, [v1])] runUnderlying26 zeroValue26 rfl (.cons rfl sizeOf24 PlacesAre.nil) rfl (.cons (cells_one (isSl_lit hv1)) CellsAre.nil) ?_)
 refine cX (XOp.storeN (vs := [v1]) [_] _ [v1] sizeOf26 rfl rfl rfl (ones_cons (one_sl (isSl_lit hv1)) ones_nil) rfl rfl rfl ?_)
 refine XL.nil ?_
 show X _ _ _ _ _ _ (intsH 2 v1 ([2, 1, 0] : List Int) :: cellsH b1 [v1] 26 :: L)
 refine X.freezeF [] _ _ rfl (fun F1 le1 hz1 => ?_)
 have hf1 : IntsF F1 v1 ([2, 1, 0]) := intsH.fz (xs := [2, 1, 0]) hz1.fz
 refine X.ret (retEnd (L' := L) [.agg #[v1]] (.agg #[v1]) (.cell rfl (loadNV [v1] isAgg26 sizeOf26 rfl (Rd.ownN [] rfl rfl)) .nil) rfl le1 rF (sD sR) ?_)
 exact ⟨_, rfl, hf1, rfl⟩

/- laws.w6Term -/
theorem w6Term_spec_step {dp : Nat} (ih : ∀ m : Nat, m < dp → ∀ {F : FH} {L : List HP} {cb : Nat} {bsv : Value} {bs : List Int} (hbs : BytesF F bsv bs) (hbl : bs.length ≤ 4000000) {vs : Int} (hv : 0 ≤ vs ∧ vs ≤ 24) (hd : m ≤ 4), Does prog 23 [ptr cb 0, .int .i64 ((m : Int)), .int .i64 (vs)] F (curH .u64 90 cb bsv bs.length :: L) (fun v F' L' => (∃ (a : Value), ∃ (t : List Int), (a : Value) = v ∧ (IntsF F' a t) ∧ (goodT [2, 1, 0] t) ∧ (t.length ≤ szB m) ∧ (1 ≤ t.length)) ∧ curH .u64 90 cb bsv bs.length :: L = L')) {F : FH} {L : List HP} {cb : Nat} {bsv : Value} {bs : List Int} (hbs : BytesF F bsv bs) (hbl : bs.length ≤ 4000000) {vs : Int} (hv : 0 ≤ vs ∧ vs ≤ 24) (hd : dp ≤ 4) :
    Does prog 23 [ptr cb 0, .int .i64 (((dp : Nat) : Int)), .int .i64 (vs)] F (curH .u64 90 cb bsv bs.length :: L) (fun v F' L' => (∃ (a : Value), ∃ (t : List Int), (a : Value) = v ∧ (IntsF F' a t) ∧ (goodT [2, 1, 0] t) ∧ (t.length ≤ szB dp) ∧ (1 ≤ t.length)) ∧ curH .u64 90 cb bsv bs.length :: L = L') := by
 refine Does.of_X func23 rfl rfl rfl ?_
 have hz9 := szB_le (d := dp - 1) (e := 3) (by omega)
 have hz8 : szB 3 = 15 := rfl
 refine X.seq (X.region ?_)
 refine XL.as ((.slice none 0 0)) rfl ?_
 refine XL.nil (X.seq (X.seq (X.region ?_)))
 refine XL.mv (.int .i64 (((dp : Nat) : Int))) rfl ?_
 refine cX (XOp.leq (a := ((dp : Nat) : Int)) (b := 1) rfl rfl ?_)
 refine XL.mv (.bool (decide ((((dp : Nat) : Int) : Int) ≤ 1))) rfl ?_
 by_cases h1 : (((dp : Nat) : Int) : Int) ≤ 1
 ·refine XL.no (t := 9) rfl (vT h1) ?_
  refine XL.no (t := 9) rfl (vT h1) ?_
  refine XL.no (t := 9) rfl (vT h1) ?_
  refine cX (XOp.pickT (.bool (true)) (vT h1) rfl ?_)
  refine XL.nil ?_
  refine X.condT rfl ?_
  refine X.seq (X.seq (X.region ?_))
  refine XL.mv (.int .i64 (vs)) rfl ?_
  refine cX (XOp.gtr (a := vs) (b := 0) rfl rfl ?_)
  refine XL.mv (.bool (decide ((vs : Int) > 0))) rfl ?_
  by_cases h2 : (vs : Int) > 0
  ·refine XL.yes (t := 16) rfl (vT h2) (XOp.move (ptr cb 0) rfl ?_)
   refine XL.yes (t := 16) rfl (vT h2) (XOp.call (args := [ptr cb 0, .int .i64 (2)]) call22 rfl (Does.at [] (below_spec (n := 2) hbs (by omega) (hn := (by first | assumption | rfl | omega | simp)))) ?_)
   rintro _ _ _ _ ⟨⟨rfl, x1, rfl, hr1⟩, rfl⟩
   show XL _ _ _ _ _ _ _ (curH .u64 90 cb bsv bs.length :: L)
   refine XL.yes (t := 16) rfl (vT h2) (XOp.eql (a := x1) (b := 0) rfl rfl ?_)
   refine cX (XOp.pickT (.bool (decide ((x1 : Int) = 0))) (vT h2) rfl ?_)
   refine XL.nil ?_
   refine X.condD (p := (x1 : Int) = 0) rfl (fun h3 => ?_) (fun h3 => ?_)
   ·refine X.seq (X.region ?_)
    refine XL.mv (ptr cb 0) rfl ?_
    refine XL.mv (.int .i64 (vs)) rfl ?_
    refine cX (XOp.call (args := [ptr cb 0, .int .i64 (vs)]) call22 rfl (Does.at [] (below_spec (n := vs) hbs (by omega) (hn := (by first | assumption | rfl | omega | simp)))) ?_)
    rintro _ _ _ _ ⟨⟨rfl, x2, rfl, hr2⟩, rfl⟩
    show XL _ _ _ _ _ _ _ (curH .u64 90 cb bsv bs.length :: L)
    refine cX (XOp.subR (a := -1) (b := x2) ((-1) - x2) rfl rfl (by omega) (by omega) ?_)
    refine cX (XOp.buildSlice (s := 1) [.int .i64 ((-1) - x2)] [.int .i64 (0)] [(0, [.int .i64 ((-1) - x2)])] runUnderlying24 sizeOf2 zeroValue2 rfl (by decide) rfl (.cons rfl CellsAre.nil) rfl ?_)
    intro v1 hv1
    refine XL.as (v1) rfl ?_
    refine XL.nil ?_
    show X _ _ _ _ _ _ (intsH 2 v1 ([(-1) - x2] : List Int) :: curH .u64 90 cb bsv bs.length :: L)
    refine X.freezeF [] _ _ rfl (fun F3 le3 hz1 => ?_)
    replace hbs := hbs.mono le3
    have hf1 : IntsF F3 v1 ([(-1) - x2]) := intsH.fz (xs := [(-1) - x2]) hz1.fz
    refine X.ret (thenQ_ret (thenQ_ret (retEnd (L' := curH .u64 90 cb bsv bs.length :: L) [v1] (v1) (.tmp rfl .nil) rfl le3 rF (sC sR) ?_)))
    exact ⟨⟨_, _, rfl, hf1, goodT.var (by omega) (by omega), szB_pos dp, Nat.le_refl _⟩, rfl⟩
   refine X.skip (X.seq (X.region ?_))
   refine cX (XOp.buildSlice (s := 1) [.int .i64 (2)] [.int .i64 (0)] [(0, [.int .i64 (2)])] runUnderlying24 sizeOf2 zeroValue2 rfl (by decide) rfl (.cons rfl CellsAre.nil) rfl ?_)
   intro v2 hv2
   refine XL.as (v2) rfl ?_
   refine XL.nil ?_
   show X _ _ _ _ _ _ (intsH 2 v2 ([2] : List Int) :: curH .u64 90 cb bsv bs.length :: L)
   refine X.freezeF [] _ _ rfl (fun F4 le4 hz2 => ?_)
   replace hbs := hbs.mono le4
   have hf2 : IntsF F4 v2 ([2]) := intsH.fz (xs := [2]) hz2.fz
   refine X.ret (thenQ_ret (retEnd (L' := curH .u64 90 cb bsv bs.length :: L) [v2] (v2) (.tmp rfl .nil) rfl le4 rF (sC sR) ?_))
   exact ⟨⟨_, _, rfl, hf2, goodT.one (by decide) (by decide) (by decide), szB_pos dp, Nat.le_refl _⟩, rfl⟩
  refine XL.no (t := 16) rfl (vF h2) ?_
  refine XL.no (t := 16) rfl (vF h2) ?_
  refine XL.no (t := 16) rfl (vF h2) ?_
  refine cX (XOp.pickF (.bool (false)) (vF h2) rfl ?_)
  refine XL.nil ?_
  refine X.condF rfl ?_
  refine X.skip (X.seq (X.region ?_))
  refine cX (XOp.buildSlice (s := 1) [.int .i64 (2)] [.int .i64 (0)] [(0, [.int .i64 (2)])] runUnderlying24 sizeOf2 zeroValue2 rfl (by decide) rfl (.cons rfl CellsAre.nil) rfl ?_)
  intro v3 hv3
  refine XL.as (v3) rfl ?_
  refine XL.nil ?_
  show X _ _ _ _ _ _ (intsH 2 v3 ([2] : List Int) :: curH .u64 90 cb bsv bs.length :: L)
  refine X.freezeF [] _ _ rfl (fun F5 le5 hz3 => ?_)
  replace hbs := hbs.mono le5
  have hf3 : IntsF F5 v3 ([2]) := intsH.fz (xs := [2]) hz3.fz
  refine X.ret (thenQ_ret (retEnd (L' := curH .u64 90 cb bsv bs.length :: L) [v3] (v3) (.tmp rfl .nil) rfl le5 rF (sC sR) ?_))
  exact ⟨⟨_, _, rfl, hf3, goodT.one (by decide) (by decide) (by decide), szB_pos dp, Nat.le_refl _⟩, rfl⟩
 refine XL.yes (t := 9) rfl (vF h1) (XOp.move (ptr cb 0) rfl ?_)
 refine XL.yes (t := 9) rfl (vF h1) (XOp.call (args := [ptr cb 0, .int .i64 (4)]) call22 rfl (Does.at [] (below_spec (n := 4) hbs (by omega) (hn := (by first | assumption | rfl | omega | simp)))) ?_)
 rintro _ _ _ _ ⟨⟨rfl, x3, rfl, hr3⟩, rfl⟩
 show XL _ _ _ _ _ _ _ (curH .u64 90 cb bsv bs.length :: L)
 refine XL.yes (t := 9) rfl (vF h1) (XOp.eql (a := x3) (b := 0) rfl rfl ?_)
 refine cX (XOp.pickF (.bool (decide ((x3 : Int) = 0))) (vF h1) rfl ?_)
 refine XL.nil ?_
 refine X.condD (p := (x3 : Int) = 0) rfl (fun h4 => ?_) (fun h4 => ?_)
 ·refine X.seq (X.seq (X.region ?_))
  refine XL.mv (.int .i64 (vs)) rfl ?_
  refine cX (XOp.gtr (a := vs) (b := 0) rfl rfl ?_)
  refine XL.mv (.bool (decide ((vs : Int) > 0))) rfl ?_
  by_cases h5 : (vs : Int) > 0
  ·refine XL.yes (t := 16) rfl (vT h5) (XOp.move (ptr cb 0) rfl ?_)
   refine XL.yes (t := 16) rfl (vT h5) (XOp.call (args := [ptr cb 0, .int .i64 (2)]) call22 rfl (Does.at [] (below_spec (n := 2) hbs (by omega) (hn := (by first | assumption | rfl | omega | simp)))) ?_)
   rintro _ _ _ _ ⟨⟨rfl, x4, rfl, hr4⟩, rfl⟩
   show XL _ _ _ _ _ _ _ (curH .u64 90 cb bsv bs.length :: L)
   refine XL.yes (t := 16) rfl (vT h5) (XOp.eql (a := x4) (b := 0) rfl rfl ?_)
   refine cX (XOp.pickT (.bool (decide ((x4 : Int) = 0))) (vT h5) rfl ?_)
   refine XL.nil ?_
   refine X.condD (p := (x4 : Int) = 0) rfl (fun h6 => ?_) (fun h6 => ?_)
   ·refine X.seq (X.region ?_)
    refine XL.mv (ptr cb 0) rfl ?_
    refine XL.mv (.int .i64 (vs)) rfl ?_
    refine cX (XOp.call (args := [ptr cb 0, .int .i64 (vs)]) call22 rfl (Does.at [] (below_spec (n := vs) hbs (by omega) (hn := (by first | assumption | rfl | omega | simp)))) ?_)
    rintro _ _ _ _ ⟨⟨rfl, x5, rfl, hr5⟩, rfl⟩
    show XL _ _ _ _ _ _ _ (curH .u64 90 cb bsv bs.length :: L)
    refine cX (XOp.subR (a := -1) (b := x5) ((-1) - x5) rfl rfl (by omega) (by omega) ?_)
    refine cX (XOp.buildSlice (s := 1) [.int .i64 ((-1) - x5)] [.int .i64 (0)] [(0, [.int .i64 ((-1) - x5)])] runUnderlying24 sizeOf2 zeroValue2 rfl (by decide) rfl (.cons rfl CellsAre.nil) rfl ?_)
    intro v4 hv4
    refine XL.as (v4) rfl ?_
    refine XL.nil ?_
    show X _ _ _ _ _ _ (intsH 2 v4 ([(-1) - x5] : List Int) :: curH .u64 90 cb bsv bs.length :: L)
    refine X.freezeF [] _ _ rfl (fun F9 le9 hz4 => ?_)
    replace hbs := hbs.mono le9
    have hf4 : IntsF F9 v4 ([(-1) - x5]) := intsH.fz (xs := [(-1) - x5]) hz4.fz
    refine X.ret (thenQ_ret (thenQ_ret (retEnd (L' := curH .u64 90 cb bsv bs.length :: L) [v4] (v4) (.tmp rfl .nil) rfl le9 rF (sC sR) ?_)))
    exact ⟨⟨_, _, rfl, hf4, goodT.var (by omega) (by omega), szB_pos dp, Nat.le_refl _⟩, rfl⟩
   refine X.skip (X.seq (X.region ?_))
   refine cX (XOp.buildSlice (s := 1) [.int .i64 (2)] [.int .i64 (0)] [(0, [.int .i64 (2)])] runUnderlying24 sizeOf2 zeroValue2 rfl (by decide) rfl (.cons rfl CellsAre.nil) rfl ?_)
   intro v5 hv5
   refine XL.as (v5) rfl ?_
   refine XL.nil ?_
   show X _ _ _ _ _ _ (intsH 2 v5 ([2] : List Int) :: curH .u64 90 cb bsv bs.length :: L)
   refine X.freezeF [] _ _ rfl (fun F10 le10 hz5 => ?_)
   replace hbs := hbs.mono le10
   have hf5 : IntsF F10 v5 ([2]) := intsH.fz (xs := [2]) hz5.fz
   refine X.ret (thenQ_ret (retEnd (L' := curH .u64 90 cb bsv bs.length :: L) [v5] (v5) (.tmp rfl .nil) rfl le10 rF (sC sR) ?_))
   exact ⟨⟨_, _, rfl, hf5, goodT.one (by decide) (by decide) (by decide), szB_pos dp, Nat.le_refl _⟩, rfl⟩
  refine XL.no (t := 16) rfl (vF h5) ?_
  refine XL.no (t := 16) rfl (vF h5) ?_
  refine XL.no (t := 16) rfl (vF h5) ?_
  refine cX (XOp.pickF (.bool (false)) (vF h5) rfl ?_)
  refine XL.nil ?_
  refine X.condF rfl ?_
  refine X.skip (X.seq (X.region ?_))
  refine cX (XOp.buildSlice (s := 1) [.int .i64 (2)] [.int .i64 (0)] [(0, [.int .i64 (2)])] runUnderlying24 sizeOf2 zeroValue2 rfl (by decide) rfl (.cons rfl CellsAre.nil) rfl ?_)
  intro v6 hv6
  refine XL.as (v6) rfl ?_
  refine XL.nil ?_
  show X _ _ _ _ _ _ (intsH 2 v6 ([2] : List Int) :: curH .u64 90 cb bsv bs.length :: L)
  refine X.freezeF [] _ _ rfl (fun F11 le11 hz6 => ?_)
  replace hbs := hbs.mono le11
  have hf6 : IntsF F11 v6 ([2]) := intsH.fz (xs := [2]) hz6.fz
  refine X.ret (thenQ_ret (retEnd (L' := curH .u64 90 cb bsv bs.length :: L) [v6] (v6) (.tmp rfl .nil) rfl le11 rF (sC sR) ?_))
  exact ⟨⟨_, _, rfl, hf6, goodT.one (by decide) (by decide) (by decide), szB_pos dp, Nat.le_refl _⟩, rfl⟩
 refine X.skip (X.seq (X.seq (X.region ?_)))
 refine XL.mv (ptr cb 0) rfl ?_
 refine cX (XOp.call (args := [ptr cb 0, .int .i64 (2)]) call22 rfl (Does.at [] (below_spec (n := 2) hbs (by omega) (hn := (by first | assumption | rfl | omega | simp)))) ?_)
 rintro _ _ _ _ ⟨⟨rfl, x6, rfl, hr6⟩, rfl⟩
 show XL _ _ _ _ _ _ _ (curH .u64 90 cb bsv bs.length :: L)
 refine cX (XOp.eql (a := x6) (b := 0) rfl rfl ?_)
 refine XL.nil ?_
 refine X.condD (p := (x6 : Int) = 0) rfl (fun h7 => ?_) (fun h7 => ?_)
 ·refine X.seq (X.region ?_)
  refine cX (XOp.buildSlice (s := 1) [.int .i64 (1)] [.int .i64 (0)] [(0, [.int .i64 (1)])] runUnderlying24 sizeOf2 zeroValue2 rfl (by decide) rfl (.cons rfl CellsAre.nil) rfl ?_)
  intro v7 hv7
  refine XL.mv (ptr cb 0) rfl ?_
  refine XL.mv (.int .i64 (((dp : Nat) : Int))) rfl ?_
  refine cX (XOp.subR (a := ((dp : Nat) : Int)) (b := 1) (((dp - 1 : Nat) : Int)) rfl rfl (by omega) (by omega) ?_)
  refine XL.mv (.int .i64 (vs)) rfl ?_
  refine cX (XOp.call (args := [ptr cb 0, .int .i64 ((dp - 1 : Nat) : Int), .int .i64 (vs)]) call23 rfl (Does.at [_] (ih (dp - 1) (by omega) (vs := vs) hbs (by omega) (hv := (by first | assumption | rfl | omega | simp)) (hd := (by first | assumption | rfl | omega | simp)))) ?_)
  rintro _ F13 _ le13 ⟨⟨x7, x8, rfl, hr7, hr8, hr9, hr10⟩, rfl⟩
  replace hbs := hbs.mono le13
  show XL _ _ _ _ _ _ _ (slH 2 1 v7 1 [.int .i64 (1)] :: curH .u64 90 cb bsv bs.length :: L)
  show XL _ _ _ _ _ _ _ (intsH 2 v7 ([1] : List Int) :: curH .u64 90 cb bsv bs.length :: L)
  refine cX (XOp.appendI [] _ runUnderlying24 typeInfo2 rfl rfl rfl rfl rfl rfl hr7 (by (try simp only [List.length_append, List.length_nil, List.length_cons, List.length_singleton, List.length_take, List.length_drop]); omega) ?_)
  intro v8 hs1 hn1 hm1
  refine XL.as (v8) rfl ?_
  refine XL.nil ?_
  refine X.freezeF [] _ _ rfl (fun F14 le14 hz7 => ?_)
  replace hbs := hbs.mono le14
  have hf7 : IntsF F14 v8 (([1]) ++ x8) := intsH.fz (xs := ([1]) ++ x8) hz7.fz
  refine X.ret (thenQ_ret (retEnd (L' := curH .u64 90 cb bsv bs.length :: L) [v8] (v8) (.tmp rfl .nil) rfl (FLe.trans le13 le14) rF (sC sR) ?_))
  exact ⟨⟨_, _, rfl, hf7, goodT.node (n := 1) (by decide) (by decide) (by decide) (goodN.nil.snoc hr8), by have h9 := szB_next (d := dp) (by omega); simp only [List.length_append, List.length_cons, List.length_nil]; omega, by simp only [List.length_append, List.length_cons, List.length_nil]; omega⟩, rfl⟩
 refine X.skip (X.seq (X.region ?_))
 refine cX (XOp.buildSlice (s := 1) [.int .i64 (0)] [.int .i64 (0)] [(0, [.int .i64 (0)])] runUnderlying24 sizeOf2 zeroValue2 rfl (by decide) rfl (.cons rfl CellsAre.nil) rfl ?_)
 intro v9 hv8
 refine XL.mv (ptr cb 0) rfl ?_
 refine XL.mv (.int .i64 (((dp : Nat) : Int))) rfl ?_
 refine cX (XOp.subR (a := ((dp : Nat) : Int)) (b := 1) (((dp - 1 : Nat) : Int)) rfl rfl (by omega) (by omega) ?_)
 refine XL.mv (.int .i64 (vs)) rfl ?_
 refine cX (XOp.call (args := [ptr cb 0, .int .i64 ((dp - 1 : Nat) : Int), .int .i64 (vs)]) call23 rfl (Does.at [_] (ih (dp - 1) (by omega) (vs := vs) hbs (by omega) (hv := (by first | assumption | rfl | omega | simp)) (hd := (by first | assumption | rfl | omega | simp)))) ?_)
 rintro _ F15 _ le15 ⟨⟨x9, x10, rfl, hr11, hr12, hr13, hr14⟩, rfl⟩
 replace hbs := hbs.mono le15
 show XL _ _ _ _ _ _ _ (slH 2 1 v9 1 [.int .i64 (0)] :: curH .u64 90 cb bsv bs.length :: L)
 show XL _ _ _ _ _ _ _ (intsH 2 v9 ([0] : List Int) :: curH .u64 90 cb bsv bs.length :: L)
 refine cX (XOp.appendI [] _ runUnderlying24 typeInfo2 rfl rfl rfl rfl rfl rfl hr11 (by (try simp only [List.length_append, List.length_nil, List.length_cons, List.length_singleton, List.length_take, List.length_drop]); omega) ?_)
 intro v10 hs2 hn2 hm2
 refine XL.mv (ptr cb 0) rfl ?_
 refine XL.mv (.int .i64 (((dp : Nat) : Int))) rfl ?_
 refine cX (XOp.subR (a := ((dp : Nat) : Int)) (b := 1) (((dp - 1 : Nat) : Int)) rfl rfl (by omega) (by omega) ?_)
 refine XL.mv (.int .i64 (vs)) rfl ?_
 refine cX (XOp.call (args := [ptr cb 0, .int .i64 ((dp - 1 : Nat) : Int), .int .i64 (vs)]) call23 rfl (Does.at [_] (ih (dp - 1) (by omega) (vs := vs) hbs (by omega) (hv := (by first | assumption | rfl | omega | simp)) (hd := (by first | assumption | rfl | omega | simp)))) ?_)
 rintro _ F16 _ le16 ⟨⟨x11, x12, rfl, hr15, hr16, hr17, hr18⟩, rfl⟩
 show XL _ _ _ _ _ _ _ (intsH 2 v10 (([0]) ++ x10) :: curH .u64 90 cb bsv bs.length :: L)
 refine cX (XOp.appendI [] _ runUnderlying24 typeInfo2 rfl rfl rfl rfl rfl rfl hr15 (by (try simp only [List.length_append, List.length_nil, List.length_cons, List.length_singleton, List.length_take, List.length_drop]); omega) ?_)
 intro v11 hs3 hn3 hm3
 refine XL.as (v11) rfl ?_
 refine XL.nil ?_
 refine X.freezeF [] _ _ rfl (fun F17 le17 hz8 => ?_)
 have hf8 : IntsF F17 v11 ((([0]) ++ x10) ++ x12) := intsH.fz (xs := (([0]) ++ x10) ++ x12) hz8.fz
 refine X.ret (retEnd (L' := curH .u64 90 cb bsv bs.length :: L) [v11] (v11) (.tmp rfl .nil) rfl (FLe.trans (FLe.trans le15 le16) le17) rF (sC sR) ?_)
 exact ⟨⟨_, _, rfl, hf8, goodT.node (n := 2) (by decide) (by decide) (by decide) ((goodN.nil.snoc hr12).snoc hr16), by have h9 := szB_next (d := dp) (by omega); simp only [List.length_append, List.length_cons, List.length_nil]; omega, by simp only [List.length_append, List.length_cons, List.length_nil]; omega⟩, rfl⟩

theorem w6Term_spec (dp : Nat) : ∀ {F : FH} {L : List HP} {cb : Nat} {bsv : Value} {bs : List Int} (hbs : BytesF F bsv bs) (hbl : bs.length ≤ 4000000) {vs : Int} (hv : 0 ≤ vs ∧ vs ≤ 24) (hd : dp ≤ 4), Does prog 23 [ptr cb 0, .int .i64 (((dp : Nat) : Int)), .int .i64 (vs)] F (curH .u64 90 cb bsv bs.length :: L) (fun v F' L' => (∃ (a : Value), ∃ (t : List Int), (a : Value) = v ∧ (IntsF F' a t) ∧ (goodT [2, 1, 0] t) ∧ (t.length ≤ szB dp) ∧ (1 ≤ t.length)) ∧ curH .u64 90 cb bsv bs.length :: L = L') := by
  induction dp using Nat.strongRecOn with
  | _ dp ih =>
    intros
    exact w6Term_spec_step ih (by assumption) (by assumption) (by assumption) (by assumption)

/- laws.w6System -/
theorem w6System_spec {F : FH} {L : List HP} {cb : Nat} {bsv : Value} {bs : List Int} (hbs : BytesF F bsv bs) (hbl : bs.length ≤ 4000000) :
    Does prog 21 [ptr cb 0] F (curH .u64 90 cb bsv bs.length :: L) (fun v F' L' => (∃ (a : Value), ∃ (b : Value), ∃ (rs : List (List Int × List Int)), (.agg #[a, b] : Value) = v ∧ (IntsF F' a [2, 1, 0]) ∧ (PairsF F' b rs) ∧ (sysOk [2, 1, 0] rs = true)) ∧ curH .u64 90 cb bsv bs.length :: L = L') := by
 refine Does.of_X func21 rfl rfl rfl ?_
 refine X.seq (X.region ?_)
 refine cX (XOp.alloc [(.slice none 0 0), (.slice none 0 0)] zeroValue29 rfl ?_)
 intro b1
 refine XL.nil (X.seq (X.region ?_))
 refine cX (XOp.call (args := []) call67 rfl (w6Sig_spec ) ?_)
 rintro _ F1 _ le1 ⟨x1, rfl, hr1, rfl⟩
 replace hbs := hbs.mono le1
 refine cX (XOp.buildSlice (s := 1) [.int .i64 (0), .int .i64 (2), .int .i64 (-1)] [.int .i64 (0)] [(0, [.int .i64 (0)]), (1, [.int .i64 (2)]), (2, [.int .i64 (-1)])] runUnderlying24 sizeOf2 zeroValue2 rfl (by decide) rfl (.cons rfl (.cons rfl (.cons rfl CellsAre.nil))) rfl ?_)
 intro v1 hv1
 refine cX (XOp.buildSlice (s := 1) [.int .i64 (-1)] [.int .i64 (0)] [(0, [.int .i64 (-1)])] runUnderlying24 sizeOf2 zeroValue2 rfl (by decide) rfl (.cons rfl CellsAre.nil) rfl ?_)
 intro v2 hv2
 refine cX (XOp.build [v1, v2] [(.slice none 0 0), (.slice none 0 0)] [(0, 1), (1, 1)] [(0, [v1]), (1, [v2])] runUnderlying93 zeroValue93 rfl (.cons rfl sizeOf24 (.cons rfl sizeOf24 PlacesAre.nil)) rfl (.cons (cells_one (isSl_lit hv1)) (.cons (cells_one (isSl_lit hv2)) CellsAre.nil)) ?_)
 refine cX (XOp.buildSlice (s := 1) [.int .i64 (0), .int .i64 (1), .int .i64 (-1), .int .i64 (-2)] [.int .i64 (0)] [(0, [.int .i64 (0)]), (1, [.int .i64 (1)]), (2, [.int .i64 (-1)]), (3, [.int .i64 (-2)])] runUnderlying24 sizeOf2 zeroValue2 rfl (by decide) rfl (.cons rfl (.cons rfl (.cons rfl (.cons rfl CellsAre.nil)))) rfl ?_)
 intro v3 hv3
 refine cX (XOp.buildSlice (s := 1) [.int .i64 (1), .int .i64 (0), .int .i64 (-1), .int .i64 (-2)] [.int .i64 (0)] [(0, [.int .i64 (1)]), (1, [.int .i64 (0)]), (2, [.int .i64 (-1)]), (3, [.int .i64 (-2)])] runUnderlying24 sizeOf2 zeroValue2 rfl (by decide) rfl (.cons rfl (.cons rfl (.cons rfl (.cons rfl CellsAre.nil)))) rfl ?_)
 intro v4 hv4
 refine cX (XOp.build [v3, v4] [(.slice none 0 0), (.slice none 0 0)] [(0, 1), (1, 1)] [(0, [v3]), (1, [v4])] runUnderlying93 zeroValue93 rfl (.cons rfl sizeOf24 (.cons rfl sizeOf24 PlacesAre.nil)) rfl (.cons (cells_one (isSl_lit hv3)) (.cons (cells_one (isSl_lit hv4)) CellsAre.nil)) ?_)
 refine cX (XOp.buildSlice (s := 2) [v1, v2, v3, v4] [(.slice none 0 0), (.slice none 0 0)] [(0, [v1, v2]), (1, [v3, v4])] runUnderlying27 sizeOf93 zeroValue93 rfl (by decide) rfl (.cons rfl (.cons rfl CellsAre.nil)) rfl ?_)
 intro v5 hv5
 refine cX (XOp.build [x1, v5] [(.slice none 0 0), (.slice none 0 0)] [(0, 1), (1, 1)] [(0, [x1]), (1, [v5])] runUnderlying29 zeroValue29 rfl (.cons rfl sizeOf26 (.cons rfl sizeOf27 PlacesAre.nil)) rfl (.cons rfl (.cons (cells_one (isSl_lit hv5)) CellsAre.nil)) ?_)
 refine cX (XOp.alloc [(.slice none 0 0), (.slice none 0 0)] zeroValue29 rfl ?_)
 intro b2
 refine cX (XOp.storeN (vs := [x1, v5]) [] _ [x1, v5] sizeOf29 rfl rfl rfl (ones_cons (one_sl (IntsF.isSl hr1)) (ones_cons (one_sl (isSl_lit hv5)) ones_nil)) rfl rfl rfl ?_)
 refine XL.nil (X.seq (X.seq (X.region ?_)))
 refine XL.mv (ptr cb 0) rfl ?_
 refine cX (XOp.call (args := [ptr cb 0, .int .i64 (4)]) call22 rfl (Does.at [_, _, _, _, _, _, _] (below_spec (n := 4) hbs (by omega) (hn := (by first | assumption | rfl | omega | simp)))) ?_)
 rintro _ _ _ _ ⟨⟨rfl, x2, rfl, hr2⟩, rfl⟩
 show XL _ _ _ _ _ _ _ (cellsH b2 [x1, v5] 29 :: slH 93 2 v5 2 [v1, v2, v3, v4] :: slH 2 1 v4 4 [.int .i64 (1), .int .i64 (0), .int .i64 (-1), .int .i64 (-2)] :: slH 2 1 v3 4 [.int .i64 (0), .int .i64 (1), .int .i64 (-1), .int .i64 (-2)] :: slH 2 1 v2 1 [.int .i64 (-1)] :: slH 2 1 v1 3 [.int .i64 (0), .int .i64 (2), .int .i64 (-1)] :: cellsH b1 [(.slice none 0 0), (.slice none 0 0)] 29 :: curH .u64 90 cb bsv bs.length :: L)
 refine XL.nil (X.block (X.seq (X.region ?_)))
 refine cX (XOp.eql (a := x2) (b := 0) rfl rfl ?_)
 refine XL.as (.bool (decide ((x2 : Int) = 0))) rfl ?_
 refine XL.nil ?_
 refine X.condD (p := (x2 : Int) = 0) rfl (fun h1 => ?_) (fun h1 => ?_)
 ·refine X.region ?_
  refine cX (XOp.fieldP (b := b2) (1) runUnderlying29 rfl sizeOf27 (by decide) rfl rfl ?_)
  refine cX (XOp.load1 (v := v5) isAgg27 rfl (Rd.own [] rfl rfl) ?_)
  refine cX (XOp.buildSlice (s := 1) [.int .i64 (0), .int .i64 (-1), .int .i64 (2)] [.int .i64 (0)] [(0, [.int .i64 (0)]), (1, [.int .i64 (-1)]), (2, [.int .i64 (2)])] runUnderlying24 sizeOf2 zeroValue2 rfl (by decide) rfl (.cons rfl (.cons rfl (.cons rfl CellsAre.nil))) rfl ?_)
  intro v6 hv6
  refine cX (XOp.buildSlice (s := 1) [.int .i64 (-1)] [.int .i64 (0)] [(0, [.int .i64 (-1)])] runUnderlying24 sizeOf2 zeroValue2 rfl (by decide) rfl (.cons rfl CellsAre.nil) rfl ?_)
  intro v7 hv7
  refine cX (XOp.build [v6, v7] [(.slice none 0 0), (.slice none 0 0)] [(0, 1), (1, 1)] [(0, [v6]), (1, [v7])] runUnderlying93 zeroValue93 rfl (.cons rfl sizeOf24 (.cons rfl sizeOf24 PlacesAre.nil)) rfl (.cons (cells_one (isSl_lit hv6)) (.cons (cells_one (isSl_lit hv7)) CellsAre.nil)) ?_)
  refine cX (XOp.buildSlice (s := 1) [.int .i64 (0), .int .i64 (-1), .int .i64 (1), .int .i64 (-2)] [.int .i64 (0)] [(0, [.int .i64 (0)]), (1, [.int .i64 (-1)]), (2, [.int .i64 (1)]), (3, [.int .i64 (-2)])] runUnderlying24 sizeOf2 zeroValue2 rfl (by decide) rfl (.cons rfl (.cons rfl (.cons rfl (.cons rfl CellsAre.nil)))) rfl ?_)
  intro v8 hv8
  refine cX (XOp.buildSlice (s := 1) [.int .i64 (1), .int .i64 (0), .int .i64 (-1), .int .i64 (-2)] [.int .i64 (0)] [(0, [.int .i64 (1)]), (1, [.int .i64 (0)]), (2, [.int .i64 (-1)]), (3, [.int .i64 (-2)])] runUnderlying24 sizeOf2 zeroValue2 rfl (by decide) rfl (.cons rfl (.cons rfl (.cons rfl (.cons rfl CellsAre.nil)))) rfl ?_)
  intro v9 hv9
  refine cX (XOp.build [v8, v9] [(.slice none 0 0), (.slice none 0 0)] [(0, 1), (1, 1)] [(0, [v8]), (1, [v9])] runUnderlying93 zeroValue93 rfl (.cons rfl sizeOf24 (.cons rfl sizeOf24 PlacesAre.nil)) rfl (.cons (cells_one (isSl_lit hv8)) (.cons (cells_one (isSl_lit hv9)) CellsAre.nil)) ?_)
  refine cX (XOp.buildSlice (s := 2) [v6, v7, v8, v9] [(.slice none 0 0), (.slice none 0 0)] [(0, [v6, v7]), (1, [v8, v9])] runUnderlying27 sizeOf93 zeroValue93 rfl (by decide) rfl (.cons rfl (.cons rfl CellsAre.nil)) rfl ?_)
  intro v10 hv10
  show XL _ _ _ _ _ _ _ (slH 93 2 v10 2 [v6, v7, v8, v9] :: slH 2 1 v9 4 [.int .i64 (1), .int .i64 (0), .int .i64 (-1), .int .i64 (-2)] :: slH 2 1 v8 4 [.int .i64 (0), .int .i64 (-1), .int .i64 (1), .int .i64 (-2)] :: slH 2 1 v7 1 [.int .i64 (-1)] :: slH 2 1 v6 3 [.int .i64 (0), .int .i64 (-1), .int .i64 (2)] :: cellsH b2 [x1, v5] 29 :: slH 93 2 v5 2 [v1, v2, v3, v4] :: slH 2 1 v4 4 [.int .i64 (1), .int .i64 (0), .int .i64 (-1), .int .i64 (-2)] :: slH 2 1 v3 4 [.int .i64 (0), .int .i64 (1), .int .i64 (-1), .int .i64 (-2)] :: slH 2 1 v2 1 [.int .i64 (-1)] :: intsH 2 v1 ([0, 2, -1] : List Int) :: cellsH b1 [(.slice none 0 0), (.slice none 0 0)] 29 :: curH .u64 90 cb bsv bs.length :: L)
  refine XL.freezeF [_, _, _, _, _, _, _, _, _, _] _ _ rfl (fun F3 le3 hz1 => ?_)
  replace hr1 := hr1.mono le3
  have hf1 : IntsF F3 v1 ([0, 2, -1]) := intsH.fz (xs := [0, 2, -1]) hz1.fz
  show XL _ _ _ _ _ _ _ (slH 93 2 v10 2 [v6, v7, v8, v9] :: slH 2 1 v9 4 [.int .i64 (1), .int .i64 (0), .int .i64 (-1), .int .i64 (-2)] :: slH 2 1 v8 4 [.int .i64 (0), .int .i64 (-1), .int .i64 (1), .int .i64 (-2)] :: slH 2 1 v7 1 [.int .i64 (-1)] :: slH 2 1 v6 3 [.int .i64 (0), .int .i64 (-1), .int .i64 (2)] :: cellsH b2 [x1, v5] 29 :: slH 93 2 v5 2 [v1, v2, v3, v4] :: slH 2 1 v4 4 [.int .i64 (1), .int .i64 (0), .int .i64 (-1), .int .i64 (-2)] :: slH 2 1 v3 4 [.int .i64 (0), .int .i64 (1), .int .i64 (-1), .int .i64 (-2)] :: intsH 2 v2 ([-1] : List Int) :: cellsH b1 [(.slice none 0 0), (.slice none 0 0)] 29 :: curH .u64 90 cb bsv bs.length :: L)
  refine XL.freezeF [_, _, _, _, _, _, _, _, _] _ _ rfl (fun F4 le4 hz2 => ?_)
  replace hr1 := hr1.mono le4
  replace hf1 := hf1.mono le4
  have hf2 : IntsF F4 v2 ([-1]) := intsH.fz (xs := [-1]) hz2.fz
  show XL _ _ _ _ _ _ _ (slH 93 2 v10 2 [v6, v7, v8, v9] :: slH 2 1 v9 4 [.int .i64 (1), .int .i64 (0), .int .i64 (-1), .int .i64 (-2)] :: slH 2 1 v8 4 [.int .i64 (0), .int .i64 (-1), .int .i64 (1), .int .i64 (-2)] :: slH 2 1 v7 1 [.int .i64 (-1)] :: slH 2 1 v6 3 [.int .i64 (0), .int .i64 (-1), .int .i64 (2)] :: cellsH b2 [x1, v5] 29 :: slH 93 2 v5 2 [v1, v2, v3, v4] :: slH 2 1 v4 4 [.int .i64 (1), .int .i64 (0), .int .i64 (-1), .int .i64 (-2)] :: intsH 2 v3 ([0, 1, -1, -2] : List Int) :: cellsH b1 [(.slice none 0 0), (.slice none 0 0)] 29 :: curH .u64 90 cb bsv bs.length :: L)
  refine XL.freezeF [_, _, _, _, _, _, _, _] _ _ rfl (fun F5 le5 hz3 => ?_)
  replace hr1 := hr1.mono le5
  replace hf1 := hf1.mono le5
  replace hf2 := hf2.mono le5
  have hf3 : IntsF F5 v3 ([0, 1, -1, -2]) := intsH.fz (xs := [0, 1, -1, -2]) hz3.fz
  show XL _ _ _ _ _ _ _ (slH 93 2 v10 2 [v6, v7, v8, v9] :: slH 2 1 v9 4 [.int .i64 (1), .int .i64 (0), .int .i64 (-1), .int .i64 (-2)] :: slH 2 1 v8 4 [.int .i64 (0), .int .i64 (-1), .int .i64 (1), .int .i64 (-2)] :: slH 2 1 v7 1 [.int .i64 (-1)] :: slH 2 1 v6 3 [.int .i64 (0), .int .i64 (-1), .int .i64 (2)] :: cellsH b2 [x1, v5] 29 :: slH 93 2 v5 2 [v1, v2, v3, v4] :: intsH 2 v4 ([1, 0, -1, -2] : List Int) :: cellsH b1 [(.slice none 0 0), (.slice none 0 0)] 29 :: curH .u64 90 cb bsv bs.length :: L)
  refine XL.freezeF [_, _, _, _, _, _, _] _ _ rfl (fun F6 le6 hz4 => ?_)
  replace hr1 := hr1.mono le6
  replace hf1 := hf1.mono le6
  replace hf2 := hf2.mono le6
  replace hf3 := hf3.mono le6
  have hf4 : IntsF F6 v4 ([1, 0, -1, -2]) := intsH.fz (xs := [1, 0, -1, -2]) hz4.fz
  have hc1 : PairsC F6 [v1, v2, v3, v4] ([([0, 2, -1], [-1]), ([0, 1, -1, -2], [1, 0, -1, -2])] : List (List Int × List Int)) := (PairsC.snoc (PairsC.snoc (CO.nil : PairsC F6 [] []) hf1 hf2) hf3 hf4)
  show XL _ _ _ _ _ _ _ (slH 93 2 v10 2 [v6, v7, v8, v9] :: slH 2 1 v9 4 [.int .i64 (1), .int .i64 (0), .int .i64 (-1), .int .i64 (-2)] :: slH 2 1 v8 4 [.int .i64 (0), .int .i64 (-1), .int .i64 (1), .int .i64 (-2)] :: slH 2 1 v7 1 [.int .i64 (-1)] :: intsH 2 v6 ([0, -1, 2] : List Int) :: cellsH b2 [x1, v5] 29 :: slH 93 2 v5 2 ([v1, v2, v3, v4]) :: cellsH b1 [(.slice none 0 0), (.slice none 0 0)] 29 :: curH .u64 90 cb bsv bs.length :: L)
  refine XL.freezeF [_, _, _, _] _ _ rfl (fun F7 le7 hz5 => ?_)
  replace hr1 := hr1.mono le7
  replace hc1 := hc1.mono le7
  have hf5 : IntsF F7 v6 ([0, -1, 2]) := intsH.fz (xs := [0, -1, 2]) hz5.fz
  show XL _ _ _ _ _ _ _ (slH 93 2 v10 2 [v6, v7, v8, v9] :: slH 2 1 v9 4 [.int .i64 (1), .int .i64 (0), .int .i64 (-1), .int .i64 (-2)] :: slH 2 1 v8 4 [.int .i64 (0), .int .i64 (-1), .int .i64 (1), .int .i64 (-2)] :: intsH 2 v7 ([-1] : List Int) :: cellsH b2 [x1, v5] 29 :: slH 93 2 v5 2 ([v1, v2, v3, v4]) :: cellsH b1 [(.slice none 0 0), (.slice none 0 0)] 29 :: curH .u64 90 cb bsv bs.length :: L)
  refine XL.freezeF [_, _, _] _ _ rfl (fun F8 le8 hz6 => ?_)
  replace hr1 := hr1.mono le8
  replace hc1 := hc1.mono le8
  replace hf5 := hf5.mono le8
  have hf6 : IntsF F8 v7 ([-1]) := intsH.fz (xs := [-1]) hz6.fz
  show XL _ _ _ _ _ _ _ (slH 93 2 v10 2 [v6, v7, v8, v9] :: slH 2 1 v9 4 [.int .i64 (1), .int .i64 (0), .int .i64 (-1), .int .i64 (-2)] :: intsH 2 v8 ([0, -1, 1, -2] : List Int) :: cellsH b2 [x1, v5] 29 :: slH 93 2 v5 2 ([v1, v2, v3, v4]) :: cellsH b1 [(.slice none 0 0), (.slice none 0 0)] 29 :: curH .u64 90 cb bsv bs.length :: L)
  refine XL.freezeF [_, _] _ _ rfl (fun F9 le9 hz7 => ?_)
  replace hr1 := hr1.mono le9
  replace hc1 := hc1.mono le9
  replace hf5 := hf5.mono le9
  replace hf6 := hf6.mono le9
  have hf7 : IntsF F9 v8 ([0, -1, 1, -2]) := intsH.fz (xs := [0, -1, 1, -2]) hz7.fz
  show XL _ _ _ _ _ _ _ (slH 93 2 v10 2 [v6, v7, v8, v9] :: intsH 2 v9 ([1, 0, -1, -2] : List Int) :: cellsH b2 [x1, v5] 29 :: slH 93 2 v5 2 ([v1, v2, v3, v4]) :: cellsH b1 [(.slice none 0 0), (.slice none 0 0)] 29 :: curH .u64 90 cb bsv bs.length :: L)
  refine XL.freezeF [_] _ _ rfl (fun F10 le10 hz8 => ?_)
  replace hr1 := hr1.mono le10
  replace hc1 := hc1.mono le10
  replace hf5 := hf5.mono le10
  replace hf6 := hf6.mono le10
  replace hf7 := hf7.mono le10
  have hf8 : IntsF F10 v9 ([1, 0, -1, -2]) := intsH.fz (xs := [1, 0, -1, -2]) hz8.fz
  refine cX (XOp.append (m := 2) (bytes := 48) (cs := [v1, v2, v3, v4]) [_, _] _ [v6, v7, v8, v9] runUnderlying27 typeInfo93 rfl rfl rfl rfl rfl rfl rfl (SlV.own [] rfl) rfl (Rd.lit [] rfl) (ones_cons (one_sl (IntsF.isSl hf5)) (ones_cons (one_sl (IntsF.isSl hf6)) (ones_cons (one_sl (IntsF.isSl hf7)) (ones_cons (one_sl (IntsF.isSl hf8)) ones_nil)))) (by (try simp only [List.length_append, List.length_nil, List.length_cons, List.length_singleton]); omega) (by (try simp only [List.length_append, List.length_nil, List.length_cons, List.length_singleton]); omega) ?_)
  intro v11 hs1 hn1 hm1
  have hc2 : PairsC F10 ([v1, v2, v3, v4] ++ [v6, v7, v8, v9]) ((([([0, 2, -1], [-1]), ([0, 1, -1, -2], [1, 0, -1, -2])] : List (List Int × List Int))) ++ [([0, -1, 2], [-1]), ([0, -1, 1, -2], [1, 0, -1, -2])]) := (PairsC.snoc (PairsC.snoc hc1 hf5 hf6) hf7 hf8)
  refine cX (XOp.fieldP (b := b2) (1) runUnderlying29 rfl sizeOf27 (by decide) rfl rfl ?_)
  refine cX (XOp.store1 (v := v11) [_] _ [x1, v11] sizeOf27 rfl rfl (one_sl hs1) rfl rfl rfl ?_)
  refine XL.nil (X.seq (X.region ?_))
  refine cX (XOp.loadN [x1, v11] isAgg29 sizeOf29 rfl rfl (Rd.ownN [_] rfl rfl) ?_)
  refine cX (XOp.storeN (vs := [x1, v11]) [_, _, _] _ [x1, v11] sizeOf29 rfl rfl rfl (ones_cons (one_sl (IntsF.isSl hr1)) (ones_cons (one_sl hs1) ones_nil)) rfl rfl rfl ?_)
  refine XL.nil ?_
  refine X.freezeF [_, _] _ _ rfl (fun F11 le11 hz9 => ?_)
  replace hr1 := hr1.mono le11
  replace hc2 := hc2.mono le11
  have hf9 : PairsF F11 v11 (((([([0, 2, -1], [-1]), ([0, 1, -1, -2], [1, 0, -1, -2])] : List (List Int × List Int))) ++ [([0, -1, 2], [-1]), ([0, -1, 1, -2], [1, 0, -1, -2])])) := CO.fz hc2 (by first | rfl | simp | omega) hz9.fz
  refine X.ret (retEnd (L' := curH .u64 90 cb bsv bs.length :: L) [.agg #[x1, v11]] (.agg #[x1, v11]) (.cell rfl (loadNV [x1, v11] isAgg29 sizeOf29 rfl (Rd.ownN [_, _] rfl rfl)) .nil) rfl (FLe.trans (FLe.trans (FLe.trans (FLe.trans (FLe.trans (FLe.trans (FLe.trans (FLe.trans (FLe.trans le1 le3) le4) le5) le6) le7) le8) le9) le10) le11) rF (sD (sD (sD (sC sR)))) ?_)
  exact ⟨⟨_, _, _, rfl, hr1, hf9, by decide⟩, rfl⟩
 refine X.seq (X.region ?_)
 refine cX (XOp.eql (a := x2) (b := 1) rfl rfl ?_)
 refine XL.as (.bool (decide ((x2 : Int) = 1))) rfl ?_
 refine XL.nil ?_
 refine X.condD (p := (x2 : Int) = 1) rfl (fun h2 => ?_) (fun h2 => ?_)
 ·refine X.region ?_
  refine cX (XOp.buildSlice (s := 1) [.int .i64 (1), .int .i64 (1), .int .i64 (-1)] [.int .i64 (0)] [(0, [.int .i64 (1)]), (1, [.int .i64 (1)]), (2, [.int .i64 (-1)])] runUnderlying24 sizeOf2 zeroValue2 rfl (by decide) rfl (.cons rfl (.cons rfl (.cons rfl CellsAre.nil))) rfl ?_)
  intro v12 hv11
  refine cX (XOp.buildSlice (s := 1) [.int .i64 (-1)] [.int .i64 (0)] [(0, [.int .i64 (-1)])] runUnderlying24 sizeOf2 zeroValue2 rfl (by decide) rfl (.cons rfl CellsAre.nil) rfl ?_)
  intro v13 hv12
  refine cX (XOp.build [v12, v13] [(.slice none 0 0), (.slice none 0 0)] [(0, 1), (1, 1)] [(0, [v12]), (1, [v13])] runUnderlying93 zeroValue93 rfl (.cons rfl sizeOf24 (.cons rfl sizeOf24 PlacesAre.nil)) rfl (.cons (cells_one (isSl_lit hv11)) (.cons (cells_one (isSl_lit hv12)) CellsAre.nil)) ?_)
  refine cX (XOp.buildSlice (s := 1) [.int .i64 (0), .int .i64 (2), .int .i64 (-1)] [.int .i64 (0)] [(0, [.int .i64 (0)]), (1, [.int .i64 (2)]), (2, [.int .i64 (-1)])] runUnderlying24 sizeOf2 zeroValue2 rfl (by decide) rfl (.cons rfl (.cons rfl (.cons rfl CellsAre.nil))) rfl ?_)
  intro v14 hv13
  refine cX (XOp.buildSlice (s := 1) [.int .i64 (-1)] [.int .i64 (0)] [(0, [.int .i64 (-1)])] runUnderlying24 sizeOf2 zeroValue2 rfl (by decide) rfl (.cons rfl CellsAre.nil) rfl ?_)
  intro v15 hv14
  refine cX (XOp.build [v14, v15] [(.slice none 0 0), (.slice none 0 0)] [(0, 1), (1, 1)] [(0, [v14]), (1, [v15])] runUnderlying93 zeroValue93 rfl (.cons rfl sizeOf24 (.cons rfl sizeOf24 PlacesAre.nil)) rfl (.cons (cells_one (isSl_lit hv13)) (.cons (cells_one (isSl_lit hv14)) CellsAre.nil)) ?_)
  refine cX (XOp.buildSlice (s := 2) [v12, v13, v14, v15] [(.slice none 0 0), (.slice none 0 0)] [(0, [v12, v13]), (1, [v14, v15])] runUnderlying27 sizeOf93 zeroValue93 rfl (by decide) rfl (.cons rfl (.cons rfl CellsAre.nil)) rfl ?_)
  intro v16 hv15
  refine cX (XOp.fieldP (b := b2) (1) runUnderlying29 rfl sizeOf27 (by decide) rfl rfl ?_)
  refine cX (XOp.store1 (v := v16) [_, _, _, _, _] _ [x1, v16] sizeOf27 rfl rfl (one_sl (isSl_lit hv15)) rfl rfl rfl ?_)
  refine XL.nil (X.seq (X.region ?_))
  refine cX (XOp.loadN [x1, v16] isAgg29 sizeOf29 rfl rfl (Rd.ownN [_, _, _, _, _] rfl rfl) ?_)
  refine cX (XOp.storeN (vs := [x1, v16]) [_, _, _, _, _, _, _, _, _, _, _] _ [x1, v16] sizeOf29 rfl rfl rfl (ones_cons (one_sl (IntsF.isSl hr1)) (ones_cons (one_sl (isSl_lit hv15)) ones_nil)) rfl rfl rfl ?_)
  refine XL.nil ?_
  show X _ _ _ _ _ _ (slH 93 2 v16 2 [v12, v13, v14, v15] :: slH 2 1 v15 1 [.int .i64 (-1)] :: slH 2 1 v14 3 [.int .i64 (0), .int .i64 (2), .int .i64 (-1)] :: slH 2 1 v13 1 [.int .i64 (-1)] :: intsH 2 v12 ([1, 1, -1] : List Int) :: cellsH b2 [x1, v16] 29 :: slH 93 2 v5 2 [v1, v2, v3, v4] :: slH 2 1 v4 4 [.int .i64 (1), .int .i64 (0), .int .i64 (-1), .int .i64 (-2)] :: slH 2 1 v3 4 [.int .i64 (0), .int .i64 (1), .int .i64 (-1), .int .i64 (-2)] :: slH 2 1 v2 1 [.int .i64 (-1)] :: slH 2 1 v1 3 [.int .i64 (0), .int .i64 (2), .int .i64 (-1)] :: cellsH b1 [x1, v16] 29 :: curH .u64 90 cb bsv bs.length :: L)
  refine X.freezeF [_, _, _, _] _ _ rfl (fun F12 le12 hz10 => ?_)
  replace hr1 := hr1.mono le12
  have hf10 : IntsF F12 v12 ([1, 1, -1]) := intsH.fz (xs := [1, 1, -1]) hz10.fz
  show X _ _ _ _ _ _ (slH 93 2 v16 2 [v12, v13, v14, v15] :: slH 2 1 v15 1 [.int .i64 (-1)] :: slH 2 1 v14 3 [.int .i64 (0), .int .i64 (2), .int .i64 (-1)] :: intsH 2 v13 ([-1] : List Int) :: cellsH b2 [x1, v16] 29 :: slH 93 2 v5 2 [v1, v2, v3, v4] :: slH 2 1 v4 4 [.int .i64 (1), .int .i64 (0), .int .i64 (-1), .int .i64 (-2)] :: slH 2 1 v3 4 [.int .i64 (0), .int .i64 (1), .int .i64 (-1), .int .i64 (-2)] :: slH 2 1 v2 1 [.int .i64 (-1)] :: slH 2 1 v1 3 [.int .i64 (0), .int .i64 (2), .int .i64 (-1)] :: cellsH b1 [x1, v16] 29 :: curH .u64 90 cb bsv bs.length :: L)
  refine X.freezeF [_, _, _] _ _ rfl (fun F13 le13 hz11 => ?_)
  replace hr1 := hr1.mono le13
  replace hf10 := hf10.mono le13
  have hf11 : IntsF F13 v13 ([-1]) := intsH.fz (xs := [-1]) hz11.fz
  show X _ _ _ _ _ _ (slH 93 2 v16 2 [v12, v13, v14, v15] :: slH 2 1 v15 1 [.int .i64 (-1)] :: intsH 2 v14 ([0, 2, -1] : List Int) :: cellsH b2 [x1, v16] 29 :: slH 93 2 v5 2 [v1, v2, v3, v4] :: slH 2 1 v4 4 [.int .i64 (1), .int .i64 (0), .int .i64 (-1), .int .i64 (-2)] :: slH 2 1 v3 4 [.int .i64 (0), .int .i64 (1), .int .i64 (-1), .int .i64 (-2)] :: slH 2 1 v2 1 [.int .i64 (-1)] :: slH 2 1 v1 3 [.int .i64 (0), .int .i64 (2), .int .i64 (-1)] :: cellsH b1 [x1, v16] 29 :: curH .u64 90 cb bsv bs.length :: L)
  refine X.freezeF [_, _] _ _ rfl (fun F14 le14 hz12 => ?_)
  replace hr1 := hr1.mono le14
  replace hf10 := hf10.mono le14
  replace hf11 := hf11.mono le14
  have hf12 : IntsF F14 v14 ([0, 2, -1]) := intsH.fz (xs := [0, 2, -1]) hz12.fz
  show X _ _ _ _ _ _ (slH 93 2 v16 2 [v12, v13, v14, v15] :: intsH 2 v15 ([-1] : List Int) :: cellsH b2 [x1, v16] 29 :: slH 93 2 v5 2 [v1, v2, v3, v4] :: slH 2 1 v4 4 [.int .i64 (1), .int .i64 (0), .int .i64 (-1), .int .i64 (-2)] :: slH 2 1 v3 4 [.int .i64 (0), .int .i64 (1), .int .i64 (-1), .int .i64 (-2)] :: slH 2 1 v2 1 [.int .i64 (-1)] :: slH 2 1 v1 3 [.int .i64 (0), .int .i64 (2), .int .i64 (-1)] :: cellsH b1 [x1, v16] 29 :: curH .u64 90 cb bsv bs.length :: L)
  refine X.freezeF [_] _ _ rfl (fun F15 le15 hz13 => ?_)
  replace hr1 := hr1.mono le15
  replace hf10 := hf10.mono le15
  replace hf11 := hf11.mono le15
  replace hf12 := hf12.mono le15
  have hf13 : IntsF F15 v15 ([-1]) := intsH.fz (xs := [-1]) hz13.fz
  have hc3 : PairsC F15 [v12, v13, v14, v15] ([([1, 1, -1], [-1]), ([0, 2, -1], [-1])] : List (List Int × List Int)) := (PairsC.snoc (PairsC.snoc (CO.nil : PairsC F15 [] []) hf10 hf11) hf12 hf13)
  refine X.freezeF [] _ _ rfl (fun F16 le16 hz14 => ?_)
  replace hr1 := hr1.mono le16
  replace hc3 := hc3.mono le16
  have hf14 : PairsF F16 v16 (([([1, 1, -1], [-1]), ([0, 2, -1], [-1])] : List (List Int × List Int))) := CO.fz hc3 (by first | rfl | simp | omega) hz14.fz
  refine X.ret (retEnd (L' := curH .u64 90 cb bsv bs.length :: L) [.agg #[x1, v16]] (.agg #[x1, v16]) (.cell rfl (loadNV [x1, v16] isAgg29 sizeOf29 rfl (Rd.ownN [_, _, _, _, _, _] rfl rfl)) .nil) rfl (FLe.trans (FLe.trans (FLe.trans (FLe.trans (FLe.trans le1 le12) le13) le14) le15) le16) rF (sD (sD (sD (sD (sD (sD (sD (sC sR)))))))) ?_)
  exact ⟨⟨_, _, _, rfl, hr1, hf14, by decide⟩, rfl⟩
 refine X.seq (X.region ?_)
 refine cX (XOp.eql (a := x2) (b := 2) rfl rfl ?_)
 refine XL.as (.bool (decide ((x2 : Int) = 2))) rfl ?_
 refine XL.nil ?_
 refine X.condD (p := (x2 : Int) = 2) rfl (fun h3 => ?_) (fun h3 => ?_)
 ·refine X.region ?_
  refine cX (XOp.buildSlice (s := 1) [.int .i64 (0), .int .i64 (0), .int .i64 (-1), .int .i64 (-2), .int .i64 (-3)] [.int .i64 (0)] [(0, [.int .i64 (0)]), (1, [.int .i64 (0)]), (2, [.int .i64 (-1)]), (3, [.int .i64 (-2)]), (4, [.int .i64 (-3)])] runUnderlying24 sizeOf2 zeroValue2 rfl (by decide) rfl (.cons rfl (.cons rfl (.cons rfl (.cons rfl (.cons rfl CellsAre.nil))))) rfl ?_)
  intro v17 hv16
  refine cX (XOp.buildSlice (s := 1) [.int .i64 (0), .int .i64 (-1), .int .i64 (0), .int .i64 (-2), .int .i64 (-3)] [.int .i64 (0)] [(0, [.int .i64 (0)]), (1, [.int .i64 (-1)]), (2, [.int .i64 (0)]), (3, [.int .i64 (-2)]), (4, [.int .i64 (-3)])] runUnderlying24 sizeOf2 zeroValue2 rfl (by decide) rfl (.cons rfl (.cons rfl (.cons rfl (.cons rfl (.cons rfl CellsAre.nil))))) rfl ?_)
  intro v18 hv17
  refine cX (XOp.build [v17, v18] [(.slice none 0 0), (.slice none 0 0)] [(0, 1), (1, 1)] [(0, [v17]), (1, [v18])] runUnderlying93 zeroValue93 rfl (.cons rfl sizeOf24 (.cons rfl sizeOf24 PlacesAre.nil)) rfl (.cons (cells_one (isSl_lit hv16)) (.cons (cells_one (isSl_lit hv17)) CellsAre.nil)) ?_)
  refine cX (XOp.buildSlice (s := 1) [.int .i64 (0), .int .i64 (2), .int .i64 (-1)] [.int .i64 (0)] [(0, [.int .i64 (0)]), (1, [.int .i64 (2)]), (2, [.int .i64 (-1)])] runUnderlying24 sizeOf2 zeroValue2 rfl (by decide) rfl (.cons rfl (.cons rfl (.cons rfl CellsAre.nil))) rfl ?_)
  intro v19 hv18
  refine cX (XOp.buildSlice (s := 1) [.int .i64 (-1)] [.int .i64 (0)] [(0, [.int .i64 (-1)])] runUnderlying24 sizeOf2 zeroValue2 rfl (by decide) rfl (.cons rfl CellsAre.nil) rfl ?_)
  intro v20 hv19
  refine cX (XOp.build [v19, v20] [(.slice none 0 0), (.slice none 0 0)] [(0, 1), (1, 1)] [(0, [v19]), (1, [v20])] runUnderlying93 zeroValue93 rfl (.cons rfl sizeOf24 (.cons rfl sizeOf24 PlacesAre.nil)) rfl (.cons (cells_one (isSl_lit hv18)) (.cons (cells_one (isSl_lit hv19)) CellsAre.nil)) ?_)
  refine cX (XOp.buildSlice (s := 1) [.int .i64 (0), .int .i64 (-1), .int .i64 (2)] [.int .i64 (0)] [(0, [.int .i64 (0)]), (1, [.int .i64 (-1)]), (2, [.int .i64 (2)])] runUnderlying24 sizeOf2 zeroValue2 rfl (by decide) rfl (.cons rfl (.cons rfl (.cons rfl CellsAre.nil))) rfl ?_)
  intro v21 hv20
  refine cX (XOp.buildSlice (s := 1) [.int .i64 (-1)] [.int .i64 (0)] [(0, [.int .i64 (-1)])] runUnderlying24 sizeOf2 zeroValue2 rfl (by decide) rfl (.cons rfl CellsAre.nil) rfl ?_)
  intro v22 hv21
  refine cX (XOp.build [v21, v22] [(.slice none 0 0), (.slice none 0 0)] [(0, 1), (1, 1)] [(0, [v21]), (1, [v22])] runUnderlying93 zeroValue93 rfl (.cons rfl sizeOf24 (.cons rfl sizeOf24 PlacesAre.nil)) rfl (.cons (cells_one (isSl_lit hv20)) (.cons (cells_one (isSl_lit hv21)) CellsAre.nil)) ?_)
  refine cX (XOp.buildSlice (s := 2) [v17, v18, v19, v20, v21, v22] [(.slice none 0 0), (.slice none 0 0)] [(0, [v17, v18]), (1, [v19, v20]), (2, [v21, v22])] runUnderlying27 sizeOf93 zeroValue93 rfl (by decide) rfl (.cons rfl (.cons rfl (.cons rfl CellsAre.nil))) rfl ?_)
  intro v23 hv22
  refine cX (XOp.fieldP (b := b2) (1) runUnderlying29 rfl sizeOf27 (by decide) rfl rfl ?_)
  refine cX (XOp.store1 (v := v23) [_, _, _, _, _, _, _] _ [x1, v23] sizeOf27 rfl rfl (one_sl (isSl_lit hv22)) rfl rfl rfl ?_)
  refine XL.nil (X.seq (X.region ?_))
  refine cX (XOp.loadN [x1, v23] isAgg29 sizeOf29 rfl rfl (Rd.ownN [_, _, _, _, _, _, _] rfl rfl) ?_)
  refine cX (XOp.storeN (vs := [x1, v23]) [_, _, _, _, _, _, _, _, _, _, _, _, _] _ [x1, v23] sizeOf29 rfl rfl rfl (ones_cons (one_sl (IntsF.isSl hr1)) (ones_cons (one_sl (isSl_lit hv22)) ones_nil)) rfl rfl rfl ?_)
  refine XL.nil ?_
  show X _ _ _ _ _ _ (slH 93 2 v23 3 [v17, v18, v19, v20, v21, v22] :: slH 2 1 v22 1 [.int .i64 (-1)] :: slH 2 1 v21 3 [.int .i64 (0), .int .i64 (-1), .int .i64 (2)] :: slH 2 1 v20 1 [.int .i64 (-1)] :: slH 2 1 v19 3 [.int .i64 (0), .int .i64 (2), .int .i64 (-1)] :: slH 2 1 v18 5 [.int .i64 (0), .int .i64 (-1), .int .i64 (0), .int .i64 (-2), .int .i64 (-3)] :: intsH 2 v17 ([0, 0, -1, -2, -3] : List Int) :: cellsH b2 [x1, v23] 29 :: slH 93 2 v5 2 [v1, v2, v3, v4] :: slH 2 1 v4 4 [.int .i64 (1), .int .i64 (0), .int .i64 (-1), .int .i64 (-2)] :: slH 2 1 v3 4 [.int .i64 (0), .int .i64 (1), .int .i64 (-1), .int .i64 (-2)] :: slH 2 1 v2 1 [.int .i64 (-1)] :: slH 2 1 v1 3 [.int .i64 (0), .int .i64 (2), .int .i64 (-1)] :: cellsH b1 [x1, v23] 29 :: curH .u64 90 cb bsv bs.length :: L)
  refine X.freezeF [_, _, _, _, _, _] _ _ rfl (fun F17 le17 hz15 => ?_)
  replace hr1 := hr1.mono le17
  have hf15 : IntsF F17 v17 ([0, 0, -1, -2, -3]) := intsH.fz (xs := [0, 0, -1, -2, -3]) hz15.fz
  show X _ _ _ _ _ _ (slH 93 2 v23 3 [v17, v18, v19, v20, v21, v22] :: slH 2 1 v22 1 [.int .i64 (-1)] :: slH 2 1 v21 3 [.int .i64 (0), .int .i64 (-1), .int .i64 (2)] :: slH 2 1 v20 1 [.int .i64 (-1)] :: slH 2 1 v19 3 [.int .i64 (0), .int .i64 (2), .int .i64 (-1)] :: intsH 2 v18 ([0, -1, 0, -2, -3] : List Int) :: cellsH b2 [x1, v23] 29 :: slH 93 2 v5 2 [v1, v2, v3, v4] :: slH 2 1 v4 4 [.int .i64 (1), .int .i64 (0), .int .i64 (-1), .int .i64 (-2)] :: slH 2 1 v3 4 [.int .i64 (0), .int .i64 (1), .int .i64 (-1), .int .i64 (-2)] :: slH 2 1 v2 1 [.int .i64 (-1)] :: slH 2 1 v1 3 [.int .i64 (0), .int .i64 (2), .int .i64 (-1)] :: cellsH b1 [x1, v23] 29 :: curH .u64 90 cb bsv bs.length :: L)
  refine X.freezeF [_, _, _, _, _] _ _ rfl (fun F18 le18 hz16 => ?_)
  replace hr1 := hr1.mono le18
  replace hf15 := hf15.mono le18
  have hf16 : IntsF F18 v18 ([0, -1, 0, -2, -3]) := intsH.fz (xs := [0, -1, 0, -2, -3]) hz16.fz
  show X _ _ _ _ _ _ (slH 93 2 v23 3 [v17, v18, v19, v20, v21, v22] :: slH 2 1 v22 1 [.int .i64 (-1)] :: slH 2 1 v21 3 [.int .i64 (0), .int .i64 (-1), .int .i64 (2)] :: slH 2 1 v20 1 [.int .i64 (-1)] :: intsH 2 v19 ([0, 2, -1] : List Int) :: cellsH b2 [x1, v23] 29 :: slH 93 2 v5 2 [v1, v2, v3, v4] :: slH 2 1 v4 4 [.int .i64 (1), .int .i64 (0), .int .i64 (-1), .int .i64 (-2)] :: slH 2 1 v3 4 [.int .i64 (0), .int .i64 (1), .int .i64 (-1), .int .i64 (-2)] :: slH 2 1 v2 1 [.int .i64 (-1)] :: slH 2 1 v1 3 [.int .i64 (0), .int .i64 (2), .int .i64 (-1)] :: cellsH b1 [x1, v23] 29 :: curH .u64 90 cb bsv bs.length :: L)
  refine X.freezeF [_, _, _, _] _ _ rfl (fun F19 le19 hz17 => ?_)
  replace hr1 := hr1.mono le19
  replace hf15 := hf15.mono le19
  replace hf16 := hf16.mono le19
  have hf17 : IntsF F19 v19 ([0, 2, -1]) := intsH.fz (xs := [0, 2, -1]) hz17.fz
  show X _ _ _ _ _ _ (slH 93 2 v23 3 [v17, v18, v19, v20, v21, v22] :: slH 2 1 v22 1 [.int .i64 (-1)] :: slH 2 1 v21 3 [.int .i64 (0), .int .i64 (-1), .int .i64 (2)] :: intsH 2 v20 ([-1] : List Int) :: cellsH b2 [x1, v23] 29 :: slH 93 2 v5 2 [v1, v2, v3, v4] :: slH 2 1 v4 4 [.int .i64 (1), .int .i64 (0), .int .i64 (-1), .int .i64 (-2)] :: slH 2 1 v3 4 [.int .i64 (0), .int .i64 (1), .int .i64 (-1), .int .i64 (-2)] :: slH 2 1 v2 1 [.int .i64 (-1)] :: slH 2 1 v1 3 [.int .i64 (0), .int .i64 (2), .int .i64 (-1)] :: cellsH b1 [x1, v23] 29 :: curH .u64 90 cb bsv bs.length :: L)
  refine X.freezeF [_, _, _] _ _ rfl (fun F20 le20 hz18 => ?_)
  replace hr1 := hr1.mono le20
  replace hf15 := hf15.mono le20
  replace hf16 := hf16.mono le20
  replace hf17 := hf17.mono le20
  have hf18 : IntsF F20 v20 ([-1]) := intsH.fz (xs := [-1]) hz18.fz
  show X _ _ _ _ _ _ (slH 93 2 v23 3 [v17, v18, v19, v20, v21, v22] :: slH 2 1 v22 1 [.int .i64 (-1)] :: intsH 2 v21 ([0, -1, 2] : List Int) :: cellsH b2 [x1, v23] 29 :: slH 93 2 v5 2 [v1, v2, v3, v4] :: slH 2 1 v4 4 [.int .i64 (1), .int .i64 (0), .int .i64 (-1), .int .i64 (-2)] :: slH 2 1 v3 4 [.int .i64 (0), .int .i64 (1), .int .i64 (-1), .int .i64 (-2)] :: slH 2 1 v2 1 [.int .i64 (-1)] :: slH 2 1 v1 3 [.int .i64 (0), .int .i64 (2), .int .i64 (-1)] :: cellsH b1 [x1, v23] 29 :: curH .u64 90 cb bsv bs.length :: L)
  refine X.freezeF [_, _] _ _ rfl (fun F21 le21 hz19 => ?_)
  replace hr1 := hr1.mono le21
  replace hf15 := hf15.mono le21
  replace hf16 := hf16.mono le21
  replace hf17 := hf17.mono le21
  replace hf18 := hf18.mono le21
  have hf19 : IntsF F21 v21 ([0, -1, 2]) := intsH.fz (xs := [0, -1, 2]) hz19.fz
  show X _ _ _ _ _ _ (slH 93 2 v23 3 [v17, v18, v19, v20, v21, v22] :: intsH 2 v22 ([-1] : List Int) :: cellsH b2 [x1, v23] 29 :: slH 93 2 v5 2 [v1, v2, v3, v4] :: slH 2 1 v4 4 [.int .i64 (1), .int .i64 (0), .int .i64 (-1), .int .i64 (-2)] :: slH 2 1 v3 4 [.int .i64 (0), .int .i64 (1), .int .i64 (-1), .int .i64 (-2)] :: slH 2 1 v2 1 [.int .i64 (-1)] :: slH 2 1 v1 3 [.int .i64 (0), .int .i64 (2), .int .i64 (-1)] :: cellsH b1 [x1, v23] 29 :: curH .u64 90 cb bsv bs.length :: L)
  refine X.freezeF [_] _ _ rfl (fun F22 le22 hz20 => ?_)
  replace hr1 := hr1.mono le22
  replace hf15 := hf15.mono le22
  replace hf16 := hf16.mono le22
  replace hf17 := hf17.mono le22
  replace hf18 := hf18.mono le22
  replace hf19 := hf19.mono le22
  have hf20 : IntsF F22 v22 ([-1]) := intsH.fz (xs := [-1]) hz20.fz
  have hc4 : PairsC F22 [v17, v18, v19, v20, v21, v22] ([([0, 0, -1, -2, -3], [0, -1, 0, -2, -3]), ([0, 2, -1], [-1]), ([0, -1, 2], [-1])] : List (List Int × List Int)) := (PairsC.snoc (PairsC.snoc (PairsC.snoc (CO.nil : PairsC F22 [] []) hf15 hf16) hf17 hf18) hf19 hf20)
  refine X.freezeF [] _ _ rfl (fun F23 le23 hz21 => ?_)
  replace hr1 := hr1.mono le23
  replace hc4 := hc4.mono le23
  have hf21 : PairsF F23 v23 (([([0, 0, -1, -2, -3], [0, -1, 0, -2, -3]), ([0, 2, -1], [-1]), ([0, -1, 2], [-1])] : List (List Int × List Int))) := CO.fz hc4 (by first | rfl | simp | omega) hz21.fz
  refine X.ret (retEnd (L' := curH .u64 90 cb bsv bs.length :: L) [.agg #[x1, v23]] (.agg #[x1, v23]) (.cell rfl (loadNV [x1, v23] isAgg29 sizeOf29 rfl (Rd.ownN [_, _, _, _, _, _] rfl rfl)) .nil) rfl (FLe.trans (FLe.trans (FLe.trans (FLe.trans (FLe.trans (FLe.trans (FLe.trans le1 le17) le18) le19) le20) le21) le22) le23) rF (sD (sD (sD (sD (sD (sD (sD (sC sR)))))))) ?_)
  exact ⟨⟨_, _, _, rfl, hr1, hf21, by decide⟩, rfl⟩
 refine X.skip (X.seq (X.region ?_))
 refine cX (XOp.loadN [x1, v5] isAgg29 sizeOf29 rfl rfl (Rd.ownN [] rfl rfl) ?_)
 refine cX (XOp.storeN (vs := [x1, v5]) [_, _, _, _, _, _] _ [x1, v5] sizeOf29 rfl rfl rfl (ones_cons (one_sl (IntsF.isSl hr1)) (ones_cons (one_sl (isSl_lit hv5)) ones_nil)) rfl rfl rfl ?_)
 refine XL.nil ?_
 show X _ _ _ _ _ _ (cellsH b2 [x1, v5] 29 :: slH 93 2 v5 2 [v1, v2, v3, v4] :: slH 2 1 v4 4 [.int .i64 (1), .int .i64 (0), .int .i64 (-1), .int .i64 (-2)] :: slH 2 1 v3 4 [.int .i64 (0), .int .i64 (1), .int .i64 (-1), .int .i64 (-2)] :: slH 2 1 v2 1 [.int .i64 (-1)] :: intsH 2 v1 ([0, 2, -1] : List Int) :: cellsH b1 [x1, v5] 29 :: curH .u64 90 cb bsv bs.length :: L)
 refine X.freezeF [_, _, _, _, _] _ _ rfl (fun F24 le24 hz22 => ?_)
 replace hr1 := hr1.mono le24
 have hf22 : IntsF F24 v1 ([0, 2, -1]) := intsH.fz (xs := [0, 2, -1]) hz22.fz
 show X _ _ _ _ _ _ (cellsH b2 [x1, v5] 29 :: slH 93 2 v5 2 [v1, v2, v3, v4] :: slH 2 1 v4 4 [.int .i64 (1), .int .i64 (0), .int .i64 (-1), .int .i64 (-2)] :: slH 2 1 v3 4 [.int .i64 (0), .int .i64 (1), .int .i64 (-1), .int .i64 (-2)] :: intsH 2 v2 ([-1] : List Int) :: cellsH b1 [x1, v5] 29 :: curH .u64 90 cb bsv bs.length :: L)
 refine X.freezeF [_, _, _, _] _ _ rfl (fun F25 le25 hz23 => ?_)
 replace hr1 := hr1.mono le25
 replace hf22 := hf22.mono le25
 have hf23 : IntsF F25 v2 ([-1]) := intsH.fz (xs := [-1]) hz23.fz
 show X _ _ _ _ _ _ (cellsH b2 [x1, v5] 29 :: slH 93 2 v5 2 [v1, v2, v3, v4] :: slH 2 1 v4 4 [.int .i64 (1), .int .i64 (0), .int .i64 (-1), .int .i64 (-2)] :: intsH 2 v3 ([0, 1, -1, -2] : List Int) :: cellsH b1 [x1, v5] 29 :: curH .u64 90 cb bsv bs.length :: L)
 refine X.freezeF [_, _, _] _ _ rfl (fun F26 le26 hz24 => ?_)
 replace hr1 := hr1.mono le26
 replace hf22 := hf22.mono le26
 replace hf23 := hf23.mono le26
 have hf24 : IntsF F26 v3 ([0, 1, -1, -2]) := intsH.fz (xs := [0, 1, -1, -2]) hz24.fz
 show X _ _ _ _ _ _ (cellsH b2 [x1, v5] 29 :: slH 93 2 v5 2 [v1, v2, v3, v4] :: intsH 2 v4 ([1, 0, -1, -2] : List Int) :: cellsH b1 [x1, v5] 29 :: curH .u64 90 cb bsv bs.length :: L)
 refine X.freezeF [_, _] _ _ rfl (fun F27 le27 hz25 => ?_)
 replace hr1 := hr1.mono le27
 replace hf22 := hf22.mono le27
 replace hf23 := hf23.mono le27
 replace hf24 := hf24.mono le27
 have hf25 : IntsF F27 v4 ([1, 0, -1, -2]) := intsH.fz (xs := [1, 0, -1, -2]) hz25.fz
 have hc5 : PairsC F27 [v1, v2, v3, v4] ([([0, 2, -1], [-1]), ([0, 1, -1, -2], [1, 0, -1, -2])] : List (List Int × List Int)) := (PairsC.snoc (PairsC.snoc (CO.nil : PairsC F27 [] []) hf22 hf23) hf24 hf25)
 refine X.freezeF [_] _ _ rfl (fun F28 le28 hz26 => ?_)
 replace hr1 := hr1.mono le28
 replace hc5 := hc5.mono le28
 have hf26 : PairsF F28 v5 (([([0, 2, -1], [-1]), ([0, 1, -1, -2], [1, 0, -1, -2])] : List (List Int × List Int))) := CO.fz hc5 (by first | rfl | simp | omega) hz26.fz
 refine X.ret (retEnd (L' := curH .u64 90 cb bsv bs.length :: L) [.agg #[x1, v5]] (.agg #[x1, v5]) (.cell rfl (loadNV [x1, v5] isAgg29 sizeOf29 rfl (Rd.ownN [_] rfl rfl)) .nil) rfl (FLe.trans (FLe.trans (FLe.trans (FLe.trans (FLe.trans le1 le24) le25) le26) le27) le28) rF (sD (sD (sC sR))) ?_)
 exact ⟨⟨_, _, _, rfl, hr1, hf26, by decide⟩, rfl⟩

/- laws.FnSolutions -/
set_option maxRecDepth 20000 in
theorem FnSolutions_does {F : FH} {L : List HP} {bsv : Value} {bs : List Int} (hbs : BytesF F bsv bs) (hlb : bs.length ≤ 9223372036854775807) :
    Does prog 6 [bsv] F (L) (fun v F' L' => (.bool (true) : Value) = v ∧ F = F' ∧ L = L') := by
 refine Does.of_X func6 rfl rfl rfl ?_
 refine X.seq (X.region ?_)
 refine XL.as (.bool (false)) rfl ?_
 refine XL.nil (X.seq (X.seq (X.region ?_)))
 refine XL.mv (bsv) rfl ?_
 refine cX (XOp.call (args := [bsv]) call8 rfl (big_spec hbs) ?_)
 rintro _ _ _ _ ⟨rfl, rfl, rfl⟩
 refine XL.nil ?_
 refine X.condD (p := (bs.length : Int) > 4096) rfl (fun h1 => ?_) (fun h1 => ?_)
 ·refine X.seq (X.region ?_)
  refine XL.as (.bool (true)) rfl ?_
  refine XL.nil ?_
  refine X.ret (thenQ_ret (retEnd (L' := L) [.bool (true)] (.bool (true)) (.tmp rfl .nil) rfl rF rF sR ?_))
  exact ⟨rfl, rfl, rfl⟩
 have hlb2 : bs.length ≤ 4000000 := by omega
 refine X.skip (X.seq (X.region ?_))
 refine XL.mv (bsv) rfl ?_
 refine cX (XOp.call (args := [bsv, .int .u64 (703)]) call20 rfl (roll_spec hbs (by omega)) ?_)
 rintro _ _ _ _ ⟨cb1, rfl, rfl, rfl⟩
 show XL _ _ _ _ _ _ _ (curH .u64 90 cb1 bsv bs.length :: L)
 refine XL.as (ptr cb1 0) rfl ?_
 refine XL.nil (X.seq (X.region ?_))
 refine XL.mv (ptr cb1 0) rfl ?_
 refine cX (XOp.call (args := [ptr cb1 0]) call21 rfl (Does.at [] (w6System_spec hbs (by omega))) ?_)
 rintro _ F1 _ le1 ⟨⟨x1, x2, x3, rfl, hr1, hr2, hr3⟩, rfl⟩
 replace hbs := hbs.mono le1
 show XL _ _ _ _ _ _ _ (curH .u64 90 cb1 bsv bs.length :: L)
 refine cX (XOp.alloc [(.slice none 0 0), (.slice none 0 0)] zeroValue29 rfl ?_)
 intro b1
 refine cX (XOp.storeN (vs := [x1, x2]) [] _ [x1, x2] sizeOf29 rfl rfl rfl (ones_cons (one_sl (IntsF.isSl hr1)) (ones_cons (one_sl (PairsF.isSl hr2)) ones_nil)) rfl rfl rfl ?_)
 refine XL.nil (X.seq (X.region ?_))
 refine XL.mv (ptr cb1 0) rfl ?_
 refine cX (XOp.call (args := [ptr cb1 0, .int .i64 ((3 : Nat) : Int), .int .i64 (1)]) call23 rfl (Does.at [_] (w6Term_spec 3 (vs := 1) hbs (by omega) (hv := (by first | assumption | rfl | omega | simp)) (hd := (by first | assumption | rfl | omega | simp)))) ?_)
 rintro _ F2 _ le2 ⟨⟨x4, x5, rfl, hr4, hr5, hr6, hr7⟩, rfl⟩
 replace hbs := hbs.mono le2
 replace hr1 := hr1.mono le2
 replace hr2 := hr2.mono le2
 show XL _ _ _ _ _ _ _ (cellsH b1 [x1, x2] 29 :: curH .u64 90 cb1 bsv bs.length :: L)
 refine XL.as (x4) rfl ?_
 refine XL.nil (X.seq (X.region ?_))
 refine XL.mv (ptr cb1 0) rfl ?_
 refine cX (XOp.call (args := [ptr cb1 0, .int .i64 ((3 : Nat) : Int), .int .i64 (1)]) call23 rfl (Does.at [_] (w6Term_spec 3 (vs := 1) hbs (by omega) (hv := (by first | assumption | rfl | omega | simp)) (hd := (by first | assumption | rfl | omega | simp)))) ?_)
 rintro _ F3 _ le3 ⟨⟨x6, x7, rfl, hr8, hr9, hr10, hr11⟩, rfl⟩
 replace hbs := hbs.mono le3
 replace hr1 := hr1.mono le3
 replace hr2 := hr2.mono le3
 replace hr4 := hr4.mono le3
 show XL _ _ _ _ _ _ _ (cellsH b1 [x1, x2] 29 :: curH .u64 90 cb1 bsv bs.length :: L)
 refine XL.as (x6) rfl ?_
 refine XL.nil (X.seq (X.region ?_))
 refine cX (XOp.buildSlice (s := 1) [.int .i64 (2)] [.int .i64 (0)] [(0, [.int .i64 (2)])] runUnderlying24 sizeOf2 zeroValue2 rfl (by decide) rfl (.cons rfl CellsAre.nil) rfl ?_)
 intro v1 hv1
 refine cX (XOp.buildSlice (s := 1) [.int .i64 (1), .int .i64 (2)] [.int .i64 (0)] [(0, [.int .i64 (1)]), (1, [.int .i64 (2)])] runUnderlying24 sizeOf2 zeroValue2 rfl (by decide) rfl (.cons rfl (.cons rfl CellsAre.nil)) rfl ?_)
 intro v2 hv2
 refine cX (XOp.buildSlice (s := 1) [.int .i64 (1), .int .i64 (1), .int .i64 (2)] [.int .i64 (0)] [(0, [.int .i64 (1)]), (1, [.int .i64 (1)]), (2, [.int .i64 (2)])] runUnderlying24 sizeOf2 zeroValue2 rfl (by decide) rfl (.cons rfl (.cons rfl (.cons rfl CellsAre.nil))) rfl ?_)
 intro v3 hv3
 refine XL.mv (ptr cb1 0) rfl ?_
 refine cX (XOp.call (args := [ptr cb1 0, .int .i64 ((3 : Nat) : Int), .int .i64 (0)]) call23 rfl (Does.at [_, _, _, _] (w6Term_spec 3 (vs := 0) hbs (by omega) (hv := (by first | assumption | rfl | omega | simp)) (hd := (by first | assumption | rfl | omega | simp)))) ?_)
 rintro _ F4 _ le4 ⟨⟨x8, x9, rfl, hr12, hr13, hr14, hr15⟩, rfl⟩
 replace hr1 := hr1.mono le4
 replace hr2 := hr2.mono le4
 replace hr4 := hr4.mono le4
 replace hr8 := hr8.mono le4
 show XL _ _ _ _ _ _ _ (slH 2 1 v3 3 [.int .i64 (1), .int .i64 (1), .int .i64 (2)] :: slH 2 1 v2 2 [.int .i64 (1), .int .i64 (2)] :: slH 2 1 v1 1 [.int .i64 (2)] :: cellsH b1 [x1, x2] 29 :: curH .u64 90 cb1 bsv bs.length :: L)
 refine cX (XOp.buildSlice (s := 1) [.int .i64 (-2)] [.int .i64 (0)] [(0, [.int .i64 (-2)])] runUnderlying24 sizeOf2 zeroValue2 rfl (by decide) rfl (.cons rfl CellsAre.nil) rfl ?_)
 intro v4 hv4
 refine cX (XOp.buildSlice (s := 1) [v1, v2, v3, x8, v4] [(.slice none 0 0)] [(0, [v1]), (1, [v2]), (2, [v3]), (3, [x8]), (4, [v4])] runUnderlying42 sizeOf24 zeroValue24 rfl (by decide) rfl (.cons (cells_one (isSl_lit hv1)) (.cons (cells_one (isSl_lit hv2)) (.cons (cells_one (isSl_lit hv3)) (.cons (cells_one (IntsF.isSl hr12)) (.cons (cells_one (isSl_lit hv4)) CellsAre.nil))))) rfl ?_)
 intro v5 hv5
 refine XL.as (v5) rfl ?_
 refine XL.nil (X.seq (X.region ?_))
 show XL _ _ _ _ _ _ _ (slH 24 1 v5 5 [v1, v2, v3, x8, v4] :: slH 2 1 v4 1 [.int .i64 (-2)] :: slH 2 1 v3 3 [.int .i64 (1), .int .i64 (1), .int .i64 (2)] :: slH 2 1 v2 2 [.int .i64 (1), .int .i64 (2)] :: intsH 2 v1 ([2] : List Int) :: cellsH b1 [x1, x2] 29 :: curH .u64 90 cb1 bsv bs.length :: L)
 refine XL.freezeF [_, _, _, _] _ _ rfl (fun F5 le5 hz1 => ?_)
 replace hr1 := hr1.mono le5
 replace hr2 := hr2.mono le5
 replace hr4 := hr4.mono le5
 replace hr8 := hr8.mono le5
 replace hr12 := hr12.mono le5
 have hf1 : IntsF F5 v1 ([2]) := intsH.fz (xs := [2]) hz1.fz
 show XL _ _ _ _ _ _ _ (slH 24 1 v5 5 [v1, v2, v3, x8, v4] :: slH 2 1 v4 1 [.int .i64 (-2)] :: slH 2 1 v3 3 [.int .i64 (1), .int .i64 (1), .int .i64 (2)] :: intsH 2 v2 ([1, 2] : List Int) :: cellsH b1 [x1, x2] 29 :: curH .u64 90 cb1 bsv bs.length :: L)
 refine XL.freezeF [_, _, _] _ _ rfl (fun F6 le6 hz2 => ?_)
 replace hr1 := hr1.mono le6
 replace hr2 := hr2.mono le6
 replace hr4 := hr4.mono le6
 replace hr8 := hr8.mono le6
 replace hr12 := hr12.mono le6
 replace hf1 := hf1.mono le6
 have hf2 : IntsF F6 v2 ([1, 2]) := intsH.fz (xs := [1, 2]) hz2.fz
 show XL _ _ _ _ _ _ _ (slH 24 1 v5 5 [v1, v2, v3, x8, v4] :: slH 2 1 v4 1 [.int .i64 (-2)] :: intsH 2 v3 ([1, 1, 2] : List Int) :: cellsH b1 [x1, x2] 29 :: curH .u64 90 cb1 bsv bs.length :: L)
 refine XL.freezeF [_, _] _ _ rfl (fun F7 le7 hz3 => ?_)
 replace hr1 := hr1.mono le7
 replace hr2 := hr2.mono le7
 replace hr4 := hr4.mono le7
 replace hr8 := hr8.mono le7
 replace hr12 := hr12.mono le7
 replace hf1 := hf1.mono le7
 replace hf2 := hf2.mono le7
 have hf3 : IntsF F7 v3 ([1, 1, 2]) := intsH.fz (xs := [1, 1, 2]) hz3.fz
 show XL _ _ _ _ _ _ _ (slH 24 1 v5 5 [v1, v2, v3, x8, v4] :: intsH 2 v4 ([-2] : List Int) :: cellsH b1 [x1, x2] 29 :: curH .u64 90 cb1 bsv bs.length :: L)
 refine XL.freezeF [_] _ _ rfl (fun F8 le8 hz4 => ?_)
 replace hr1 := hr1.mono le8
 replace hr2 := hr2.mono le8
 replace hr4 := hr4.mono le8
 replace hr8 := hr8.mono le8
 replace hr12 := hr12.mono le8
 replace hf1 := hf1.mono le8
 replace hf2 := hf2.mono le8
 replace hf3 := hf3.mono le8
 have hf4 : IntsF F8 v4 ([-2]) := intsH.fz (xs := [-2]) hz4.fz
 have hc1 : RowsC F8 [v1, v2, v3, x8, v4] ([[2], [1, 2], [1, 1, 2], x9, [-2]] : List (List Int)) := (RowsC.snoc (RowsC.snoc (RowsC.snoc (RowsC.snoc (RowsC.snoc (CO.nil : RowsC F8 [] []) hf1) hf2) hf3) hr12) hf4)
 refine XL.freezeF [] _ _ rfl (fun F9 le9 hz5 => ?_)
 replace hr1 := hr1.mono le9
 replace hr2 := hr2.mono le9
 replace hr4 := hr4.mono le9
 replace hr8 := hr8.mono le9
 replace hc1 := hc1.mono le9
 have hf5 : RowsF F9 v5 (([[2], [1, 2], [1, 1, 2], x9, [-2]] : List (List Int))) := CO.fz hc1 (by first | rfl | simp | omega) hz5.fz
 obtain ⟨ts, he_ts⟩ : ∃ q : List (List Int), q = ([[2], [1, 2], [1, 1, 2], x9, [-2]] : List (List Int)) := ⟨_, rfl⟩
 rw [← he_ts] at hf5
 have hsq := sysOk_iff.1 hr3
 have hrl := hsq.2.1
 have hrb : ∀ i, i < x3.length → (x3.getD i ([], [])).1.length ≤ 4000000 ∧ (x3.getD i ([], [])).2.length ≤ 4000000 := fun i hi => by have h9 := ruleOk_iff.1 (hsq.2.2 i hi); have := termOk_len h9.left; have := termOk_len h9.right; omega
 have hoa : termOk [2, 1, 0] x5 = true := goodT.ok (by decide) ⟨hr7, by have h9 : szB 3 = 15 := rfl; omega⟩ hr5
 have hob : termOk [2, 1, 0] x7 = true := goodT.ok (by decide) ⟨hr11, by have h9 : szB 3 = 15 := rfl; omega⟩ hr9
 have hot : termOk [2, 1, 0] x9 = true := goodT.ok (by decide) ⟨hr15, by have h9 : szB 3 = 15 := rfl; omega⟩ hr13
 have hal := termOk_len hoa
 have hbl := termOk_len hob
 have hts : ts.all (termOk [2, 1, 0]) = true := by rw [he_ts]; show (termOk [2, 1, 0] _ && (termOk [2, 1, 0] _ && (termOk [2, 1, 0] _ && (termOk [2, 1, 0] x9 && (termOk [2, 1, 0] _ && true))))) = true; rw [hot]; decide
 have htn : ts.length = 5 := by rw [he_ts]; rfl
 have htb : ∀ i, i < ts.length → (ts.getD i []).length ≤ 4000000 := fun i hi => by have := termOk_len (all_at hts hi); omega
 have hok : solOk [2, 1, 0] x3 x5 x7 ts 60 = true := solOk_iff.2 ⟨hr3, by omega, hoa, hob, hts, by omega⟩
 have hnl := solL_len (ar := [2, 1, 0]) (rs := x3) (a := x5) (b := x7) (ts := ts) (n := 60)
 skip
 refine cX (XOp.loadN [x1, x2] isAgg29 sizeOf29 rfl rfl (Rd.ownN [] rfl rfl) ?_)
 refine XL.mv (x4) rfl ?_
 refine XL.mv (x6) rfl ?_
 refine XL.mv (v5) rfl ?_
 refine cX (XOp.call (args := [.agg #[x1, x2], x4, x6, v5, .int .i64 (60)]) call35 rfl (SolutionsBy_spec (n := 60) hr1 hr2 hr4 hr8 hf5 (hlt := (by first | assumption | rfl | omega | simp))) ?_)
 rintro _ F10 _ le10 ⟨x10, rfl, hr16, hr17, rfl⟩
 replace hr1 := hr1.mono le10
 replace hr2 := hr2.mono le10
 replace hr4 := hr4.mono le10
 replace hr8 := hr8.mono le10
 replace hf5 := hf5.mono le10
 refine XL.as (x10) rfl ?_
 refine XL.nil (X.seq (X.seq (X.region ?_)))
 refine XL.mv (x10) rfl ?_
 refine cX (XOp.loadN [x1, x2] isAgg29 sizeOf29 rfl rfl (Rd.ownN [] rfl rfl) ?_)
 refine XL.mv (x4) rfl ?_
 refine XL.mv (x6) rfl ?_
 refine XL.mv (v5) rfl ?_
 refine cX (XOp.call (args := [.agg #[x1, x2], x4, x6, v5, .int .i64 (60)]) call36 rfl (sSolutionsBy_spec (n := 60) hr1 hr2 hr4 hr8 hf5 (hla := (by first | assumption | rfl | omega | simp)) (hlr := (by first | assumption | rfl | omega | simp)) (hrb := (by first | assumption | rfl | omega | simp)) (hlt := (by first | assumption | rfl | omega | simp)) (htb := (by first | assumption | rfl | omega | simp)) (hlta := (by first | assumption | rfl | omega | simp)) (hltb := (by first | assumption | rfl | omega | simp))) ?_)
 rintro _ F11 _ le11 ⟨x11, rfl, hr18, rfl⟩
 replace hr1 := hr1.mono le11
 replace hr2 := hr2.mono le11
 replace hr4 := hr4.mono le11
 replace hr8 := hr8.mono le11
 replace hf5 := hf5.mono le11
 replace hr16 := hr16.mono le11
 refine cX (XOp.call (args := [x10, x11]) call13 rfl (likeInts_spec hr16 hr18 (hbd := (by first | assumption | rfl | omega | (left; simp; done) | (right; simp; done)))) ?_)
 rintro _ _ _ _ ⟨rfl, rfl, rfl⟩
 refine cX (XOp.notD (p := (solL ([2, 1, 0]) x3 x5 x7 ts 60) = (solL ([2, 1, 0]) x3 x5 x7 ts 60)) rfl ?_)
 refine XL.nil ?_
 refine X.condD (p := ¬((solL ([2, 1, 0]) x3 x5 x7 ts 60) = (solL ([2, 1, 0]) x3 x5 x7 ts 60))) rfl (fun h2 => ?_) (fun h2 => ?_)
 ·exact absurd rfl h2
 refine X.skip (X.seq (X.seq (X.region ?_)))
 refine XL.as (.int .i64 (0)) rfl ?_
 refine XL.nil (X.block ?_)
 refine X.loop (α := Nat) (fun i => [(4, ptr b1 0), (5, x4), (6, x6), (7, v5), (8, x10), (9, .int .i64 ((i : Int)))]) (fun i => cellsH b1 [x1, x2] 29 :: curH .u64 90 cb1 bsv bs.length :: L) (fun i F' => F11 = F' ∧ (i ≤ ts.length)) (fun i => ts.length - i) 0 ⟨rfl, rfl, rfl, rfl, rfl, rfl, trivial⟩ (sC (sC sR)) ⟨rfl, (Nat.zero_le _)⟩ ?_
 rintro i rE _ _ ⟨rfl, hi⟩
 show X _ _ _ _ (envs [(4, ptr b1 0), (5, x4), (6, x6), (7, v5), (8, x10), (9, .int .i64 ((i : Int)))] rE) _ (cellsH b1 [x1, x2] 29 :: curH .u64 90 cb1 bsv bs.length :: L)
 refine X.seq (X.seq (X.region ?_))
 refine XL.mv (.int .i64 ((i : Int))) rfl ?_
 refine XL.mv (v5) rfl ?_
 refine cX (XOp.lenS (v := v5) (n := (ts).length) runUnderlying42 rfl hf5.slv ?_)
 refine cX (XOp.lss (a := (i : Int)) (b := (ts.length : Int)) rfl rfl ?_)
 refine XL.nil ?_
 refine X.condD (p := (i : Int) < (ts.length : Int)) rfl (fun h3 => ?_) (fun h3 => ?_)
 ·refine X.skip (X.seq (X.block (X.seq (X.region ?_))))
  refine XL.mv (v5) rfl ?_
  refine XL.mv (.int .i64 ((i : Int))) rfl ?_
  refine cX (XOp.indexS (v := v5) (i := (i : Int)) (n := (ts).length) i runUnderlying42 sizeOf24 rfl rfl rfl hf5.slv (by omega) (Nat.mul_one _) ?_)
  obtain ⟨a1, ha1, hr19⟩ := hf5.rd (i := i) (by omega)
  refine cX (XOp.load1 (v := a1) isAgg24 rfl (hr19 _) ?_)
  refine cX (XOp.buildSlice (s := 1) [a1] [(.slice none 0 0)] [(0, [a1])] runUnderlying42 sizeOf24 zeroValue24 rfl (by decide) rfl (.cons (cells_one (IntsF.isSl ha1)) CellsAre.nil) rfl ?_)
  intro v6 hv6
  refine cX (XOp.build [v6] [(.slice none 0 0)] [(0, 1)] [(0, [v6])] runUnderlying57 zeroValue57 rfl (.cons rfl sizeOf42 PlacesAre.nil) rfl (.cons (cells_one (isSl_lit hv6)) CellsAre.nil) ?_)
  refine cX (XOp.alloc [(.slice none 0 0)] zeroValue57 rfl ?_)
  intro b2
  refine cX (XOp.storeN (vs := [v6]) [] _ [v6] sizeOf57 rfl rfl rfl (ones_cons (one_sl (isSl_lit hv6)) ones_nil) rfl rfl rfl ?_)
  refine XL.nil (X.seq (X.region ?_))
  refine cX (XOp.fieldP (b := b1) (0) runUnderlying29 rfl sizeOf26 (by decide) rfl rfl ?_)
  refine cX (XOp.loadN [x1] isAgg26 sizeOf26 rfl rfl (Rd.ownN [_, _] rfl rfl) ?_)
  refine cX (XOp.loadN [v6] isAgg57 sizeOf57 rfl rfl (Rd.ownN [] rfl rfl) ?_)
  refine XL.mv (x4) rfl ?_
  have hc2 : RowsC F11 [a1] ([(ts.getD i [])] : List (List Int)) := (RowsC.snoc (CO.nil : RowsC F11 [] []) ha1)
  refine XL.freezeF [_] _ _ rfl (fun F12 le12 hz6 => ?_)
  replace hr1 := hr1.mono le12
  replace hr2 := hr2.mono le12
  replace hr4 := hr4.mono le12
  replace hr8 := hr8.mono le12
  replace hr16 := hr16.mono le12
  replace hc2 := hc2.mono le12
  have hf6 : RowsF F12 v6 (([(ts.getD i [])] : List (List Int))) := CO.fz hc2 (by first | rfl | simp | omega) hz6.fz
  refine cX (XOp.call (args := [.agg #[x1], .agg #[v6], x4]) call37 rfl (sFilled_spec hr1 hf6 hr4 (hla := (by first | assumption | rfl | omega | simp)) (hsl := (by first | assumption | rfl | omega | simp)) (hsb := (fun q hq => by have := rows1_len (all_at hts (show i < ts.length by omega)) q; omega)) (hlt := (by first | assumption | rfl | omega | simp))) ?_)
  rintro _ F13 _ le13 ⟨x12, rfl, hr20, rfl⟩
  replace hr1 := hr1.mono le13
  replace hr2 := hr2.mono le13
  replace hr8 := hr8.mono le13
  replace hr16 := hr16.mono le13
  replace hf6 := hf6.mono le13
  refine XL.mv (.tuple #[x12, .bool ((filledL ([2, 1, 0]) (([(ts.getD i [])] : List (List Int))) x5).isSome)]) rfl ?_
  refine cX (XOp.extract (x12) rfl rfl ?_)
  refine cX (XOp.extract (.bool ((filledL ([2, 1, 0]) (([(ts.getD i [])] : List (List Int))) x5).isSome)) rfl rfl ?_)
  refine XL.as (x12) rfl ?_
  refine XL.as (.bool ((filledL ([2, 1, 0]) (([(ts.getD i [])] : List (List Int))) x5).isSome)) rfl ?_
  refine XL.nil (X.seq (X.region ?_))
  refine cX (XOp.fieldP (b := b1) (0) runUnderlying29 rfl sizeOf26 (by decide) rfl rfl ?_)
  refine cX (XOp.loadN [x1] isAgg26 sizeOf26 rfl rfl (Rd.ownN [_] rfl rfl) ?_)
  refine cX (XOp.loadN [v6] isAgg57 sizeOf57 rfl rfl (Rd.ownN [] rfl rfl) ?_)
  refine XL.mv (x6) rfl ?_
  refine cX (XOp.call (args := [.agg #[x1], .agg #[v6], x6]) call37 rfl (sFilled_spec hr1 hf6 hr8 (hla := (by first | assumption | rfl | omega | simp)) (hsl := (by first | assumption | rfl | omega | simp)) (hsb := (fun q hq => by have := rows1_len (all_at hts (show i < ts.length by omega)) q; omega)) (hlt := (by first | assumption | rfl | omega | simp))) ?_)
  rintro _ F14 _ le14 ⟨x13, rfl, hr21, rfl⟩
  replace hr1 := hr1.mono le14
  replace hr2 := hr2.mono le14
  replace hr16 := hr16.mono le14
  replace hr20 := hr20.mono le14
  refine XL.mv (.tuple #[x13, .bool ((filledL ([2, 1, 0]) (([(ts.getD i [])] : List (List Int))) x7).isSome)]) rfl ?_
  refine cX (XOp.extract (x13) rfl rfl ?_)
  refine cX (XOp.extract (.bool ((filledL ([2, 1, 0]) (([(ts.getD i [])] : List (List Int))) x7).isSome)) rfl rfl ?_)
  refine XL.as (x13) rfl ?_
  refine XL.as (.bool ((filledL ([2, 1, 0]) (([(ts.getD i [])] : List (List Int))) x7).isSome)) rfl ?_
  refine XL.nil (X.seq (X.region ?_))
  refine XL.as (.bool (false)) rfl ?_
  refine XL.nil (X.seq (X.seq (X.region ?_)))
  refine XL.as (.int .i64 (0)) rfl ?_
  refine XL.nil (X.block ?_)
  refine X.loop (α := Nat) (fun j => [(4, ptr b1 0), (5, x4), (6, x6), (7, v5), (8, x10), (9, .int .i64 ((i : Int))), (11, x12), (12, .bool ((filledL ([2, 1, 0]) (([(ts.getD i [])] : List (List Int))) x5).isSome)), (13, x13), (14, .bool ((filledL ([2, 1, 0]) (([(ts.getD i [])] : List (List Int))) x7).isSome)), (15, .bool ((((solL [2, 1, 0] x3 x5 x7 ts 60).take j).any fun y => decide (y = (i : Int))))), (16, .int .i64 ((j : Int)))]) (fun j => cellsH b2 [v6] 57 :: cellsH b1 [x1, x2] 29 :: curH .u64 90 cb1 bsv bs.length :: L) (fun j F' => F14 = F' ∧ (j ≤ (solL [2, 1, 0] x3 x5 x7 ts 60).length)) (fun j => (solL [2, 1, 0] x3 x5 x7 ts 60).length - j) 0 ⟨rfl, rfl, rfl, rfl, rfl, rfl, rfl, rfl, rfl, rfl, rfl, rfl, trivial⟩ (sC (sC (sC sR))) ⟨rfl, (Nat.zero_le _)⟩ ?_
  rintro j rE _ _ ⟨rfl, hj⟩
  show X _ _ _ _ (envs [(4, ptr b1 0), (5, x4), (6, x6), (7, v5), (8, x10), (9, .int .i64 ((i : Int))), (11, x12), (12, .bool ((filledL ([2, 1, 0]) (([(ts.getD i [])] : List (List Int))) x5).isSome)), (13, x13), (14, .bool ((filledL ([2, 1, 0]) (([(ts.getD i [])] : List (List Int))) x7).isSome)), (15, .bool ((((solL [2, 1, 0] x3 x5 x7 ts 60).take j).any fun y => decide (y = (i : Int))))), (16, .int .i64 ((j : Int)))] rE) _ (cellsH b2 [v6] 57 :: cellsH b1 [x1, x2] 29 :: curH .u64 90 cb1 bsv bs.length :: L)
  refine X.seq (X.seq (X.region ?_))
  refine XL.mv (.int .i64 ((j : Int))) rfl ?_
  refine XL.mv (x10) rfl ?_
  refine cX (XOp.lenS (v := x10) (n := (solL ([2, 1, 0]) x3 x5 x7 ts 60).length) runUnderlying24 rfl hr16.slv ?_)
  refine cX (XOp.lss (a := (j : Int)) (b := (((solL ([2, 1, 0]) x3 x5 x7 ts 60).length : Nat) : Int)) rfl rfl ?_)
  refine XL.nil ?_
  refine X.condD (p := (j : Int) < (((solL ([2, 1, 0]) x3 x5 x7 ts 60).length : Nat) : Int)) rfl (fun h4 => ?_) (fun h4 => ?_)
  ·refine X.skip (X.seq (X.block (X.region ?_)))
   refine XL.mv (.bool ((((solL [2, 1, 0] x3 x5 x7 ts 60).take j).any fun y => decide (y = (i : Int))))) rfl ?_
   refine XL.mv (.bool ((((solL [2, 1, 0] x3 x5 x7 ts 60).take j).any fun y => decide (y = (i : Int))))) rfl ?_
   by_cases h5 : ((((solL [2, 1, 0] x3 x5 x7 ts 60).take j).any fun y => decide (y = (i : Int)))) = true
   ·refine XL.no (t := 82) rfl (vB h5) ?_
    refine XL.no (t := 82) rfl (vB h5) ?_
    refine XL.no (t := 82) rfl (vB h5) ?_
    refine XL.no (t := 82) rfl (vB h5) ?_
    refine XL.no (t := 82) rfl (vB h5) ?_
    refine XL.no (t := 82) rfl (vB h5) ?_
    refine cX (XOp.pickT (.bool (true)) (vB h5) rfl ?_)
    refine XL.as (.bool (true)) rfl ?_
    refine XL.nil (X.region ?_)
    refine XL.mv (.int .i64 ((j : Int))) rfl ?_
    refine cX (XOp.addR (a := (j : Int)) (b := 1) (((j + 1 : Nat) : Int)) rfl rfl (by omega) (by omega) ?_)
    refine XL.as (.int .i64 (((j + 1 : Nat) : Int))) rfl ?_
    refine XL.nil ?_
    exact ⟨j + 1, _, FLe.refl _, rF, ⟨rfl, rfl, rfl, rfl, rfl, rfl, rfl, rfl, rfl, rfl, (vB (by (try dsimp only); rw [any_step (by omega)]; first | (rw [show (((solL [2, 1, 0] x3 x5 x7 ts 60).take j).any fun y => decide (y = (i : Int))) = true from by assumption]; rfl) | (rw [show (((solL [2, 1, 0] x3 x5 x7 ts 60).take j).any fun y => decide (y = (i : Int))) = false from by assumption]; rfl))), rfl, trivial⟩, (sC (sC (sC sR))), ⟨rfl, (by (try dsimp only) <;> omega)⟩, (by omega)⟩
   rw [Bool.not_eq_true] at h5
   refine XL.yes (t := 82) rfl (vB h5) (XOp.move (x10) rfl ?_)
   refine XL.yes (t := 82) rfl (vB h5) (XOp.move (.int .i64 ((j : Int))) rfl ?_)
   refine XL.yes (t := 82) rfl (vB h5) (XOp.indexS (v := x10) (i := (j : Int)) (n := (solL ([2, 1, 0]) x3 x5 x7 ts 60).length) j runUnderlying24 sizeOf2 rfl rfl rfl hr16.slv (by omega) (Nat.mul_one _) ?_)
   refine XL.yes (t := 82) rfl (vB h5) (XOp.load1 (v := .int .i64 ((solL ([2, 1, 0]) x3 x5 x7 ts 60).getD j 0)) isAgg2 rfl (hr16.rd (by omega)) ?_)
   refine XL.yes (t := 82) rfl (vB h5) (XOp.move (.int .i64 ((i : Int))) rfl ?_)
   refine XL.yes (t := 82) rfl (vB h5) (XOp.eql (a := (solL ([2, 1, 0]) x3 x5 x7 ts 60).getD j 0) (b := (i : Int)) rfl rfl ?_)
   refine cX (XOp.pickF (.bool (decide (((solL ([2, 1, 0]) x3 x5 x7 ts 60).getD j 0 : Int) = (i : Int)))) (vB h5) rfl ?_)
   refine XL.as (.bool (decide (((solL ([2, 1, 0]) x3 x5 x7 ts 60).getD j 0 : Int) = (i : Int)))) rfl ?_
   refine XL.nil (X.region ?_)
   refine XL.mv (.int .i64 ((j : Int))) rfl ?_
   refine cX (XOp.addR (a := (j : Int)) (b := 1) (((j + 1 : Nat) : Int)) rfl rfl (by omega) (by omega) ?_)
   refine XL.as (.int .i64 (((j + 1 : Nat) : Int))) rfl ?_
   refine XL.nil ?_
   exact ⟨j + 1, _, FLe.refl _, rF, ⟨rfl, rfl, rfl, rfl, rfl, rfl, rfl, rfl, rfl, rfl, (vB (by (try dsimp only); rw [any_step (by omega)]; first | (rw [show (((solL [2, 1, 0] x3 x5 x7 ts 60).take j).any fun y => decide (y = (i : Int))) = true from by assumption]; rfl) | (rw [show (((solL [2, 1, 0] x3 x5 x7 ts 60).take j).any fun y => decide (y = (i : Int))) = false from by assumption]; rfl))), rfl, trivial⟩, (sC (sC (sC sR))), ⟨rfl, (by (try dsimp only) <;> omega)⟩, (by omega)⟩
  refine X.exit (thenQ_exit (thenQ_exit (blockQ_exit ?_)))
  refine X.seq (X.region ?_)
  have hin := any_mem (l := (solL [2, 1, 0] x3 x5 x7 ts 60)) (x := (i : Int)) (k := j) (by omega)
  have hlw := sol_law hok (i := i) (by omega)
  refine XL.mv (.bool ((((solL [2, 1, 0] x3 x5 x7 ts 60).take j).any fun y => decide (y = (i : Int))))) rfl ?_
  refine XL.mv (.bool ((filledL ([2, 1, 0]) (([(ts.getD i [])] : List (List Int))) x5).isSome)) rfl ?_
  refine XL.mv (.bool ((filledL ([2, 1, 0]) (([(ts.getD i [])] : List (List Int))) x5).isSome)) rfl ?_
  by_cases h6 : ((filledL ([2, 1, 0]) (([(ts.getD i [])] : List (List Int))) x5).isSome) = true
  ·refine XL.yes (t := 92) rfl (vB h6) (XOp.move (.bool ((filledL ([2, 1, 0]) (([(ts.getD i [])] : List (List Int))) x7).isSome)) rfl ?_)
   refine cX (XOp.pickT (.bool ((filledL ([2, 1, 0]) (([(ts.getD i [])] : List (List Int))) x7).isSome)) (vB h6) rfl ?_)
   refine XL.mv (.bool ((filledL ([2, 1, 0]) (([(ts.getD i [])] : List (List Int))) x7).isSome)) rfl ?_
   by_cases h7 : ((filledL ([2, 1, 0]) (([(ts.getD i [])] : List (List Int))) x7).isSome) = true
   ·refine XL.yes (t := 95) rfl (vB h7) (XOp.loadN [x1, x2] isAgg29 sizeOf29 rfl rfl (Rd.ownN [_] rfl rfl) ?_)
    refine XL.yes (t := 95) rfl (vB h7) (XOp.move (x12) rfl ?_)
    refine XL.yes (t := 95) rfl (vB h7) (XOp.move (x13) rfl ?_)
    refine XL.yes (t := 95) rfl (vB h7) (XOp.call (args := [.agg #[x1, x2], x12, x13, .int .i64 (60)]) call27 rfl (EqualBy_spec (n := 60) hr1 hr2 hr20 hr21) ?_)
    rintro _ _ _ _ ⟨rfl, rfl, rfl⟩
    refine XL.yes (t := 95) rfl (vB h7) (XOp.eql (a := eqB ([2, 1, 0]) x3 ((filledL ([2, 1, 0]) (([(ts.getD i [])] : List (List Int))) x5).getD []) ((filledL ([2, 1, 0]) (([(ts.getD i [])] : List (List Int))) x7).getD []) 60) (b := 1) rfl rfl ?_)
    refine cX (XOp.pickT (.bool (decide ((eqB ([2, 1, 0]) x3 ((filledL ([2, 1, 0]) (([(ts.getD i [])] : List (List Int))) x5).getD []) ((filledL ([2, 1, 0]) (([(ts.getD i [])] : List (List Int))) x7).getD []) 60 : Int) = 1))) (vB h7) rfl ?_)
    refine cX (XOp.neB (a := (((solL [2, 1, 0] x3 x5 x7 ts 60).take j).any fun y => decide (y = (i : Int)))) (b := decide ((eqB ([2, 1, 0]) x3 ((filledL ([2, 1, 0]) (([(ts.getD i [])] : List (List Int))) x5).getD []) ((filledL ([2, 1, 0]) (([(ts.getD i [])] : List (List Int))) x7).getD []) 60 : Int) = 1)) runUnderlying4 rfl rfl ?_)
    refine XL.nil ?_
    refine X.condD (p := ((((solL [2, 1, 0] x3 x5 x7 ts 60).take j).any fun y => decide (y = (i : Int)))) ≠ (decide ((eqB ([2, 1, 0]) x3 ((filledL ([2, 1, 0]) (([(ts.getD i [])] : List (List Int))) x5).getD []) ((filledL ([2, 1, 0]) (([(ts.getD i [])] : List (List Int))) x7).getD []) 60 : Int) = 1))) rfl (fun h8 => ?_) (fun h8 => ?_)
    ·exact (h8 (by rw [hin, hlw]; simp_all)).elim
    refine X.skip (X.region ?_)
    refine XL.mv (.int .i64 ((i : Int))) rfl ?_
    refine cX (XOp.addR (a := (i : Int)) (b := 1) (((i + 1 : Nat) : Int)) rfl rfl (by omega) (by omega) ?_)
    refine XL.as (.int .i64 (((i + 1 : Nat) : Int))) rfl ?_
    refine XL.nil ?_
    exact ⟨i + 1, _, FLe.refl _, (FLe.trans (FLe.trans le12 le13) le14), ⟨rfl, rfl, rfl, rfl, rfl, rfl, trivial⟩, (sD (sC (sC sR))), ⟨rfl, (by (try dsimp only) <;> omega)⟩, (by omega)⟩
   rw [Bool.not_eq_true] at h7
   refine XL.no (t := 95) rfl (vB h7) ?_
   refine XL.no (t := 95) rfl (vB h7) ?_
   refine XL.no (t := 95) rfl (vB h7) ?_
   refine XL.no (t := 95) rfl (vB h7) ?_
   refine XL.no (t := 95) rfl (vB h7) ?_
   refine cX (XOp.pickF (.bool (false)) (vB h7) rfl ?_)
   refine cX (XOp.neB (a := (((solL [2, 1, 0] x3 x5 x7 ts 60).take j).any fun y => decide (y = (i : Int)))) (b := false) runUnderlying4 rfl rfl ?_)
   refine XL.nil ?_
   refine X.condD (p := ((((solL [2, 1, 0] x3 x5 x7 ts 60).take j).any fun y => decide (y = (i : Int)))) ≠ (false)) rfl (fun h9 => ?_) (fun h9 => ?_)
   ·exact (h9 (by rw [hin, hlw]; simp_all)).elim
   refine X.skip (X.region ?_)
   refine XL.mv (.int .i64 ((i : Int))) rfl ?_
   refine cX (XOp.addR (a := (i : Int)) (b := 1) (((i + 1 : Nat) : Int)) rfl rfl (by omega) (by omega) ?_)
   refine XL.as (.int .i64 (((i + 1 : Nat) : Int))) rfl ?_
   refine XL.nil ?_
   exact ⟨i + 1, _, FLe.refl _, (FLe.trans (FLe.trans le12 le13) le14), ⟨rfl, rfl, rfl, rfl, rfl, rfl, trivial⟩, (sD (sC (sC sR))), ⟨rfl, (by (try dsimp only) <;> omega)⟩, (by omega)⟩
  rw [Bool.not_eq_true] at h6
  refine XL.no (t := 92) rfl (vB h6) ?_
  refine cX (XOp.pickF (.bool (false)) (vB h6) rfl ?_)
  refine XL.mv (.bool (false)) rfl ?_
  refine XL.no (t := 95) rfl rfl ?_
  refine XL.no (t := 95) rfl rfl ?_
  refine XL.no (t := 95) rfl rfl ?_
  refine XL.no (t := 95) rfl rfl ?_
  refine XL.no (t := 95) rfl rfl ?_
  refine cX (XOp.pickF (.bool (false)) rfl rfl ?_)
  refine cX (XOp.neB (a := (((solL [2, 1, 0] x3 x5 x7 ts 60).take j).any fun y => decide (y = (i : Int)))) (b := false) runUnderlying4 rfl rfl ?_)
  refine XL.nil ?_
  refine X.condD (p := ((((solL [2, 1, 0] x3 x5 x7 ts 60).take j).any fun y => decide (y = (i : Int)))) ≠ (false)) rfl (fun h10 => ?_) (fun h10 => ?_)
  ·exact (h10 (by rw [hin, hlw]; simp_all)).elim
  refine X.skip (X.region ?_)
  refine XL.mv (.int .i64 ((i : Int))) rfl ?_
  refine cX (XOp.addR (a := (i : Int)) (b := 1) (((i + 1 : Nat) : Int)) rfl rfl (by omega) (by omega) ?_)
  refine XL.as (.int .i64 (((i + 1 : Nat) : Int))) rfl ?_
  refine XL.nil ?_
  exact ⟨i + 1, _, FLe.refl _, (FLe.trans (FLe.trans le12 le13) le14), ⟨rfl, rfl, rfl, rfl, rfl, rfl, trivial⟩, (sD (sC (sC sR))), ⟨rfl, (by (try dsimp only) <;> omega)⟩, (by omega)⟩
 refine X.exit (thenQ_exit (thenQ_exit (blockQ_exit ?_)))
 refine X.seq (X.region ?_)
 refine XL.as (.bool (true)) rfl ?_
 refine XL.nil ?_
 refine X.ret (retEnd (L' := L) [.bool (true)] (.bool (true)) (.tmp rfl .nil) rfl rF (FLe.trans (FLe.trans (FLe.trans (FLe.trans (FLe.trans (FLe.trans (FLe.trans (FLe.trans (FLe.trans (FLe.trans le1 le2) le3) le4) le5) le6) le7) le8) le9) le10) le11) (sD (sD sR)) ?_)
 exact ⟨rfl, rfl, rfl⟩
end Go.Proofs.Ytmaaifhmhclhdaa
