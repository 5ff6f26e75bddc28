/-
  Walks, one after the other (part 3).
-/
import Derived.Test.YtmaaifhmhclhdaaQIL1
import Derived.Test.YtmaaifhmhclhdaaQIB1
set_option linter.unusedSimpArgs false
set_option linter.unusedVariables false
namespace Go.Proofs.Ytmaaifhmhclhdaa
open Go X M Try

/- spec.l1New -/
theorem l1New_spec {F : FH} {L : List HP} {bsv : Value} {bs : List Int} (hbs : BytesF F bsv bs) (hlb : bs.length ≤ 4000000) :
    Does prog 49 [bsv] F (L) (fun v F' L' => ∃ cb : Nat, (ptr cb 0 : Value) = v ∧ F = F' ∧ curH .i64 123 cb bsv bs.length :: L = L') := by
 refine Does.of_X func49 rfl rfl rfl (X.seq (X.region (XL.as ((.pointer none)) rfl (XL.nil (X.seq (X.region (XL.mv (bsv) rfl (cX (XOp.lenS runUnderlying22 rfl hbs.slv (cX (XOp.addR (((570029 + ((bs).length) : Nat) : Int)) rfl rfl (by omega) (by omega) (XL.as (.int .i64 (((570029 + ((bs).length) : Nat) : Int))) rfl (XL.nil (X.seq (X.seq (X.region (XL.as (.int .i64 (0)) rfl ?_)))))))))))))))))
 refine XL.nil (X.block (X.loop (α := Nat × Int) (fun xQ => [(0, bsv), (3, .int .i64 (xQ.2)), (4, .int .i64 (((xQ.1 : Nat) : Int)))]) (fun xQ => L) (fun xQ F' => F = F' ∧ (xQ.1 ≤ bs.length) ∧ (0 ≤ xQ.2 ∧ xQ.2 ≤ 1073741823)) (fun xQ => bs.length - xQ.1) (0, ((570029 + ((bs).length) : Nat) : Int)) ⟨rfl, rfl, rfl, trivial⟩ sR ⟨rfl, (Nat.zero_le _), (by (try dsimp only) <;> omega)⟩ ?_))
 rintro ⟨k, h⟩ rE _ _ ⟨rfl, hk, hh⟩
 show X _ _ _ _ (envs [(0, bsv), (3, .int .i64 (h)), (4, .int .i64 ((k : Int)))] rE) _ (L)
 dsimp only at hk hh
 refine X.seq (X.seq (X.region (XL.mv (.int .i64 ((k : Int))) rfl (XL.mv (bsv) rfl (cX (XOp.lenS runUnderlying22 rfl hbs.slv (cX (XOp.lss rfl rfl (XL.nil ?_)))))))))
 refine X.condD (p := (k : Int) < (bs.length : Int)) rfl (fun h1 => ?_) (fun h1 => ?_)
 ·have hrg := hbs.range (i := k) (by omega)
  refine X.skip (X.seq (X.block (X.region (XL.mv (.int .i64 (h)) rfl (cX (XOp.mulR (h * 317) rfl rfl (by omega) (by omega) (XL.mv (bsv) rfl (XL.mv (.int .i64 ((k : Int))) rfl (cX (XOp.indexS k runUnderlying22 sizeOf5 rfl rfl rfl hbs.slv (by omega) (Nat.mul_one _) (cX (XOp.load1 isAgg5 rfl (hbs.rd (by omega) _) (cX (XOp.convI (k' := .u8) (a := bs.getD k 0) (bs.getD k 0) runUnderlying5 runUnderlying2 rfl (IntWalk.i64_in _ (by omega)) (cX (XOp.addR ((h * 317) + (bs.getD k 0)) rfl rfl (by omega) (by omega) (cX (XOp.addR (((h * 317) + (bs.getD k 0)) + 11) rfl rfl (by omega) (by omega) ?_))))))))))))))))))
  refine cX (XOp.andW (a := ((h * 317) + (bs.getD k 0)) + 11) (b := 1073741823) rfl rfl rfl (by decide) ?_)
  intro r1 hr1
  refine XL.as (.int .i64 (r1)) rfl (XL.nil (X.region (XL.mv (.int .i64 ((k : Int))) rfl (cX (XOp.addR (((k + 1 : Nat) : Int)) rfl rfl (by omega) (by omega) (XL.as (.int .i64 (((k + 1 : Nat) : Int))) rfl (XL.nil ?_)))))))
  exact ⟨(k + 1, r1), _, FLe.refl _, rF, ⟨rfl, rfl, rfl, trivial⟩, sR, ⟨rfl, (by (try dsimp only) <;> omega), (hr1)⟩, (by omega)⟩
 refine X.exit (thenQ_exit (thenQ_exit (blockQ_exit (X.seq (X.region (XL.mv (bsv) rfl (XL.mv (.int .i64 (h)) rfl (cX (XOp.build [bsv, .int .i64 (0), .int .i64 (h)] [(.slice none 0 0), .int .i64 (0), .int .i64 (0)] [(0, 1), (1, 1), (2, 1)] [(0, [bsv]), (2, [.int .i64 (h)])] runUnderlying123 zeroValue123 rfl (.cons rfl sizeOf22 (.cons rfl sizeOf3 (.cons rfl sizeOf2 PlacesAre.nil))) rfl (.cons (cells_one (BytesF.isSl hbs)) (.cons rfl CellsAre.nil)) (cX (XOp.box [bsv, .int .i64 (0), .int .i64 (h)] rfl rfl ?_)))))))))))
 intro b1
 refine XL.as (ptr b1 0) rfl (XL.nil (X.ret (retEnd (L' := curH .i64 123 b1 bsv bs.length :: L) [ptr b1 0] (ptr b1 0) (.tmp rfl .nil) rfl rF rF (Sub.keep (curH.of (by omega) (by omega)) sR) ?_)))
 exact ⟨_, rfl, rfl, rfl⟩

/- spec.l1Byte -/
theorem l1Byte_spec0 {F : FH} {L : List HP} {cb : Nat} {bsv : Value} {bs : List Int} (hbs : BytesF F bsv bs) (hbl : bs.length ≤ 4000000) {i h : Int} (h0 : 0 ≤ i) (h1 : i ≤ bs.length) :
    Does prog 161 [ptr cb 0] F (cellsH cb [bsv, .int .i64 (i), .int .i64 (h)] 123 :: L) (fun v F' L' => (F = F' ∧ ∃ x : Int, (.int .i64 x : Value) = v ∧ (0 ≤ x ∧ x ≤ 255)) ∧ ∃ i' h' : Int, 0 ≤ i' ∧ i' ≤ bs.length ∧ cellsH cb [bsv, .int .i64 (i'), .int .i64 (h')] 123 :: L = L') := by
 refine Does.of_X func161 rfl rfl rfl (X.seq (X.region (XL.as (.int .i64 (0)) rfl (XL.nil (X.seq (X.region (XL.mv (ptr cb 0) rfl (XL.mv (ptr cb 0) rfl (cX (XOp.nilCheck rfl (cX (XOp.fieldP (2) runUnderlying123 rfl sizeOf2 (by decide) rfl rfl (cX (XOp.load1 isAgg2 rfl (Rd.own [] rfl rfl) (cX (XOp.mulW (a := h) (b := 6364136223846793005) rfl rfl ?_))))))))))))))))
 intro r1
 refine cX (XOp.addW (a := r1) (b := 1442695040888963407) rfl rfl ?_)
 intro r2
 refine cX (XOp.nilCheck rfl (cX (XOp.fieldP (2) runUnderlying123 rfl sizeOf2 (by decide) rfl rfl (cX (XOp.store1 [] _ [bsv, .int .i64 (i), .int .i64 (r2)] sizeOf2 rfl rfl rfl rfl rfl rfl (XL.nil (X.seq ?_)))))))
 refine X.drawG [cellsH cb [bsv, .int .i64 (i), .int .i64 (r2)] 123] L 10 [[], [], [], [], [], [], [], [], [], []] [[], [0], [1], [2], [3], [], [5], [6], [7], [8]] [[], [], [], [], [], [], [], [], [], []] (phiG [fun FF us v => v = ptr cb 0, fun FF us v => v = ptr cb 0, fun FF us v => v = ptr cb 2, fun FF us v => v = (.int .i64 (r2) : Value), fun FF us v => (.int .i64 ((intAt v)) : Value) = v, fun FF us v => v = ptr cb 0, fun FF us v => v = ptr cb 0, fun FF us v => v = ptr cb 2, fun FF us v => v = (.int .i64 (r2) : Value), fun FF us v => (.int .i64 ((intAt v)) : Value) = v]) (ownL [fun us v => [], fun us v => [], fun us v => [], fun us v => [], fun us v => [], fun us v => [], fun us v => [], fun us v => [], fun us v => [], fun us v => []]) mixed rfl rfl (by kernel_rfl) (by kernel_rfl) (MonoG.get (mC (fun le h => h) (mC (fun le h => h) (mC (fun le h => h) (mC (fun le h => h) (mC (fun le h => h) (mC (fun le h => h) (mC (fun le h => h) (mC (fun le h => h) (mC (fun le h => h) (mC (fun le h => h) MonoG.nil))))))))))) ?_ ?_
 ·refine gC (fun vals Fs R leFs hpZ => ?_) ?_
  ·refine XG.op (XOp.move (ptr cb 0) rfl ?_)
   exact ⟨rfl, rfl⟩
  refine gC (fun vals Fs R leFs hpZ => ?_) ?_
  ·replace hbs := hbs.mono leFs
   rw [eS (l := [(0, ptr cb 0)]) ⟨(hpZ 0 (by decide)), trivial⟩]
   refine XG.op (XOp.nilCheck rfl ?_)
   exact ⟨rfl, rfl⟩
  refine gC (fun vals Fs R leFs hpZ => ?_) ?_
  ·rw [eS (l := [(1, ptr cb 0)]) ⟨(hpZ 1 (by decide)), trivial⟩]
   refine XG.op (XOp.fieldP (2) runUnderlying123 rfl sizeOf2 (by decide) rfl rfl ?_)
   exact ⟨rfl, rfl⟩
  refine gC (fun vals Fs R leFs hpZ => ?_) ?_
  ·replace hbs := hbs.mono leFs
   rw [eS (l := [(2, ptr cb 2)]) ⟨(hpZ 2 (by decide)), trivial⟩]
   refine XG.op (XOp.load1 isAgg2 rfl (Rd.own [] rfl rfl) ?_)
   exact ⟨rfl, rfl⟩
  refine gC (fun vals Fs R leFs hpZ => ?_) ?_
  ·rw [eS (l := [(3, (.int .i64 (r2) : Value))]) ⟨(hpZ 3 (by decide)), trivial⟩]
   refine XG.op (XOp.shrW (a := r2) (b := 33) rfl rfl (by decide) ?_)
   intro r5
   exact ⟨rfl, rfl⟩
  refine gC (fun vals Fs R leFs hpZ => ?_) ?_
  ·refine XG.op (XOp.move (ptr cb 0) rfl ?_)
   exact ⟨rfl, rfl⟩
  refine gC (fun vals Fs R leFs hpZ => ?_) ?_
  ·replace hbs := hbs.mono leFs
   rw [eS (l := [(5, ptr cb 0)]) ⟨(hpZ 5 (by decide)), trivial⟩]
   refine XG.op (XOp.nilCheck rfl ?_)
   exact ⟨rfl, rfl⟩
  refine gC (fun vals Fs R leFs hpZ => ?_) ?_
  ·rw [eS (l := [(6, ptr cb 0)]) ⟨(hpZ 6 (by decide)), trivial⟩]
   refine XG.op (XOp.fieldP (2) runUnderlying123 rfl sizeOf2 (by decide) rfl rfl ?_)
   exact ⟨rfl, rfl⟩
  refine gC (fun vals Fs R leFs hpZ => ?_) ?_
  ·replace hbs := hbs.mono leFs
   rw [eS (l := [(7, ptr cb 2)]) ⟨(hpZ 7 (by decide)), trivial⟩]
   refine XG.op (XOp.load1 isAgg2 rfl (Rd.own [] rfl rfl) ?_)
   exact ⟨rfl, rfl⟩
  refine gC (fun vals Fs R leFs hpZ => ?_) ?_
  ·rw [eS (l := [(8, (.int .i64 (r2) : Value))]) ⟨(hpZ 8 (by decide)), trivial⟩]
   refine XG.op (XOp.shrW (a := r2) (b := 45) rfl rfl (by decide) ?_)
   intro r6
   exact ⟨rfl, rfl⟩
  exact stepsG.nil
 intro vals F1 le1 hphi
 have e4 : (.int .i64 ((intAt (vals 4))) : Value) = (vals 4) := hphi 4 (by decide)
 have e9 : (.int .i64 ((intAt (vals 9))) : Value) = (vals 9) := hphi 9 (by decide)
 generalize hu1 : (intAt (vals 4)) = u1 at e4 e9
 generalize hu2 : (intAt (vals 9)) = u2 at e4 e9
 rw [eS (l := [(4, (.int .i64 (u1) : Value)), (9, (.int .i64 (u2) : Value))]) ⟨(e4).symm, (e9).symm, trivial⟩]
 replace hbs := hbs.mono le1
 show XL _ _ _ _ _ _ _ (cellsH cb [bsv, .int .i64 (i), .int .i64 (r2)] 123 :: L)
 refine cX (XOp.xorW (a := u1) (b := u2) rfl rfl ?_)
 intro r7
 refine cX (XOp.andW (a := r7) (b := 255) rfl rfl rfl (by decide) ?_)
 intro r8 hr1
 refine XL.as (.int .i64 (r8)) rfl (XL.nil (X.seq (X.seq ?_)))
 refine X.draw [cellsH cb [bsv, .int .i64 (i), .int .i64 (r2)] 123] L 9 [[], [], [], [], [], [], [], [], []] [[], [0], [1], [2], [], [4], [5], [6], [7]] (phiL [fun us v => v = ptr cb 0, fun us v => v = ptr cb 0, fun us v => v = ptr cb 1, fun us v => v = (.int .i64 (i) : Value), fun us v => v = ptr cb 0, fun us v => v = ptr cb 0, fun us v => v = ptr cb 0, fun us v => v = bsv, fun us v => v = (.int .i64 ((bs.length : Int)) : Value)]) (ownL [fun us v => [], fun us v => [], fun us v => [], fun us v => [], fun us v => [], fun us v => [], fun us v => [], fun us v => [], fun us v => []]) mixed rfl rfl (by kernel_rfl) ?_ ?_
 ·refine pC (fun vals R hpZ => ?_) ?_
  ·refine XG.op (XOp.move (ptr cb 0) rfl ?_)
   exact ⟨rfl, rfl, rfl⟩
  refine pC (fun vals R hpZ => ?_) ?_
  ·rw [eS (l := [(0, ptr cb 0)]) ⟨hpZ 0 (by decide), trivial⟩]
   refine XG.op (XOp.nilCheck rfl ?_)
   exact ⟨rfl, rfl, rfl⟩
  refine pC (fun vals R hpZ => ?_) ?_
  ·rw [eS (l := [(1, ptr cb 0)]) ⟨hpZ 1 (by decide), trivial⟩]
   refine XG.op (XOp.fieldP (1) runUnderlying123 rfl sizeOf3 (by decide) rfl rfl ?_)
   exact ⟨rfl, rfl, rfl⟩
  refine pC (fun vals R hpZ => ?_) ?_
  ·rw [eS (l := [(2, ptr cb 1)]) ⟨hpZ 2 (by decide), trivial⟩]
   refine XG.op (XOp.load1 isAgg3 rfl (Rd.own [] rfl rfl) ?_)
   exact ⟨rfl, rfl, rfl⟩
  refine pC (fun vals R hpZ => ?_) ?_
  ·refine XG.op (XOp.move (ptr cb 0) rfl ?_)
   exact ⟨rfl, rfl, rfl⟩
  refine pC (fun vals R hpZ => ?_) ?_
  ·rw [eS (l := [(4, ptr cb 0)]) ⟨hpZ 4 (by decide), trivial⟩]
   refine XG.op (XOp.nilCheck rfl ?_)
   exact ⟨rfl, rfl, rfl⟩
  refine pC (fun vals R hpZ => ?_) ?_
  ·rw [eS (l := [(5, ptr cb 0)]) ⟨hpZ 5 (by decide), trivial⟩]
   refine XG.op (XOp.fieldP (0) runUnderlying123 rfl sizeOf22 (by decide) rfl rfl ?_)
   exact ⟨rfl, rfl, rfl⟩
  refine pC (fun vals R hpZ => ?_) ?_
  ·rw [eS (l := [(6, ptr cb 0)]) ⟨hpZ 6 (by decide), trivial⟩]
   refine XG.op (XOp.load1 isAgg22 rfl (Rd.own [] rfl rfl) ?_)
   exact ⟨rfl, rfl, rfl⟩
  refine pC (fun vals R hpZ => ?_) ?_
  ·rw [eS (l := [(7, bsv)]) ⟨hpZ 7 (by decide), trivial⟩]
   refine XG.op (XOp.lenS runUnderlying22 rfl hbs.slv ?_)
   exact ⟨rfl, rfl, rfl⟩
  exact stepsP.nil
 intro vals hphi
 rw [eS (l := [(3, (.int .i64 (i) : Value)), (8, (.int .i64 ((bs.length : Int)) : Value))]) ⟨(hphi 3 (by decide)), (hphi 8 (by decide)), trivial⟩]
 show XL _ _ _ _ _ _ _ (cellsH cb [bsv, .int .i64 (i), .int .i64 (r2)] 123 :: L)
 refine cX (XOp.lss rfl rfl (XL.nil ?_))
 refine X.condD (p := (i : Int) < (bs.length : Int)) rfl (fun h1 => ?_) (fun h1 => ?_)
 ·have hrg := hbs.range (i := i.toNat) (by omega)
  refine X.seq ?_
  refine X.draw [cellsH cb [bsv, .int .i64 (i), .int .i64 (r2)] 123] L 12 [[], [], [], [], [], [], [], [], [], [], [], []] [[], [], [1], [2], [3], [], [5], [6], [7], [4, 8], [9], [10]] (phiL [fun us v => v = (.int .i64 (r8) : Value), fun us v => v = ptr cb 0, fun us v => v = ptr cb 0, fun us v => v = ptr cb 0, fun us v => v = bsv, fun us v => v = ptr cb 0, fun us v => v = ptr cb 0, fun us v => v = ptr cb 1, fun us v => v = (.int .i64 (i) : Value), fun us v => v = (.pointer (some (elemA bsv ((i).toNat))) : Value), fun us v => v = (.int .u8 (bs.getD ((i).toNat) 0) : Value), fun us v => v = (.int .i64 (bs.getD ((i).toNat) 0) : Value)]) (ownL [fun us v => [], fun us v => [], fun us v => [], fun us v => [], fun us v => [], fun us v => [], fun us v => [], fun us v => [], fun us v => [], fun us v => [], fun us v => [], fun us v => []]) mixed rfl rfl (by kernel_rfl) ?_ ?_
  ·refine pC (fun vals R hpZ => ?_) ?_
   ·refine XG.op (XOp.move (.int .i64 (r8)) rfl ?_)
    exact ⟨rfl, rfl, rfl⟩
   refine pC (fun vals R hpZ => ?_) ?_
   ·refine XG.op (XOp.move (ptr cb 0) rfl ?_)
    exact ⟨rfl, rfl, rfl⟩
   refine pC (fun vals R hpZ => ?_) ?_
   ·rw [eS (l := [(1, ptr cb 0)]) ⟨hpZ 1 (by decide), trivial⟩]
    refine XG.op (XOp.nilCheck rfl ?_)
    exact ⟨rfl, rfl, rfl⟩
   refine pC (fun vals R hpZ => ?_) ?_
   ·rw [eS (l := [(2, ptr cb 0)]) ⟨hpZ 2 (by decide), trivial⟩]
    refine XG.op (XOp.fieldP (0) runUnderlying123 rfl sizeOf22 (by decide) rfl rfl ?_)
    exact ⟨rfl, rfl, rfl⟩
   refine pC (fun vals R hpZ => ?_) ?_
   ·rw [eS (l := [(3, ptr cb 0)]) ⟨hpZ 3 (by decide), trivial⟩]
    refine XG.op (XOp.load1 isAgg22 rfl (Rd.own [] rfl rfl) ?_)
    exact ⟨rfl, rfl, rfl⟩
   refine pC (fun vals R hpZ => ?_) ?_
   ·refine XG.op (XOp.move (ptr cb 0) rfl ?_)
    exact ⟨rfl, rfl, rfl⟩
   refine pC (fun vals R hpZ => ?_) ?_
   ·rw [eS (l := [(5, ptr cb 0)]) ⟨hpZ 5 (by decide), trivial⟩]
    refine XG.op (XOp.nilCheck rfl ?_)
    exact ⟨rfl, rfl, rfl⟩
   refine pC (fun vals R hpZ => ?_) ?_
   ·rw [eS (l := [(6, ptr cb 0)]) ⟨hpZ 6 (by decide), trivial⟩]
    refine XG.op (XOp.fieldP (1) runUnderlying123 rfl sizeOf3 (by decide) rfl rfl ?_)
    exact ⟨rfl, rfl, rfl⟩
   refine pC (fun vals R hpZ => ?_) ?_
   ·rw [eS (l := [(7, ptr cb 1)]) ⟨hpZ 7 (by decide), trivial⟩]
    refine XG.op (XOp.load1 isAgg3 rfl (Rd.own [] rfl rfl) ?_)
    exact ⟨rfl, rfl, rfl⟩
   refine pC (fun vals R hpZ => ?_) ?_
   ·rw [eS (l := [(4, bsv), (8, (.int .i64 (i) : Value))]) ⟨hpZ 4 (by decide), hpZ 8 (by decide), trivial⟩]
    refine XG.op (XOp.indexS ((i).toNat) runUnderlying22 sizeOf5 rfl rfl (by omega) hbs.slv (by omega) (Nat.mul_one _) ?_)
    exact ⟨rfl, rfl, rfl⟩
   refine pC (fun vals R hpZ => ?_) ?_
   ·rw [eS (l := [(9, (.pointer (some (elemA bsv ((i).toNat))) : Value))]) ⟨hpZ 9 (by decide), trivial⟩]
    refine XG.op (XOp.load1 isAgg5 rfl (hbs.rd (by omega) _) ?_)
    exact ⟨rfl, rfl, rfl⟩
   refine pC (fun vals R hpZ => ?_) ?_
   ·rw [eS (l := [(10, (.int .u8 (bs.getD ((i).toNat) 0) : Value))]) ⟨hpZ 10 (by decide), trivial⟩]
    refine XG.op (XOp.convI (k' := .u8) (a := bs.getD ((i).toNat) 0) (bs.getD ((i).toNat) 0) runUnderlying5 runUnderlying2 rfl (IntWalk.i64_in _ (by omega)) ?_)
    exact ⟨rfl, rfl, rfl⟩
   exact stepsP.nil
  intro vals hphi
  rw [eS (l := [(0, (.int .i64 (r8) : Value)), (11, (.int .i64 (bs.getD ((i).toNat) 0) : Value))]) ⟨(hphi 0 (by decide)), (hphi 11 (by decide)), trivial⟩]
  show XL _ _ _ _ _ _ _ (cellsH cb [bsv, .int .i64 (i), .int .i64 (r2)] 123 :: L)
  refine cX (XOp.addR (r8 + (bs.getD ((i).toNat) 0)) rfl rfl (by omega) (by omega) (cX (XOp.andW (a := r8 + (bs.getD ((i).toNat) 0)) (b := 255) rfl rfl rfl (by decide) ?_)))
  intro r9 hr2
  refine XL.as (.int .i64 (r9)) rfl (XL.nil (X.region (XL.mv (ptr cb 0) rfl (XL.mv (ptr cb 0) rfl (cX (XOp.nilCheck rfl (cX (XOp.fieldP (1) runUnderlying123 rfl sizeOf3 (by decide) rfl rfl (cX (XOp.load1 isAgg3 rfl (Rd.own [] rfl rfl) (cX (XOp.addR (i + 1) rfl rfl (by omega) (by omega) (cX (XOp.nilCheck rfl (cX (XOp.fieldP (1) runUnderlying123 rfl sizeOf3 (by decide) rfl rfl ?_))))))))))))))))
  refine cX (XOp.store1 [] _ [bsv, .int .i64 (i + 1), .int .i64 (r2)] sizeOf3 rfl rfl rfl rfl rfl rfl (XL.nil (X.seq (X.region (XL.mv (.int .i64 (r9)) rfl (XL.as (.int .i64 (r9)) rfl (XL.nil (X.ret (retEnd (L' := cellsH cb [bsv, .int .i64 (i + 1), .int .i64 (r2)] 123 :: L) [.int .i64 (r9)] (.int .i64 (r9)) (.tmp rfl .nil) rfl rF le1 (sC sR) ?_)))))))))
  exact ⟨⟨rfl, _, rfl, by omega⟩, _, _, by omega, by omega, rfl⟩
 refine X.skip (X.seq (X.region (XL.mv (.int .i64 (r8)) rfl (XL.as (.int .i64 (r8)) rfl (XL.nil (X.ret (retEnd (L' := cellsH cb [bsv, .int .i64 (i), .int .i64 (r2)] 123 :: L) [.int .i64 (r8)] (.int .i64 (r8)) (.tmp rfl .nil) rfl rF le1 (sC sR) ?_)))))))
 exact ⟨⟨rfl, _, rfl, by omega⟩, _, _, by omega, by omega, rfl⟩
theorem l1Byte_spec {F : FH} {L : List HP} {cb : Nat} {bsv : Value} {bs : List Int} (hbs : BytesF F bsv bs) (hbl : bs.length ≤ 4000000) : Does prog 161 [ptr cb 0] F (curH .i64 123 cb bsv bs.length :: L) (fun v F' L' => (F = F' ∧ ∃ (x : Int), (.int .i64 x : Value) = v ∧ (0 ≤ x ∧ x ≤ 255)) ∧ curH .i64 123 cb bsv bs.length :: L = L') :=
  Does.cur (Q := fun v F' => F = F' ∧ ∃ (x : Int), (.int .i64 x : Value) = v ∧ (0 ≤ x ∧ x ≤ 255)) fun i h h0 h1 => l1Byte_spec0 hbs hbl h0 h1

/- spec.l1Below -/
theorem l1Below_spec {F : FH} {L : List HP} {cb : Nat} {bsv : Value} {bs : List Int} (hbs : BytesF F bsv bs) (hbl : bs.length ≤ 4000000) {n : Int} (hn : n ≤ 1000000) :
    Does prog 137 [ptr cb 0, .int .i64 (n)] F (curH .i64 123 cb bsv bs.length :: L) (fun v F' L' => (F = F' ∧ ∃ (x : Int), (.int .i64 (x) : Value) = v ∧ (0 ≤ x ∧ (x < n ∨ x = 0))) ∧ curH .i64 123 cb bsv bs.length :: L = L') := by
 refine Does.of_X func137 rfl rfl rfl (X.seq (X.region (XL.as (.int .i64 (0)) rfl (XL.nil (X.seq (X.seq (X.region (XL.mv (.int .i64 (n)) rfl (cX (XOp.leq rfl rfl (XL.nil ?_)))))))))))
 refine X.condD (p := (n : Int) ≤ 0) rfl (fun h1 => ?_) (fun h1 => ?_)
 ·refine X.seq (X.region (XL.as (.int .i64 (0)) rfl (XL.nil (X.ret (thenQ_ret (retEnd (L' := curH .i64 123 cb bsv bs.length :: L) [.int .i64 (0)] (.int .i64 (0)) (.tmp rfl .nil) rfl rF rF (sC sR) ?_))))))
  exact ⟨⟨rfl, _, rfl, by omega⟩, rfl⟩
 refine X.skip (X.seq (X.seq (X.region (XL.mv (.int .i64 (n)) rfl (cX (XOp.leq rfl rfl (XL.nil ?_)))))))
 refine X.condD (p := (n : Int) ≤ 256) rfl (fun h2 => ?_) (fun h2 => ?_)
 ·refine X.seq (X.region (XL.mv (ptr cb 0) rfl (cX (XOp.call (args := [ptr cb 0]) call161 rfl (Does.at [] (l1Byte_spec hbs (by omega))) ?_))))
  rintro _ _ _ _ ⟨⟨rfl, x1, rfl, hr1⟩, rfl⟩
  show XL _ _ _ _ _ _ _ (curH .i64 123 cb bsv bs.length :: L)
  refine XL.mv (.int .i64 (n)) rfl (cX (XOp.remV (a := x1) (b := n) rfl rfl (by omega) (by omega) ?_))
  intro r1 hr2
  refine XL.as (.int .i64 (r1)) rfl (XL.nil (X.ret (thenQ_ret (retEnd (L' := curH .i64 123 cb bsv bs.length :: L) [.int .i64 (r1)] (.int .i64 (r1)) (.tmp rfl .nil) rfl rF rF (sC sR) ?_))))
  exact ⟨⟨rfl, _, rfl, by omega⟩, rfl⟩
 refine X.skip (X.seq (X.region (XL.mv (ptr cb 0) rfl (cX (XOp.call (args := [ptr cb 0]) call161 rfl (Does.at [] (l1Byte_spec hbs (by omega))) ?_)))))
 rintro _ _ _ _ ⟨⟨rfl, x2, rfl, hr3⟩, rfl⟩
 show XL _ _ _ _ _ _ _ (curH .i64 123 cb bsv bs.length :: L)
 refine XL.as (.int .i64 (x2)) rfl (XL.nil (X.seq (X.region (XL.mv (ptr cb 0) rfl (cX (XOp.call (args := [ptr cb 0]) call161 rfl (Does.at [] (l1Byte_spec hbs (by omega))) ?_))))))
 rintro _ _ _ _ ⟨⟨rfl, x3, rfl, hr4⟩, rfl⟩
 show XL _ _ _ _ _ _ _ (curH .i64 123 cb bsv bs.length :: L)
 refine XL.as (.int .i64 (x3)) rfl (XL.nil (X.seq (X.region (XL.mv (ptr cb 0) rfl (cX (XOp.call (args := [ptr cb 0]) call161 rfl (Does.at [] (l1Byte_spec hbs (by omega))) ?_))))))
 rintro _ _ _ _ ⟨⟨rfl, x4, rfl, hr5⟩, rfl⟩
 show XL _ _ _ _ _ _ _ (curH .i64 123 cb bsv bs.length :: L)
 refine XL.as (.int .i64 (x4)) rfl (XL.nil (X.seq (X.region (XL.mv (ptr cb 0) rfl (cX (XOp.call (args := [ptr cb 0]) call161 rfl (Does.at [] (l1Byte_spec hbs (by omega))) ?_))))))
 rintro _ _ _ _ ⟨⟨rfl, x5, rfl, hr6⟩, rfl⟩
 show XL _ _ _ _ _ _ _ (curH .i64 123 cb bsv bs.length :: L)
 refine XL.as (.int .i64 (x5)) rfl (XL.nil (X.seq (X.region (XL.mv (.int .i64 (x2)) rfl (cX (XOp.mulR (x2 * 16777216) rfl rfl (by omega) (by omega) (XL.mv (.int .i64 (x3)) rfl (cX (XOp.mulR (x3 * 65536) rfl rfl (by omega) (by omega) (cX (XOp.addR ((x2 * 16777216) + (x3 * 65536)) rfl rfl (by omega) (by omega) (XL.mv (.int .i64 (x4)) rfl (cX (XOp.mulR (x4 * 256) rfl rfl (by omega) (by omega) (cX (XOp.addR (((x2 * 16777216) + (x3 * 65536)) + (x4 * 256)) rfl rfl (by omega) (by omega) ?_))))))))))))))))
 refine XL.mv (.int .i64 (x5)) rfl (cX (XOp.addR ((((x2 * 16777216) + (x3 * 65536)) + (x4 * 256)) + x5) rfl rfl (by omega) (by omega) (XL.mv (.int .i64 (n)) rfl (cX (XOp.remV (a := (((x2 * 16777216) + (x3 * 65536)) + (x4 * 256)) + x5) (b := n) rfl rfl (by omega) (by omega) ?_)))))
 intro r2 hr7
 refine XL.as (.int .i64 (r2)) rfl (XL.nil (X.ret (retEnd (L' := curH .i64 123 cb bsv bs.length :: L) [.int .i64 (r2)] (.int .i64 (r2)) (.tmp rfl .nil) rfl rF rF (sC sR) ?_)))
 exact ⟨⟨rfl, _, rfl, by omega⟩, rfl⟩

/- spec.l1Once -/
theorem l1Once_spec {F : FH} {L : List HP} {cb : Nat} {bsv : Value} {bs : List Int} (hbs : BytesF F bsv bs) (hbl : bs.length ≤ 4000000) {n : Int} (hn : n ≤ 1000000) :
    Does prog 136 [ptr cb 0, .int .i64 (n)] F (curH .i64 123 cb bsv bs.length :: L) (fun v F' L' => (F = F' ∧ ∃ (b : Bool), (.bool (b) : Value) = v) ∧ curH .i64 123 cb bsv bs.length :: L = L') := by
 refine Does.of_X func136 rfl rfl rfl (X.seq (X.region (XL.as (.bool (false)) rfl (XL.nil (X.seq (X.region (XL.mv (ptr cb 0) rfl (XL.mv (.int .i64 (n)) rfl (cX (XOp.call (args := [ptr cb 0, .int .i64 (n)]) call137 rfl (Does.at [] (l1Below_spec (n := n) hbs (by omega) (hn := (by first | assumption | rfl | omega | simp)))) ?_))))))))))
 rintro _ _ _ _ ⟨⟨rfl, x1, rfl, hr1⟩, rfl⟩
 show XL _ _ _ _ _ _ _ (curH .i64 123 cb bsv bs.length :: L)
 refine cX (XOp.eql rfl rfl (XL.as (.bool (decide ((x1 : Int) = 0))) rfl (XL.nil (X.ret (retEnd (L' := curH .i64 123 cb bsv bs.length :: L) [.bool (decide ((x1 : Int) = 0))] (.bool (decide ((x1 : Int) = 0))) (.tmp rfl .nil) rfl rF rF (sC sR) ?_)))))
 exact ⟨⟨rfl, _, rfl⟩, rfl⟩

/- spec.l1From -/
theorem l1From_spec {F : FH} {L : List HP} {cb : Nat} {bsv : Value} {bs : List Int} (hbs : BytesF F bsv bs) (hbl : bs.length ≤ 4000000) {lo : Int} {hi : Int} (hlo : -1000 ≤ lo ∧ lo ≤ 1000 ∧ -1000 ≤ hi ∧ hi ≤ 900000) :
    Does prog 90 [ptr cb 0, .int .i64 (lo), .int .i64 (hi)] F (curH .i64 123 cb bsv bs.length :: L) (fun v F' L' => (F = F' ∧ ∃ (x : Int), (.int .i64 (x) : Value) = v ∧ (lo ≤ x ∧ (x ≤ hi ∨ x = lo))) ∧ curH .i64 123 cb bsv bs.length :: L = L') := by
 refine Does.of_X func90 rfl rfl rfl (X.seq (X.region (XL.as (.int .i64 (0)) rfl (XL.nil (X.seq (X.region (XL.mv (.int .i64 (lo)) rfl (XL.mv (ptr cb 0) rfl (XL.mv (.int .i64 (hi)) rfl (XL.mv (.int .i64 (lo)) rfl (cX (XOp.subR (hi - lo) rfl rfl (by omega) (by omega) (cX (XOp.addR ((hi - lo) + 1) rfl rfl (by omega) (by omega) ?_))))))))))))))
 refine cX (XOp.call (args := [ptr cb 0, .int .i64 ((hi - lo) + 1)]) call137 rfl (Does.at [] (l1Below_spec (n := (hi - lo) + 1) hbs (by omega) (hn := (by first | assumption | rfl | omega | simp)))) ?_)
 rintro _ _ _ _ ⟨⟨rfl, x1, rfl, hr1⟩, rfl⟩
 show XL _ _ _ _ _ _ _ (curH .i64 123 cb bsv bs.length :: L)
 refine cX (XOp.addR (lo + x1) rfl rfl (by omega) (by omega) (XL.as (.int .i64 (lo + x1)) rfl (XL.nil (X.ret (retEnd (L' := curH .i64 123 cb bsv bs.length :: L) [.int .i64 (lo + x1)] (.int .i64 (lo + x1)) (.tmp rfl .nil) rfl rF rF (sC sR) ?_)))))
 exact ⟨⟨rfl, _, rfl, by omega⟩, rfl⟩

/- spec.l1Odd -/
theorem l1Odd_spec {F : FH} {L : List HP} {cb : Nat} {bsv : Value} {bs : List Int} (hbs : BytesF F bsv bs) (hbl : bs.length ≤ 4000000) :
    Does prog 140 [ptr cb 0] F (curH .i64 123 cb bsv bs.length :: L) (fun v F' L' => (F = F' ∧ ∃ (x : Int), (.int .i64 (x) : Value) = v) ∧ curH .i64 123 cb bsv bs.length :: L = L') := by
 refine Does.of_X func140 rfl rfl rfl (X.seq (X.region (XL.as (.int .i64 (0)) rfl (XL.nil (X.seq (X.region (cX (XOp.buildSlice (s := 1) [.int .i64 (-1), .int .i64 (0), .int .i64 (1), .int .i64 (2147483648), .int .i64 (-2147483648), .int .i64 (1099511627776), .int .i64 (4611686018427387904), .int .i64 (-4611686018427387904), .int .i64 (9223372036854775807), .int .i64 (-9223372036854775808)] [.int .i64 (0)] [(0, [.int .i64 (-1)]), (1, [.int .i64 (0)]), (2, [.int .i64 (1)]), (3, [.int .i64 (2147483648)]), (4, [.int .i64 (-2147483648)]), (5, [.int .i64 (1099511627776)]), (6, [.int .i64 (4611686018427387904)]), (7, [.int .i64 (-4611686018427387904)]), (8, [.int .i64 (9223372036854775807)]), (9, [.int .i64 (-9223372036854775808)])] runUnderlying24 sizeOf2 zeroValue2 rfl (by decide) rfl (.cons rfl (.cons rfl (.cons rfl (.cons rfl (.cons rfl (.cons rfl (.cons rfl (.cons rfl (.cons rfl (.cons rfl CellsAre.nil)))))))))) rfl ?_))))))))
 intro v1 hv1
 show XL _ _ _ _ _ _ _ (intsH 2 v1 ([-1, 0, 1, 2147483648, -2147483648, 1099511627776, 4611686018427387904, -4611686018427387904, 9223372036854775807, -9223372036854775808] : List Int) :: curH .i64 123 cb bsv bs.length :: L)
 have hl10 : ([-1, 0, 1, 2147483648, -2147483648, 1099511627776, 4611686018427387904, -4611686018427387904, 9223372036854775807, -9223372036854775808] : List Int).length = 10 := rfl
 refine XL.mv (ptr cb 0) rfl (cX (XOp.call (args := [ptr cb 0, .int .i64 (10)]) call137 rfl (Does.at [_] (l1Below_spec (n := 10) hbs (by omega) (hn := (by first | assumption | rfl | omega | simp)))) ?_))
 rintro _ _ _ _ ⟨⟨rfl, x1, rfl, hr1⟩, rfl⟩
 show XL _ _ _ _ _ _ _ (intsH 2 v1 ([-1, 0, 1, 2147483648, -2147483648, 1099511627776, 4611686018427387904, -4611686018427387904, 9223372036854775807, -9223372036854775808] : List Int) :: curH .i64 123 cb bsv bs.length :: L)
 refine cX (XOp.indexS ((x1).toNat) runUnderlying24 sizeOf2 rfl rfl (by omega) (intsH.slv [] rfl) (by omega) (Nat.mul_one _) (cX (XOp.load1 isAgg2 rfl (intsH.rd [] rfl (by omega)) (XL.as (.int .i64 (([-1, 0, 1, 2147483648, -2147483648, 1099511627776, 4611686018427387904, -4611686018427387904, 9223372036854775807, -9223372036854775808]).getD ((x1).toNat) 0)) rfl (XL.nil (X.ret (retEnd (L' := curH .i64 123 cb bsv bs.length :: L) [.int .i64 (([-1, 0, 1, 2147483648, -2147483648, 1099511627776, 4611686018427387904, -4611686018427387904, 9223372036854775807, -9223372036854775808]).getD ((x1).toNat) 0)] (.int .i64 (([-1, 0, 1, 2147483648, -2147483648, 1099511627776, 4611686018427387904, -4611686018427387904, 9223372036854775807, -9223372036854775808]).getD ((x1).toNat) 0)) (.tmp rfl .nil) rfl rF rF (sD (sC sR)) ?_)))))))
 exact ⟨⟨rfl, _, rfl⟩, rfl⟩

/- spec.l1DrawSig -/
theorem l1DrawSig_spec {F : FH} {L : List HP} {cb : Nat} {bsv : Value} {bs : List Int} (hbs : BytesF F bsv bs) (hbl : bs.length ≤ 4000000) :
    Does prog 159 [ptr cb 0] F (curH .i64 123 cb bsv bs.length :: L) (fun v F' L' => ∃ a : Value, ((.agg #[a] : Value) = v ∧ IsSl a) ∧ drawnH 2 a (fun ar => sigOk ar = true) :: curH .i64 123 cb bsv bs.length :: L = L') := by
 refine Does.of_X func159 rfl rfl rfl (X.seq (X.region (cX (XOp.alloc [(.slice none 0 0)] zeroValue26 rfl ?_))))
 intro b1
 refine XL.nil (X.seq (X.region (cX (XOp.buildSlice (s := 1) [.int .i64 (2), .int .i64 (1), .int .i64 (0)] [.int .i64 (0)] [(0, [.int .i64 (2)]), (1, [.int .i64 (1)]), (2, [.int .i64 (0)])] runUnderlying24 sizeOf2 zeroValue2 rfl (by decide) rfl (.cons rfl (.cons rfl (.cons rfl CellsAre.nil))) rfl ?_))))
 intro v1 hv1
 refine cX (XOp.build [v1] [(.slice none 0 0)] [(0, 1)] [(0, [v1])] runUnderlying26 zeroValue26 rfl (.cons rfl sizeOf24 PlacesAre.nil) rfl (.cons (cells_one (isSl_lit hv1)) CellsAre.nil) (cX (XOp.alloc [(.slice none 0 0)] zeroValue26 rfl ?_)))
 intro b2
 refine cX (XOp.storeN [] _ [v1] sizeOf26 rfl rfl rfl (ones_cons (one_sl (isSl_lit hv1)) ones_nil) rfl rfl rfl (XL.nil (X.seq (X.seq (X.region (XL.mv (ptr cb 0) rfl (cX (XOp.call (args := [ptr cb 0, .int .i64 (4)]) call136 rfl (Does.at [_, _, _] (l1Once_spec (n := 4) hbs (by omega) (hn := (by first | assumption | rfl | omega | simp)))) ?_))))))))
 rintro _ _ _ _ ⟨⟨rfl, x1, rfl⟩, rfl⟩
 show XL _ _ _ _ _ _ _ (cellsH b2 [v1] 26 :: slH 2 1 v1 3 [.int .i64 (2), .int .i64 (1), .int .i64 (0)] :: cellsH b1 [(.slice none 0 0)] 26 :: curH .i64 123 cb bsv bs.length :: L)
 refine XL.nil ?_
 refine X.cond (t := x1) rfl (fun h1 => ?_) (fun h1 => ?_)
 ·refine X.seq (X.region (cX (XOp.buildSlice (s := 1) [.int .i64 (0)] [.int .i64 (0)] [(0, [.int .i64 (0)])] runUnderlying24 sizeOf2 zeroValue2 rfl (by decide) rfl (.cons rfl CellsAre.nil) rfl ?_)))
  intro v2 hv2
  refine cX (XOp.build [v2] [(.slice none 0 0)] [(0, 1)] [(0, [v2])] runUnderlying26 zeroValue26 rfl (.cons rfl sizeOf24 PlacesAre.nil) rfl (.cons (cells_one (isSl_lit hv2)) CellsAre.nil) (cX (XOp.storeN [_] _ [v2] sizeOf26 rfl rfl rfl (ones_cons (one_sl (isSl_lit hv2)) ones_nil) rfl rfl rfl (XL.nil (X.seq (X.region ?_))))))
  show XL _ _ _ _ _ _ _ (intsH 2 v2 ([0] : List Int) :: cellsH b2 [v2] 26 :: slH 2 1 v1 3 [.int .i64 (2), .int .i64 (1), .int .i64 (0)] :: cellsH b1 [(.slice none 0 0)] 26 :: curH .i64 123 cb bsv bs.length :: L)
  skip
  refine XL.mv (ptr cb 0) rfl (cX (XOp.call (args := [ptr cb 0, .int .i64 (4)]) call137 rfl (Does.at [_, _, _, _] (l1Below_spec (n := 4) hbs (by omega) (hn := (by first | assumption | rfl | omega | simp)))) ?_))
  rintro _ _ _ _ ⟨⟨rfl, x2, rfl, hr1⟩, rfl⟩
  show XL _ _ _ _ _ _ _ (intsH 2 v2 ([0] : List Int) :: cellsH b2 [v2] 26 :: slH 2 1 v1 3 [.int .i64 (2), .int .i64 (1), .int .i64 (0)] :: cellsH b1 [(.slice none 0 0)] 26 :: curH .i64 123 cb bsv bs.length :: L)
  refine XL.as (.int .i64 (x2)) rfl (XL.nil (X.block (X.loop (α := Nat × Value × List Int) (fun xQ => [(0, ptr cb 0), (2, ptr b1 0), (3, ptr b2 0), (4, .int .i64 (((xQ.1 : Nat) : Int)))]) (fun xQ => intsH 2 xQ.2.1 xQ.2.2 :: cellsH b2 [xQ.2.1] 26 :: slH 2 1 v1 3 [.int .i64 (2), .int .i64 (1), .int .i64 (0)] :: cellsH b1 [(.slice none 0 0)] 26 :: curH .i64 123 cb bsv bs.length :: L) (fun xQ F' => F = F' ∧ (IsSl xQ.2.1) ∧ (sigOk xQ.2.2 = true) ∧ (xQ.2.2.length + xQ.1 ≤ 4)) (fun xQ => xQ.1) (x2.toNat, v2, [0]) ⟨rfl, rfl, rfl, (vI (by omega)), trivial⟩ (sC (sC (sC (sC (sC sR))))) ⟨rfl, ((isSl_lit hv2)), ((show sigOk [0] = true from by decide)), (by (try simp only [List.length_cons, List.length_nil]); omega)⟩ ?_)))
  rintro ⟨n, ov, os⟩ rE _ _ ⟨rfl, hov, hso, hon⟩
  show X _ _ _ _ (envs [(0, ptr cb 0), (2, ptr b1 0), (3, ptr b2 0), (4, .int .i64 ((n : Int)))] rE) _ (intsH 2 ov os :: cellsH b2 [ov] 26 :: slH 2 1 v1 3 [.int .i64 (2), .int .i64 (1), .int .i64 (0)] :: cellsH b1 [(.slice none 0 0)] 26 :: curH .i64 123 cb bsv bs.length :: L)
  dsimp only at hov hso hon
  refine X.seq (X.seq (X.region (XL.mv (.int .i64 ((n : Int))) rfl (cX (XOp.gtr rfl rfl (XL.nil ?_))))))
  refine X.condD (p := (n : Int) > 0) rfl (fun h2 => ?_) (fun h2 => ?_)
  ·refine X.skip (X.seq (X.block ?_))
   refine X.drawG [intsH 2 ov os, cellsH b2 [ov] 26, slH 2 1 v1 3 [.int .i64 (2), .int .i64 (1), .int .i64 (0)], cellsH b1 [(.slice none 0 0)] 26, curH .i64 123 cb bsv bs.length] L 5 [[], [], [], [], [3]] [[], [0], [], [2], [3]] [[], [], [], [], []] (phiG [fun FF us v => v = ptr b2 0, fun FF us v => v = ov, fun FF us v => v = ptr cb 0, fun FF us v => (.int .i64 (((intAt v))) : Value) = v ∧ (0 ≤ ((intAt v)) ∧ (((intAt v)) < 3 ∨ ((intAt v)) = 0)), fun FF us v => ∃ b, v = .slice (some ⟨b, 0, none⟩) 1 1]) (ownL [fun us v => [], fun us v => [], fun us v => [], fun us v => [], fun us v => [slH 2 1 v 1 [.int .i64 (((intAt (us.getD 0 undef))))]]]) mixed rfl rfl (by kernel_rfl) (by kernel_rfl) (MonoG.get (mC (fun le h => h) (mC (fun le h => h) (mC (fun le h => h) (mC (fun le h => ⟨h.1, h.2⟩) (mC (fun le h => h) MonoG.nil)))))) ?_ ?_
   ·refine gC (fun vals Fs R leFs hpZ => ?_) ?_
    ·refine XG.op (XOp.fieldP (0) runUnderlying26 rfl sizeOf24 (by decide) rfl rfl ?_)
     exact ⟨rfl, rfl⟩
    refine gC (fun vals Fs R leFs hpZ => ?_) ?_
    ·replace hbs := hbs.mono leFs
     rw [eS (l := [(0, ptr b2 0)]) ⟨(hpZ 0 (by decide)), trivial⟩]
     refine XG.op (XOp.load1 isAgg24 rfl (Rd.own [_] rfl rfl) ?_)
     exact ⟨rfl, rfl⟩
    refine gC (fun vals Fs R leFs hpZ => ?_) ?_
    ·refine XG.op (XOp.move (ptr cb 0) rfl ?_)
     exact ⟨rfl, rfl⟩
    refine gC (fun vals Fs R leFs hpZ => ?_) ?_
    ·replace hbs := hbs.mono leFs
     rw [eS (l := [(2, ptr cb 0)]) ⟨(hpZ 2 (by decide)), trivial⟩]
     refine XG.op (XOp.call (args := [ptr cb 0, .int .i64 (3)]) call137 rfl (Does.at [_, _, _, _] (l1Below_spec (n := 3) hbs (by omega) (hn := (by first | assumption | rfl | omega | simp)))) ?_)
     rintro _ _ _ _ ⟨⟨rfl, x4, rfl, hr3⟩, rfl⟩
     exact ⟨⟨rfl, hr3⟩, rfl⟩
    refine gC (fun vals Fs R leFs hpZ => ?_) ?_
    ·obtain ⟨e3, f3_1hx⟩ := hpZ 3 (by decide)
     rw [eS (l := [(3, (.int .i64 (((intAt (vals 3)))) : Value))]) ⟨(e3).symm, trivial⟩]
     refine XG.op (XOp.buildSlice (s := 1) [.int .i64 (((intAt (vals 3))))] [.int .i64 (0)] [(0, [.int .i64 (((intAt (vals 3))))])] runUnderlying24 sizeOf2 zeroValue2 rfl (by decide) rfl (.cons rfl CellsAre.nil) rfl ?_)
     intro v4 hv4
     exact ⟨hv4, rfl⟩
    exact stepsG.nil
   intro vals F5 le5 hphi
   obtain ⟨e3, f3_1hx⟩ := hphi 3 (by decide)
   have f4 : ∃ b, (vals 4) = .slice (some ⟨b, 0, none⟩) 1 1 := hphi 4 (by decide)
   generalize hu1 : (intAt (vals 3)) = u1 at e3 f3_1hx f4
   generalize hu4 : vals 4 = u2 at e3 f3_1hx f4
   rw [eS (l := [(1, ov), (3, (.int .i64 ((u1)) : Value)), (4, u2)]) ⟨(hphi 1 (by decide)), (e3).symm, hu4, trivial⟩]
   show XL _ _ _ _ _ _ _ (slH 2 1 u2 1 [.int .i64 ((u1))] :: intsH 2 ov os :: cellsH b2 [ov] 26 :: slH 2 1 v1 3 [.int .i64 (2), .int .i64 (1), .int .i64 (0)] :: cellsH b1 [(.slice none 0 0)] 26 :: curH .i64 123 cb bsv bs.length :: L)
   refine cX (XOp.append1 (u := (u1)) [_] _ runUnderlying24 typeInfo2 rfl rfl rfl rfl rfl rfl (SlV.own [] rfl) (Rd.sl [] rfl rfl) (by (try simp only [List.length_append, List.length_nil, List.length_cons, List.length_singleton, List.length_take, List.length_drop]); omega) ?_)
   intro v5 hs1 hn1
   refine cX (XOp.fieldP (0) runUnderlying26 rfl sizeOf24 (by decide) rfl rfl (cX (XOp.store1 [_, _] _ [v5] sizeOf24 rfl rfl (one_sl hs1) rfl rfl rfl (XL.nil (X.region (XL.mv (.int .i64 ((n : Int))) rfl (cX (XOp.subR (((n : Int)) - 1) rfl rfl (by omega) (by omega) (XL.as (.int .i64 (((n : Int)) - 1)) rfl (XL.nil ?_))))))))))
   exact ⟨(n - 1, v5, os ++ [(u1)]), _, FLe.refl _, le5, ⟨rfl, rfl, rfl, (vI (by (try dsimp only); omega)), trivial⟩, (sD (sC (sC (sC (sC (sC sR)))))), ⟨rfl, (hs1), (sigOk_snoc hso (by omega) (by omega)), (by (try dsimp only); rw [List.length_append]; simp only [List.length_singleton]; omega)⟩, (by (try dsimp only); omega)⟩
  refine X.exit (thenQ_exit (thenQ_exit (blockQ_exit (X.seq (X.region (cX (XOp.loadN [ov] isAgg26 sizeOf26 rfl rfl (Rd.ownN [_] rfl rfl) (cX (XOp.storeN [_, _, _] _ [ov] sizeOf26 rfl rfl rfl (ones_cons (one_sl hov) ones_nil) rfl rfl rfl (XL.nil (X.ret (retEnd (L' := drawnH 2 ov (fun ar => sigOk ar = true) :: curH .i64 123 cb bsv bs.length :: L) [.agg #[ov]] (.agg #[ov]) (.cell rfl (loadNV [ov] isAgg26 sizeOf26 rfl (Rd.ownN [_, _, _] rfl rfl)) .nil) rfl rF rF (Sub.trans (sC (sD (sD (sD (sC sR))))) (Sub.keep (drawnH.of (t := os) hso) sR)) ?_))))))))))))
  exact ⟨_, ⟨rfl, hov⟩, rfl⟩
 refine X.skip (X.seq (X.region (cX (XOp.loadN [v1] isAgg26 sizeOf26 rfl rfl (Rd.ownN [] rfl rfl) (cX (XOp.storeN [_, _] _ [v1] sizeOf26 rfl rfl rfl (ones_cons (one_sl (isSl_lit hv1)) ones_nil) rfl rfl rfl (XL.nil (X.ret (retEnd (L' := drawnH 2 v1 (fun ar => sigOk ar = true) :: curH .i64 123 cb bsv bs.length :: L) [.agg #[v1]] (.agg #[v1]) (.cell rfl (loadNV [v1] isAgg26 sizeOf26 rfl (Rd.ownN [_, _] rfl rfl)) .nil) rfl rF rF (Sub.trans (sD (sC (sD (sC sR)))) (Sub.keep (drawnH.of (t := [2, 1, 0]) ((by decide))) sR)) ?_)))))))))
 exact ⟨_, ⟨rfl, (isSl_lit hv1)⟩, rfl⟩

/- spec.l1DrawSigAny -/
theorem l1DrawSigAny_spec {F : FH} {L : List HP} {cb : Nat} {bsv : Value} {bs : List Int} (hbs : BytesF F bsv bs) (hbl : bs.length ≤ 4000000) :
    Does prog 138 [ptr cb 0] F (curH .i64 123 cb bsv bs.length :: L) (fun v F' L' => (∃ (a : Value), ∃ (ar : List Int), (.agg #[a] : Value) = v ∧ (IntsF F' a ar) ∧ (ar.length ≤ 20)) ∧ curH .i64 123 cb bsv bs.length :: L = L') := by
 refine Does.of_X func138 rfl rfl rfl (X.seq (X.region (cX (XOp.alloc [(.slice none 0 0)] zeroValue26 rfl ?_))))
 intro b1
 refine XL.nil (X.seq (X.region (XL.mv (ptr cb 0) rfl (cX (XOp.call (args := [ptr cb 0]) call159 rfl (Does.atO [_] (l1DrawSig_spec hbs (by omega))) ?_)))))
 rintro _ F1 _ le1 ⟨x2, ⟨rfl, hsl1⟩, rfl⟩
 replace hbs := hbs.mono le1
 show XL _ _ _ _ _ _ _ (drawnH 2 x2 (fun ar => sigOk ar = true) :: cellsH b1 [(.slice none 0 0)] 26 :: curH .i64 123 cb bsv bs.length :: L)
 refine XL.undraw [] rfl (fun t1 hq9 => ?_)
 have q1 := hq9
 show XL _ _ _ _ _ _ _ (intsH 2 x2 t1 :: cellsH b1 [(.slice none 0 0)] 26 :: curH .i64 123 cb bsv bs.length :: L)
 have hsl9 := sigOk_spec q1
 refine cX (XOp.alloc [(.slice none 0 0)] zeroValue26 rfl ?_)
 intro b2
 refine cX (XOp.storeN [] _ [x2] sizeOf26 rfl rfl rfl (ones_cons (one_sl hsl1) ones_nil) rfl rfl rfl (XL.nil (X.seq (X.seq (X.region (XL.mv (ptr cb 0) rfl (cX (XOp.call (args := [ptr cb 0, .int .i64 (15)]) call136 rfl (Does.at [_, _, _] (l1Once_spec (n := 15) hbs (by omega) (hn := (by first | assumption | rfl | omega | simp)))) ?_))))))))
 rintro _ _ _ _ ⟨⟨rfl, x3, rfl⟩, rfl⟩
 show XL _ _ _ _ _ _ _ (cellsH b2 [x2] 26 :: intsH 2 x2 t1 :: cellsH b1 [(.slice none 0 0)] 26 :: curH .i64 123 cb bsv bs.length :: L)
 refine XL.nil ?_
 refine X.cond (t := x3) rfl (fun h1 => ?_) (fun h1 => ?_)
 ·refine X.seq (X.region (XL.mv (ptr cb 0) rfl (cX (XOp.call (args := [ptr cb 0, .int .i64 (3)]) call137 rfl (Does.at [_, _, _] (l1Below_spec (n := 3) hbs (by omega) (hn := (by first | assumption | rfl | omega | simp)))) ?_))))
  rintro _ _ _ _ ⟨⟨rfl, x4, rfl, hr1⟩, rfl⟩
  show XL _ _ _ _ _ _ _ (cellsH b2 [x2] 26 :: intsH 2 x2 t1 :: cellsH b1 [(.slice none 0 0)] 26 :: curH .i64 123 cb bsv bs.length :: L)
  refine XL.nil (X.block (X.seq (X.region (cX (XOp.eql rfl rfl (XL.as (.bool (decide ((x4 : Int) = 0))) rfl (XL.nil ?_)))))))
  refine X.condD (p := (x4 : Int) = 0) rfl (fun h2 => ?_) (fun h2 => ?_)
  ·refine X.drawG [cellsH b2 [x2] 26, intsH 2 x2 t1, cellsH b1 [(.slice none 0 0)] 26, curH .i64 123 cb bsv bs.length] L 5 [[], [], [], [], [3]] [[], [0], [], [2], [3]] [[], [], [], [], []] (phiG [fun FF us v => v = ptr b2 0, fun FF us v => v = x2, fun FF us v => v = ptr cb 0, fun FF us v => (.int .i64 (((intAt v))) : Value) = v ∧ ((-1) ≤ ((intAt v)) ∧ (((intAt v)) ≤ 4 ∨ ((intAt v)) = (-1))), fun FF us v => ∃ b, v = .slice (some ⟨b, 0, none⟩) 1 1]) (ownL [fun us v => [], fun us v => [], fun us v => [], fun us v => [], fun us v => [slH 2 1 v 1 [.int .i64 (((intAt (us.getD 0 undef))))]]]) mixed rfl rfl (by kernel_rfl) (by kernel_rfl) (MonoG.get (mC (fun le h => h) (mC (fun le h => h) (mC (fun le h => h) (mC (fun le h => ⟨h.1, h.2⟩) (mC (fun le h => h) MonoG.nil)))))) ?_ ?_
   ·refine gC (fun vals Fs R leFs hpZ => ?_) ?_
    ·refine XG.op (XOp.fieldP (0) runUnderlying26 rfl sizeOf24 (by decide) rfl rfl ?_)
     exact ⟨rfl, rfl⟩
    refine gC (fun vals Fs R leFs hpZ => ?_) ?_
    ·replace hbs := hbs.mono leFs
     rw [eS (l := [(0, ptr b2 0)]) ⟨(hpZ 0 (by decide)), trivial⟩]
     refine XG.op (XOp.load1 isAgg24 rfl (Rd.own [] rfl rfl) ?_)
     exact ⟨rfl, rfl⟩
    refine gC (fun vals Fs R leFs hpZ => ?_) ?_
    ·refine XG.op (XOp.move (ptr cb 0) rfl ?_)
     exact ⟨rfl, rfl⟩
    refine gC (fun vals Fs R leFs hpZ => ?_) ?_
    ·replace hbs := hbs.mono leFs
     rw [eS (l := [(2, ptr cb 0)]) ⟨(hpZ 2 (by decide)), trivial⟩]
     refine XG.op (XOp.call (args := [ptr cb 0, .int .i64 (-1), .int .i64 (4)]) call90 rfl (Does.at [_, _, _] (l1From_spec (lo := -1) (hi := 4) hbs (by omega) (hlo := (by first | assumption | rfl | omega | simp)))) ?_)
     rintro _ _ _ _ ⟨⟨rfl, x6, rfl, hr3⟩, rfl⟩
     exact ⟨⟨rfl, hr3⟩, rfl⟩
    refine gC (fun vals Fs R leFs hpZ => ?_) ?_
    ·obtain ⟨e3, f3_1hx⟩ := hpZ 3 (by decide)
     replace hbs := hbs.mono leFs
     rw [eS (l := [(3, (.int .i64 (((intAt (vals 3)))) : Value))]) ⟨(e3).symm, trivial⟩]
     refine XG.op (XOp.buildSlice (s := 1) [.int .i64 (((intAt (vals 3))))] [.int .i64 (0)] [(0, [.int .i64 (((intAt (vals 3))))])] runUnderlying24 sizeOf2 zeroValue2 rfl (by decide) rfl (.cons rfl CellsAre.nil) rfl ?_)
     intro v2 hv2
     exact ⟨hv2, rfl⟩
    exact stepsG.nil
   intro vals F6 le6 hphi
   obtain ⟨e3, f3_1hx⟩ := hphi 3 (by decide)
   have f4 : ∃ b, (vals 4) = .slice (some ⟨b, 0, none⟩) 1 1 := hphi 4 (by decide)
   generalize hu1 : (intAt (vals 3)) = u1 at e3 f3_1hx f4
   generalize hu4 : vals 4 = u2 at e3 f3_1hx f4
   rw [eS (l := [(1, x2), (3, (.int .i64 ((u1)) : Value)), (4, u2)]) ⟨(hphi 1 (by decide)), (e3).symm, hu4, trivial⟩]
   replace hbs := hbs.mono le6
   show XL _ _ _ _ _ _ _ (slH 2 1 u2 1 [.int .i64 ((u1))] :: cellsH b2 [x2] 26 :: intsH 2 x2 t1 :: cellsH b1 [(.slice none 0 0)] 26 :: curH .i64 123 cb bsv bs.length :: L)
   refine cX (XOp.append1 (u := (u1)) [_, _] _ runUnderlying24 typeInfo2 rfl rfl rfl rfl rfl rfl (SlV.own [] rfl) (Rd.sl [] rfl rfl) (by (try simp only [List.length_append, List.length_nil, List.length_cons, List.length_singleton, List.length_take, List.length_drop]); omega) ?_)
   intro v3 hs1 hn1
   refine cX (XOp.fieldP (0) runUnderlying26 rfl sizeOf24 (by decide) rfl rfl (cX (XOp.store1 [_] _ [v3] sizeOf24 rfl rfl (one_sl hs1) rfl rfl rfl (XL.nil (X.seq (X.region (cX (XOp.loadN [v3] isAgg26 sizeOf26 rfl rfl (Rd.ownN [_] rfl rfl) (cX (XOp.storeN [_, _, _] _ [v3] sizeOf26 rfl rfl rfl (ones_cons (one_sl hs1) ones_nil) rfl rfl rfl (XL.nil (X.freezeF [_, _] _ _ rfl (fun F7 le7 hz1 => ?_)))))))))))))
   replace hbs := hbs.mono le7
   have hf1 : IntsF F7 v3 (t1 ++ [(u1)]) := intsH.fz (xs := t1 ++ [(u1)]) hz1.fz
   refine X.ret (retEnd (L' := curH .i64 123 cb bsv bs.length :: L) [.agg #[v3]] (.agg #[v3]) (.cell rfl (loadNV [v3] isAgg26 sizeOf26 rfl (Rd.ownN [_, _] rfl rfl)) .nil) rfl (FLe.trans (FLe.trans le1 le6) le7) rF (sD (sD (sD (sC sR)))) ?_)
   exact ⟨⟨_, _, rfl, hf1, by (have h9 := sigOk_spec q1); (try simp only [List.length_append, List.length_cons, List.length_nil, List.length_replicate]); omega⟩, rfl⟩
  refine X.seq (X.region (cX (XOp.eql rfl rfl (XL.as (.bool (decide ((x4 : Int) = 1))) rfl (XL.nil ?_)))))
  refine X.condD (p := (x4 : Int) = 1) rfl (fun h3 => ?_) (fun h3 => ?_)
  ·refine X.region (cX (XOp.buildSlice (s := 1) [] [.int .i64 (0)] [] runUnderlying24 sizeOf2 zeroValue2 rfl (by decide) rfl CellsAre.nil rfl ?_))
   intro v4 hv3
   refine cX (XOp.fieldP (0) runUnderlying26 rfl sizeOf24 (by decide) rfl rfl (cX (XOp.store1 [_] _ [v4] sizeOf24 rfl rfl (one_sl (isSl_lit hv3)) rfl rfl rfl (XL.nil (X.seq (X.region (cX (XOp.loadN [v4] isAgg26 sizeOf26 rfl rfl (Rd.ownN [_] rfl rfl) (cX (XOp.storeN [_, _, _] _ [v4] sizeOf26 rfl rfl rfl (ones_cons (one_sl (isSl_lit hv3)) ones_nil) rfl rfl rfl (XL.nil ?_)))))))))))
   show X _ _ _ _ _ _ (intsH 2 v4 ([] : List Int) :: cellsH b2 [v4] 26 :: intsH 2 x2 t1 :: cellsH b1 [v4] 26 :: curH .i64 123 cb bsv bs.length :: L)
   refine X.freezeF [] _ _ rfl (fun F8 le8 hz2 => ?_)
   replace hbs := hbs.mono le8
   have hf2 : IntsF F8 v4 ([]) := intsH.fz (xs := []) hz2.fz
   refine X.ret (retEnd (L' := curH .i64 123 cb bsv bs.length :: L) [.agg #[v4]] (.agg #[v4]) (.cell rfl (loadNV [v4] isAgg26 sizeOf26 rfl (Rd.ownN [_, _] rfl rfl)) .nil) rfl (FLe.trans le1 le8) rF (sD (sD (sD (sC sR)))) ?_)
   exact ⟨⟨_, _, rfl, hf2, by (have h9 := sigOk_spec q1); (try simp only [List.length_append, List.length_cons, List.length_nil, List.length_replicate]); omega⟩, rfl⟩
  refine X.seq (X.region (cX (XOp.eql rfl rfl (XL.as (.bool (decide ((x4 : Int) = 2))) rfl (XL.nil ?_)))))
  refine X.condD (p := (x4 : Int) = 2) rfl (fun h4 => ?_) (fun h4 => ?_)
  ·refine X.region (XL.mv (ptr cb 0) rfl (cX (XOp.call (args := [ptr cb 0, .int .i64 (2)]) call137 rfl (Does.at [_, _, _] (l1Below_spec (n := 2) hbs (by omega) (hn := (by first | assumption | rfl | omega | simp)))) ?_)))
   rintro _ _ _ _ ⟨⟨rfl, x7, rfl, hr4⟩, rfl⟩
   show XL _ _ _ _ _ _ _ (cellsH b2 [x2] 26 :: intsH 2 x2 t1 :: cellsH b1 [(.slice none 0 0)] 26 :: curH .i64 123 cb bsv bs.length :: L)
   refine cX (XOp.addR (((8 + (x7).toNat : Nat) : Int)) rfl rfl (by omega) (by omega) (cX (XOp.makeSlice (n := 8 + (x7).toNat) (bytes := 8) [.int .i64 (0)] runUnderlying24 sizeOf2 typeInfo2 rfl zeroValue2 rfl rfl rfl rfl (by omega) (by omega) ?_)))
   intro v5 hv4
   rw [intsH_zeros]
   refine cX (XOp.fieldP (0) runUnderlying26 rfl sizeOf24 (by decide) rfl rfl (cX (XOp.store1 [_] _ [v5] sizeOf24 rfl rfl (one_sl (isSl_lit hv4)) rfl rfl rfl (XL.nil (X.seq (X.region (cX (XOp.loadN [v5] isAgg26 sizeOf26 rfl rfl (Rd.ownN [_] rfl rfl) (cX (XOp.storeN [_, _, _] _ [v5] sizeOf26 rfl rfl rfl (ones_cons (one_sl (isSl_lit hv4)) ones_nil) rfl rfl rfl (XL.nil (X.freezeF [] _ _ rfl (fun F10 le10 hz3 => ?_)))))))))))))
   have hf3 : IntsF F10 v5 ((List.replicate (8 + (x7).toNat) 0)) := intsH.fz (xs := (List.replicate (8 + (x7).toNat) 0)) hz3.fz
   refine X.ret (retEnd (L' := curH .i64 123 cb bsv bs.length :: L) [.agg #[v5]] (.agg #[v5]) (.cell rfl (loadNV [v5] isAgg26 sizeOf26 rfl (Rd.ownN [_, _] rfl rfl)) .nil) rfl (FLe.trans le1 le10) rF (sD (sD (sD (sC sR)))) ?_)
   exact ⟨⟨_, _, rfl, hf3, by (have h9 := sigOk_spec q1); (try simp only [List.length_append, List.length_cons, List.length_nil, List.length_replicate]); omega⟩, rfl⟩
  refine X.skip (X.seq (X.region (cX (XOp.loadN [x2] isAgg26 sizeOf26 rfl rfl (Rd.ownN [] rfl rfl) (cX (XOp.storeN [_, _] _ [x2] sizeOf26 rfl rfl rfl (ones_cons (one_sl hsl1) ones_nil) rfl rfl rfl (XL.nil (X.freezeF [_] _ _ rfl (fun F11 le11 hz4 => ?_)))))))))
  have hf4 : IntsF F11 x2 t1 := intsH.fz (xs := t1) hz4.fz
  refine X.ret (retEnd (L' := curH .i64 123 cb bsv bs.length :: L) [.agg #[x2]] (.agg #[x2]) (.cell rfl (loadNV [x2] isAgg26 sizeOf26 rfl (Rd.ownN [_] rfl rfl)) .nil) rfl (FLe.trans le1 le11) rF (sD (sD (sC sR))) ?_)
  exact ⟨⟨_, _, rfl, hf4, by (have h9 := sigOk_spec q1); (try simp only [List.length_append, List.length_cons, List.length_nil, List.length_replicate]); omega⟩, rfl⟩
 refine X.skip (X.seq (X.region (cX (XOp.loadN [x2] isAgg26 sizeOf26 rfl rfl (Rd.ownN [] rfl rfl) (cX (XOp.storeN [_, _] _ [x2] sizeOf26 rfl rfl rfl (ones_cons (one_sl hsl1) ones_nil) rfl rfl rfl (XL.nil (X.freezeF [_] _ _ rfl (fun F12 le12 hz5 => ?_)))))))))
 have hf5 : IntsF F12 x2 t1 := intsH.fz (xs := t1) hz5.fz
 refine X.ret (retEnd (L' := curH .i64 123 cb bsv bs.length :: L) [.agg #[x2]] (.agg #[x2]) (.cell rfl (loadNV [x2] isAgg26 sizeOf26 rfl (Rd.ownN [_] rfl rfl)) .nil) rfl (FLe.trans le1 le12) rF (sD (sD (sC sR))) ?_)
 exact ⟨⟨_, _, rfl, hf5, by (have h9 := sigOk_spec q1); (try simp only [List.length_append, List.length_cons, List.length_nil, List.length_replicate]); omega⟩, rfl⟩

/- spec.l1DrawTerm -/
theorem l1DrawTerm_spec_step {dp : Nat} (ih : ∀ m : Nat, m < dp → ∀ {F : FH} {L : List HP} {cb : Nat} {bsv : Value} {bs : List Int} (hbs : BytesF F bsv bs) (hbl : bs.length ≤ 4000000) {arv : Value} {ar : List Int} (har : IntsF F arv ar) {vs : Int} (hso : sigOk ar = true) (hdp : m ≤ 5) (hvs : 0 ≤ vs ∧ vs ≤ 24), Does prog 139 [ptr cb 0, .agg #[arv], .int .i64 ((m : Int)), .int .i64 (vs)] F (curH .i64 123 cb bsv bs.length :: L) (fun v F' L' => ∃ a : Value, ((a : Value) = v ∧ IsSl a) ∧ drawnH 2 a (fun t => goodT ar t ∧ 1 ≤ t.length ∧ t.length ≤ szT m) :: curH .i64 123 cb bsv bs.length :: L = L')) {F : FH} {L : List HP} {cb : Nat} {bsv : Value} {bs : List Int} (hbs : BytesF F bsv bs) (hbl : bs.length ≤ 4000000) {arv : Value} {ar : List Int} (har : IntsF F arv ar) {vs : Int} (hso : sigOk ar = true) (hdp : dp ≤ 5) (hvs : 0 ≤ vs ∧ vs ≤ 24) :
    Does prog 139 [ptr cb 0, .agg #[arv], .int .i64 (((dp : Nat) : Int)), .int .i64 (vs)] F (curH .i64 123 cb bsv bs.length :: L) (fun v F' L' => ∃ a : Value, ((a : Value) = v ∧ IsSl a) ∧ drawnH 2 a (fun t => goodT ar t ∧ 1 ≤ t.length ∧ t.length ≤ szT dp) :: curH .i64 123 cb bsv bs.length :: L = L') := by
 refine Does.of_X func139 rfl rfl rfl ?_
 have hz9 := szT_le (d := dp - 1) (e := 4) (by omega)
 have hz8 : szT 4 = 121 := rfl
 have hz7 := szT_pos (dp - 1)
 have hsl := sigOk_spec hso
 refine X.seq (X.region (cX (XOp.box [arv] rfl rfl ?_)))
 intro b1
 refine XL.as ((.slice none 0 0)) rfl (XL.nil (X.seq (X.seq (X.region (XL.mv (.int .i64 (((dp : Nat) : Int))) rfl (cX (XOp.leq rfl rfl (XL.mv (.bool (decide ((((dp : Nat) : Int) : Int) ≤ 1))) rfl ?_))))))))
 by_cases h1 : (((dp : Nat) : Int) : Int) ≤ 1
 ·refine XL.no (t := 15) rfl (vT h1) (XL.no (t := 15) rfl (vT h1) (cX (XOp.pickT (.bool (true)) (vT h1) rfl (XL.nil (X.condT rfl (X.seq (X.seq (X.region (XL.mv (.int .i64 (vs)) rfl (cX (XOp.gtr rfl rfl (XL.mv (.bool (decide ((vs : Int) > 0))) rfl ?_))))))))))))
  by_cases h2 : (vs : Int) > 0
  ·refine XL.yes (t := 21) rfl (vT h2) (XOp.move (ptr cb 0) rfl (XL.yes (t := 21) rfl (vT h2) (XOp.call (args := [ptr cb 0, .int .i64 (2)]) call136 rfl (Does.at [_] (l1Once_spec (n := 2) hbs (by omega) (hn := (by first | assumption | rfl | omega | simp)))) ?_)))
   rintro _ _ _ _ ⟨⟨rfl, x1, rfl⟩, rfl⟩
   show XL _ _ _ _ _ _ _ (cellsH b1 [arv] 26 :: curH .i64 123 cb bsv bs.length :: L)
   refine cX (XOp.pickT (.bool (x1)) (vT h2) rfl (XL.nil ?_))
   refine X.cond (t := x1) rfl (fun h3 => ?_) (fun h3 => ?_)
   ·refine X.seq (X.region (XL.mv (ptr cb 0) rfl (XL.mv (.int .i64 (vs)) rfl (cX (XOp.call (args := [ptr cb 0, .int .i64 (vs)]) call137 rfl (Does.at [_] (l1Below_spec (n := vs) hbs (by omega) (hn := (by first | assumption | rfl | omega | simp)))) ?_)))))
    rintro _ _ _ _ ⟨⟨rfl, x2, rfl, hr1⟩, rfl⟩
    show XL _ _ _ _ _ _ _ (cellsH b1 [arv] 26 :: curH .i64 123 cb bsv bs.length :: L)
    refine cX (XOp.subR ((-1) - x2) rfl rfl (by omega) (by omega) (cX (XOp.buildSlice (s := 1) [.int .i64 ((-1) - x2)] [.int .i64 (0)] [(0, [.int .i64 ((-1) - x2)])] runUnderlying24 sizeOf2 zeroValue2 rfl (by decide) rfl (.cons rfl CellsAre.nil) rfl ?_)))
    intro v1 hv1
    refine XL.as (v1) rfl (XL.nil (X.ret (thenQ_ret (thenQ_ret (retEnd (L' := drawnH 2 v1 (fun t => goodT ar t ∧ 1 ≤ t.length ∧ t.length ≤ szT dp) :: curH .i64 123 cb bsv bs.length :: L) [v1] (v1) (.tmp rfl .nil) rfl rF rF (Sub.trans (sC (sD (sC sR))) (Sub.keep (drawnH.of (t := [(-1) - x2]) (⟨goodT.var (by omega) (by omega), Nat.le_refl _, szT_pos dp⟩)) sR)) ?_)))))
    exact ⟨_, ⟨rfl, (isSl_lit hv1)⟩, rfl⟩
   refine X.skip (X.seq (X.seq (X.region (cX (XOp.fieldP (0) runUnderlying26 rfl sizeOf24 (by decide) rfl rfl (cX (XOp.load1 isAgg24 rfl (Rd.own [] rfl rfl) (cX (XOp.lenS runUnderlying24 rfl har.slv (cX (XOp.subR (((((ar).length) - 1 : Nat) : Int)) rfl rfl (by omega) (by omega) (XL.as (.int .i64 (((((ar).length) - 1 : Nat) : Int))) rfl (XL.nil (X.block (X.loop (α := Nat) (fun j => [(5, ptr b1 0), (9, .int .i64 ((j : Int) - 1))]) (fun j => cellsH b1 [arv] 26 :: curH .i64 123 cb bsv bs.length :: L) (fun j F' => F = F' ∧ (j ≤ ar.length)) (fun j => j) ar.length ⟨rfl, (vI (by omega)), trivial⟩ (sC (sC sR)) ⟨rfl, (Nat.le_refl _)⟩ ?_)))))))))))))))
   rintro j rE _ _ ⟨rfl, hj⟩
   show X _ _ _ _ (envs [(5, ptr b1 0), (9, .int .i64 ((j : Int) - 1))] rE) _ (cellsH b1 [arv] 26 :: curH .i64 123 cb bsv bs.length :: L)
   refine X.seq (X.seq (X.region (XL.mv (.int .i64 ((j : Int) - 1)) rfl (cX (XOp.geq rfl rfl (XL.nil ?_))))))
   refine X.condD (p := ((j : Int) - 1 : Int) ≥ 0) rfl (fun h4 => ?_) (fun h4 => ?_)
   ·refine X.skip (X.seq (X.block (X.seq (X.region (cX (XOp.fieldP (0) runUnderlying26 rfl sizeOf24 (by decide) rfl rfl (cX (XOp.load1 isAgg24 rfl (Rd.own [] rfl rfl) (XL.mv (.int .i64 ((j : Int) - 1)) rfl (cX (XOp.indexS (((j : Int) - 1).toNat) runUnderlying24 sizeOf2 rfl rfl (by omega) har.slv (by omega) (Nat.mul_one _) (cX (XOp.load1 isAgg2 rfl (har.rd (by omega)) (cX (XOp.eql rfl rfl (XL.nil ?_))))))))))))))))
    refine X.condD (p := (ar.getD (((j : Int) - 1).toNat) 0 : Int) = 0) rfl (fun h5 => ?_) (fun h5 => ?_)
    ·refine X.seq (X.region (XL.mv (.int .i64 ((j : Int) - 1)) rfl (cX (XOp.buildSlice (s := 1) [.int .i64 ((j : Int) - 1)] [.int .i64 (0)] [(0, [.int .i64 ((j : Int) - 1)])] runUnderlying24 sizeOf2 zeroValue2 rfl (by decide) rfl (.cons rfl CellsAre.nil) rfl ?_))))
     intro v2 hv2
     refine XL.as (v2) rfl (XL.nil (X.ret (blockQ_ret (thenQ_ret (thenQ_ret (blockQ_ret (thenQ_ret (thenQ_ret (retEnd (L' := drawnH 2 v2 (fun t => goodT ar t ∧ 1 ≤ t.length ∧ t.length ≤ szT dp) :: curH .i64 123 cb bsv bs.length :: L) [v2] (v2) (.tmp rfl .nil) rfl rF rF (Sub.trans (sC (sD (sC sR))) (Sub.keep (drawnH.of (t := [(j : Int) - 1]) (⟨goodT.one (by omega) (by omega) (by rw [arity, if_neg (by omega)]; omega), Nat.le_refl _, szT_pos dp⟩)) sR)) ?_)))))))))
     exact ⟨_, ⟨rfl, (isSl_lit hv2)⟩, rfl⟩
    refine X.skip (X.region (XL.mv (.int .i64 ((j : Int) - 1)) rfl (cX (XOp.subR (((j : Int) - 1) - 1) rfl rfl (by omega) (by omega) (XL.as (.int .i64 (((j : Int) - 1) - 1)) rfl (XL.nil ?_))))))
    exact ⟨j - 1, _, FLe.refl _, rF, ⟨rfl, (vI (by (try dsimp only); omega)), trivial⟩, (sC (sC sR)), ⟨rfl, (by (try dsimp only) <;> omega)⟩, (by (try dsimp only); omega)⟩
   refine X.exit (thenQ_exit (thenQ_exit (blockQ_exit (X.seq (X.region (cX (XOp.buildSlice (s := 1) [.int .i64 (-1)] [.int .i64 (0)] [(0, [.int .i64 (-1)])] runUnderlying24 sizeOf2 zeroValue2 rfl (by decide) rfl (.cons rfl CellsAre.nil) rfl ?_)))))))
   intro v3 hv3
   refine XL.as (v3) rfl (XL.nil (X.ret (thenQ_ret (retEnd (L' := drawnH 2 v3 (fun t => goodT ar t ∧ 1 ≤ t.length ∧ t.length ≤ szT dp) :: curH .i64 123 cb bsv bs.length :: L) [v3] (v3) (.tmp rfl .nil) rfl rF rF (Sub.trans (sC (sD (sC sR))) (Sub.keep (drawnH.of (t := [-1]) (⟨goodT.var (by omega) (by omega), Nat.le_refl _, szT_pos dp⟩)) sR)) ?_))))
   exact ⟨_, ⟨rfl, (isSl_lit hv3)⟩, rfl⟩
  refine XL.no (t := 21) rfl (vF h2) (XL.no (t := 21) rfl (vF h2) (cX (XOp.pickF (.bool (false)) (vF h2) rfl (XL.nil (X.condF rfl (X.skip (X.seq (X.seq (X.region (cX (XOp.fieldP (0) runUnderlying26 rfl sizeOf24 (by decide) rfl rfl (cX (XOp.load1 isAgg24 rfl (Rd.own [] rfl rfl) (cX (XOp.lenS runUnderlying24 rfl har.slv (cX (XOp.subR (((((ar).length) - 1 : Nat) : Int)) rfl rfl (by omega) (by omega) ?_)))))))))))))))))
  refine XL.as (.int .i64 (((((ar).length) - 1 : Nat) : Int))) rfl (XL.nil (X.block (X.loop (α := Nat) (fun j => [(5, ptr b1 0), (9, .int .i64 ((j : Int) - 1))]) (fun j => cellsH b1 [arv] 26 :: curH .i64 123 cb bsv bs.length :: L) (fun j F' => F = F' ∧ (j ≤ ar.length)) (fun j => j) ar.length ⟨rfl, (vI (by omega)), trivial⟩ (sC (sC sR)) ⟨rfl, (Nat.le_refl _)⟩ ?_)))
  rintro j rE _ _ ⟨rfl, hj⟩
  show X _ _ _ _ (envs [(5, ptr b1 0), (9, .int .i64 ((j : Int) - 1))] rE) _ (cellsH b1 [arv] 26 :: curH .i64 123 cb bsv bs.length :: L)
  refine X.seq (X.seq (X.region (XL.mv (.int .i64 ((j : Int) - 1)) rfl (cX (XOp.geq rfl rfl (XL.nil ?_))))))
  refine X.condD (p := ((j : Int) - 1 : Int) ≥ 0) rfl (fun h6 => ?_) (fun h6 => ?_)
  ·refine X.skip (X.seq (X.block (X.seq (X.region (cX (XOp.fieldP (0) runUnderlying26 rfl sizeOf24 (by decide) rfl rfl (cX (XOp.load1 isAgg24 rfl (Rd.own [] rfl rfl) (XL.mv (.int .i64 ((j : Int) - 1)) rfl (cX (XOp.indexS (((j : Int) - 1).toNat) runUnderlying24 sizeOf2 rfl rfl (by omega) har.slv (by omega) (Nat.mul_one _) (cX (XOp.load1 isAgg2 rfl (har.rd (by omega)) (cX (XOp.eql rfl rfl (XL.nil ?_))))))))))))))))
   refine X.condD (p := (ar.getD (((j : Int) - 1).toNat) 0 : Int) = 0) rfl (fun h7 => ?_) (fun h7 => ?_)
   ·refine X.seq (X.region (XL.mv (.int .i64 ((j : Int) - 1)) rfl (cX (XOp.buildSlice (s := 1) [.int .i64 ((j : Int) - 1)] [.int .i64 (0)] [(0, [.int .i64 ((j : Int) - 1)])] runUnderlying24 sizeOf2 zeroValue2 rfl (by decide) rfl (.cons rfl CellsAre.nil) rfl ?_))))
    intro v4 hv4
    refine XL.as (v4) rfl (XL.nil (X.ret (blockQ_ret (thenQ_ret (thenQ_ret (blockQ_ret (thenQ_ret (thenQ_ret (retEnd (L' := drawnH 2 v4 (fun t => goodT ar t ∧ 1 ≤ t.length ∧ t.length ≤ szT dp) :: curH .i64 123 cb bsv bs.length :: L) [v4] (v4) (.tmp rfl .nil) rfl rF rF (Sub.trans (sC (sD (sC sR))) (Sub.keep (drawnH.of (t := [(j : Int) - 1]) (⟨goodT.one (by omega) (by omega) (by rw [arity, if_neg (by omega)]; omega), Nat.le_refl _, szT_pos dp⟩)) sR)) ?_)))))))))
    exact ⟨_, ⟨rfl, (isSl_lit hv4)⟩, rfl⟩
   refine X.skip (X.region (XL.mv (.int .i64 ((j : Int) - 1)) rfl (cX (XOp.subR (((j : Int) - 1) - 1) rfl rfl (by omega) (by omega) (XL.as (.int .i64 (((j : Int) - 1) - 1)) rfl (XL.nil ?_))))))
   exact ⟨j - 1, _, FLe.refl _, rF, ⟨rfl, (vI (by (try dsimp only); omega)), trivial⟩, (sC (sC sR)), ⟨rfl, (by (try dsimp only) <;> omega)⟩, (by (try dsimp only); omega)⟩
  refine X.exit (thenQ_exit (thenQ_exit (blockQ_exit (X.seq (X.region (cX (XOp.buildSlice (s := 1) [.int .i64 (-1)] [.int .i64 (0)] [(0, [.int .i64 (-1)])] runUnderlying24 sizeOf2 zeroValue2 rfl (by decide) rfl (.cons rfl CellsAre.nil) rfl ?_)))))))
  intro v5 hv5
  refine XL.as (v5) rfl (XL.nil (X.ret (thenQ_ret (retEnd (L' := drawnH 2 v5 (fun t => goodT ar t ∧ 1 ≤ t.length ∧ t.length ≤ szT dp) :: curH .i64 123 cb bsv bs.length :: L) [v5] (v5) (.tmp rfl .nil) rfl rF rF (Sub.trans (sC (sD (sC sR))) (Sub.keep (drawnH.of (t := [-1]) (⟨goodT.var (by omega) (by omega), Nat.le_refl _, szT_pos dp⟩)) sR)) ?_))))
  exact ⟨_, ⟨rfl, (isSl_lit hv5)⟩, rfl⟩
 refine XL.yes (t := 15) rfl (vF h1) (XOp.move (ptr cb 0) rfl (XL.yes (t := 15) rfl (vF h1) (XOp.call (args := [ptr cb 0, .int .i64 (4)]) call136 rfl (Does.at [_] (l1Once_spec (n := 4) hbs (by omega) (hn := (by first | assumption | rfl | omega | simp)))) ?_)))
 rintro _ _ _ _ ⟨⟨rfl, x3, rfl⟩, rfl⟩
 show XL _ _ _ _ _ _ _ (cellsH b1 [arv] 26 :: curH .i64 123 cb bsv bs.length :: L)
 refine cX (XOp.pickF (.bool (x3)) (vF h1) rfl (XL.nil ?_))
 refine X.cond (t := x3) rfl (fun h8 => ?_) (fun h8 => ?_)
 ·refine X.seq (X.seq (X.region (XL.mv (.int .i64 (vs)) rfl (cX (XOp.gtr rfl rfl (XL.mv (.bool (decide ((vs : Int) > 0))) rfl ?_))))))
  by_cases h9 : (vs : Int) > 0
  ·refine XL.yes (t := 21) rfl (vT h9) (XOp.move (ptr cb 0) rfl (XL.yes (t := 21) rfl (vT h9) (XOp.call (args := [ptr cb 0, .int .i64 (2)]) call136 rfl (Does.at [_] (l1Once_spec (n := 2) hbs (by omega) (hn := (by first | assumption | rfl | omega | simp)))) ?_)))
   rintro _ _ _ _ ⟨⟨rfl, x4, rfl⟩, rfl⟩
   show XL _ _ _ _ _ _ _ (cellsH b1 [arv] 26 :: curH .i64 123 cb bsv bs.length :: L)
   refine cX (XOp.pickT (.bool (x4)) (vT h9) rfl (XL.nil ?_))
   refine X.cond (t := x4) rfl (fun h10 => ?_) (fun h10 => ?_)
   ·refine X.seq (X.region (XL.mv (ptr cb 0) rfl (XL.mv (.int .i64 (vs)) rfl (cX (XOp.call (args := [ptr cb 0, .int .i64 (vs)]) call137 rfl (Does.at [_] (l1Below_spec (n := vs) hbs (by omega) (hn := (by first | assumption | rfl | omega | simp)))) ?_)))))
    rintro _ _ _ _ ⟨⟨rfl, x5, rfl, hr2⟩, rfl⟩
    show XL _ _ _ _ _ _ _ (cellsH b1 [arv] 26 :: curH .i64 123 cb bsv bs.length :: L)
    refine cX (XOp.subR ((-1) - x5) rfl rfl (by omega) (by omega) (cX (XOp.buildSlice (s := 1) [.int .i64 ((-1) - x5)] [.int .i64 (0)] [(0, [.int .i64 ((-1) - x5)])] runUnderlying24 sizeOf2 zeroValue2 rfl (by decide) rfl (.cons rfl CellsAre.nil) rfl ?_)))
    intro v6 hv6
    refine XL.as (v6) rfl (XL.nil (X.ret (thenQ_ret (thenQ_ret (retEnd (L' := drawnH 2 v6 (fun t => goodT ar t ∧ 1 ≤ t.length ∧ t.length ≤ szT dp) :: curH .i64 123 cb bsv bs.length :: L) [v6] (v6) (.tmp rfl .nil) rfl rF rF (Sub.trans (sC (sD (sC sR))) (Sub.keep (drawnH.of (t := [(-1) - x5]) (⟨goodT.var (by omega) (by omega), Nat.le_refl _, szT_pos dp⟩)) sR)) ?_)))))
    exact ⟨_, ⟨rfl, (isSl_lit hv6)⟩, rfl⟩
   refine X.skip (X.seq (X.seq (X.region (cX (XOp.fieldP (0) runUnderlying26 rfl sizeOf24 (by decide) rfl rfl (cX (XOp.load1 isAgg24 rfl (Rd.own [] rfl rfl) (cX (XOp.lenS runUnderlying24 rfl har.slv (cX (XOp.subR (((((ar).length) - 1 : Nat) : Int)) rfl rfl (by omega) (by omega) (XL.as (.int .i64 (((((ar).length) - 1 : Nat) : Int))) rfl (XL.nil (X.block (X.loop (α := Nat) (fun j => [(5, ptr b1 0), (9, .int .i64 ((j : Int) - 1))]) (fun j => cellsH b1 [arv] 26 :: curH .i64 123 cb bsv bs.length :: L) (fun j F' => F = F' ∧ (j ≤ ar.length)) (fun j => j) ar.length ⟨rfl, (vI (by omega)), trivial⟩ (sC (sC sR)) ⟨rfl, (Nat.le_refl _)⟩ ?_)))))))))))))))
   rintro j rE _ _ ⟨rfl, hj⟩
   show X _ _ _ _ (envs [(5, ptr b1 0), (9, .int .i64 ((j : Int) - 1))] rE) _ (cellsH b1 [arv] 26 :: curH .i64 123 cb bsv bs.length :: L)
   refine X.seq (X.seq (X.region (XL.mv (.int .i64 ((j : Int) - 1)) rfl (cX (XOp.geq rfl rfl (XL.nil ?_))))))
   refine X.condD (p := ((j : Int) - 1 : Int) ≥ 0) rfl (fun h11 => ?_) (fun h11 => ?_)
   ·refine X.skip (X.seq (X.block (X.seq (X.region (cX (XOp.fieldP (0) runUnderlying26 rfl sizeOf24 (by decide) rfl rfl (cX (XOp.load1 isAgg24 rfl (Rd.own [] rfl rfl) (XL.mv (.int .i64 ((j : Int) - 1)) rfl (cX (XOp.indexS (((j : Int) - 1).toNat) runUnderlying24 sizeOf2 rfl rfl (by omega) har.slv (by omega) (Nat.mul_one _) (cX (XOp.load1 isAgg2 rfl (har.rd (by omega)) (cX (XOp.eql rfl rfl (XL.nil ?_))))))))))))))))
    refine X.condD (p := (ar.getD (((j : Int) - 1).toNat) 0 : Int) = 0) rfl (fun h12 => ?_) (fun h12 => ?_)
    ·refine X.seq (X.region (XL.mv (.int .i64 ((j : Int) - 1)) rfl (cX (XOp.buildSlice (s := 1) [.int .i64 ((j : Int) - 1)] [.int .i64 (0)] [(0, [.int .i64 ((j : Int) - 1)])] runUnderlying24 sizeOf2 zeroValue2 rfl (by decide) rfl (.cons rfl CellsAre.nil) rfl ?_))))
     intro v7 hv7
     refine XL.as (v7) rfl (XL.nil (X.ret (blockQ_ret (thenQ_ret (thenQ_ret (blockQ_ret (thenQ_ret (thenQ_ret (retEnd (L' := drawnH 2 v7 (fun t => goodT ar t ∧ 1 ≤ t.length ∧ t.length ≤ szT dp) :: curH .i64 123 cb bsv bs.length :: L) [v7] (v7) (.tmp rfl .nil) rfl rF rF (Sub.trans (sC (sD (sC sR))) (Sub.keep (drawnH.of (t := [(j : Int) - 1]) (⟨goodT.one (by omega) (by omega) (by rw [arity, if_neg (by omega)]; omega), Nat.le_refl _, szT_pos dp⟩)) sR)) ?_)))))))))
     exact ⟨_, ⟨rfl, (isSl_lit hv7)⟩, rfl⟩
    refine X.skip (X.region (XL.mv (.int .i64 ((j : Int) - 1)) rfl (cX (XOp.subR (((j : Int) - 1) - 1) rfl rfl (by omega) (by omega) (XL.as (.int .i64 (((j : Int) - 1) - 1)) rfl (XL.nil ?_))))))
    exact ⟨j - 1, _, FLe.refl _, rF, ⟨rfl, (vI (by (try dsimp only); omega)), trivial⟩, (sC (sC sR)), ⟨rfl, (by (try dsimp only) <;> omega)⟩, (by (try dsimp only); omega)⟩
   refine X.exit (thenQ_exit (thenQ_exit (blockQ_exit (X.seq (X.region (cX (XOp.buildSlice (s := 1) [.int .i64 (-1)] [.int .i64 (0)] [(0, [.int .i64 (-1)])] runUnderlying24 sizeOf2 zeroValue2 rfl (by decide) rfl (.cons rfl CellsAre.nil) rfl ?_)))))))
   intro v8 hv8
   refine XL.as (v8) rfl (XL.nil (X.ret (thenQ_ret (retEnd (L' := drawnH 2 v8 (fun t => goodT ar t ∧ 1 ≤ t.length ∧ t.length ≤ szT dp) :: curH .i64 123 cb bsv bs.length :: L) [v8] (v8) (.tmp rfl .nil) rfl rF rF (Sub.trans (sC (sD (sC sR))) (Sub.keep (drawnH.of (t := [-1]) (⟨goodT.var (by omega) (by omega), Nat.le_refl _, szT_pos dp⟩)) sR)) ?_))))
   exact ⟨_, ⟨rfl, (isSl_lit hv8)⟩, rfl⟩
  refine XL.no (t := 21) rfl (vF h9) (XL.no (t := 21) rfl (vF h9) (cX (XOp.pickF (.bool (false)) (vF h9) rfl (XL.nil (X.condF rfl (X.skip (X.seq (X.seq (X.region (cX (XOp.fieldP (0) runUnderlying26 rfl sizeOf24 (by decide) rfl rfl (cX (XOp.load1 isAgg24 rfl (Rd.own [] rfl rfl) (cX (XOp.lenS runUnderlying24 rfl har.slv (cX (XOp.subR (((((ar).length) - 1 : Nat) : Int)) rfl rfl (by omega) (by omega) ?_)))))))))))))))))
  refine XL.as (.int .i64 (((((ar).length) - 1 : Nat) : Int))) rfl (XL.nil (X.block (X.loop (α := Nat) (fun j => [(5, ptr b1 0), (9, .int .i64 ((j : Int) - 1))]) (fun j => cellsH b1 [arv] 26 :: curH .i64 123 cb bsv bs.length :: L) (fun j F' => F = F' ∧ (j ≤ ar.length)) (fun j => j) ar.length ⟨rfl, (vI (by omega)), trivial⟩ (sC (sC sR)) ⟨rfl, (Nat.le_refl _)⟩ ?_)))
  rintro j rE _ _ ⟨rfl, hj⟩
  show X _ _ _ _ (envs [(5, ptr b1 0), (9, .int .i64 ((j : Int) - 1))] rE) _ (cellsH b1 [arv] 26 :: curH .i64 123 cb bsv bs.length :: L)
  refine X.seq (X.seq (X.region (XL.mv (.int .i64 ((j : Int) - 1)) rfl (cX (XOp.geq rfl rfl (XL.nil ?_))))))
  refine X.condD (p := ((j : Int) - 1 : Int) ≥ 0) rfl (fun h13 => ?_) (fun h13 => ?_)
  ·refine X.skip (X.seq (X.block (X.seq (X.region (cX (XOp.fieldP (0) runUnderlying26 rfl sizeOf24 (by decide) rfl rfl (cX (XOp.load1 isAgg24 rfl (Rd.own [] rfl rfl) (XL.mv (.int .i64 ((j : Int) - 1)) rfl (cX (XOp.indexS (((j : Int) - 1).toNat) runUnderlying24 sizeOf2 rfl rfl (by omega) har.slv (by omega) (Nat.mul_one _) (cX (XOp.load1 isAgg2 rfl (har.rd (by omega)) (cX (XOp.eql rfl rfl (XL.nil ?_))))))))))))))))
   refine X.condD (p := (ar.getD (((j : Int) - 1).toNat) 0 : Int) = 0) rfl (fun h14 => ?_) (fun h14 => ?_)
   ·refine X.seq (X.region (XL.mv (.int .i64 ((j : Int) - 1)) rfl (cX (XOp.buildSlice (s := 1) [.int .i64 ((j : Int) - 1)] [.int .i64 (0)] [(0, [.int .i64 ((j : Int) - 1)])] runUnderlying24 sizeOf2 zeroValue2 rfl (by decide) rfl (.cons rfl CellsAre.nil) rfl ?_))))
    intro v9 hv9
    refine XL.as (v9) rfl (XL.nil (X.ret (blockQ_ret (thenQ_ret (thenQ_ret (blockQ_ret (thenQ_ret (thenQ_ret (retEnd (L' := drawnH 2 v9 (fun t => goodT ar t ∧ 1 ≤ t.length ∧ t.length ≤ szT dp) :: curH .i64 123 cb bsv bs.length :: L) [v9] (v9) (.tmp rfl .nil) rfl rF rF (Sub.trans (sC (sD (sC sR))) (Sub.keep (drawnH.of (t := [(j : Int) - 1]) (⟨goodT.one (by omega) (by omega) (by rw [arity, if_neg (by omega)]; omega), Nat.le_refl _, szT_pos dp⟩)) sR)) ?_)))))))))
    exact ⟨_, ⟨rfl, (isSl_lit hv9)⟩, rfl⟩
   refine X.skip (X.region (XL.mv (.int .i64 ((j : Int) - 1)) rfl (cX (XOp.subR (((j : Int) - 1) - 1) rfl rfl (by omega) (by omega) (XL.as (.int .i64 (((j : Int) - 1) - 1)) rfl (XL.nil ?_))))))
   exact ⟨j - 1, _, FLe.refl _, rF, ⟨rfl, (vI (by (try dsimp only); omega)), trivial⟩, (sC (sC sR)), ⟨rfl, (by (try dsimp only) <;> omega)⟩, (by (try dsimp only); omega)⟩
  refine X.exit (thenQ_exit (thenQ_exit (blockQ_exit (X.seq (X.region (cX (XOp.buildSlice (s := 1) [.int .i64 (-1)] [.int .i64 (0)] [(0, [.int .i64 (-1)])] runUnderlying24 sizeOf2 zeroValue2 rfl (by decide) rfl (.cons rfl CellsAre.nil) rfl ?_)))))))
  intro v10 hv10
  refine XL.as (v10) rfl (XL.nil (X.ret (thenQ_ret (retEnd (L' := drawnH 2 v10 (fun t => goodT ar t ∧ 1 ≤ t.length ∧ t.length ≤ szT dp) :: curH .i64 123 cb bsv bs.length :: L) [v10] (v10) (.tmp rfl .nil) rfl rF rF (Sub.trans (sC (sD (sC sR))) (Sub.keep (drawnH.of (t := [-1]) (⟨goodT.var (by omega) (by omega), Nat.le_refl _, szT_pos dp⟩)) sR)) ?_))))
  exact ⟨_, ⟨rfl, (isSl_lit hv10)⟩, rfl⟩
 refine X.skip (X.seq (X.region (XL.mv (ptr cb 0) rfl (cX (XOp.fieldP (0) runUnderlying26 rfl sizeOf24 (by decide) rfl rfl (cX (XOp.load1 isAgg24 rfl (Rd.own [] rfl rfl) (cX (XOp.lenS runUnderlying24 rfl har.slv (cX (XOp.call (args := [ptr cb 0, .int .i64 ((ar.length : Int))]) call137 rfl (Does.at [_] (l1Below_spec (n := (ar.length : Int)) hbs (by omega) (hn := (by first | assumption | rfl | omega | simp)))) ?_)))))))))))
 rintro _ _ _ _ ⟨⟨rfl, x6, rfl, hr3⟩, rfl⟩
 show XL _ _ _ _ _ _ _ (cellsH b1 [arv] 26 :: curH .i64 123 cb bsv bs.length :: L)
 refine XL.as (.int .i64 (x6)) rfl (XL.nil (X.seq (X.region (XL.mv (.int .i64 (x6)) rfl (cX (XOp.buildSlice (s := 1) [.int .i64 (x6)] [.int .i64 (0)] [(0, [.int .i64 (x6)])] runUnderlying24 sizeOf2 zeroValue2 rfl (by decide) rfl (.cons rfl CellsAre.nil) rfl ?_))))))
 intro v11 hv11
 refine XL.as (v11) rfl (XL.nil (X.seq (X.seq (X.region ?_))))
 show XL _ _ _ _ _ _ _ (intsH 2 v11 ([x6] : List Int) :: cellsH b1 [arv] 26 :: curH .i64 123 cb bsv bs.length :: L)
 skip
 refine cX (XOp.fieldP (0) runUnderlying26 rfl sizeOf24 (by decide) rfl rfl (cX (XOp.load1 isAgg24 rfl (Rd.own [_] rfl rfl) (XL.mv (.int .i64 (x6)) rfl (cX (XOp.indexS ((x6).toNat) runUnderlying24 sizeOf2 rfl rfl (by omega) har.slv (by omega) (Nat.mul_one _) (cX (XOp.load1 isAgg2 rfl (har.rd (by omega)) (XL.as (.int .i64 (ar.getD ((x6).toNat) 0)) rfl ?_)))))))))
 have hfr : 0 ≤ x6 ∧ x6 < (ar.length : Int) := by omega
 have hsp := (sigOk_spec hso).2.2 (x6).toNat (by omega)
 obtain ⟨haK, hKe⟩ : ∃ q : Nat, q = (ar.getD ((x6).toNat) 0).toNat := ⟨_, rfl⟩
 have hK3 : haK ≤ 3 := by omega
 have hKa : arity ar x6 = (haK : Int) := by rw [arity, if_neg (by omega)]; omega
 refine XL.nil (X.block (X.loop (α := Nat × Value × List Int × List Int × FH) (fun xQ => [(0, ptr cb 0), (2, .int .i64 (((dp : Nat) : Int))), (3, .int .i64 (vs)), (5, ptr b1 0), (11, xQ.2.1), (12, .int .i64 (((xQ.1 : Nat) : Int)))]) (fun xQ => intsH 2 xQ.2.1 xQ.2.2.1 :: cellsH b1 [arv] 26 :: curH .i64 123 cb bsv bs.length :: L) (fun xQ F' => xQ.2.2.2.2 = F' ∧ F ≤ xQ.2.2.2.2 ∧ (IsSl xQ.2.1) ∧ (xQ.2.2.1 = x6 :: xQ.2.2.2.1) ∧ (xQ.1 + (haK - xQ.1) = haK ∧ xQ.1 ≤ haK) ∧ (goodN ar xQ.2.2.2.1 (haK - xQ.1)) ∧ (xQ.2.2.2.1.length ≤ (haK - xQ.1) * szT (dp - 1))) (fun xQ => xQ.1) ((ar.getD ((x6).toNat) 0).toNat, v11, [x6], [], F) ⟨rfl, rfl, rfl, rfl, rfl, (vI (by omega)), trivial⟩ (sC (sC (sC sR))) ⟨rfl, FLe.refl _, ((isSl_lit hv11)), (rfl), (by (try dsimp only); omega), (by (try dsimp only); rw [show haK - (ar.getD ((x6).toNat) 0).toNat = 0 from by omega]; exact goodN.nil), (by (try dsimp only); simp)⟩ ?_))
 rintro ⟨n, ov, os, ot, G1⟩ rE _ _ ⟨rfl, leG, hov, hoe, hn3, hgo, hol⟩
 show X _ _ _ _ (envs [(0, ptr cb 0), (2, .int .i64 (((dp : Nat) : Int))), (3, .int .i64 (vs)), (5, ptr b1 0), (11, ov), (12, .int .i64 ((n : Int)))] rE) _ (intsH 2 ov os :: cellsH b1 [arv] 26 :: curH .i64 123 cb bsv bs.length :: L)
 replace leG : F ≤ G1 := leG
 dsimp only at hov hoe hn3 hgo hol
 have hm9 : (haK - n) * szT (dp - 1) ≤ 3 * szT (dp - 1) := Nat.mul_le_mul_right _ (by omega)
 have hool : os.length = ot.length + 1 := by rw [hoe]; rfl
 have leG1 := leG
 replace hbs := hbs.mono leG1
 replace har := har.mono leG1
 refine X.seq (X.seq (X.region (XL.mv (.int .i64 ((n : Int))) rfl (cX (XOp.gtr rfl rfl (XL.nil ?_))))))
 refine X.condD (p := (n : Int) > 0) rfl (fun h15 => ?_) (fun h15 => ?_)
 ·refine X.skip (X.seq (X.block (X.region (XL.mv (ov) rfl (XL.mv (ptr cb 0) rfl (cX (XOp.loadN [arv] isAgg26 sizeOf26 rfl rfl (Rd.ownN [_] rfl rfl) (XL.mv (.int .i64 (((dp : Nat) : Int))) rfl (cX (XOp.subR (((dp - 1 : Nat) : Int)) rfl rfl (by omega) (by omega) (XL.mv (.int .i64 (vs)) rfl (cX (XOp.call (args := [ptr cb 0, .agg #[arv], .int .i64 ((dp - 1 : Nat) : Int), .int .i64 (vs)]) call139 rfl (Does.atO [_, _] (ih (dp - 1) (by omega) (vs := vs) hbs (by omega) har (hso := (by first | assumption | rfl | omega | simp)) (hdp := (by first | assumption | rfl | omega | simp)) (hvs := (by first | assumption | rfl | omega | simp)))) ?_)))))))))))))
  rintro _ F7 _ le7 ⟨x8, ⟨rfl, hsl1⟩, rfl⟩
  show XL _ _ _ _ _ _ _ (drawnH 2 x8 (fun t => goodT ar t ∧ 1 ≤ t.length ∧ t.length ≤ szT (dp - 1)) :: intsH 2 ov os :: cellsH b1 [arv] 26 :: curH .i64 123 cb bsv bs.length :: L)
  refine XL.undraw [] rfl (fun t1 hq9 => ?_)
  obtain ⟨q1, q2, q3⟩ := hq9
  show XL _ _ _ _ _ _ _ (intsH 2 x8 t1 :: intsH 2 ov os :: cellsH b1 [arv] 26 :: curH .i64 123 cb bsv bs.length :: L)
  refine XL.freezeF [] _ _ rfl (fun F8 le8 hz1 => ?_)
  have hf1 : IntsF F8 x8 t1 := intsH.fz (xs := t1) hz1.fz
  refine cX (XOp.appendI [] _ runUnderlying24 typeInfo2 rfl rfl rfl rfl rfl rfl hf1 (by (try simp only [List.length_append, List.length_nil, List.length_cons, List.length_singleton, List.length_take, List.length_drop]); omega) ?_)
  intro v12 hs1 hn1 hm1
  refine XL.as (v12) rfl (XL.nil (X.region (XL.mv (.int .i64 ((n : Int))) rfl (cX (XOp.subR (((n - 1 : Nat) : Int)) rfl rfl (by omega) (by omega) (XL.as (.int .i64 (((n - 1 : Nat) : Int))) rfl (XL.nil ?_)))))))
  exact ⟨(n - 1, v12, os ++ t1, (ot ++ t1), F8), _, (FLe.trans (FLe.trans leG1 le7) le8), rF, ⟨rfl, rfl, rfl, rfl, rfl, rfl, trivial⟩, (sC (sC (sC sR))), ⟨rfl, (FLe.trans (FLe.trans leG1 le7) le8), (hs1), (by (try dsimp only); rw [hoe] <;> rfl), (by (try dsimp only); omega), (by (try dsimp only); rw [show haK - (n - 1) = haK - n + 1 from by omega]; exact hgo.snoc q1), (by (try dsimp only); rw [show haK - (n - 1) = haK - n + 1 from by omega, Nat.succ_mul, List.length_append]; omega)⟩, (by (try dsimp only); omega)⟩
 refine X.exit (thenQ_exit (thenQ_exit (blockQ_exit (X.seq (X.region (XL.mv (ov) rfl (XL.as (ov) rfl (XL.nil (X.ret (retEnd (L' := drawnH 2 ov (fun t => goodT ar t ∧ 1 ≤ t.length ∧ t.length ≤ szT dp) :: curH .i64 123 cb bsv bs.length :: L) [ov] (ov) (.tmp rfl .nil) rfl leG1 rF (Sub.trans (sC (sD (sC sR))) (Sub.keep (drawnH.of (t := os) ((show goodT ar os ∧ 1 ≤ os.length ∧ os.length ≤ szT dp from ⟨by rw [hoe]; exact goodT.node hfr.1 (by omega) hKa (by have h9 := hgo; rwa [show haK - n = haK from by omega] at h9), by omega, by have h9 := szT_next (d := dp) (by omega); omega⟩))) sR)) ?_))))))))))
 exact ⟨_, ⟨rfl, hov⟩, rfl⟩

theorem l1DrawTerm_spec (dp : Nat) : ∀ {F : FH} {L : List HP} {cb : Nat} {bsv : Value} {bs : List Int} (hbs : BytesF F bsv bs) (hbl : bs.length ≤ 4000000) {arv : Value} {ar : List Int} (har : IntsF F arv ar) {vs : Int} (hso : sigOk ar = true) (hdp : dp ≤ 5) (hvs : 0 ≤ vs ∧ vs ≤ 24), Does prog 139 [ptr cb 0, .agg #[arv], .int .i64 (((dp : Nat) : Int)), .int .i64 (vs)] F (curH .i64 123 cb bsv bs.length :: L) (fun v F' L' => ∃ a : Value, ((a : Value) = v ∧ IsSl a) ∧ drawnH 2 a (fun t => goodT ar t ∧ 1 ≤ t.length ∧ t.length ≤ szT dp) :: curH .i64 123 cb bsv bs.length :: L = L') := by
  induction dp using Nat.strongRecOn with
  | _ dp ih =>
    intros
    exact l1DrawTerm_spec_step ih (by assumption) (by assumption) (by assumption) (by assumption) (by assumption) (by assumption)

/- spec.l1DrawAny -/
set_option maxHeartbeats 1000000 in
theorem l1DrawAny_spec {F : FH} {L : List HP} {cb : Nat} {bsv : Value} {bs : List Int} (hbs : BytesF F bsv bs) (hbl : bs.length ≤ 4000000) {arv : Value} {ar : List Int} (har : IntsF F arv ar) (hal : ar.length ≤ 4000000) :
    Does prog 89 [ptr cb 0, .agg #[arv]] F (curH .i64 123 cb bsv bs.length :: L) (fun v F' L' => (∃ (a : Value), (a : Value) = v ∧ (SomesF F' a (fun u => u.length ≤ 2000))) ∧ curH .i64 123 cb bsv bs.length :: L = L') := by
 refine Does.of_X func89 rfl rfl rfl (X.seq (X.region (cX (XOp.box [arv] rfl rfl ?_))))
 intro b1
 refine XL.as ((.slice none 0 0)) rfl (XL.nil (X.seq (X.seq (X.region (cX (XOp.fieldP (0) runUnderlying26 rfl sizeOf24 (by decide) rfl rfl (cX (XOp.load1 isAgg24 rfl (Rd.own [] rfl rfl) (cX (XOp.lenS runUnderlying24 rfl har.slv (cX (XOp.eql rfl rfl (XL.mv (.bool (decide (((ar.length : Int) : Int) = 0))) rfl ?_)))))))))))))
 by_cases h1 : ((ar.length : Int) : Int) = 0
 ·refine XL.no (t := 10) rfl (vT h1) (XL.no (t := 10) rfl (vT h1) (XL.no (t := 10) rfl (vT h1) (cX (XOp.pickT (.bool (true)) (vT h1) rfl (XL.nil (X.condT rfl (X.seq (X.region (XL.mv (ptr cb 0) rfl (cX (XOp.call (args := [ptr cb 0, .int .i64 (-2), .int .i64 (2)]) call90 rfl (Does.at [_] (l1From_spec (lo := -2) (hi := 2) hbs (by omega) (hlo := (by first | assumption | rfl | omega | simp)))) ?_)))))))))))
  rintro _ _ _ _ ⟨⟨rfl, x1, rfl, hr1⟩, rfl⟩
  show XL _ _ _ _ _ _ _ (cellsH b1 [arv] 26 :: curH .i64 123 cb bsv bs.length :: L)
  refine cX (XOp.buildSlice (s := 1) [.int .i64 (x1)] [.int .i64 (0)] [(0, [.int .i64 (x1)])] runUnderlying24 sizeOf2 zeroValue2 rfl (by decide) rfl (.cons rfl CellsAre.nil) rfl ?_)
  intro v1 hv1
  refine XL.as (v1) rfl (XL.nil ?_)
  show X _ _ _ _ _ _ (intsH 2 v1 ([x1] : List Int) :: cellsH b1 [arv] 26 :: curH .i64 123 cb bsv bs.length :: L)
  refine X.freezeF [] _ _ rfl (fun F2 le2 hz1 => ?_)
  replace hbs := hbs.mono le2
  replace har := har.mono le2
  have hf1 : IntsF F2 v1 ([x1]) := intsH.fz (xs := [x1]) hz1.fz
  refine X.ret (thenQ_ret (retEnd (L' := curH .i64 123 cb bsv bs.length :: L) [v1] (v1) (.tmp rfl .nil) rfl le2 rF (sD (sC sR)) ?_))
  exact ⟨⟨_, rfl, ⟨_, hf1, by (try simp only [List.length_append, List.length_cons, List.length_nil, List.length_set, List.length_take, List.length_drop]); omega⟩⟩, rfl⟩
 refine XL.yes (t := 10) rfl (vF h1) (XOp.loadN [arv] isAgg26 sizeOf26 rfl rfl (Rd.ownN [] rfl rfl) (XL.yes (t := 10) rfl (vF h1) (XOp.call (args := [.agg #[arv]]) call131 rfl (sSigOk_spec har (hla := (by first | assumption | rfl | omega | simp))) ?_)))
 rintro _ _ _ _ ⟨rfl, rfl, rfl⟩
 refine XL.yes (t := 10) rfl (vF h1) (XOp.notB rfl (cX (XOp.pickF (.bool (!(sigOk ar))) (vF h1) rfl (XL.nil ?_))))
 refine X.cond (t := !(sigOk ar)) rfl (fun h2 => ?_) (fun h2 => ?_)
 ·refine X.seq (X.region (XL.mv (ptr cb 0) rfl (cX (XOp.call (args := [ptr cb 0, .int .i64 (-2), .int .i64 (2)]) call90 rfl (Does.at [_] (l1From_spec (lo := -2) (hi := 2) hbs (by omega) (hlo := (by first | assumption | rfl | omega | simp)))) ?_))))
  rintro _ _ _ _ ⟨⟨rfl, x2, rfl, hr2⟩, rfl⟩
  show XL _ _ _ _ _ _ _ (cellsH b1 [arv] 26 :: curH .i64 123 cb bsv bs.length :: L)
  refine cX (XOp.buildSlice (s := 1) [.int .i64 (x2)] [.int .i64 (0)] [(0, [.int .i64 (x2)])] runUnderlying24 sizeOf2 zeroValue2 rfl (by decide) rfl (.cons rfl CellsAre.nil) rfl ?_)
  intro v2 hv2
  refine XL.as (v2) rfl (XL.nil ?_)
  show X _ _ _ _ _ _ (intsH 2 v2 ([x2] : List Int) :: cellsH b1 [arv] 26 :: curH .i64 123 cb bsv bs.length :: L)
  refine X.freezeF [] _ _ rfl (fun F4 le4 hz2 => ?_)
  replace hbs := hbs.mono le4
  replace har := har.mono le4
  have hf2 : IntsF F4 v2 ([x2]) := intsH.fz (xs := [x2]) hz2.fz
  refine X.ret (thenQ_ret (retEnd (L' := curH .i64 123 cb bsv bs.length :: L) [v2] (v2) (.tmp rfl .nil) rfl le4 rF (sD (sC sR)) ?_))
  exact ⟨⟨_, rfl, ⟨_, hf2, by (try simp only [List.length_append, List.length_cons, List.length_nil, List.length_set, List.length_take, List.length_drop]); omega⟩⟩, rfl⟩
 have hso : sigOk ar = true := by simpa using h2
 refine X.skip (X.seq ?_)
 refine X.drawG [cellsH b1 [arv] 26, curH .i64 123 cb bsv bs.length] L 5 [[], [], [], [], [3]] [[], [], [], [2], [3]] [[], [], [], [], []] (phiG [fun FF us v => v = ptr cb 0, fun FF us v => v = (.agg #[arv] : Value), fun FF us v => v = ptr cb 0, fun FF us v => (.int .i64 (((intAt v))) : Value) = v ∧ (0 ≤ ((intAt v)) ∧ (((intAt v)) < 4 ∨ ((intAt v)) = 0)), fun FF us v => v = (.int .i64 (1 + (((intAt (us.getD 0 undef))))) : Value)]) (ownL [fun us v => [], fun us v => [], fun us v => [], fun us v => [], fun us v => []]) mixed rfl rfl (by kernel_rfl) (by kernel_rfl) (MonoG.get (mC (fun le h => h) (mC (fun le h => h) (mC (fun le h => h) (mC (fun le h => ⟨h.1, h.2⟩) (mC (fun le h => h) MonoG.nil)))))) ?_ ?_
 ·refine gC (fun vals Fs R leFs hpZ => ?_) ?_
  ·refine XG.op (XOp.move (ptr cb 0) rfl ?_)
   exact ⟨rfl, rfl⟩
  refine gC (fun vals Fs R leFs hpZ => ?_) ?_
  ·replace hbs := hbs.mono leFs
   replace har := har.mono leFs
   refine XG.op (XOp.loadN [arv] isAgg26 sizeOf26 rfl rfl (Rd.ownN [] rfl rfl) ?_)
   exact ⟨rfl, rfl⟩
  refine gC (fun vals Fs R leFs hpZ => ?_) ?_
  ·refine XG.op (XOp.move (ptr cb 0) rfl ?_)
   exact ⟨rfl, rfl⟩
  refine gC (fun vals Fs R leFs hpZ => ?_) ?_
  ·replace hbs := hbs.mono leFs
   replace har := har.mono leFs
   rw [eS (l := [(2, ptr cb 0)]) ⟨(hpZ 2 (by decide)), trivial⟩]
   refine XG.op (XOp.call (args := [ptr cb 0, .int .i64 (4)]) call137 rfl (Does.at [_] (l1Below_spec (n := 4) hbs (by omega) (hn := (by first | assumption | rfl | omega | simp)))) ?_)
   rintro _ _ _ _ ⟨⟨rfl, x4, rfl, hr4⟩, rfl⟩
   exact ⟨⟨rfl, hr4⟩, rfl⟩
  refine gC (fun vals Fs R leFs hpZ => ?_) ?_
  ·obtain ⟨e3, f3_1hx⟩ := hpZ 3 (by decide)
   rw [eS (l := [(3, (.int .i64 (((intAt (vals 3)))) : Value))]) ⟨(e3).symm, trivial⟩]
   refine XG.op (XOp.addR (1 + (((intAt (vals 3))))) rfl rfl (by omega) (by omega) ?_)
   exact ⟨rfl, rfl⟩
  exact stepsG.nil
 intro vals F7 le7 hphi
 obtain ⟨e3, f3_1hx⟩ := hphi 3 (by decide)
 have e4 : vals 4 = (.int .i64 (1 + (((intAt (vals 3))))) : Value) := hphi 4 (by decide)
 generalize hu1 : (intAt (vals 3)) = u1 at e3 f3_1hx e4
 rw [eS (l := [(0, ptr cb 0), (1, (.agg #[arv] : Value)), (3, (.int .i64 ((u1)) : Value)), (4, (.int .i64 (1 + ((u1))) : Value))]) ⟨(hphi 0 (by decide)), (hphi 1 (by decide)), (e3).symm, e4, trivial⟩]
 replace hbs := hbs.mono le7
 replace har := har.mono le7
 show XL _ _ _ _ _ _ _ (cellsH b1 [arv] 26 :: curH .i64 123 cb bsv bs.length :: L)
 refine cX (XOp.call (args := [ptr cb 0, .agg #[arv], .int .i64 (((1 + ((u1))).toNat : Nat) : Int), .int .i64 (3)]) call139 (by rw [show (((1 + ((u1))).toNat : Nat) : Int) = 1 + ((u1)) from by omega]; rfl) (Does.atO [_] (l1DrawTerm_spec ((1 + ((u1))).toNat) (vs := 3) hbs (by omega) har (hso := (by first | assumption | rfl | omega | simp)) (hdp := (by first | assumption | rfl | omega | simp)) (hvs := (by first | assumption | rfl | omega | simp)))) ?_)
 rintro _ F8 _ le8 ⟨x6, ⟨rfl, hsl1⟩, rfl⟩
 replace hbs := hbs.mono le8
 show XL _ _ _ _ _ _ _ (drawnH 2 x6 (fun t => goodT ar t ∧ 1 ≤ t.length ∧ t.length ≤ szT ((1 + ((u1))).toNat)) :: cellsH b1 [arv] 26 :: curH .i64 123 cb bsv bs.length :: L)
 refine XL.undraw [] rfl (fun t1 hq9 => ?_)
 obtain ⟨q1, q2, q3⟩ := hq9
 show XL _ _ _ _ _ _ _ (intsH 2 x6 t1 :: cellsH b1 [arv] 26 :: curH .i64 123 cb bsv bs.length :: L)
 have hz9 := szT_le (d := (1 + ((u1))).toNat) (e := 4) (by omega)
 have hz8 : szT 4 = 121 := rfl
 refine XL.as (x6) rfl (XL.nil (X.seq (X.seq (X.region (XL.mv (ptr cb 0) rfl (cX (XOp.call (args := [ptr cb 0, .int .i64 (12)]) call136 rfl (Does.at [_, _] (l1Once_spec (n := 12) hbs (by omega) (hn := (by first | assumption | rfl | omega | simp)))) ?_)))))))
 rintro _ _ _ _ ⟨⟨rfl, x7, rfl⟩, rfl⟩
 show XL _ _ _ _ _ _ _ (intsH 2 x6 t1 :: cellsH b1 [arv] 26 :: curH .i64 123 cb bsv bs.length :: L)
 refine XL.nil ?_
 refine X.cond (t := x7) rfl (fun h3 => ?_) (fun h3 => ?_)
 ·refine X.seq (X.region (XL.mv (ptr cb 0) rfl (cX (XOp.call (args := [ptr cb 0, .int .i64 (4)]) call137 rfl (Does.at [_, _] (l1Below_spec (n := 4) hbs (by omega) (hn := (by first | assumption | rfl | omega | simp)))) ?_))))
  rintro _ _ _ _ ⟨⟨rfl, x8, rfl, hr5⟩, rfl⟩
  show XL _ _ _ _ _ _ _ (intsH 2 x6 t1 :: cellsH b1 [arv] 26 :: curH .i64 123 cb bsv bs.length :: L)
  refine XL.nil (X.block (X.seq (X.region (cX (XOp.eql rfl rfl (XL.as (.bool (decide ((x8 : Int) = 0))) rfl (XL.nil ?_)))))))
  refine X.condD (p := (x8 : Int) = 0) rfl (fun h4 => ?_) (fun h4 => ?_)
  ·refine X.region (XL.mv (x6) rfl (XL.mv (ptr cb 0) rfl (cX (XOp.call (args := [ptr cb 0, .int .i64 (-2), .int .i64 (3)]) call90 rfl (Does.at [_, _] (l1From_spec (lo := -2) (hi := 3) hbs (by omega) (hlo := (by first | assumption | rfl | omega | simp)))) ?_))))
   rintro _ _ _ _ ⟨⟨rfl, x9, rfl, hr6⟩, rfl⟩
   show XL _ _ _ _ _ _ _ (intsH 2 x6 t1 :: cellsH b1 [arv] 26 :: curH .i64 123 cb bsv bs.length :: L)
   refine cX (XOp.buildSlice (s := 1) [.int .i64 (x9)] [.int .i64 (0)] [(0, [.int .i64 (x9)])] runUnderlying24 sizeOf2 zeroValue2 rfl (by decide) rfl (.cons rfl CellsAre.nil) rfl ?_)
   intro v3 hv3
   refine cX (XOp.append1 (u := x9) [_] _ runUnderlying24 typeInfo2 rfl rfl rfl rfl rfl rfl (SlV.own [] rfl) (Rd.sl [] rfl rfl) (by (try simp only [List.length_append, List.length_nil, List.length_cons, List.length_singleton, List.length_take, List.length_drop]); omega) ?_)
   intro v4 hs1 hn1
   refine XL.as (v4) rfl (XL.nil (X.seq (X.region (XL.mv (v4) rfl (XL.as (v4) rfl (XL.nil (X.freezeF [_] _ _ rfl (fun F12 le12 hz3 => ?_))))))))
   replace hbs := hbs.mono le12
   have hf3 : IntsF F12 v4 (t1 ++ [x9]) := intsH.fz (xs := t1 ++ [x9]) hz3.fz
   refine X.ret (retEnd (L' := curH .i64 123 cb bsv bs.length :: L) [v4] (v4) (.tmp rfl .nil) rfl (FLe.trans (FLe.trans le7 le8) le12) rF (sD (sD (sC sR))) ?_)
   exact ⟨⟨_, rfl, ⟨_, hf3, by (try simp only [List.length_append, List.length_cons, List.length_nil, List.length_set, List.length_take, List.length_drop]); omega⟩⟩, rfl⟩
  refine X.seq (X.region (cX (XOp.eql rfl rfl (XL.as (.bool (decide ((x8 : Int) = 1))) rfl (XL.nil ?_)))))
  refine X.condD (p := (x8 : Int) = 1) rfl (fun h5 => ?_) (fun h5 => ?_)
  ·refine X.region (XL.mv (x6) rfl (XL.mv (ptr cb 0) rfl (XL.mv (x6) rfl (cX (XOp.lenS runUnderlying24 rfl (intsH.slv [] rfl) (cX (XOp.call (args := [ptr cb 0, .int .i64 ((t1.length : Int))]) call137 rfl (Does.at [_, _] (l1Below_spec (n := (t1.length : Int)) hbs (by omega) (hn := (by first | assumption | rfl | omega | simp)))) ?_)))))))
   rintro _ _ _ _ ⟨⟨rfl, x10, rfl, hr7⟩, rfl⟩
   show XL _ _ _ _ _ _ _ (intsH 2 x6 t1 :: cellsH b1 [arv] 26 :: curH .i64 123 cb bsv bs.length :: L)
   refine XL.mv (ptr cb 0) rfl (cX (XOp.call (args := [ptr cb 0, .int .i64 (-3), .int .i64 (4)]) call90 rfl (Does.at [_, _] (l1From_spec (lo := -3) (hi := 4) hbs (by omega) (hlo := (by first | assumption | rfl | omega | simp)))) ?_))
   rintro _ _ _ _ ⟨⟨rfl, x11, rfl, hr8⟩, rfl⟩
   show XL _ _ _ _ _ _ _ (intsH 2 x6 t1 :: cellsH b1 [arv] 26 :: curH .i64 123 cb bsv bs.length :: L)
   refine cX (XOp.indexS ((x10).toNat) runUnderlying24 sizeOf2 rfl rfl (by omega) (intsH.slv [] rfl) (by omega) (Nat.mul_one _) (cX (intsH.storeX (i := (x10).toNat) (v := x6) [] _ (t1.set ((x10).toNat) x11) sizeOf2 rfl rfl rfl (by omega) rfl (XL.nil (X.seq (X.region (XL.mv (x6) rfl (XL.as (x6) rfl (XL.nil (X.freezeF [] _ _ rfl (fun F15 le15 hz4 => ?_)))))))))))
   replace hbs := hbs.mono le15
   have hf4 : IntsF F15 x6 ((t1.set ((x10).toNat) x11)) := intsH.fz (xs := (t1.set ((x10).toNat) x11)) hz4.fz
   refine X.ret (retEnd (L' := curH .i64 123 cb bsv bs.length :: L) [x6] (x6) (.tmp rfl .nil) rfl (FLe.trans (FLe.trans le7 le8) le15) rF (sD (sC sR)) ?_)
   exact ⟨⟨_, rfl, ⟨_, hf4, by (try simp only [List.length_append, List.length_cons, List.length_nil, List.length_set, List.length_take, List.length_drop]); omega⟩⟩, rfl⟩
  refine X.seq (X.region (cX (XOp.eql rfl rfl (XL.as (.bool (decide ((x8 : Int) = 2))) rfl (XL.nil ?_)))))
  refine X.condD (p := (x8 : Int) = 2) rfl (fun h6 => ?_) (fun h6 => ?_)
  ·refine X.region (XL.freezeF [] _ _ rfl (fun F16 le16 hz5 => ?_))
   replace hbs := hbs.mono le16
   have hf5 : IntsF F16 x6 t1 := intsH.fz (xs := t1) hz5.fz
   skip
   refine XL.mv (x6) rfl (cX (XOp.sliceI 1 ((t1).length) runUnderlying24 sizeOf2 rfl hf5 ⟨_, rfl⟩ rfl (by omega) (by omega) ?_))
   intro v5 hv4 hn2
   refine XL.as (v5) rfl (XL.nil (X.seq (X.region (XL.mv (v5) rfl (XL.as (v5) rfl (XL.nil (X.ret (retEnd (L' := curH .i64 123 cb bsv bs.length :: L) [v5] (v5) (.tmp rfl .nil) rfl (FLe.trans (FLe.trans le7 le8) le16) rF (sD (sC sR)) ?_))))))))
   exact ⟨⟨_, rfl, ⟨_, hv4, by (try simp only [List.length_append, List.length_cons, List.length_nil, List.length_set, List.length_take, List.length_drop]); omega⟩⟩, rfl⟩
  refine X.seq (X.region (cX (XOp.eql rfl rfl (XL.as (.bool (decide ((x8 : Int) = 3))) rfl (XL.nil ?_)))))
  refine X.condD (p := (x8 : Int) = 3) rfl (fun h7 => ?_) (fun h7 => ?_)
  ·refine X.region (XL.mv (x6) rfl (XL.mv (ptr cb 0) rfl (cX (XOp.call (args := [ptr cb 0]) call140 rfl (Does.at [_, _] (l1Odd_spec hbs (by omega))) ?_))))
   rintro _ _ _ _ ⟨⟨rfl, x12, rfl⟩, rfl⟩
   show XL _ _ _ _ _ _ _ (intsH 2 x6 t1 :: cellsH b1 [arv] 26 :: curH .i64 123 cb bsv bs.length :: L)
   refine cX (XOp.buildSlice (s := 1) [.int .i64 (x12)] [.int .i64 (0)] [(0, [.int .i64 (x12)])] runUnderlying24 sizeOf2 zeroValue2 rfl (by decide) rfl (.cons rfl CellsAre.nil) rfl ?_)
   intro v6 hv5
   refine cX (XOp.append1 (u := x12) [_] _ runUnderlying24 typeInfo2 rfl rfl rfl rfl rfl rfl (SlV.own [] rfl) (Rd.sl [] rfl rfl) (by (try simp only [List.length_append, List.length_nil, List.length_cons, List.length_singleton, List.length_take, List.length_drop]); omega) ?_)
   intro v7 hs2 hn3
   refine XL.as (v7) rfl (XL.nil (X.seq (X.region (XL.mv (v7) rfl (XL.as (v7) rfl (XL.nil (X.freezeF [_] _ _ rfl (fun F18 le18 hz6 => ?_))))))))
   have hf6 : IntsF F18 v7 (t1 ++ [x12]) := intsH.fz (xs := t1 ++ [x12]) hz6.fz
   refine X.ret (retEnd (L' := curH .i64 123 cb bsv bs.length :: L) [v7] (v7) (.tmp rfl .nil) rfl (FLe.trans (FLe.trans le7 le8) le18) rF (sD (sD (sC sR))) ?_)
   exact ⟨⟨_, rfl, ⟨_, hf6, by (try simp only [List.length_append, List.length_cons, List.length_nil, List.length_set, List.length_take, List.length_drop]); omega⟩⟩, rfl⟩
  refine X.skip (X.seq (X.region (XL.mv (x6) rfl (XL.as (x6) rfl (XL.nil (X.freezeF [] _ _ rfl (fun F19 le19 hz7 => ?_)))))))
  have hf7 : IntsF F19 x6 t1 := intsH.fz (xs := t1) hz7.fz
  refine X.ret (retEnd (L' := curH .i64 123 cb bsv bs.length :: L) [x6] (x6) (.tmp rfl .nil) rfl (FLe.trans (FLe.trans le7 le8) le19) rF (sD (sC sR)) ?_)
  exact ⟨⟨_, rfl, ⟨_, hf7, by (try simp only [List.length_append, List.length_cons, List.length_nil, List.length_set, List.length_take, List.length_drop]); omega⟩⟩, rfl⟩
 refine X.skip (X.seq (X.region (XL.mv (x6) rfl (XL.as (x6) rfl (XL.nil (X.freezeF [] _ _ rfl (fun F20 le20 hz8 => ?_)))))))
 have hf8 : IntsF F20 x6 t1 := intsH.fz (xs := t1) hz8.fz
 refine X.ret (retEnd (L' := curH .i64 123 cb bsv bs.length :: L) [x6] (x6) (.tmp rfl .nil) rfl (FLe.trans (FLe.trans le7 le8) le20) rF (sD (sC sR)) ?_)
 exact ⟨⟨_, rfl, ⟨_, hf8, by (try simp only [List.length_append, List.length_cons, List.length_nil, List.length_set, List.length_take, List.length_drop]); omega⟩⟩, rfl⟩

/- spec.l2Draw -/
theorem l2Draw_spec {F : FH} {L : List HP} {cb : Nat} {bsv : Value} {bs : List Int} (hbs : BytesF F bsv bs) (hbl : bs.length ≤ 4000000) {arv : Value} {ar : List Int} (har : IntsF F arv ar) (hso : sigOk ar = true) :
    Does prog 142 [ptr cb 0, .agg #[arv]] F (curH .i64 123 cb bsv bs.length :: L) (fun v F' L' => (∃ (a : Value), (.agg #[a] : Value) = v ∧ (SomeRowsF F' a (fun s => s.length ≤ 4 ∧ ∀ i, (s.getD i []).length ≤ 2000))) ∧ curH .i64 123 cb bsv bs.length :: L = L') := by
 refine Does.of_X func142 rfl rfl rfl (X.seq (X.region (cX (XOp.box [arv] rfl rfl ?_))))
 intro b1
 refine cX (XOp.alloc [(.slice none 0 0)] zeroValue57 rfl ?_)
 intro b2
 refine XL.nil (X.seq (X.region (cX (XOp.build [(.slice none 0 0)] [(.slice none 0 0)] [(0, 1)] [] runUnderlying57 zeroValue57 rfl (.cons rfl sizeOf42 PlacesAre.nil) rfl CellsAre.nil (cX (XOp.alloc [(.slice none 0 0)] zeroValue57 rfl ?_))))))
 intro b3
 refine cX (XOp.storeN [] _ [(.slice none 0 0)] sizeOf57 rfl rfl rfl (ones_cons rfl ones_nil) rfl rfl rfl (XL.nil (X.seq (X.seq (X.region (XL.mv (ptr cb 0) rfl (cX (XOp.call (args := [ptr cb 0, .int .i64 (4)]) call137 rfl (Does.at [_, _, _] (l1Below_spec (n := 4) hbs (by omega) (hn := (by first | assumption | rfl | omega | simp)))) ?_))))))))
 rintro _ _ _ _ ⟨⟨rfl, x1, rfl, hr1⟩, rfl⟩
 show XL _ _ _ _ _ _ _ (cellsH b3 [(.slice none 0 0)] 57 :: cellsH b2 [(.slice none 0 0)] 57 :: cellsH b1 [arv] 26 :: curH .i64 123 cb bsv bs.length :: L)
 refine XL.as (.int .i64 (x1)) rfl (XL.nil (X.block (X.loop (α := Nat × Value × List (List Int) × List Value × Nat × FH) (fun xQ => [(0, ptr cb 0), (3, ptr b1 0), (4, ptr b2 0), (5, ptr b3 0), (6, .int .i64 (((xQ.1 : Nat) : Int)))]) (fun xQ => slH 24 1 xQ.2.1 xQ.2.2.2.2.1 xQ.2.2.2.1 :: cellsH b3 [xQ.2.1] 57 :: cellsH b2 [(.slice none 0 0)] 57 :: cellsH b1 [arv] 26 :: curH .i64 123 cb bsv bs.length :: L) (fun xQ F' => xQ.2.2.2.2.2 = F' ∧ F ≤ xQ.2.2.2.2.2 ∧ (IsSl xQ.2.1) ∧ (RowsC xQ.2.2.2.2.2 xQ.2.2.2.1 xQ.2.2.1) ∧ (xQ.2.2.2.2.1 = xQ.2.2.1.length) ∧ (xQ.2.2.1.length + xQ.1 ≤ 4) ∧ (∀ i, (xQ.2.2.1.getD i []).length ≤ 2000)) (fun xQ => xQ.1) (x1.toNat, (.slice none 0 0), [], [], 0, F) ⟨rfl, rfl, rfl, rfl, (vI (by omega)), trivial⟩ (Sub.trans (Sub.addNil 24 1 _ _) (sC (sC (sC (sC (sC sR)))))) ⟨rfl, FLe.refl _, (⟨_, _, _, rfl⟩), (CO.nil), (rfl), (by (try dsimp only); simp only [List.length_nil]; omega), (fun i => by simp)⟩ ?_)))
 rintro ⟨n, ov, os, cs, m, G1⟩ rE _ _ ⟨rfl, leG, hov, hC, hm, hon, hob⟩
 show X _ _ _ _ (envs [(0, ptr cb 0), (3, ptr b1 0), (4, ptr b2 0), (5, ptr b3 0), (6, .int .i64 ((n : Int)))] rE) _ (slH 24 1 ov m cs :: cellsH b3 [ov] 57 :: cellsH b2 [(.slice none 0 0)] 57 :: cellsH b1 [arv] 26 :: curH .i64 123 cb bsv bs.length :: L)
 replace leG : F ≤ G1 := leG
 dsimp only at hov hC hm hon hob
 have leG1 := leG
 replace hbs := hbs.mono leG1
 replace har := har.mono leG1
 refine X.seq (X.seq (X.region (XL.mv (.int .i64 ((n : Int))) rfl (cX (XOp.gtr rfl rfl (XL.nil ?_))))))
 refine X.condD (p := (n : Int) > 0) rfl (fun h1 => ?_) (fun h1 => ?_)
 ·refine X.skip (X.seq (X.block (X.seq (X.region (cX (XOp.buildSlice (s := 1) [] [.int .i64 (0)] [] runUnderlying24 sizeOf2 zeroValue2 rfl (by decide) rfl CellsAre.nil rfl ?_))))))
  intro v1 hv1
  refine XL.as (v1) rfl (XL.nil (X.seq (X.seq (X.region (XL.mv (ptr cb 0) rfl (cX (XOp.call (args := [ptr cb 0, .int .i64 (3)]) call136 rfl (Does.at [_, _, _, _, _] (l1Once_spec (n := 3) hbs (by omega) (hn := (by first | assumption | rfl | omega | simp)))) ?_)))))))
  rintro _ _ _ _ ⟨⟨rfl, x2, rfl⟩, rfl⟩
  show XL _ _ _ _ _ _ _ (slH 2 1 v1 0 [] :: slH 24 1 ov m cs :: cellsH b3 [ov] 57 :: cellsH b2 [(.slice none 0 0)] 57 :: cellsH b1 [arv] 26 :: curH .i64 123 cb bsv bs.length :: L)
  refine cX (XOp.notB rfl (XL.nil ?_))
  refine X.cond (t := !(x2)) rfl (fun h2 => ?_) (fun h2 => ?_)
  ·refine X.drawG [slH 2 1 v1 0 [], slH 24 1 ov m cs, cellsH b3 [ov] 57, cellsH b2 [(.slice none 0 0)] 57, cellsH b1 [arv] 26, curH .i64 123 cb bsv bs.length] L 5 [[], [], [], [], [3]] [[], [], [], [2], [3]] [[], [], [], [], []] (phiG [fun FF us v => v = ptr cb 0, fun FF us v => v = (.agg #[arv] : Value), fun FF us v => v = ptr cb 0, fun FF us v => (.int .i64 (((intAt v))) : Value) = v ∧ (0 ≤ ((intAt v)) ∧ (((intAt v)) < 3 ∨ ((intAt v)) = 0)), fun FF us v => v = (.int .i64 (1 + (((intAt (us.getD 0 undef))))) : Value)]) (ownL [fun us v => [], fun us v => [], fun us v => [], fun us v => [], fun us v => []]) mixed rfl rfl (by kernel_rfl) (by kernel_rfl) (MonoG.get (mC (fun le h => h) (mC (fun le h => h) (mC (fun le h => h) (mC (fun le h => ⟨h.1, h.2⟩) (mC (fun le h => h) MonoG.nil)))))) ?_ ?_
   ·refine gC (fun vals Fs R leFs hpZ => ?_) ?_
    ·refine XG.op (XOp.move (ptr cb 0) rfl ?_)
     exact ⟨rfl, rfl⟩
    refine gC (fun vals Fs R leFs hpZ => ?_) ?_
    ·replace hbs := hbs.mono leFs
     replace har := har.mono leFs
     replace hC := hC.mono leFs
     refine XG.op (XOp.loadN [arv] isAgg26 sizeOf26 rfl rfl (Rd.ownN [_, _, _, _] rfl rfl) ?_)
     exact ⟨rfl, rfl⟩
    refine gC (fun vals Fs R leFs hpZ => ?_) ?_
    ·refine XG.op (XOp.move (ptr cb 0) rfl ?_)
     exact ⟨rfl, rfl⟩
    refine gC (fun vals Fs R leFs hpZ => ?_) ?_
    ·replace hbs := hbs.mono leFs
     replace har := har.mono leFs
     replace hC := hC.mono leFs
     rw [eS (l := [(2, ptr cb 0)]) ⟨(hpZ 2 (by decide)), trivial⟩]
     refine XG.op (XOp.call (args := [ptr cb 0, .int .i64 (3)]) call137 rfl (Does.at [_, _, _, _, _] (l1Below_spec (n := 3) hbs (by omega) (hn := (by first | assumption | rfl | omega | simp)))) ?_)
     rintro _ _ _ _ ⟨⟨rfl, x4, rfl, hr3⟩, rfl⟩
     exact ⟨⟨rfl, hr3⟩, rfl⟩
    refine gC (fun vals Fs R leFs hpZ => ?_) ?_
    ·obtain ⟨e3, f3_1hx⟩ := hpZ 3 (by decide)
     rw [eS (l := [(3, (.int .i64 (((intAt (vals 3)))) : Value))]) ⟨(e3).symm, trivial⟩]
     refine XG.op (XOp.addR (1 + (((intAt (vals 3))))) rfl rfl (by omega) (by omega) ?_)
     exact ⟨rfl, rfl⟩
    exact stepsG.nil
   intro vals F5 le5 hphi
   obtain ⟨e3, f3_1hx⟩ := hphi 3 (by decide)
   have e4 : vals 4 = (.int .i64 (1 + (((intAt (vals 3))))) : Value) := hphi 4 (by decide)
   generalize hu1 : (intAt (vals 3)) = u1 at e3 f3_1hx e4
   rw [eS (l := [(0, ptr cb 0), (1, (.agg #[arv] : Value)), (3, (.int .i64 ((u1)) : Value)), (4, (.int .i64 (1 + ((u1))) : Value))]) ⟨(hphi 0 (by decide)), (hphi 1 (by decide)), (e3).symm, e4, trivial⟩]
   replace hbs := hbs.mono le5
   replace har := har.mono le5
   replace hC := hC.mono le5
   show XL _ _ _ _ _ _ _ (slH 2 1 v1 0 [] :: slH 24 1 ov m cs :: cellsH b3 [ov] 57 :: cellsH b2 [(.slice none 0 0)] 57 :: cellsH b1 [arv] 26 :: curH .i64 123 cb bsv bs.length :: L)
   refine cX (XOp.call (args := [ptr cb 0, .agg #[arv], .int .i64 (((1 + ((u1))).toNat : Nat) : Int), .int .i64 (3)]) call139 (by rw [show (((1 + ((u1))).toNat : Nat) : Int) = 1 + ((u1)) from by omega]; rfl) (Does.atO [_, _, _, _, _] (l1DrawTerm_spec ((1 + ((u1))).toNat) (vs := 3) hbs (by omega) har (hso := (by first | assumption | rfl | omega | simp)) (hdp := (by first | assumption | rfl | omega | simp)) (hvs := (by first | assumption | rfl | omega | simp)))) ?_)
   rintro _ F6 _ le6 ⟨x6, ⟨rfl, hsl1⟩, rfl⟩
   replace hC := hC.mono le6
   show XL _ _ _ _ _ _ _ (drawnH 2 x6 (fun t => goodT ar t ∧ 1 ≤ t.length ∧ t.length ≤ szT ((1 + ((u1))).toNat)) :: slH 2 1 v1 0 [] :: slH 24 1 ov m cs :: cellsH b3 [ov] 57 :: cellsH b2 [(.slice none 0 0)] 57 :: cellsH b1 [arv] 26 :: curH .i64 123 cb bsv bs.length :: L)
   refine XL.undraw [] rfl (fun t1 hq9 => ?_)
   obtain ⟨q1, q2, q3⟩ := hq9
   show XL _ _ _ _ _ _ _ (intsH 2 x6 t1 :: slH 2 1 v1 0 [] :: slH 24 1 ov m cs :: cellsH b3 [ov] 57 :: cellsH b2 [(.slice none 0 0)] 57 :: cellsH b1 [arv] 26 :: curH .i64 123 cb bsv bs.length :: L)
   have hz9 := szT_le (d := (1 + ((u1))).toNat) (e := 4) (by omega)
   have hz8 : szT 4 = 121 := rfl
   refine XL.as (x6) rfl (XL.nil (X.region (cX (XOp.fieldP (0) runUnderlying57 rfl sizeOf42 (by decide) rfl rfl (cX (XOp.load1 isAgg42 rfl (Rd.own [_, _, _] rfl rfl) (XL.mv (x6) rfl (cX (XOp.buildSlice (s := 1) [x6] [(.slice none 0 0)] [(0, [x6])] runUnderlying42 sizeOf24 zeroValue24 rfl (by decide) rfl (.cons (cells_one hsl1) CellsAre.nil) rfl ?_)))))))))
   intro v2 hv2
   refine XL.freezeF [_] _ _ rfl (fun F7 le7 hz1 => ?_)
   replace hC := hC.mono le7
   have hf1 : IntsF F7 x6 t1 := intsH.fz (xs := t1) hz1.fz
   refine cX (XOp.append (m := 1) (bytes := 24) (cs := cs) [_, _] _ [x6] runUnderlying42 typeInfo24 rfl rfl rfl rfl rfl rfl rfl (SlV.own [] rfl) rfl (Rd.lit [] rfl) (ones_cons (one_sl (IntsF.isSl hf1)) ones_nil) (by (try simp only [List.length_append, List.length_nil, List.length_cons, List.length_singleton]); omega) (by (try simp only [List.length_append, List.length_nil, List.length_cons, List.length_singleton]); omega) ?_)
   intro v3 hs1 hn1 hm1
   have hc1 := RowsC.snoc hC hf1
   refine cX (XOp.fieldP (0) runUnderlying57 rfl sizeOf42 (by decide) rfl rfl (cX (XOp.store1 [_, _, _] _ [v3] sizeOf42 rfl rfl (one_sl hs1) rfl rfl rfl (XL.nil (X.region (XL.mv (.int .i64 ((n : Int))) rfl (cX (XOp.subR (((n : Int)) - 1) rfl rfl (by omega) (by omega) (XL.as (.int .i64 (((n : Int)) - 1)) rfl (XL.nil ?_))))))))))
   exact ⟨(n - 1, v3, os ++ [t1], cs ++ [x6], (m) + 1, F7), _, (FLe.trans (FLe.trans (FLe.trans leG1 le5) le6) le7), rF, ⟨rfl, rfl, rfl, rfl, (vI (by (try dsimp only); omega)), trivial⟩, (sD (sD (sC (sC (sC (sC (sC sR))))))), ⟨rfl, (FLe.trans (FLe.trans (FLe.trans leG1 le5) le6) le7), (hs1), (hc1), (by (try dsimp only); rw [List.length_append]; simp only [List.length_singleton]; omega), (by (try dsimp only); rw [List.length_append]; simp only [List.length_singleton]; omega), (rows_snoc hob (by (try simp only [List.length_nil]); omega))⟩, (by (try dsimp only); omega)⟩
  refine X.skip (X.region (cX (XOp.fieldP (0) runUnderlying57 rfl sizeOf42 (by decide) rfl rfl (cX (XOp.load1 isAgg42 rfl (Rd.own [_, _] rfl rfl) (XL.mv (v1) rfl (cX (XOp.buildSlice (s := 1) [v1] [(.slice none 0 0)] [(0, [v1])] runUnderlying42 sizeOf24 zeroValue24 rfl (by decide) rfl (.cons (cells_one (isSl_lit hv1)) CellsAre.nil) rfl ?_))))))))
  intro v4 hv3
  show XL _ _ _ _ _ _ _ (slH 24 1 v4 1 [v1] :: intsH 2 v1 ([] : List Int) :: slH 24 1 ov m cs :: cellsH b3 [ov] 57 :: cellsH b2 [(.slice none 0 0)] 57 :: cellsH b1 [arv] 26 :: curH .i64 123 cb bsv bs.length :: L)
  refine XL.freezeF [_] _ _ rfl (fun F8 le8 hz2 => ?_)
  replace hC := hC.mono le8
  have hf2 : IntsF F8 v1 ([]) := intsH.fz (xs := []) hz2.fz
  refine cX (XOp.append (m := 1) (bytes := 24) (cs := cs) [_] _ [v1] runUnderlying42 typeInfo24 rfl rfl rfl rfl rfl rfl rfl (SlV.own [] rfl) rfl (Rd.lit [] rfl) (ones_cons (one_sl (IntsF.isSl hf2)) ones_nil) (by (try simp only [List.length_append, List.length_nil, List.length_cons, List.length_singleton]); omega) (by (try simp only [List.length_append, List.length_nil, List.length_cons, List.length_singleton]); omega) ?_)
  intro v5 hs2 hn2 hm2
  have hc2 := RowsC.snoc hC hf2
  refine cX (XOp.fieldP (0) runUnderlying57 rfl sizeOf42 (by decide) rfl rfl (cX (XOp.store1 [_, _] _ [v5] sizeOf42 rfl rfl (one_sl hs2) rfl rfl rfl (XL.nil (X.region (XL.mv (.int .i64 ((n : Int))) rfl (cX (XOp.subR (((n : Int)) - 1) rfl rfl (by omega) (by omega) (XL.as (.int .i64 (((n : Int)) - 1)) rfl (XL.nil ?_))))))))))
  exact ⟨(n - 1, v5, os ++ [[]], cs ++ [v1], (m) + 1, F8), _, (FLe.trans leG1 le8), rF, ⟨rfl, rfl, rfl, rfl, (vI (by (try dsimp only); omega)), trivial⟩, (sD (sC (sC (sC (sC (sC sR)))))), ⟨rfl, (FLe.trans leG1 le8), (hs2), (hc2), (by (try dsimp only); rw [List.length_append]; simp only [List.length_singleton]; omega), (by (try dsimp only); rw [List.length_append]; simp only [List.length_singleton]; omega), (rows_snoc hob (by (try simp only [List.length_nil]); omega))⟩, (by (try dsimp only); omega)⟩
 refine X.exit (thenQ_exit (thenQ_exit (blockQ_exit (X.seq (X.region (cX (XOp.loadN [ov] isAgg57 sizeOf57 rfl rfl (Rd.ownN [_] rfl rfl) (cX (XOp.storeN [_, _] _ [ov] sizeOf57 rfl rfl rfl (ones_cons (one_sl hov) ones_nil) rfl rfl rfl (XL.nil (X.freezeF [] _ _ rfl (fun F9 le9 hz3 => ?_))))))))))))
 replace hC := hC.mono le9
 have hf3 : RowsF F9 ov os := CO.fz hC (by first | rfl | omega | (rw [List.length_set]; omega) | (simp; done)) hz3.fz
 refine X.ret (retEnd (L' := curH .i64 123 cb bsv bs.length :: L) [.agg #[ov]] (.agg #[ov]) (.cell rfl (loadNV [ov] isAgg57 sizeOf57 rfl (Rd.ownN [_] rfl rfl)) .nil) rfl (FLe.trans leG1 le9) rF (sD (sD (sD (sC sR)))) ?_)
 exact ⟨⟨_, rfl, ⟨_, hf3, by omega, hob⟩⟩, rfl⟩
end Go.Proofs.Ytmaaifhmhclhdaa
