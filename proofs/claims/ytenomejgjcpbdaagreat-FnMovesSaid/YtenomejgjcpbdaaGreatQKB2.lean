/-
  Walks, one after the other (part 3).
-/
import Derived.Test.YtenomejgjcpbdaaGreatQKL1
import Derived.Test.YtenomejgjcpbdaaGreatQKB1
set_option linter.unusedSimpArgs false
set_option linter.unusedVariables false
namespace Go.Proofs.YtenomejgjcpbdaaGreat
open Go X M Tryz

/- spec.l1New -/
theorem l1New_spec {F : FH} {L : List HP} {bsv : Value} {bs : List Int} (hbs : BytesF F bsv bs) (hlb : bs.length ≤ 4000000) :
    Does prog 93 [bsv] F (L) (fun v F' L' => ∃ cb : Nat, (ptr cb 0 : Value) = v ∧ F = F' ∧ curH .i64 231 cb bsv bs.length :: L = L') := by
 refine qH func93 rfl rfl rfl (qf (qc (qi ((.pointer none)) rfl (qd (qf (qc (qh (bsv) rfl (cX (qE runUnderlying60 rfl hbs.slv (cX (qU (((570029 + ((bs).length) : Nat) : Int)) rfl rfl (by omega) (by omega) (qi (ii (((570029 + ((bs).length) : Nat) : Int))) rfl (qd (qf (qf (qc (qi (ii (0)) rfl ?_)))))))))))))))))
 refine qd (qR (jy (α := Nat × Int) (fun xQ => [(0, bsv), (3, ii (xQ.2)), (4, ii (((xQ.1 : Nat) : Int)))]) (fun xQ => L) (fun xQ F' => F = F' ∧ (xQ.1 ≤ bs.length) ∧ (0 ≤ xQ.2 ∧ xQ.2 ≤ 1073741823)) (fun xQ => bs.length - xQ.1) (0, ((570029 + ((bs).length) : Nat) : Int)) ⟨rfl, rfl, rfl, ⟨⟩⟩ sR ⟨rfl, (Nat.zero_le _), (by (try dsimp only) <;> omega)⟩ ?_))
 rintro ⟨k, h⟩ rE _ _ ⟨rfl, hk, hh⟩
 show X _ _ _ _ (envs [(0, bsv), (3, ii (h)), (4, ii ((k : Int)))] rE) _ (L)
 dsimp only at hk hh
 refine qf (qf (qc (qh (ii ((k : Int))) rfl (qh (bsv) rfl (cX (qE runUnderlying60 rfl hbs.slv (cX (jh rfl rfl (qd ?_)))))))))
 refine qC (p := (k : Int) < (bs.length : Int)) rfl (fun h1 => ?_) (fun h1 => ?_)
 ·have hrg := hbs.range (i := k) (by omega)
  refine qA (qf (qR (qc (qh (ii (h)) rfl (cX (XOp.mulR (h * 317) rfl rfl (by omega) (by omega) (qh (bsv) rfl (qh (ii ((k : Int))) rfl (cX (qD k runUnderlying60 sizeOf5 rfl rfl rfl hbs.slv (by omega) (Nat.mul_one _) (cX (qk isAgg5 rfl (hbs.rd (by omega) _) (cX (XOp.convI (k' := .u8) (a := bs.getD k 0) (bs.getD k 0) runUnderlying5 runUnderlying2 rfl (IntWalk.i64_in _ (by omega)) (cX (qU ((h * 317) + (bs.getD k 0)) rfl rfl (by omega) (by omega) (cX (qU (((h * 317) + (bs.getD k 0)) + 11) rfl rfl (by omega) (by omega) ?_))))))))))))))))))
  refine cX (XOp.andW (a := ((h * 317) + (bs.getD k 0)) + 11) (b := 1073741823) rfl rfl rfl (by decide) ?_)
  intro r1 hr1
  refine qi (ii (r1)) rfl (qd (qc (qh (ii ((k : Int))) rfl (cX (qU (((k + 1 : Nat) : Int)) rfl rfl (by omega) (by omega) (qi (ii (((k + 1 : Nat) : Int))) rfl (qd ?_)))))))
  exact ⟨(k + 1, r1), _, FLe.refl _, rF, ⟨rfl, rfl, rfl, ⟨⟩⟩, sR, ⟨rfl, (by (try dsimp only) <;> omega), (hr1)⟩, (by omega)⟩
 refine jo (qB (qB (qW (qf (qc (qh (bsv) rfl (qh (ii (h)) rfl (cX (jk [bsv, ii (0), ii (h)] [sN, ii (0), ii (0)] [(0, 1), (1, 1), (2, 1)] [(0, [bsv]), (2, [ii (h)])] jU zeroValue231 rfl (.cons rfl sizeOf60 (.cons rfl sizeOf3 (.cons rfl qy PlacesAre.nil))) rfl (.cons (cells_one (BytesF.isSl hbs)) (.cons rfl CellsAre.nil)) (cX (qZ [bsv, ii (0), ii (h)] rfl rfl ?_)))))))))))
 intro b1
 refine qi (ptr b1 0) rfl (qd (qu (qs (L' := curH .i64 231 b1 bsv bs.length :: L) [ptr b1 0] (ptr b1 0) (.tmp rfl .nil) rfl rF rF (jV (curH.of (by omega) (by omega)) sR) ?_)))
 exact ⟨_, rfl, rfl, rfl⟩

/- spec.l1Byte -/
theorem l1Byte_spec0 {F : FH} {L : List HP} {cb : Nat} {bsv : Value} {bs : List Int} (hbs : BytesF F bsv bs) (hbl : bs.length ≤ 4000000) {i h : Int} (h0 : 0 ≤ i) (h1 : i ≤ bs.length) :
    Does prog 269 [ptr cb 0] F (cellsH cb [bsv, ii (i), ii (h)] 231 :: L) (fun v F' L' => (F = F' ∧ ∃ x : Int, (.int .i64 x : Value) = v ∧ (0 ≤ x ∧ x ≤ 255)) ∧ ∃ i' h' : Int, 0 ≤ i' ∧ i' ≤ bs.length ∧ cellsH cb [bsv, ii (i'), ii (h')] 231 :: L = L') := by
 refine qH func269 rfl rfl rfl (qf (qc (qi (ii (0)) rfl (qd (qf (qc (qh (ptr cb 0) rfl (qh (ptr cb 0) rfl (cX (jD rfl (cX (ql (2) jU rfl qy (by decide) rfl rfl (cX (qk je rfl (Rd.own [] rfl rfl) (cX (XOp.mulW (a := h) (b := 6364136223846793005) rfl rfl ?_))))))))))))))))
 intro r1
 refine cX (XOp.addW (a := r1) (b := 1442695040888963407) rfl rfl ?_)
 intro r2
 refine cX (jD rfl (cX (ql (2) jU rfl qy (by decide) rfl rfl (cX (jJ [] _ [bsv, ii (i), ii (r2)] qy rfl rfl rfl rfl rfl rfl (qd (qf ?_)))))))
 refine jM [cellsH cb [bsv, ii (i), ii (r2)] 231] L 10 [] [[], [0], [1], [2], [3], [], [5], [6], [7], [8]] [] (phiG [pe (ptr cb 0), pe (ptr cb 0), pe (ptr cb 2), pe (ii (r2)), fun FF us v => (ii ((intAt v)) : Value) = v, pe (ptr cb 0), pe (ptr cb 0), pe (ptr cb 2), pe (ii (r2)), fun FF us v => (ii ((intAt v)) : Value) = v]) (ownL []) mixed rfl rfl (by kernel_rfl) (by kernel_rfl) (MonoG.get (m1 (m1 (m1 (m1 (mC (fun le h => h) (m1 (m1 (m1 (m1 (mC (fun le h => h) MonoG.nil))))))))))) ?_ ?_
 ·refine gD (fun W Fs R lF z9 => ?_) ?_
  ·refine qj (qt (ptr cb 0) rfl ?_)
   exact ⟨rfl, rfl⟩
  refine gD (fun W Fs R lF z9 => ?_) ?_
  ·replace hbs := hbs.mono lF
   rw [eS (l := [(0, _)]) ⟨z9 0 rfl, ⟨⟩⟩]
   refine qj (jD rfl ?_)
   exact ⟨rfl, rfl⟩
  refine gD (fun W Fs R lF z9 => ?_) ?_
  ·rw [eS (l := [(1, _)]) ⟨z9 1 rfl, ⟨⟩⟩]
   refine qj (ql (2) jU rfl qy (by decide) rfl rfl ?_)
   exact ⟨rfl, rfl⟩
  refine gD (fun W Fs R lF z9 => ?_) ?_
  ·replace hbs := hbs.mono lF
   rw [eS (l := [(2, _)]) ⟨z9 2 rfl, ⟨⟩⟩]
   refine qj (qk je rfl (Rd.own [] rfl rfl) ?_)
   exact ⟨rfl, rfl⟩
  refine gD (fun W Fs R lF z9 => ?_) ?_
  ·rw [eS (l := [(3, _)]) ⟨z9 3 rfl, ⟨⟩⟩]
   refine qj (XOp.shrW (a := r2) (b := 33) rfl rfl (by decide) ?_)
   intro r5
   exact ⟨rfl, rfl⟩
  refine gD (fun W Fs R lF z9 => ?_) ?_
  ·refine qj (qt (ptr cb 0) rfl ?_)
   exact ⟨rfl, rfl⟩
  refine gD (fun W Fs R lF z9 => ?_) ?_
  ·replace hbs := hbs.mono lF
   rw [eS (l := [(5, _)]) ⟨z9 5 rfl, ⟨⟩⟩]
   refine qj (jD rfl ?_)
   exact ⟨rfl, rfl⟩
  refine gD (fun W Fs R lF z9 => ?_) ?_
  ·rw [eS (l := [(6, _)]) ⟨z9 6 rfl, ⟨⟩⟩]
   refine qj (ql (2) jU rfl qy (by decide) rfl rfl ?_)
   exact ⟨rfl, rfl⟩
  refine gD (fun W Fs R lF z9 => ?_) ?_
  ·replace hbs := hbs.mono lF
   rw [eS (l := [(7, _)]) ⟨z9 7 rfl, ⟨⟩⟩]
   refine qj (qk je rfl (Rd.own [] rfl rfl) ?_)
   exact ⟨rfl, rfl⟩
  refine gD (fun W Fs R lF z9 => ?_) ?_
  ·rw [eS (l := [(8, _)]) ⟨z9 8 rfl, ⟨⟩⟩]
   refine qj (XOp.shrW (a := r2) (b := 45) rfl rfl (by decide) ?_)
   intro r6
   exact ⟨rfl, rfl⟩
  exact stepsG.nil
 intro W F1 le1 hphi
 have e4 : (ii ((intAt (W 4))) : Value) = (W 4) := hphi 4 (by decide)
 have e9 : (ii ((intAt (W 9))) : Value) = (W 9) := hphi 9 (by decide)
 generalize hu1 : (intAt (W 4)) = u1 at e4 e9
 generalize hu2 : (intAt (W 9)) = u2 at e4 e9
 rw [eS (l := [(4, (ii (u1))), (9, (ii (u2)))]) ⟨(e4).symm, (e9).symm, ⟨⟩⟩]
 replace hbs := hbs.mono le1
 show XL _ _ _ _ _ _ _ (cellsH cb [bsv, ii (i), ii (r2)] 231 :: L)
 refine cX (XOp.xorW (a := u1) (b := u2) rfl rfl ?_)
 intro r7
 refine cX (XOp.andW (a := r7) (b := 255) rfl rfl rfl (by decide) ?_)
 intro r8 hr1
 refine qi (ii (r8)) rfl (qd (qf (qf ?_)))
 refine jY [cellsH cb [bsv, ii (i), ii (r2)] 231] L 9 [] [[], [0], [1], [2], [], [4], [5], [6], [7]] (phiL [qe (ptr cb 0), qe (ptr cb 0), qe (ptr cb 1), qe (ii (i)), qe (ptr cb 0), qe (ptr cb 0), qe (ptr cb 0), qe bsv, qe (ii ((bs.length : Int)) : Value)]) (ownL []) mixed rfl rfl (by kernel_rfl) ?_ ?_
 ·refine pD (fun W R z9 => ?_) ?_
  ·refine qj (qt (ptr cb 0) rfl ?_)
   exact ⟨rfl, rfl, rfl⟩
  refine pD (fun W R z9 => ?_) ?_
  ·rw [eS (l := [(0, _)]) ⟨z9 0 rfl, ⟨⟩⟩]
   refine qj (jD rfl ?_)
   exact ⟨rfl, rfl, rfl⟩
  refine pD (fun W R z9 => ?_) ?_
  ·rw [eS (l := [(1, _)]) ⟨z9 1 rfl, ⟨⟩⟩]
   refine qj (ql (1) jU rfl sizeOf3 (by decide) rfl rfl ?_)
   exact ⟨rfl, rfl, rfl⟩
  refine pD (fun W R z9 => ?_) ?_
  ·rw [eS (l := [(2, _)]) ⟨z9 2 rfl, ⟨⟩⟩]
   refine qj (qk isAgg3 rfl (Rd.own [] rfl rfl) ?_)
   exact ⟨rfl, rfl, rfl⟩
  refine pD (fun W R z9 => ?_) ?_
  ·refine qj (qt (ptr cb 0) rfl ?_)
   exact ⟨rfl, rfl, rfl⟩
  refine pD (fun W R z9 => ?_) ?_
  ·rw [eS (l := [(4, _)]) ⟨z9 4 rfl, ⟨⟩⟩]
   refine qj (jD rfl ?_)
   exact ⟨rfl, rfl, rfl⟩
  refine pD (fun W R z9 => ?_) ?_
  ·rw [eS (l := [(5, _)]) ⟨z9 5 rfl, ⟨⟩⟩]
   refine qj (ql (0) jU rfl sizeOf60 (by decide) rfl rfl ?_)
   exact ⟨rfl, rfl, rfl⟩
  refine pD (fun W R z9 => ?_) ?_
  ·rw [eS (l := [(6, _)]) ⟨z9 6 rfl, ⟨⟩⟩]
   refine qj (qk isAgg60 rfl (Rd.own [] rfl rfl) ?_)
   exact ⟨rfl, rfl, rfl⟩
  refine pD (fun W R z9 => ?_) ?_
  ·rw [eS (l := [(7, _)]) ⟨z9 7 rfl, ⟨⟩⟩]
   refine qj (qE runUnderlying60 rfl hbs.slv ?_)
   exact ⟨rfl, rfl, rfl⟩
  exact stepsP.nil
 intro W hphi
 rw [eS (l := [(3, _), (8, _)]) ⟨(hphi 3 (by decide)), (hphi 8 (by decide)), ⟨⟩⟩]
 show XL _ _ _ _ _ _ _ (cellsH cb [bsv, ii (i), ii (r2)] 231 :: L)
 refine cX (jh rfl rfl (qd ?_))
 refine qC (p := (i : Int) < (bs.length : Int)) rfl (fun h1 => ?_) (fun h1 => ?_)
 ·have hrg := hbs.range (i := i.toNat) (by omega)
  refine qf ?_
  refine jY [cellsH cb [bsv, ii (i), ii (r2)] 231] L 12 [] [[], [], [1], [2], [3], [], [5], [6], [7], [4, 8], [9], [10]] (phiL [qe (ii (r8)), qe (ptr cb 0), qe (ptr cb 0), qe (ptr cb 0), qe bsv, qe (ptr cb 0), qe (ptr cb 0), qe (ptr cb 1), qe (ii (i)), qe (.pointer (some (elemA bsv ((i).toNat)))), qe (.int .u8 (bs.getD ((i).toNat) 0)), qe (ii (bs.getD ((i).toNat) 0))]) (ownL []) mixed rfl rfl (by kernel_rfl) ?_ ?_
  ·refine pD (fun W R z9 => ?_) ?_
   ·refine qj (qt (ii (r8)) rfl ?_)
    exact ⟨rfl, rfl, rfl⟩
   refine pD (fun W R z9 => ?_) ?_
   ·refine qj (qt (ptr cb 0) rfl ?_)
    exact ⟨rfl, rfl, rfl⟩
   refine pD (fun W R z9 => ?_) ?_
   ·rw [eS (l := [(1, _)]) ⟨z9 1 rfl, ⟨⟩⟩]
    refine qj (jD rfl ?_)
    exact ⟨rfl, rfl, rfl⟩
   refine pD (fun W R z9 => ?_) ?_
   ·rw [eS (l := [(2, _)]) ⟨z9 2 rfl, ⟨⟩⟩]
    refine qj (ql (0) jU rfl sizeOf60 (by decide) rfl rfl ?_)
    exact ⟨rfl, rfl, rfl⟩
   refine pD (fun W R z9 => ?_) ?_
   ·rw [eS (l := [(3, _)]) ⟨z9 3 rfl, ⟨⟩⟩]
    refine qj (qk isAgg60 rfl (Rd.own [] rfl rfl) ?_)
    exact ⟨rfl, rfl, rfl⟩
   refine pD (fun W R z9 => ?_) ?_
   ·refine qj (qt (ptr cb 0) rfl ?_)
    exact ⟨rfl, rfl, rfl⟩
   refine pD (fun W R z9 => ?_) ?_
   ·rw [eS (l := [(5, _)]) ⟨z9 5 rfl, ⟨⟩⟩]
    refine qj (jD rfl ?_)
    exact ⟨rfl, rfl, rfl⟩
   refine pD (fun W R z9 => ?_) ?_
   ·rw [eS (l := [(6, _)]) ⟨z9 6 rfl, ⟨⟩⟩]
    refine qj (ql (1) jU rfl sizeOf3 (by decide) rfl rfl ?_)
    exact ⟨rfl, rfl, rfl⟩
   refine pD (fun W R z9 => ?_) ?_
   ·rw [eS (l := [(7, _)]) ⟨z9 7 rfl, ⟨⟩⟩]
    refine qj (qk isAgg3 rfl (Rd.own [] rfl rfl) ?_)
    exact ⟨rfl, rfl, rfl⟩
   refine pD (fun W R z9 => ?_) ?_
   ·rw [eS (l := [(4, _), (8, _)]) ⟨z9 4 rfl, z9 8 rfl, ⟨⟩⟩]
    refine qj (qD ((i).toNat) runUnderlying60 sizeOf5 rfl rfl (by omega) hbs.slv (by omega) (Nat.mul_one _) ?_)
    exact ⟨rfl, rfl, rfl⟩
   refine pD (fun W R z9 => ?_) ?_
   ·rw [eS (l := [(9, _)]) ⟨z9 9 rfl, ⟨⟩⟩]
    refine qj (qk isAgg5 rfl (hbs.rd (by omega) _) ?_)
    exact ⟨rfl, rfl, rfl⟩
   refine pD (fun W R z9 => ?_) ?_
   ·rw [eS (l := [(10, _)]) ⟨z9 10 rfl, ⟨⟩⟩]
    refine qj (XOp.convI (k' := .u8) (a := bs.getD ((i).toNat) 0) (bs.getD ((i).toNat) 0) runUnderlying5 runUnderlying2 rfl (IntWalk.i64_in _ (by omega)) ?_)
    exact ⟨rfl, rfl, rfl⟩
   exact stepsP.nil
  intro W hphi
  rw [eS (l := [(0, _), (11, _)]) ⟨(hphi 0 (by decide)), (hphi 11 (by decide)), ⟨⟩⟩]
  show XL _ _ _ _ _ _ _ (cellsH cb [bsv, ii (i), ii (r2)] 231 :: L)
  refine cX (qU (r8 + (bs.getD ((i).toNat) 0)) rfl rfl (by omega) (by omega) (cX (XOp.andW (a := r8 + (bs.getD ((i).toNat) 0)) (b := 255) rfl rfl rfl (by decide) ?_)))
  intro r9 hr2
  refine qi (ii (r9)) rfl (qd (qc (qh (ptr cb 0) rfl (qh (ptr cb 0) rfl (cX (jD rfl (cX (ql (1) jU rfl sizeOf3 (by decide) rfl rfl (cX (qk isAgg3 rfl (Rd.own [] rfl rfl) (cX (qU (i + 1) rfl rfl (by omega) (by omega) (cX (jD rfl (cX (ql (1) jU rfl sizeOf3 (by decide) rfl rfl ?_))))))))))))))))
  refine cX (jJ [] _ [bsv, ii (i + 1), ii (r2)] sizeOf3 rfl rfl rfl rfl rfl rfl (qd (qf (qc (qh (ii (r9)) rfl (qi (ii (r9)) rfl (qd (qu (qs (L' := cellsH cb [bsv, ii (i + 1), ii (r2)] 231 :: L) [ii (r9)] (ii (r9)) (.tmp rfl .nil) rfl rF le1 (sC sR) ?_)))))))))
  exact ⟨⟨rfl, _, rfl, by omega⟩, _, _, by omega, by omega, rfl⟩
 refine qA (qf (qc (qh (ii (r8)) rfl (qi (ii (r8)) rfl (qd (qu (qs (L' := cellsH cb [bsv, ii (i), ii (r2)] 231 :: L) [ii (r8)] (ii (r8)) (.tmp rfl .nil) rfl rF le1 (sC sR) ?_)))))))
 exact ⟨⟨rfl, _, rfl, by omega⟩, _, _, by omega, by omega, rfl⟩
theorem l1Byte_spec {F : FH} {L : List HP} {cb : Nat} {bsv : Value} {bs : List Int} (hbs : BytesF F bsv bs) (hbl : bs.length ≤ 4000000) : Does prog 269 [ptr cb 0] F (curH .i64 231 cb bsv bs.length :: L) (fun v F' L' => (F = F' ∧ ∃ (x : Int), (.int .i64 x : Value) = v ∧ (0 ≤ x ∧ x ≤ 255)) ∧ curH .i64 231 cb bsv bs.length :: L = L') :=
  Does.cur (Q := fun v F' => F = F' ∧ ∃ (x : Int), (.int .i64 x : Value) = v ∧ (0 ≤ x ∧ x ≤ 255)) fun i h h0 h1 => l1Byte_spec0 hbs hbl h0 h1

/- spec.l1Below -/
theorem l1Below_spec {F : FH} {L : List HP} {cb : Nat} {bsv : Value} {bs : List Int} (hbs : BytesF F bsv bs) (hbl : bs.length ≤ 4000000) {n : Int} (hn : n ≤ 1000000) :
    Does prog 189 [ptr cb 0, ii (n)] F (curH .i64 231 cb bsv bs.length :: L) (fun v F' L' => (F = F' ∧ ∃ (x : Int), (ii (x) : Value) = v ∧ (0 ≤ x ∧ (x < n ∨ x = 0))) ∧ curH .i64 231 cb bsv bs.length :: L = L') := by
 refine qH func189 rfl rfl rfl (qf (qc (qi (ii (0)) rfl (qd (qf (qf (qc (qh (ii (n)) rfl (cX (XOp.leq rfl rfl (qd ?_)))))))))))
 refine qC (p := (n : Int) ≤ 0) rfl (fun h1 => ?_) (fun h1 => ?_)
 ·refine qf (qc (qi (ii (0)) rfl (qd (qu (qo (qs (L' := curH .i64 231 cb bsv bs.length :: L) [ii (0)] (ii (0)) (.tmp rfl .nil) rfl rF rF (sC sR) ?_))))))
  exact ⟨⟨rfl, _, rfl, by omega⟩, rfl⟩
 refine qA (qf (qf (qc (qh (ii (n)) rfl (cX (XOp.leq rfl rfl (qd ?_)))))))
 refine qC (p := (n : Int) ≤ 256) rfl (fun h2 => ?_) (fun h2 => ?_)
 ·refine qf (qc (qh (ptr cb 0) rfl (cX (qm (args := [ptr cb 0]) call269 rfl (jl [] (l1Byte_spec hbs (by omega))) ?_))))
  rintro _ _ _ _ ⟨⟨rfl, x1, rfl, hr1⟩, rfl⟩
  show XL _ _ _ _ _ _ _ (curH .i64 231 cb bsv bs.length :: L)
  refine qh (ii (n)) rfl (cX (XOp.remV (a := x1) (b := n) rfl rfl (by omega) (by omega) ?_))
  intro r1 hr2
  refine qi (ii (r1)) rfl (qd (qu (qo (qs (L' := curH .i64 231 cb bsv bs.length :: L) [ii (r1)] (ii (r1)) (.tmp rfl .nil) rfl rF rF (sC sR) ?_))))
  exact ⟨⟨rfl, _, rfl, by omega⟩, rfl⟩
 refine qA (qf (qc (qh (ptr cb 0) rfl (cX (qm (args := [ptr cb 0]) call269 rfl (jl [] (l1Byte_spec hbs (by omega))) ?_)))))
 rintro _ _ _ _ ⟨⟨rfl, x2, rfl, hr3⟩, rfl⟩
 show XL _ _ _ _ _ _ _ (curH .i64 231 cb bsv bs.length :: L)
 refine qi (ii (x2)) rfl (qd (qf (qc (qh (ptr cb 0) rfl (cX (qm (args := [ptr cb 0]) call269 rfl (jl [] (l1Byte_spec hbs (by omega))) ?_))))))
 rintro _ _ _ _ ⟨⟨rfl, x3, rfl, hr4⟩, rfl⟩
 show XL _ _ _ _ _ _ _ (curH .i64 231 cb bsv bs.length :: L)
 refine qi (ii (x3)) rfl (qd (qf (qc (qh (ptr cb 0) rfl (cX (qm (args := [ptr cb 0]) call269 rfl (jl [] (l1Byte_spec hbs (by omega))) ?_))))))
 rintro _ _ _ _ ⟨⟨rfl, x4, rfl, hr5⟩, rfl⟩
 show XL _ _ _ _ _ _ _ (curH .i64 231 cb bsv bs.length :: L)
 refine qi (ii (x4)) rfl (qd (qf (qc (qh (ptr cb 0) rfl (cX (qm (args := [ptr cb 0]) call269 rfl (jl [] (l1Byte_spec hbs (by omega))) ?_))))))
 rintro _ _ _ _ ⟨⟨rfl, x5, rfl, hr6⟩, rfl⟩
 show XL _ _ _ _ _ _ _ (curH .i64 231 cb bsv bs.length :: L)
 refine qi (ii (x5)) rfl (qd (qf (qc (qh (ii (x2)) rfl (cX (XOp.mulR (x2 * 16777216) rfl rfl (by omega) (by omega) (qh (ii (x3)) rfl (cX (XOp.mulR (x3 * 65536) rfl rfl (by omega) (by omega) (cX (qU ((x2 * 16777216) + (x3 * 65536)) rfl rfl (by omega) (by omega) (qh (ii (x4)) rfl (cX (XOp.mulR (x4 * 256) rfl rfl (by omega) (by omega) (cX (qU (((x2 * 16777216) + (x3 * 65536)) + (x4 * 256)) rfl rfl (by omega) (by omega) ?_))))))))))))))))
 refine qh (ii (x5)) rfl (cX (qU ((((x2 * 16777216) + (x3 * 65536)) + (x4 * 256)) + x5) rfl rfl (by omega) (by omega) (qh (ii (n)) rfl (cX (XOp.remV (a := (((x2 * 16777216) + (x3 * 65536)) + (x4 * 256)) + x5) (b := n) rfl rfl (by omega) (by omega) ?_)))))
 intro r2 hr7
 refine qi (ii (r2)) rfl (qd (qu (qs (L' := curH .i64 231 cb bsv bs.length :: L) [ii (r2)] (ii (r2)) (.tmp rfl .nil) rfl rF rF (sC sR) ?_)))
 exact ⟨⟨rfl, _, rfl, by omega⟩, rfl⟩

/- spec.l1Once -/
theorem l1Once_spec {F : FH} {L : List HP} {cb : Nat} {bsv : Value} {bs : List Int} (hbs : BytesF F bsv bs) (hbl : bs.length ≤ 4000000) {n : Int} (hn : n ≤ 1000000) :
    Does prog 103 [ptr cb 0, ii (n)] F (curH .i64 231 cb bsv bs.length :: L) (fun v F' L' => (F = F' ∧ ∃ (b : Bool), (.bool (b) : Value) = v) ∧ curH .i64 231 cb bsv bs.length :: L = L') := by
 refine qH func103 rfl rfl rfl (qf (qc (qi (.bool (false)) rfl (qd (qf (qc (qh (ptr cb 0) rfl (qh (ii (n)) rfl (cX (qm (args := [ptr cb 0, ii (n)]) jP rfl (jl [] (l1Below_spec (n := n) hbs (by omega) (hn := (by first | assumption | rfl | omega | simp)))) ?_))))))))))
 rintro _ _ _ _ ⟨⟨rfl, x1, rfl, hr1⟩, rfl⟩
 show XL _ _ _ _ _ _ _ (curH .i64 231 cb bsv bs.length :: L)
 refine cX (jB rfl rfl (qi (.bool (decide ((x1 : Int) = 0))) rfl (qd (qu (qs (L' := curH .i64 231 cb bsv bs.length :: L) [.bool (decide ((x1 : Int) = 0))] (.bool (decide ((x1 : Int) = 0))) (.tmp rfl .nil) rfl rF rF (sC sR) ?_)))))
 exact ⟨⟨rfl, _, rfl⟩, rfl⟩

/- spec.l1From -/
theorem l1From_spec {F : FH} {L : List HP} {cb : Nat} {bsv : Value} {bs : List Int} (hbs : BytesF F bsv bs) (hbl : bs.length ≤ 4000000) {lo : Int} {hi : Int} (hlo : -1000 ≤ lo ∧ lo ≤ 1000 ∧ -1000 ≤ hi ∧ hi ≤ 900000) :
    Does prog 190 [ptr cb 0, ii (lo), ii (hi)] F (curH .i64 231 cb bsv bs.length :: L) (fun v F' L' => (F = F' ∧ ∃ (x : Int), (ii (x) : Value) = v ∧ (lo ≤ x ∧ (x ≤ hi ∨ x = lo))) ∧ curH .i64 231 cb bsv bs.length :: L = L') := by
 refine qH func190 rfl rfl rfl (qf (qc (qi (ii (0)) rfl (qd (qf (qc (qh (ii (lo)) rfl (qh (ptr cb 0) rfl (qh (ii (hi)) rfl (qh (ii (lo)) rfl (cX (jp (hi - lo) rfl rfl (by omega) (by omega) (cX (qU ((hi - lo) + 1) rfl rfl (by omega) (by omega) ?_))))))))))))))
 refine cX (qm (args := [ptr cb 0, ii ((hi - lo) + 1)]) jP rfl (jl [] (l1Below_spec (n := (hi - lo) + 1) hbs (by omega) (hn := (by first | assumption | rfl | omega | simp)))) ?_)
 rintro _ _ _ _ ⟨⟨rfl, x1, rfl, hr1⟩, rfl⟩
 show XL _ _ _ _ _ _ _ (curH .i64 231 cb bsv bs.length :: L)
 refine cX (qU (lo + x1) rfl rfl (by omega) (by omega) (qi (ii (lo + x1)) rfl (qd (qu (qs (L' := curH .i64 231 cb bsv bs.length :: L) [ii (lo + x1)] (ii (lo + x1)) (.tmp rfl .nil) rfl rF rF (sC sR) ?_)))))
 exact ⟨⟨rfl, _, rfl, by omega⟩, rfl⟩

/- spec.l1Odd -/
theorem l1Odd_spec {F : FH} {L : List HP} {cb : Nat} {bsv : Value} {bs : List Int} (hbs : BytesF F bsv bs) (hbl : bs.length ≤ 4000000) :
    Does prog 270 [ptr cb 0] F (curH .i64 231 cb bsv bs.length :: L) (fun v F' L' => (F = F' ∧ ∃ (x : Int), (ii (x) : Value) = v) ∧ curH .i64 231 cb bsv bs.length :: L = L') := by
 refine qH func270 rfl rfl rfl (qf (qc (qi (ii (0)) rfl (qd (qf (qc (cX (qz (s := 1) [ii (-1), ii (0), ii (1), ii (2147483648), ii (-2147483648), ii (1099511627776), ii (4611686018427387904), ii (-4611686018427387904), ii (9223372036854775807), ii (-9223372036854775808)] [ii (0)] [(0, [ii (-1)]), (1, [ii (0)]), (2, [ii (1)]), (3, [ii (2147483648)]), (4, [ii (-2147483648)]), (5, [ii (1099511627776)]), (6, [ii (4611686018427387904)]), (7, [ii (-4611686018427387904)]), (8, [ii (9223372036854775807)]), (9, [ii (-9223372036854775808)])] qg qy qO rfl (by decide) rfl (.cons rfl (.cons rfl (.cons rfl (.cons rfl (.cons rfl (.cons rfl (.cons rfl (.cons rfl (.cons rfl (.cons rfl CellsAre.nil)))))))))) rfl ?_))))))))
 intro v1 hv1
 show XL _ _ _ _ _ _ _ (intsH 2 v1 ([-1, 0, 1, 2147483648, -2147483648, 1099511627776, 4611686018427387904, -4611686018427387904, 9223372036854775807, -9223372036854775808] : List Int) :: curH .i64 231 cb bsv bs.length :: L)
 have hl10 : ([-1, 0, 1, 2147483648, -2147483648, 1099511627776, 4611686018427387904, -4611686018427387904, 9223372036854775807, -9223372036854775808] : List Int).length = 10 := rfl
 refine qh (ptr cb 0) rfl (cX (qm (args := [ptr cb 0, ii (10)]) jP rfl (jl [_] (l1Below_spec (n := 10) hbs (by omega) (hn := (by first | assumption | rfl | omega | simp)))) ?_))
 rintro _ _ _ _ ⟨⟨rfl, x1, rfl, hr1⟩, rfl⟩
 show XL _ _ _ _ _ _ _ (intsH 2 v1 ([-1, 0, 1, 2147483648, -2147483648, 1099511627776, 4611686018427387904, -4611686018427387904, 9223372036854775807, -9223372036854775808] : List Int) :: curH .i64 231 cb bsv bs.length :: L)
 refine cX (qD ((x1).toNat) qg qy rfl rfl (by omega) (intsH.slv [] rfl) (by omega) (Nat.mul_one _) (cX (qk je rfl (intsH.rd [] rfl (by omega)) (qi (ii (([-1, 0, 1, 2147483648, -2147483648, 1099511627776, 4611686018427387904, -4611686018427387904, 9223372036854775807, -9223372036854775808]).getD ((x1).toNat) 0)) rfl (qd (qu (qs (L' := curH .i64 231 cb bsv bs.length :: L) [ii (([-1, 0, 1, 2147483648, -2147483648, 1099511627776, 4611686018427387904, -4611686018427387904, 9223372036854775807, -9223372036854775808]).getD ((x1).toNat) 0)] (ii (([-1, 0, 1, 2147483648, -2147483648, 1099511627776, 4611686018427387904, -4611686018427387904, 9223372036854775807, -9223372036854775808]).getD ((x1).toNat) 0)) (.tmp rfl .nil) rfl rF rF (sD (sC sR)) ?_)))))))
 exact ⟨⟨rfl, _, rfl⟩, rfl⟩

/- spec.l1DrawSig -/
theorem l1DrawSig_spec {F : FH} {L : List HP} {cb : Nat} {bsv : Value} {bs : List Int} (hbs : BytesF F bsv bs) (hbl : bs.length ≤ 4000000) :
    Does prog 276 [ptr cb 0] F (curH .i64 231 cb bsv bs.length :: L) (fun v F' L' => ∃ a : Value, ((.agg #[a] : Value) = v ∧ IsSl a) ∧ drawnH 2 a (fun ar => sigOk ar = true) :: curH .i64 231 cb bsv bs.length :: L = L') := by
 refine qH func276 rfl rfl rfl (qf (qc (cX (ji [sN] zeroValue36 rfl ?_))))
 intro b1
 refine qd (qf (qc (cX (qz (s := 1) [ii (2), ii (1), ii (0)] [ii (0)] [(0, [ii (2)]), (1, [ii (1)]), (2, [ii (0)])] qg qy qO rfl (by decide) rfl (.cons rfl (.cons rfl (.cons rfl CellsAre.nil))) rfl ?_))))
 intro v1 hv1
 refine cX (jk [v1] [sN] [(0, 1)] [(0, [v1])] jm zeroValue36 rfl (.cons rfl qv PlacesAre.nil) rfl (.cons (cells_one (qV hv1)) CellsAre.nil) (cX (ji [sN] zeroValue36 rfl ?_)))
 intro b2
 refine cX (qK [] _ [v1] qw rfl rfl rfl (qx (qJ (qV hv1)) qQ) rfl rfl rfl (qd (qf (qf (qc (qh (ptr cb 0) rfl (cX (qm (args := [ptr cb 0, ii (4)]) call103 rfl (jl [_, _, _] (l1Once_spec (n := 4) hbs (by omega) (hn := (by first | assumption | rfl | omega | simp)))) ?_))))))))
 rintro _ _ _ _ ⟨⟨rfl, x1, rfl⟩, rfl⟩
 show XL _ _ _ _ _ _ _ (cellsH b2 [v1] 36 :: slH 2 1 v1 3 [ii (2), ii (1), ii (0)] :: cellsH b1 [sN] 36 :: curH .i64 231 cb bsv bs.length :: L)
 refine qd ?_
 refine jw (t := x1) rfl (fun h1 => ?_) (fun h1 => ?_)
 ·refine qf (qc (cX (qz (s := 1) [ii (0)] [ii (0)] [(0, [ii (0)])] qg qy qO rfl (by decide) rfl (.cons rfl CellsAre.nil) rfl ?_)))
  intro v2 hv2
  refine cX (jk [v2] [sN] [(0, 1)] [(0, [v2])] jm zeroValue36 rfl (.cons rfl qv PlacesAre.nil) rfl (.cons (cells_one (qV hv2)) CellsAre.nil) (cX (qK [_] _ [v2] qw rfl rfl rfl (qx (qJ (qV hv2)) qQ) rfl rfl rfl (qd (qf (qc ?_))))))
  show XL _ _ _ _ _ _ _ (intsH 2 v2 ([0] : List Int) :: cellsH b2 [v2] 36 :: slH 2 1 v1 3 [ii (2), ii (1), ii (0)] :: cellsH b1 [sN] 36 :: curH .i64 231 cb bsv bs.length :: L)
  skip
  refine qh (ptr cb 0) rfl (cX (qm (args := [ptr cb 0, ii (4)]) jP rfl (jl [_, _, _, _] (l1Below_spec (n := 4) hbs (by omega) (hn := (by first | assumption | rfl | omega | simp)))) ?_))
  rintro _ _ _ _ ⟨⟨rfl, x2, rfl, hr1⟩, rfl⟩
  show XL _ _ _ _ _ _ _ (intsH 2 v2 ([0] : List Int) :: cellsH b2 [v2] 36 :: slH 2 1 v1 3 [ii (2), ii (1), ii (0)] :: cellsH b1 [sN] 36 :: curH .i64 231 cb bsv bs.length :: L)
  refine qi (ii (x2)) rfl (qd (qR (jy (α := Nat × Value × List Int) (fun xQ => [(0, ptr cb 0), (2, ptr b1 0), (3, ptr b2 0), (4, ii (((xQ.1 : Nat) : Int)))]) (fun xQ => intsH 2 xQ.2.1 xQ.2.2 :: cellsH b2 [xQ.2.1] 36 :: slH 2 1 v1 3 [ii (2), ii (1), ii (0)] :: cellsH b1 [sN] 36 :: curH .i64 231 cb bsv bs.length :: L) (fun xQ F' => F = F' ∧ (IsSl xQ.2.1) ∧ (sigOk xQ.2.2 = true) ∧ (xQ.2.2.length + xQ.1 ≤ 4)) (fun xQ => xQ.1) (x2.toNat, v2, [0]) ⟨rfl, rfl, rfl, (vI (by omega)), ⟨⟩⟩ (sC (sC (sC (sC (sC sR))))) ⟨rfl, ((qV hv2)), ((show sigOk [0] = true from by decide)), (by (try simp only [List.length_cons, List.length_nil]); omega)⟩ ?_)))
  rintro ⟨n, ov, os⟩ rE _ _ ⟨rfl, hov, hso, hon⟩
  show X _ _ _ _ (envs [(0, ptr cb 0), (2, ptr b1 0), (3, ptr b2 0), (4, ii ((n : Int)))] rE) _ (intsH 2 ov os :: cellsH b2 [ov] 36 :: slH 2 1 v1 3 [ii (2), ii (1), ii (0)] :: cellsH b1 [sN] 36 :: curH .i64 231 cb bsv bs.length :: L)
  dsimp only at hov hso hon
  refine qf (qf (qc (qh (ii ((n : Int))) rfl (cX (jH rfl rfl (qd ?_))))))
  refine qC (p := (n : Int) > 0) rfl (fun h2 => ?_) (fun h2 => ?_)
  ·refine qA (qf (qR ?_))
   refine jM [intsH 2 ov os, cellsH b2 [ov] 36, slH 2 1 v1 3 [ii (2), ii (1), ii (0)], cellsH b1 [sN] 36, curH .i64 231 cb bsv bs.length] L 5 [[], [], [], [], [3]] [[], [0], [], [2], [3]] [] (phiG [pe (ptr b2 0), pe ov, pe (ptr cb 0), fun FF us v => (ii (((intAt v))) : Value) = v ∧ (0 ≤ ((intAt v)) ∧ (((intAt v)) < 3 ∨ ((intAt v)) = 0)), fun FF us v => ∃ b, v = .slice (some ⟨b, 0, none⟩) 1 1]) (ownL [o0, o0, o0, o0, fun us v => [slH 2 1 v 1 [ii (((intAt (us.getD 0 undef))))]]]) mixed rfl rfl (by kernel_rfl) (by kernel_rfl) (MonoG.get (m1 (m1 (m1 (mC (fun le h => ⟨h.1, h.2⟩) (mC (fun le h => h) MonoG.nil)))))) ?_ ?_
   ·refine gD (fun W Fs R lF z9 => ?_) ?_
    ·refine qj (ql (0) jm rfl qv (by decide) rfl rfl ?_)
     exact ⟨rfl, rfl⟩
    refine gD (fun W Fs R lF z9 => ?_) ?_
    ·replace hbs := hbs.mono lF
     rw [eS (l := [(0, _)]) ⟨z9 0 rfl, ⟨⟩⟩]
     refine qj (qk qS rfl (Rd.own [_] rfl rfl) ?_)
     exact ⟨rfl, rfl⟩
    refine gD (fun W Fs R lF z9 => ?_) ?_
    ·refine qj (qt (ptr cb 0) rfl ?_)
     exact ⟨rfl, rfl⟩
    refine gD (fun W Fs R lF z9 => ?_) ?_
    ·replace hbs := hbs.mono lF
     rw [eS (l := [(2, _)]) ⟨z9 2 rfl, ⟨⟩⟩]
     refine qj (qm (args := [ptr cb 0, ii (3)]) jP rfl (jl [_, _, _, _] (l1Below_spec (n := 3) hbs (by omega) (hn := (by first | assumption | rfl | omega | simp)))) ?_)
     rintro _ _ _ _ ⟨⟨rfl, x4, rfl, hr3⟩, rfl⟩
     exact ⟨⟨rfl, hr3⟩, rfl⟩
    refine gD (fun W Fs R lF z9 => ?_) ?_
    ·obtain ⟨e3, f3_1hx⟩ := z9 3 rfl
     rw [eS (l := [(3, (ii (((intAt (W 3))))))]) ⟨(e3).symm, ⟨⟩⟩]
     refine qj (qz (s := 1) [ii (((intAt (W 3))))] [ii (0)] [(0, [ii (((intAt (W 3))))])] qg qy qO rfl (by decide) rfl (.cons rfl CellsAre.nil) rfl ?_)
     intro v4 hv4
     exact ⟨hv4, rfl⟩
    exact stepsG.nil
   intro W F5 le5 hphi
   obtain ⟨e3, f3_1hx⟩ := hphi 3 (by decide)
   have f4 : ∃ b, (W 4) = .slice (some ⟨b, 0, none⟩) 1 1 := hphi 4 (by decide)
   generalize hu1 : (intAt (W 3)) = u1 at e3 f3_1hx f4
   generalize hu4 : W 4 = u2 at e3 f3_1hx f4
   rw [eS (l := [(1, _), (3, (ii ((u1)))), (4, u2)]) ⟨(hphi 1 (by decide)), (e3).symm, hu4, ⟨⟩⟩]
   show XL _ _ _ _ _ _ _ (slH 2 1 u2 1 [ii ((u1))] :: intsH 2 ov os :: cellsH b2 [ov] 36 :: slH 2 1 v1 3 [ii (2), ii (1), ii (0)] :: cellsH b1 [sN] 36 :: curH .i64 231 cb bsv bs.length :: L)
   refine cX (XOp.append1 (u := (u1)) [_] _ qg typeInfo2 rfl rfl rfl rfl rfl rfl (SlV.own [] rfl) (Rd.sl [] rfl rfl) (by (try simp only [List.length_append, List.length_nil, List.length_cons, List.length_singleton, List.length_take, List.length_drop]); omega) ?_)
   intro v5 hs1 hn1
   refine cX (ql (0) jm rfl qv (by decide) rfl rfl (cX (jJ [_, _] _ [v5] qv rfl rfl (qJ hs1) rfl rfl rfl (qd (qc (qh (ii ((n : Int))) rfl (cX (jp (((n : Int)) - 1) rfl rfl (by omega) (by omega) (qi (ii (((n : Int)) - 1)) rfl (qd ?_))))))))))
   exact ⟨(n - 1, v5, os ++ [(u1)]), _, FLe.refl _, le5, ⟨rfl, rfl, rfl, (vI (by (try dsimp only); omega)), ⟨⟩⟩, (sD (sC (sC (sC (sC (sC sR)))))), ⟨rfl, (hs1), (sigOk_snoc hso (by omega) (by omega)), (by (try dsimp only); rw [List.length_append]; simp only [List.length_singleton]; omega)⟩, (by (try dsimp only); omega)⟩
  refine jo (qB (qB (qW (qf (qc (cX (qq [ov] qI qw rfl rfl (Rd.ownN [_] rfl rfl) (cX (qK [_, _, _] _ [ov] qw rfl rfl rfl (qx (qJ hov) qQ) rfl rfl rfl (qd (qu (qs (L' := drawnH 2 ov (fun ar => sigOk ar = true) :: curH .i64 231 cb bsv bs.length :: L) [.agg #[ov]] (.agg #[ov]) (.cell rfl (jt [ov] qI qw rfl (Rd.ownN [_, _, _] rfl rfl)) .nil) rfl rF rF (jx (sC (sD (sD (sD (sC sR))))) (jV (drawnH.of (t := os) hso) sR)) ?_))))))))))))
  exact ⟨_, ⟨rfl, hov⟩, rfl⟩
 refine qA (qf (qc (cX (qq [v1] qI qw rfl rfl (Rd.ownN [] rfl rfl) (cX (qK [_, _] _ [v1] qw rfl rfl rfl (qx (qJ (qV hv1)) qQ) rfl rfl rfl (qd (qu (qs (L' := drawnH 2 v1 (fun ar => sigOk ar = true) :: curH .i64 231 cb bsv bs.length :: L) [.agg #[v1]] (.agg #[v1]) (.cell rfl (jt [v1] qI qw rfl (Rd.ownN [_, _] rfl rfl)) .nil) rfl rF rF (jx (sD (sC (sD (sC sR)))) (jV (drawnH.of (t := [2, 1, 0]) ((by decide))) sR)) ?_)))))))))
 exact ⟨_, ⟨rfl, (qV hv1)⟩, rfl⟩

/- spec.l1DrawSigAny -/
theorem l1DrawSigAny_spec {F : FH} {L : List HP} {cb : Nat} {bsv : Value} {bs : List Int} (hbs : BytesF F bsv bs) (hbl : bs.length ≤ 4000000) :
    Does prog 198 [ptr cb 0] F (curH .i64 231 cb bsv bs.length :: L) (fun v F' L' => (∃ (a : Value), ∃ (ar : List Int), (.agg #[a] : Value) = v ∧ (IntsF F' a ar) ∧ (ar.length ≤ 20)) ∧ curH .i64 231 cb bsv bs.length :: L = L') := by
 refine qH func198 rfl rfl rfl (qf (qc (cX (ji [sN] zeroValue36 rfl ?_))))
 intro b1
 refine qd (qf (qc (qh (ptr cb 0) rfl (cX (qm (args := [ptr cb 0]) call276 rfl (Does.atO [_] (l1DrawSig_spec hbs (by omega))) ?_)))))
 rintro _ F1 _ le1 ⟨x2, ⟨rfl, hsl1⟩, rfl⟩
 replace hbs := hbs.mono le1
 show XL _ _ _ _ _ _ _ (drawnH 2 x2 (fun ar => sigOk ar = true) :: cellsH b1 [sN] 36 :: curH .i64 231 cb bsv bs.length :: L)
 refine XL.undraw [] rfl (fun t1 hq9 => ?_)
 have q1 := hq9
 show XL _ _ _ _ _ _ _ (intsH 2 x2 t1 :: cellsH b1 [sN] 36 :: curH .i64 231 cb bsv bs.length :: L)
 have hsl9 := sigOk_spec q1
 refine cX (ji [sN] zeroValue36 rfl ?_)
 intro b2
 refine cX (qK [] _ [x2] qw rfl rfl rfl (qx (qJ hsl1) qQ) rfl rfl rfl (qd (qf (qf (qc (qh (ptr cb 0) rfl (cX (qm (args := [ptr cb 0, ii (15)]) call103 rfl (jl [_, _, _] (l1Once_spec (n := 15) hbs (by omega) (hn := (by first | assumption | rfl | omega | simp)))) ?_))))))))
 rintro _ _ _ _ ⟨⟨rfl, x3, rfl⟩, rfl⟩
 show XL _ _ _ _ _ _ _ (cellsH b2 [x2] 36 :: intsH 2 x2 t1 :: cellsH b1 [sN] 36 :: curH .i64 231 cb bsv bs.length :: L)
 refine qd ?_
 refine jw (t := x3) rfl (fun h1 => ?_) (fun h1 => ?_)
 ·refine qf (qc (qh (ptr cb 0) rfl (cX (qm (args := [ptr cb 0, ii (3)]) jP rfl (jl [_, _, _] (l1Below_spec (n := 3) hbs (by omega) (hn := (by first | assumption | rfl | omega | simp)))) ?_))))
  rintro _ _ _ _ ⟨⟨rfl, x4, rfl, hr1⟩, rfl⟩
  show XL _ _ _ _ _ _ _ (cellsH b2 [x2] 36 :: intsH 2 x2 t1 :: cellsH b1 [sN] 36 :: curH .i64 231 cb bsv bs.length :: L)
  refine qd (qR (qf (qc (cX (jB rfl rfl (qi (.bool (decide ((x4 : Int) = 0))) rfl (qd ?_)))))))
  refine qC (p := (x4 : Int) = 0) rfl (fun h2 => ?_) (fun h2 => ?_)
  ·refine jM [cellsH b2 [x2] 36, intsH 2 x2 t1, cellsH b1 [sN] 36, curH .i64 231 cb bsv bs.length] L 5 [[], [], [], [], [3]] [[], [0], [], [2], [3]] [] (phiG [pe (ptr b2 0), pe x2, pe (ptr cb 0), fun FF us v => (ii (((intAt v))) : Value) = v ∧ ((-1) ≤ ((intAt v)) ∧ (((intAt v)) ≤ 4 ∨ ((intAt v)) = (-1))), fun FF us v => ∃ b, v = .slice (some ⟨b, 0, none⟩) 1 1]) (ownL [o0, o0, o0, o0, fun us v => [slH 2 1 v 1 [ii (((intAt (us.getD 0 undef))))]]]) mixed rfl rfl (by kernel_rfl) (by kernel_rfl) (MonoG.get (m1 (m1 (m1 (mC (fun le h => ⟨h.1, h.2⟩) (mC (fun le h => h) MonoG.nil)))))) ?_ ?_
   ·refine gD (fun W Fs R lF z9 => ?_) ?_
    ·refine qj (ql (0) jm rfl qv (by decide) rfl rfl ?_)
     exact ⟨rfl, rfl⟩
    refine gD (fun W Fs R lF z9 => ?_) ?_
    ·replace hbs := hbs.mono lF
     rw [eS (l := [(0, _)]) ⟨z9 0 rfl, ⟨⟩⟩]
     refine qj (qk qS rfl (Rd.own [] rfl rfl) ?_)
     exact ⟨rfl, rfl⟩
    refine gD (fun W Fs R lF z9 => ?_) ?_
    ·refine qj (qt (ptr cb 0) rfl ?_)
     exact ⟨rfl, rfl⟩
    refine gD (fun W Fs R lF z9 => ?_) ?_
    ·replace hbs := hbs.mono lF
     rw [eS (l := [(2, _)]) ⟨z9 2 rfl, ⟨⟩⟩]
     refine qj (qm (args := [ptr cb 0, ii (-1), ii (4)]) call190 rfl (jl [_, _, _] (l1From_spec (lo := -1) (hi := 4) hbs (by omega) (hlo := (by first | assumption | rfl | omega | simp)))) ?_)
     rintro _ _ _ _ ⟨⟨rfl, x6, rfl, hr3⟩, rfl⟩
     exact ⟨⟨rfl, hr3⟩, rfl⟩
    refine gD (fun W Fs R lF z9 => ?_) ?_
    ·obtain ⟨e3, f3_1hx⟩ := z9 3 rfl
     replace hbs := hbs.mono lF
     rw [eS (l := [(3, (ii (((intAt (W 3))))))]) ⟨(e3).symm, ⟨⟩⟩]
     refine qj (qz (s := 1) [ii (((intAt (W 3))))] [ii (0)] [(0, [ii (((intAt (W 3))))])] qg qy qO rfl (by decide) rfl (.cons rfl CellsAre.nil) rfl ?_)
     intro v2 hv2
     exact ⟨hv2, rfl⟩
    exact stepsG.nil
   intro W F6 le6 hphi
   obtain ⟨e3, f3_1hx⟩ := hphi 3 (by decide)
   have f4 : ∃ b, (W 4) = .slice (some ⟨b, 0, none⟩) 1 1 := hphi 4 (by decide)
   generalize hu1 : (intAt (W 3)) = u1 at e3 f3_1hx f4
   generalize hu4 : W 4 = u2 at e3 f3_1hx f4
   rw [eS (l := [(1, _), (3, (ii ((u1)))), (4, u2)]) ⟨(hphi 1 (by decide)), (e3).symm, hu4, ⟨⟩⟩]
   replace hbs := hbs.mono le6
   show XL _ _ _ _ _ _ _ (slH 2 1 u2 1 [ii ((u1))] :: cellsH b2 [x2] 36 :: intsH 2 x2 t1 :: cellsH b1 [sN] 36 :: curH .i64 231 cb bsv bs.length :: L)
   refine cX (XOp.append1 (u := (u1)) [_, _] _ qg typeInfo2 rfl rfl rfl rfl rfl rfl (SlV.own [] rfl) (Rd.sl [] rfl rfl) (by (try simp only [List.length_append, List.length_nil, List.length_cons, List.length_singleton, List.length_take, List.length_drop]); omega) ?_)
   intro v3 hs1 hn1
   refine cX (ql (0) jm rfl qv (by decide) rfl rfl (cX (jJ [_] _ [v3] qv rfl rfl (qJ hs1) rfl rfl rfl (qd (qf (qc (cX (qq [v3] qI qw rfl rfl (Rd.ownN [_] rfl rfl) (cX (qK [_, _, _] _ [v3] qw rfl rfl rfl (qx (qJ hs1) qQ) rfl rfl rfl (qd (qT [_, _] _ _ rfl (fun F7 le7 hz1 => ?_)))))))))))))
   replace hbs := hbs.mono le7
   have hf1 : IntsF F7 v3 (t1 ++ [(u1)]) := intsH.fz (xs := t1 ++ [(u1)]) hz1.fz
   refine qu (qs (L' := curH .i64 231 cb bsv bs.length :: L) [.agg #[v3]] (.agg #[v3]) (.cell rfl (jt [v3] qI qw rfl (Rd.ownN [_, _] rfl rfl)) .nil) rfl (qn (qn le1 le6) le7) rF (sD (sD (sD (sC sR)))) ?_)
   exact ⟨⟨_, _, rfl, hf1, by (have h9 := sigOk_spec q1); (try simp only [List.length_append, List.length_cons, List.length_nil, List.length_replicate]); omega⟩, rfl⟩
  refine qf (qc (cX (jB rfl rfl (qi (.bool (decide ((x4 : Int) = 1))) rfl (qd ?_)))))
  refine qC (p := (x4 : Int) = 1) rfl (fun h3 => ?_) (fun h3 => ?_)
  ·refine qc (cX (qz (s := 1) [] [ii (0)] [] qg qy qO rfl (by decide) rfl CellsAre.nil rfl ?_))
   intro v4 hv3
   refine cX (ql (0) jm rfl qv (by decide) rfl rfl (cX (jJ [_] _ [v4] qv rfl rfl (qJ (qV hv3)) rfl rfl rfl (qd (qf (qc (cX (qq [v4] qI qw rfl rfl (Rd.ownN [_] rfl rfl) (cX (qK [_, _, _] _ [v4] qw rfl rfl rfl (qx (qJ (qV hv3)) qQ) rfl rfl rfl (qd ?_)))))))))))
   show X _ _ _ _ _ _ (intsH 2 v4 ([] : List Int) :: cellsH b2 [v4] 36 :: intsH 2 x2 t1 :: cellsH b1 [v4] 36 :: curH .i64 231 cb bsv bs.length :: L)
   refine qT [] _ _ rfl (fun F8 le8 hz2 => ?_)
   replace hbs := hbs.mono le8
   have hf2 : IntsF F8 v4 ([]) := intsH.fz (xs := []) hz2.fz
   refine qu (qs (L' := curH .i64 231 cb bsv bs.length :: L) [.agg #[v4]] (.agg #[v4]) (.cell rfl (jt [v4] qI qw rfl (Rd.ownN [_, _] rfl rfl)) .nil) rfl (qn le1 le8) rF (sD (sD (sD (sC sR)))) ?_)
   exact ⟨⟨_, _, rfl, hf2, by (have h9 := sigOk_spec q1); (try simp only [List.length_append, List.length_cons, List.length_nil, List.length_replicate]); omega⟩, rfl⟩
  refine qf (qc (cX (jB rfl rfl (qi (.bool (decide ((x4 : Int) = 2))) rfl (qd ?_)))))
  refine qC (p := (x4 : Int) = 2) rfl (fun h4 => ?_) (fun h4 => ?_)
  ·refine qc (qh (ptr cb 0) rfl (cX (qm (args := [ptr cb 0, ii (2)]) jP rfl (jl [_, _, _] (l1Below_spec (n := 2) hbs (by omega) (hn := (by first | assumption | rfl | omega | simp)))) ?_)))
   rintro _ _ _ _ ⟨⟨rfl, x7, rfl, hr4⟩, rfl⟩
   show XL _ _ _ _ _ _ _ (cellsH b2 [x2] 36 :: intsH 2 x2 t1 :: cellsH b1 [sN] 36 :: curH .i64 231 cb bsv bs.length :: L)
   refine cX (qU (((8 + (x7).toNat : Nat) : Int)) rfl rfl (by omega) (by omega) (cX (XOp.makeSlice (n := 8 + (x7).toNat) (bytes := 8) [ii (0)] qg qy typeInfo2 rfl qO rfl rfl rfl rfl (by omega) (by omega) ?_)))
   intro v5 hv4
   rw [intsH_zeros]
   refine cX (ql (0) jm rfl qv (by decide) rfl rfl (cX (jJ [_] _ [v5] qv rfl rfl (qJ (qV hv4)) rfl rfl rfl (qd (qf (qc (cX (qq [v5] qI qw rfl rfl (Rd.ownN [_] rfl rfl) (cX (qK [_, _, _] _ [v5] qw rfl rfl rfl (qx (qJ (qV hv4)) qQ) rfl rfl rfl (qd (qT [] _ _ rfl (fun F10 le10 hz3 => ?_)))))))))))))
   have hf3 : IntsF F10 v5 ((List.replicate (8 + (x7).toNat) 0)) := intsH.fz (xs := (List.replicate (8 + (x7).toNat) 0)) hz3.fz
   refine qu (qs (L' := curH .i64 231 cb bsv bs.length :: L) [.agg #[v5]] (.agg #[v5]) (.cell rfl (jt [v5] qI qw rfl (Rd.ownN [_, _] rfl rfl)) .nil) rfl (qn le1 le10) rF (sD (sD (sD (sC sR)))) ?_)
   exact ⟨⟨_, _, rfl, hf3, by (have h9 := sigOk_spec q1); (try simp only [List.length_append, List.length_cons, List.length_nil, List.length_replicate]); omega⟩, rfl⟩
  refine qA (qf (qc (cX (qq [x2] qI qw rfl rfl (Rd.ownN [] rfl rfl) (cX (qK [_, _] _ [x2] qw rfl rfl rfl (qx (qJ hsl1) qQ) rfl rfl rfl (qd (qT [_] _ _ rfl (fun F11 le11 hz4 => ?_)))))))))
  have hf4 : IntsF F11 x2 t1 := intsH.fz (xs := t1) hz4.fz
  refine qu (qs (L' := curH .i64 231 cb bsv bs.length :: L) [.agg #[x2]] (.agg #[x2]) (.cell rfl (jt [x2] qI qw rfl (Rd.ownN [_] rfl rfl)) .nil) rfl (qn le1 le11) rF (sD (sD (sC sR))) ?_)
  exact ⟨⟨_, _, rfl, hf4, by (have h9 := sigOk_spec q1); (try simp only [List.length_append, List.length_cons, List.length_nil, List.length_replicate]); omega⟩, rfl⟩
 refine qA (qf (qc (cX (qq [x2] qI qw rfl rfl (Rd.ownN [] rfl rfl) (cX (qK [_, _] _ [x2] qw rfl rfl rfl (qx (qJ hsl1) qQ) rfl rfl rfl (qd (qT [_] _ _ rfl (fun F12 le12 hz5 => ?_)))))))))
 have hf5 : IntsF F12 x2 t1 := intsH.fz (xs := t1) hz5.fz
 refine qu (qs (L' := curH .i64 231 cb bsv bs.length :: L) [.agg #[x2]] (.agg #[x2]) (.cell rfl (jt [x2] qI qw rfl (Rd.ownN [_] rfl rfl)) .nil) rfl (qn le1 le12) rF (sD (sD (sC sR))) ?_)
 exact ⟨⟨_, _, rfl, hf5, by (have h9 := sigOk_spec q1); (try simp only [List.length_append, List.length_cons, List.length_nil, List.length_replicate]); omega⟩, rfl⟩

/- spec.l1DrawTerm -/
theorem l1DrawTerm_spec_step {dp : Nat} (ih : ∀ m : Nat, m < dp → ∀ {F : FH} {L : List HP} {cb : Nat} {bsv : Value} {bs : List Int} (hbs : BytesF F bsv bs) (hbl : bs.length ≤ 4000000) {arv : Value} {ar : List Int} (har : IntsF F arv ar) {vs : Int} (hso : sigOk ar = true) (hdp : m ≤ 5) (hvs : 0 ≤ vs ∧ vs ≤ 24), Does prog 268 [ptr cb 0, .agg #[arv], ii ((m : Int)), ii (vs)] F (curH .i64 231 cb bsv bs.length :: L) (fun v F' L' => ∃ a : Value, ((a : Value) = v ∧ IsSl a) ∧ drawnH 2 a (fun t => goodT ar t ∧ 1 ≤ t.length ∧ t.length ≤ szT m) :: curH .i64 231 cb bsv bs.length :: L = L')) {F : FH} {L : List HP} {cb : Nat} {bsv : Value} {bs : List Int} (hbs : BytesF F bsv bs) (hbl : bs.length ≤ 4000000) {arv : Value} {ar : List Int} (har : IntsF F arv ar) {vs : Int} (hso : sigOk ar = true) (hdp : dp ≤ 5) (hvs : 0 ≤ vs ∧ vs ≤ 24) :
    Does prog 268 [ptr cb 0, .agg #[arv], ii (((dp : Nat) : Int)), ii (vs)] F (curH .i64 231 cb bsv bs.length :: L) (fun v F' L' => ∃ a : Value, ((a : Value) = v ∧ IsSl a) ∧ drawnH 2 a (fun t => goodT ar t ∧ 1 ≤ t.length ∧ t.length ≤ szT dp) :: curH .i64 231 cb bsv bs.length :: L = L') := by
 refine qH func268 rfl rfl rfl ?_
 have hz9 := szT_le (d := dp - 1) (e := 4) (by omega)
 have hz8 : szT 4 = 121 := rfl
 have hz7 := szT_pos (dp - 1)
 have hsl := sigOk_spec hso
 refine qf (qc (cX (qZ [arv] rfl rfl ?_)))
 intro b1
 refine qi (sN) rfl (qd (qf (qf (qc (qh (ii (((dp : Nat) : Int))) rfl (cX (XOp.leq rfl rfl (qh (.bool (decide ((((dp : Nat) : Int) : Int) ≤ 1))) rfl ?_))))))))
 by_cases h1 : (((dp : Nat) : Int) : Int) ≤ 1
 ·refine qp (t := 15) rfl (vT h1) (qp (t := 15) rfl (vT h1) (cX (qP (.bool (true)) (vT h1) rfl (qd (jC rfl (qf (qf (qc (qh (ii (vs)) rfl (cX (jH rfl rfl (qh (.bool (decide ((vs : Int) > 0))) rfl ?_))))))))))))
  by_cases h2 : (vs : Int) > 0
  ·refine qr (t := 21) rfl (vT h2) (qt (ptr cb 0) rfl (qr (t := 21) rfl (vT h2) (qm (args := [ptr cb 0, ii (2)]) call103 rfl (jl [_] (l1Once_spec (n := 2) hbs (by omega) (hn := (by first | assumption | rfl | omega | simp)))) ?_)))
   rintro _ _ _ _ ⟨⟨rfl, x1, rfl⟩, rfl⟩
   show XL _ _ _ _ _ _ _ (cellsH b1 [arv] 36 :: curH .i64 231 cb bsv bs.length :: L)
   refine cX (qP (.bool (x1)) (vT h2) rfl (qd ?_))
   refine jw (t := x1) rfl (fun h3 => ?_) (fun h3 => ?_)
   ·refine qf (qc (qh (ptr cb 0) rfl (qh (ii (vs)) rfl (cX (qm (args := [ptr cb 0, ii (vs)]) jP rfl (jl [_] (l1Below_spec (n := vs) hbs (by omega) (hn := (by first | assumption | rfl | omega | simp)))) ?_)))))
    rintro _ _ _ _ ⟨⟨rfl, x2, rfl, hr1⟩, rfl⟩
    show XL _ _ _ _ _ _ _ (cellsH b1 [arv] 36 :: curH .i64 231 cb bsv bs.length :: L)
    refine cX (jp ((-1) - x2) rfl rfl (by omega) (by omega) (cX (qz (s := 1) [ii ((-1) - x2)] [ii (0)] [(0, [ii ((-1) - x2)])] qg qy qO rfl (by decide) rfl (.cons rfl CellsAre.nil) rfl ?_)))
    intro v1 hv1
    refine qi (v1) rfl (qd (qu (qo (qo (qs (L' := drawnH 2 v1 (fun t => goodT ar t ∧ 1 ≤ t.length ∧ t.length ≤ szT dp) :: curH .i64 231 cb bsv bs.length :: L) [v1] (v1) (.tmp rfl .nil) rfl rF rF (jx (sC (sD (sC sR))) (jV (drawnH.of (t := [(-1) - x2]) (⟨goodT.var (by omega) (by omega), Nat.le_refl _, szT_pos dp⟩)) sR)) ?_)))))
    exact ⟨_, ⟨rfl, (qV hv1)⟩, rfl⟩
   refine qA (qf (qf (qc (cX (ql (0) jm rfl qv (by decide) rfl rfl (cX (qk qS rfl (Rd.own [] rfl rfl) (cX (qE qg rfl har.slv (cX (jp (((((ar).length) - 1 : Nat) : Int)) rfl rfl (by omega) (by omega) (qi (ii (((((ar).length) - 1 : Nat) : Int))) rfl (qd (qR (jy (α := Nat) (fun j => [(5, ptr b1 0), (9, ii ((j : Int) - 1))]) (fun j => cellsH b1 [arv] 36 :: curH .i64 231 cb bsv bs.length :: L) (fun j F' => F = F' ∧ (j ≤ ar.length)) (fun j => j) ar.length ⟨rfl, (vI (by omega)), ⟨⟩⟩ (sC (sC sR)) ⟨rfl, (Nat.le_refl _)⟩ ?_)))))))))))))))
   rintro j rE _ _ ⟨rfl, hj⟩
   show X _ _ _ _ (envs [(5, ptr b1 0), (9, ii ((j : Int) - 1))] rE) _ (cellsH b1 [arv] 36 :: curH .i64 231 cb bsv bs.length :: L)
   refine qf (qf (qc (qh (ii ((j : Int) - 1)) rfl (cX (jZ rfl rfl (qd ?_))))))
   refine qC (p := ((j : Int) - 1 : Int) ≥ 0) rfl (fun h4 => ?_) (fun h4 => ?_)
   ·refine qA (qf (qR (qf (qc (cX (ql (0) jm rfl qv (by decide) rfl rfl (cX (qk qS rfl (Rd.own [] rfl rfl) (qh (ii ((j : Int) - 1)) rfl (cX (qD (((j : Int) - 1).toNat) qg qy rfl rfl (by omega) har.slv (by omega) (Nat.mul_one _) (cX (qk je rfl (har.rd (by omega)) (cX (jB rfl rfl (qd ?_))))))))))))))))
    refine qC (p := (ar.getD (((j : Int) - 1).toNat) 0 : Int) = 0) rfl (fun h5 => ?_) (fun h5 => ?_)
    ·refine qf (qc (qh (ii ((j : Int) - 1)) rfl (cX (qz (s := 1) [ii ((j : Int) - 1)] [ii (0)] [(0, [ii ((j : Int) - 1)])] qg qy qO rfl (by decide) rfl (.cons rfl CellsAre.nil) rfl ?_))))
     intro v2 hv2
     refine qi (v2) rfl (qd (qu (qL (qo (qo (qL (qo (qo (qs (L' := drawnH 2 v2 (fun t => goodT ar t ∧ 1 ≤ t.length ∧ t.length ≤ szT dp) :: curH .i64 231 cb bsv bs.length :: L) [v2] (v2) (.tmp rfl .nil) rfl rF rF (jx (sC (sD (sC sR))) (jV (drawnH.of (t := [(j : Int) - 1]) (⟨goodT.one (by omega) (by omega) (by rw [arity, if_neg (by omega)]; omega), Nat.le_refl _, szT_pos dp⟩)) sR)) ?_)))))))))
     exact ⟨_, ⟨rfl, (qV hv2)⟩, rfl⟩
    refine qA (qc (qh (ii ((j : Int) - 1)) rfl (cX (jp (((j : Int) - 1) - 1) rfl rfl (by omega) (by omega) (qi (ii (((j : Int) - 1) - 1)) rfl (qd ?_))))))
    exact ⟨j - 1, _, FLe.refl _, rF, ⟨rfl, (vI (by (try dsimp only); omega)), ⟨⟩⟩, (sC (sC sR)), ⟨rfl, (by (try dsimp only) <;> omega)⟩, (by (try dsimp only); omega)⟩
   refine jo (qB (qB (qW (qf (qc (cX (qz (s := 1) [ii (-1)] [ii (0)] [(0, [ii (-1)])] qg qy qO rfl (by decide) rfl (.cons rfl CellsAre.nil) rfl ?_)))))))
   intro v3 hv3
   refine qi (v3) rfl (qd (qu (qo (qs (L' := drawnH 2 v3 (fun t => goodT ar t ∧ 1 ≤ t.length ∧ t.length ≤ szT dp) :: curH .i64 231 cb bsv bs.length :: L) [v3] (v3) (.tmp rfl .nil) rfl rF rF (jx (sC (sD (sC sR))) (jV (drawnH.of (t := [-1]) (⟨goodT.var (by omega) (by omega), Nat.le_refl _, szT_pos dp⟩)) sR)) ?_))))
   exact ⟨_, ⟨rfl, (qV hv3)⟩, rfl⟩
  refine qp (t := 21) rfl (vF h2) (qp (t := 21) rfl (vF h2) (cX (qN (.bool (false)) (vF h2) rfl (qd (X.condF rfl (qA (qf (qf (qc (cX (ql (0) jm rfl qv (by decide) rfl rfl (cX (qk qS rfl (Rd.own [] rfl rfl) (cX (qE qg rfl har.slv (cX (jp (((((ar).length) - 1 : Nat) : Int)) rfl rfl (by omega) (by omega) ?_)))))))))))))))))
  refine qi (ii (((((ar).length) - 1 : Nat) : Int))) rfl (qd (qR (jy (α := Nat) (fun j => [(5, ptr b1 0), (9, ii ((j : Int) - 1))]) (fun j => cellsH b1 [arv] 36 :: curH .i64 231 cb bsv bs.length :: L) (fun j F' => F = F' ∧ (j ≤ ar.length)) (fun j => j) ar.length ⟨rfl, (vI (by omega)), ⟨⟩⟩ (sC (sC sR)) ⟨rfl, (Nat.le_refl _)⟩ ?_)))
  rintro j rE _ _ ⟨rfl, hj⟩
  show X _ _ _ _ (envs [(5, ptr b1 0), (9, ii ((j : Int) - 1))] rE) _ (cellsH b1 [arv] 36 :: curH .i64 231 cb bsv bs.length :: L)
  refine qf (qf (qc (qh (ii ((j : Int) - 1)) rfl (cX (jZ rfl rfl (qd ?_))))))
  refine qC (p := ((j : Int) - 1 : Int) ≥ 0) rfl (fun h6 => ?_) (fun h6 => ?_)
  ·refine qA (qf (qR (qf (qc (cX (ql (0) jm rfl qv (by decide) rfl rfl (cX (qk qS rfl (Rd.own [] rfl rfl) (qh (ii ((j : Int) - 1)) rfl (cX (qD (((j : Int) - 1).toNat) qg qy rfl rfl (by omega) har.slv (by omega) (Nat.mul_one _) (cX (qk je rfl (har.rd (by omega)) (cX (jB rfl rfl (qd ?_))))))))))))))))
   refine qC (p := (ar.getD (((j : Int) - 1).toNat) 0 : Int) = 0) rfl (fun h7 => ?_) (fun h7 => ?_)
   ·refine qf (qc (qh (ii ((j : Int) - 1)) rfl (cX (qz (s := 1) [ii ((j : Int) - 1)] [ii (0)] [(0, [ii ((j : Int) - 1)])] qg qy qO rfl (by decide) rfl (.cons rfl CellsAre.nil) rfl ?_))))
    intro v4 hv4
    refine qi (v4) rfl (qd (qu (qL (qo (qo (qL (qo (qo (qs (L' := drawnH 2 v4 (fun t => goodT ar t ∧ 1 ≤ t.length ∧ t.length ≤ szT dp) :: curH .i64 231 cb bsv bs.length :: L) [v4] (v4) (.tmp rfl .nil) rfl rF rF (jx (sC (sD (sC sR))) (jV (drawnH.of (t := [(j : Int) - 1]) (⟨goodT.one (by omega) (by omega) (by rw [arity, if_neg (by omega)]; omega), Nat.le_refl _, szT_pos dp⟩)) sR)) ?_)))))))))
    exact ⟨_, ⟨rfl, (qV hv4)⟩, rfl⟩
   refine qA (qc (qh (ii ((j : Int) - 1)) rfl (cX (jp (((j : Int) - 1) - 1) rfl rfl (by omega) (by omega) (qi (ii (((j : Int) - 1) - 1)) rfl (qd ?_))))))
   exact ⟨j - 1, _, FLe.refl _, rF, ⟨rfl, (vI (by (try dsimp only); omega)), ⟨⟩⟩, (sC (sC sR)), ⟨rfl, (by (try dsimp only) <;> omega)⟩, (by (try dsimp only); omega)⟩
  refine jo (qB (qB (qW (qf (qc (cX (qz (s := 1) [ii (-1)] [ii (0)] [(0, [ii (-1)])] qg qy qO rfl (by decide) rfl (.cons rfl CellsAre.nil) rfl ?_)))))))
  intro v5 hv5
  refine qi (v5) rfl (qd (qu (qo (qs (L' := drawnH 2 v5 (fun t => goodT ar t ∧ 1 ≤ t.length ∧ t.length ≤ szT dp) :: curH .i64 231 cb bsv bs.length :: L) [v5] (v5) (.tmp rfl .nil) rfl rF rF (jx (sC (sD (sC sR))) (jV (drawnH.of (t := [-1]) (⟨goodT.var (by omega) (by omega), Nat.le_refl _, szT_pos dp⟩)) sR)) ?_))))
  exact ⟨_, ⟨rfl, (qV hv5)⟩, rfl⟩
 refine qr (t := 15) rfl (vF h1) (qt (ptr cb 0) rfl (qr (t := 15) rfl (vF h1) (qm (args := [ptr cb 0, ii (4)]) call103 rfl (jl [_] (l1Once_spec (n := 4) hbs (by omega) (hn := (by first | assumption | rfl | omega | simp)))) ?_)))
 rintro _ _ _ _ ⟨⟨rfl, x3, rfl⟩, rfl⟩
 show XL _ _ _ _ _ _ _ (cellsH b1 [arv] 36 :: curH .i64 231 cb bsv bs.length :: L)
 refine cX (qN (.bool (x3)) (vF h1) rfl (qd ?_))
 refine jw (t := x3) rfl (fun h8 => ?_) (fun h8 => ?_)
 ·refine qf (qf (qc (qh (ii (vs)) rfl (cX (jH rfl rfl (qh (.bool (decide ((vs : Int) > 0))) rfl ?_))))))
  by_cases h9 : (vs : Int) > 0
  ·refine qr (t := 21) rfl (vT h9) (qt (ptr cb 0) rfl (qr (t := 21) rfl (vT h9) (qm (args := [ptr cb 0, ii (2)]) call103 rfl (jl [_] (l1Once_spec (n := 2) hbs (by omega) (hn := (by first | assumption | rfl | omega | simp)))) ?_)))
   rintro _ _ _ _ ⟨⟨rfl, x4, rfl⟩, rfl⟩
   show XL _ _ _ _ _ _ _ (cellsH b1 [arv] 36 :: curH .i64 231 cb bsv bs.length :: L)
   refine cX (qP (.bool (x4)) (vT h9) rfl (qd ?_))
   refine jw (t := x4) rfl (fun h10 => ?_) (fun h10 => ?_)
   ·refine qf (qc (qh (ptr cb 0) rfl (qh (ii (vs)) rfl (cX (qm (args := [ptr cb 0, ii (vs)]) jP rfl (jl [_] (l1Below_spec (n := vs) hbs (by omega) (hn := (by first | assumption | rfl | omega | simp)))) ?_)))))
    rintro _ _ _ _ ⟨⟨rfl, x5, rfl, hr2⟩, rfl⟩
    show XL _ _ _ _ _ _ _ (cellsH b1 [arv] 36 :: curH .i64 231 cb bsv bs.length :: L)
    refine cX (jp ((-1) - x5) rfl rfl (by omega) (by omega) (cX (qz (s := 1) [ii ((-1) - x5)] [ii (0)] [(0, [ii ((-1) - x5)])] qg qy qO rfl (by decide) rfl (.cons rfl CellsAre.nil) rfl ?_)))
    intro v6 hv6
    refine qi (v6) rfl (qd (qu (qo (qo (qs (L' := drawnH 2 v6 (fun t => goodT ar t ∧ 1 ≤ t.length ∧ t.length ≤ szT dp) :: curH .i64 231 cb bsv bs.length :: L) [v6] (v6) (.tmp rfl .nil) rfl rF rF (jx (sC (sD (sC sR))) (jV (drawnH.of (t := [(-1) - x5]) (⟨goodT.var (by omega) (by omega), Nat.le_refl _, szT_pos dp⟩)) sR)) ?_)))))
    exact ⟨_, ⟨rfl, (qV hv6)⟩, rfl⟩
   refine qA (qf (qf (qc (cX (ql (0) jm rfl qv (by decide) rfl rfl (cX (qk qS rfl (Rd.own [] rfl rfl) (cX (qE qg rfl har.slv (cX (jp (((((ar).length) - 1 : Nat) : Int)) rfl rfl (by omega) (by omega) (qi (ii (((((ar).length) - 1 : Nat) : Int))) rfl (qd (qR (jy (α := Nat) (fun j => [(5, ptr b1 0), (9, ii ((j : Int) - 1))]) (fun j => cellsH b1 [arv] 36 :: curH .i64 231 cb bsv bs.length :: L) (fun j F' => F = F' ∧ (j ≤ ar.length)) (fun j => j) ar.length ⟨rfl, (vI (by omega)), ⟨⟩⟩ (sC (sC sR)) ⟨rfl, (Nat.le_refl _)⟩ ?_)))))))))))))))
   rintro j rE _ _ ⟨rfl, hj⟩
   show X _ _ _ _ (envs [(5, ptr b1 0), (9, ii ((j : Int) - 1))] rE) _ (cellsH b1 [arv] 36 :: curH .i64 231 cb bsv bs.length :: L)
   refine qf (qf (qc (qh (ii ((j : Int) - 1)) rfl (cX (jZ rfl rfl (qd ?_))))))
   refine qC (p := ((j : Int) - 1 : Int) ≥ 0) rfl (fun h11 => ?_) (fun h11 => ?_)
   ·refine qA (qf (qR (qf (qc (cX (ql (0) jm rfl qv (by decide) rfl rfl (cX (qk qS rfl (Rd.own [] rfl rfl) (qh (ii ((j : Int) - 1)) rfl (cX (qD (((j : Int) - 1).toNat) qg qy rfl rfl (by omega) har.slv (by omega) (Nat.mul_one _) (cX (qk je rfl (har.rd (by omega)) (cX (jB rfl rfl (qd ?_))))))))))))))))
    refine qC (p := (ar.getD (((j : Int) - 1).toNat) 0 : Int) = 0) rfl (fun h12 => ?_) (fun h12 => ?_)
    ·refine qf (qc (qh (ii ((j : Int) - 1)) rfl (cX (qz (s := 1) [ii ((j : Int) - 1)] [ii (0)] [(0, [ii ((j : Int) - 1)])] qg qy qO rfl (by decide) rfl (.cons rfl CellsAre.nil) rfl ?_))))
     intro v7 hv7
     refine qi (v7) rfl (qd (qu (qL (qo (qo (qL (qo (qo (qs (L' := drawnH 2 v7 (fun t => goodT ar t ∧ 1 ≤ t.length ∧ t.length ≤ szT dp) :: curH .i64 231 cb bsv bs.length :: L) [v7] (v7) (.tmp rfl .nil) rfl rF rF (jx (sC (sD (sC sR))) (jV (drawnH.of (t := [(j : Int) - 1]) (⟨goodT.one (by omega) (by omega) (by rw [arity, if_neg (by omega)]; omega), Nat.le_refl _, szT_pos dp⟩)) sR)) ?_)))))))))
     exact ⟨_, ⟨rfl, (qV hv7)⟩, rfl⟩
    refine qA (qc (qh (ii ((j : Int) - 1)) rfl (cX (jp (((j : Int) - 1) - 1) rfl rfl (by omega) (by omega) (qi (ii (((j : Int) - 1) - 1)) rfl (qd ?_))))))
    exact ⟨j - 1, _, FLe.refl _, rF, ⟨rfl, (vI (by (try dsimp only); omega)), ⟨⟩⟩, (sC (sC sR)), ⟨rfl, (by (try dsimp only) <;> omega)⟩, (by (try dsimp only); omega)⟩
   refine jo (qB (qB (qW (qf (qc (cX (qz (s := 1) [ii (-1)] [ii (0)] [(0, [ii (-1)])] qg qy qO rfl (by decide) rfl (.cons rfl CellsAre.nil) rfl ?_)))))))
   intro v8 hv8
   refine qi (v8) rfl (qd (qu (qo (qs (L' := drawnH 2 v8 (fun t => goodT ar t ∧ 1 ≤ t.length ∧ t.length ≤ szT dp) :: curH .i64 231 cb bsv bs.length :: L) [v8] (v8) (.tmp rfl .nil) rfl rF rF (jx (sC (sD (sC sR))) (jV (drawnH.of (t := [-1]) (⟨goodT.var (by omega) (by omega), Nat.le_refl _, szT_pos dp⟩)) sR)) ?_))))
   exact ⟨_, ⟨rfl, (qV hv8)⟩, rfl⟩
  refine qp (t := 21) rfl (vF h9) (qp (t := 21) rfl (vF h9) (cX (qN (.bool (false)) (vF h9) rfl (qd (X.condF rfl (qA (qf (qf (qc (cX (ql (0) jm rfl qv (by decide) rfl rfl (cX (qk qS rfl (Rd.own [] rfl rfl) (cX (qE qg rfl har.slv (cX (jp (((((ar).length) - 1 : Nat) : Int)) rfl rfl (by omega) (by omega) ?_)))))))))))))))))
  refine qi (ii (((((ar).length) - 1 : Nat) : Int))) rfl (qd (qR (jy (α := Nat) (fun j => [(5, ptr b1 0), (9, ii ((j : Int) - 1))]) (fun j => cellsH b1 [arv] 36 :: curH .i64 231 cb bsv bs.length :: L) (fun j F' => F = F' ∧ (j ≤ ar.length)) (fun j => j) ar.length ⟨rfl, (vI (by omega)), ⟨⟩⟩ (sC (sC sR)) ⟨rfl, (Nat.le_refl _)⟩ ?_)))
  rintro j rE _ _ ⟨rfl, hj⟩
  show X _ _ _ _ (envs [(5, ptr b1 0), (9, ii ((j : Int) - 1))] rE) _ (cellsH b1 [arv] 36 :: curH .i64 231 cb bsv bs.length :: L)
  refine qf (qf (qc (qh (ii ((j : Int) - 1)) rfl (cX (jZ rfl rfl (qd ?_))))))
  refine qC (p := ((j : Int) - 1 : Int) ≥ 0) rfl (fun h13 => ?_) (fun h13 => ?_)
  ·refine qA (qf (qR (qf (qc (cX (ql (0) jm rfl qv (by decide) rfl rfl (cX (qk qS rfl (Rd.own [] rfl rfl) (qh (ii ((j : Int) - 1)) rfl (cX (qD (((j : Int) - 1).toNat) qg qy rfl rfl (by omega) har.slv (by omega) (Nat.mul_one _) (cX (qk je rfl (har.rd (by omega)) (cX (jB rfl rfl (qd ?_))))))))))))))))
   refine qC (p := (ar.getD (((j : Int) - 1).toNat) 0 : Int) = 0) rfl (fun h14 => ?_) (fun h14 => ?_)
   ·refine qf (qc (qh (ii ((j : Int) - 1)) rfl (cX (qz (s := 1) [ii ((j : Int) - 1)] [ii (0)] [(0, [ii ((j : Int) - 1)])] qg qy qO rfl (by decide) rfl (.cons rfl CellsAre.nil) rfl ?_))))
    intro v9 hv9
    refine qi (v9) rfl (qd (qu (qL (qo (qo (qL (qo (qo (qs (L' := drawnH 2 v9 (fun t => goodT ar t ∧ 1 ≤ t.length ∧ t.length ≤ szT dp) :: curH .i64 231 cb bsv bs.length :: L) [v9] (v9) (.tmp rfl .nil) rfl rF rF (jx (sC (sD (sC sR))) (jV (drawnH.of (t := [(j : Int) - 1]) (⟨goodT.one (by omega) (by omega) (by rw [arity, if_neg (by omega)]; omega), Nat.le_refl _, szT_pos dp⟩)) sR)) ?_)))))))))
    exact ⟨_, ⟨rfl, (qV hv9)⟩, rfl⟩
   refine qA (qc (qh (ii ((j : Int) - 1)) rfl (cX (jp (((j : Int) - 1) - 1) rfl rfl (by omega) (by omega) (qi (ii (((j : Int) - 1) - 1)) rfl (qd ?_))))))
   exact ⟨j - 1, _, FLe.refl _, rF, ⟨rfl, (vI (by (try dsimp only); omega)), ⟨⟩⟩, (sC (sC sR)), ⟨rfl, (by (try dsimp only) <;> omega)⟩, (by (try dsimp only); omega)⟩
  refine jo (qB (qB (qW (qf (qc (cX (qz (s := 1) [ii (-1)] [ii (0)] [(0, [ii (-1)])] qg qy qO rfl (by decide) rfl (.cons rfl CellsAre.nil) rfl ?_)))))))
  intro v10 hv10
  refine qi (v10) rfl (qd (qu (qo (qs (L' := drawnH 2 v10 (fun t => goodT ar t ∧ 1 ≤ t.length ∧ t.length ≤ szT dp) :: curH .i64 231 cb bsv bs.length :: L) [v10] (v10) (.tmp rfl .nil) rfl rF rF (jx (sC (sD (sC sR))) (jV (drawnH.of (t := [-1]) (⟨goodT.var (by omega) (by omega), Nat.le_refl _, szT_pos dp⟩)) sR)) ?_))))
  exact ⟨_, ⟨rfl, (qV hv10)⟩, rfl⟩
 refine qA (qf (qc (qh (ptr cb 0) rfl (cX (ql (0) jm rfl qv (by decide) rfl rfl (cX (qk qS rfl (Rd.own [] rfl rfl) (cX (qE qg rfl har.slv (cX (qm (args := [ptr cb 0, ii ((ar.length : Int))]) jP rfl (jl [_] (l1Below_spec (n := (ar.length : Int)) hbs (by omega) (hn := (by first | assumption | rfl | omega | simp)))) ?_)))))))))))
 rintro _ _ _ _ ⟨⟨rfl, x6, rfl, hr3⟩, rfl⟩
 show XL _ _ _ _ _ _ _ (cellsH b1 [arv] 36 :: curH .i64 231 cb bsv bs.length :: L)
 refine qi (ii (x6)) rfl (qd (qf (qc (qh (ii (x6)) rfl (cX (qz (s := 1) [ii (x6)] [ii (0)] [(0, [ii (x6)])] qg qy qO rfl (by decide) rfl (.cons rfl CellsAre.nil) rfl ?_))))))
 intro v11 hv11
 refine qi (v11) rfl (qd (qf (qf (qc ?_))))
 show XL _ _ _ _ _ _ _ (intsH 2 v11 ([x6] : List Int) :: cellsH b1 [arv] 36 :: curH .i64 231 cb bsv bs.length :: L)
 skip
 refine cX (ql (0) jm rfl qv (by decide) rfl rfl (cX (qk qS rfl (Rd.own [_] rfl rfl) (qh (ii (x6)) rfl (cX (qD ((x6).toNat) qg qy rfl rfl (by omega) har.slv (by omega) (Nat.mul_one _) (cX (qk je rfl (har.rd (by omega)) (qi (ii (ar.getD ((x6).toNat) 0)) rfl ?_)))))))))
 have hfr : 0 ≤ x6 ∧ x6 < (ar.length : Int) := by omega
 have hsp := (sigOk_spec hso).2.2 (x6).toNat (by omega)
 obtain ⟨haK, hKe⟩ : ∃ q : Nat, q = (ar.getD ((x6).toNat) 0).toNat := ⟨_, rfl⟩
 have hK3 : haK ≤ 3 := by omega
 have hKa : arity ar x6 = (haK : Int) := by rw [arity, if_neg (by omega)]; omega
 refine qd (qR (jy (α := Nat × Value × List Int × List Int × FH) (fun xQ => [(0, ptr cb 0), (2, ii (((dp : Nat) : Int))), (3, ii (vs)), (5, ptr b1 0), (11, xQ.2.1), (12, ii (((xQ.1 : Nat) : Int)))]) (fun xQ => intsH 2 xQ.2.1 xQ.2.2.1 :: cellsH b1 [arv] 36 :: curH .i64 231 cb bsv bs.length :: L) (fun xQ F' => xQ.2.2.2.2 = F' ∧ F ≤ xQ.2.2.2.2 ∧ (IsSl xQ.2.1) ∧ (xQ.2.2.1 = x6 :: xQ.2.2.2.1) ∧ (xQ.1 + (haK - xQ.1) = haK ∧ xQ.1 ≤ haK) ∧ (goodN ar xQ.2.2.2.1 (haK - xQ.1)) ∧ (xQ.2.2.2.1.length ≤ (haK - xQ.1) * szT (dp - 1))) (fun xQ => xQ.1) ((ar.getD ((x6).toNat) 0).toNat, v11, [x6], [], F) ⟨rfl, rfl, rfl, rfl, rfl, (vI (by omega)), ⟨⟩⟩ (sC (sC (sC sR))) ⟨rfl, FLe.refl _, ((qV hv11)), (rfl), (by (try dsimp only); omega), (by (try dsimp only); rw [show haK - (ar.getD ((x6).toNat) 0).toNat = 0 from by omega]; exact goodN.nil), (by (try dsimp only); simp)⟩ ?_))
 rintro ⟨n, ov, os, ot, G1⟩ rE _ _ ⟨rfl, leG, hov, hoe, hn3, hgo, hol⟩
 show X _ _ _ _ (envs [(0, ptr cb 0), (2, ii (((dp : Nat) : Int))), (3, ii (vs)), (5, ptr b1 0), (11, ov), (12, ii ((n : Int)))] rE) _ (intsH 2 ov os :: cellsH b1 [arv] 36 :: curH .i64 231 cb bsv bs.length :: L)
 replace leG : F ≤ G1 := leG
 dsimp only at hov hoe hn3 hgo hol
 have hm9 : (haK - n) * szT (dp - 1) ≤ 3 * szT (dp - 1) := Nat.mul_le_mul_right _ (by omega)
 have hool : os.length = ot.length + 1 := by rw [hoe]; rfl
 have leG1 := leG
 replace hbs := hbs.mono leG1
 replace har := har.mono leG1
 refine qf (qf (qc (qh (ii ((n : Int))) rfl (cX (jH rfl rfl (qd ?_))))))
 refine qC (p := (n : Int) > 0) rfl (fun h15 => ?_) (fun h15 => ?_)
 ·refine qA (qf (qR (qc (qh (ov) rfl (qh (ptr cb 0) rfl (cX (qq [arv] qI qw rfl rfl (Rd.ownN [_] rfl rfl) (qh (ii (((dp : Nat) : Int))) rfl (cX (jp (((dp - 1 : Nat) : Int)) rfl rfl (by omega) (by omega) (qh (ii (vs)) rfl (cX (qm (args := [ptr cb 0, .agg #[arv], ii ((dp - 1 : Nat) : Int), ii (vs)]) call268 rfl (Does.atO [_, _] (ih (dp - 1) (by omega) (vs := vs) hbs (by omega) har (hso := (by first | assumption | rfl | omega | simp)) (hdp := (by first | assumption | rfl | omega | simp)) (hvs := (by first | assumption | rfl | omega | simp)))) ?_)))))))))))))
  rintro _ F7 _ le7 ⟨x8, ⟨rfl, hsl1⟩, rfl⟩
  show XL _ _ _ _ _ _ _ (drawnH 2 x8 (fun t => goodT ar t ∧ 1 ≤ t.length ∧ t.length ≤ szT (dp - 1)) :: intsH 2 ov os :: cellsH b1 [arv] 36 :: curH .i64 231 cb bsv bs.length :: L)
  refine XL.undraw [] rfl (fun t1 hq9 => ?_)
  obtain ⟨q1, q2, q3⟩ := hq9
  show XL _ _ _ _ _ _ _ (intsH 2 x8 t1 :: intsH 2 ov os :: cellsH b1 [arv] 36 :: curH .i64 231 cb bsv bs.length :: L)
  refine yf [] _ _ rfl (fun F8 le8 hz1 => ?_)
  have hf1 : IntsF F8 x8 t1 := intsH.fz (xs := t1) hz1.fz
  refine cX (XOp.appendI [] _ qg typeInfo2 rfl rfl rfl rfl rfl rfl hf1 (by (try simp only [List.length_append, List.length_nil, List.length_cons, List.length_singleton, List.length_take, List.length_drop]); omega) ?_)
  intro v12 hs1 hn1 hm1
  refine qi (v12) rfl (qd (qc (qh (ii ((n : Int))) rfl (cX (jp (((n - 1 : Nat) : Int)) rfl rfl (by omega) (by omega) (qi (ii (((n - 1 : Nat) : Int))) rfl (qd ?_)))))))
  exact ⟨(n - 1, v12, os ++ t1, (ot ++ t1), F8), _, (qn (qn leG1 le7) le8), rF, ⟨rfl, rfl, rfl, rfl, rfl, rfl, ⟨⟩⟩, (sC (sC (sC sR))), ⟨rfl, (qn (qn leG1 le7) le8), (hs1), (by (try dsimp only); rw [hoe] <;> rfl), (by (try dsimp only); omega), (by (try dsimp only); rw [show haK - (n - 1) = haK - n + 1 from by omega]; exact hgo.snoc q1), (by (try dsimp only); rw [show haK - (n - 1) = haK - n + 1 from by omega, Nat.succ_mul, List.length_append]; omega)⟩, (by (try dsimp only); omega)⟩
 refine jo (qB (qB (qW (qf (qc (qh (ov) rfl (qi (ov) rfl (qd (qu (qs (L' := drawnH 2 ov (fun t => goodT ar t ∧ 1 ≤ t.length ∧ t.length ≤ szT dp) :: curH .i64 231 cb bsv bs.length :: L) [ov] (ov) (.tmp rfl .nil) rfl leG1 rF (jx (sC (sD (sC sR))) (jV (drawnH.of (t := os) ((show goodT ar os ∧ 1 ≤ os.length ∧ os.length ≤ szT dp from ⟨by rw [hoe]; exact goodT.node hfr.1 (by omega) hKa (by have h9 := hgo; rwa [show haK - n = haK from by omega] at h9), by omega, by have h9 := szT_next (d := dp) (by omega); omega⟩))) sR)) ?_))))))))))
 exact ⟨_, ⟨rfl, hov⟩, rfl⟩

theorem l1DrawTerm_spec (dp : Nat) : ∀ {F : FH} {L : List HP} {cb : Nat} {bsv : Value} {bs : List Int} (hbs : BytesF F bsv bs) (hbl : bs.length ≤ 4000000) {arv : Value} {ar : List Int} (har : IntsF F arv ar) {vs : Int} (hso : sigOk ar = true) (hdp : dp ≤ 5) (hvs : 0 ≤ vs ∧ vs ≤ 24), Does prog 268 [ptr cb 0, .agg #[arv], ii (((dp : Nat) : Int)), ii (vs)] F (curH .i64 231 cb bsv bs.length :: L) (fun v F' L' => ∃ a : Value, ((a : Value) = v ∧ IsSl a) ∧ drawnH 2 a (fun t => goodT ar t ∧ 1 ≤ t.length ∧ t.length ≤ szT dp) :: curH .i64 231 cb bsv bs.length :: L = L') := by
  induction dp using Nat.strongRecOn with
  | _ dp ih =>
    intros
    exact l1DrawTerm_spec_step ih (by assumption) (by assumption) (by assumption) (by assumption) (by assumption) (by assumption)

/- spec.l1DrawAny -/
set_option maxHeartbeats 1000000 in
theorem l1DrawAny_spec {F : FH} {L : List HP} {cb : Nat} {bsv : Value} {bs : List Int} (hbs : BytesF F bsv bs) (hbl : bs.length ≤ 4000000) {arv : Value} {ar : List Int} (har : IntsF F arv ar) (hal : ar.length ≤ 4000000) :
    Does prog 227 [ptr cb 0, .agg #[arv]] F (curH .i64 231 cb bsv bs.length :: L) (fun v F' L' => (∃ (a : Value), (a : Value) = v ∧ (SomesF F' a (fun u => u.length ≤ 2000))) ∧ curH .i64 231 cb bsv bs.length :: L = L') := by
 refine qH func227 rfl rfl rfl (qf (qc (cX (qZ [arv] rfl rfl ?_))))
 intro b1
 refine qi (sN) rfl (qd (qf (qf (qc (cX (ql (0) jm rfl qv (by decide) rfl rfl (cX (qk qS rfl (Rd.own [] rfl rfl) (cX (qE qg rfl har.slv (cX (jB rfl rfl (qh (.bool (decide (((ar.length : Int) : Int) = 0))) rfl ?_)))))))))))))
 by_cases h1 : ((ar.length : Int) : Int) = 0
 ·refine qp (t := 10) rfl (vT h1) (qp (t := 10) rfl (vT h1) (qp (t := 10) rfl (vT h1) (cX (qP (.bool (true)) (vT h1) rfl (qd (jC rfl (qf (qc (qh (ptr cb 0) rfl (cX (qm (args := [ptr cb 0, ii (-2), ii (2)]) call190 rfl (jl [_] (l1From_spec (lo := -2) (hi := 2) hbs (by omega) (hlo := (by first | assumption | rfl | omega | simp)))) ?_)))))))))))
  rintro _ _ _ _ ⟨⟨rfl, x1, rfl, hr1⟩, rfl⟩
  show XL _ _ _ _ _ _ _ (cellsH b1 [arv] 36 :: curH .i64 231 cb bsv bs.length :: L)
  refine cX (qz (s := 1) [ii (x1)] [ii (0)] [(0, [ii (x1)])] qg qy qO rfl (by decide) rfl (.cons rfl CellsAre.nil) rfl ?_)
  intro v1 hv1
  refine qi (v1) rfl (qd ?_)
  show X _ _ _ _ _ _ (intsH 2 v1 ([x1] : List Int) :: cellsH b1 [arv] 36 :: curH .i64 231 cb bsv bs.length :: L)
  refine qT [] _ _ rfl (fun F2 le2 hz1 => ?_)
  replace hbs := hbs.mono le2
  replace har := har.mono le2
  have hf1 : IntsF F2 v1 ([x1]) := intsH.fz (xs := [x1]) hz1.fz
  refine qu (qo (qs (L' := curH .i64 231 cb bsv bs.length :: L) [v1] (v1) (.tmp rfl .nil) rfl le2 rF (sD (sC sR)) ?_))
  exact ⟨⟨_, rfl, ⟨_, hf1, by (try simp only [List.length_append, List.length_cons, List.length_nil, List.length_set, List.length_take, List.length_drop]); omega⟩⟩, rfl⟩
 refine qr (t := 10) rfl (vF h1) (qq [arv] qI qw rfl rfl (Rd.ownN [] rfl rfl) (qr (t := 10) rfl (vF h1) (qm (args := [.agg #[arv]]) call168 rfl (sSigOk_spec har (hla := (by first | assumption | rfl | omega | simp))) ?_)))
 rintro _ _ _ _ ⟨rfl, rfl, rfl⟩
 refine qr (t := 10) rfl (vF h1) (jf rfl (cX (qN (.bool (!(sigOk ar))) (vF h1) rfl (qd ?_))))
 refine jw (t := !(sigOk ar)) rfl (fun h2 => ?_) (fun h2 => ?_)
 ·refine qf (qc (qh (ptr cb 0) rfl (cX (qm (args := [ptr cb 0, ii (-2), ii (2)]) call190 rfl (jl [_] (l1From_spec (lo := -2) (hi := 2) hbs (by omega) (hlo := (by first | assumption | rfl | omega | simp)))) ?_))))
  rintro _ _ _ _ ⟨⟨rfl, x2, rfl, hr2⟩, rfl⟩
  show XL _ _ _ _ _ _ _ (cellsH b1 [arv] 36 :: curH .i64 231 cb bsv bs.length :: L)
  refine cX (qz (s := 1) [ii (x2)] [ii (0)] [(0, [ii (x2)])] qg qy qO rfl (by decide) rfl (.cons rfl CellsAre.nil) rfl ?_)
  intro v2 hv2
  refine qi (v2) rfl (qd ?_)
  show X _ _ _ _ _ _ (intsH 2 v2 ([x2] : List Int) :: cellsH b1 [arv] 36 :: curH .i64 231 cb bsv bs.length :: L)
  refine qT [] _ _ rfl (fun F4 le4 hz2 => ?_)
  replace hbs := hbs.mono le4
  replace har := har.mono le4
  have hf2 : IntsF F4 v2 ([x2]) := intsH.fz (xs := [x2]) hz2.fz
  refine qu (qo (qs (L' := curH .i64 231 cb bsv bs.length :: L) [v2] (v2) (.tmp rfl .nil) rfl le4 rF (sD (sC sR)) ?_))
  exact ⟨⟨_, rfl, ⟨_, hf2, by (try simp only [List.length_append, List.length_cons, List.length_nil, List.length_set, List.length_take, List.length_drop]); omega⟩⟩, rfl⟩
 have hso : sigOk ar = true := by simpa using h2
 refine qA (qf ?_)
 refine jM [cellsH b1 [arv] 36, curH .i64 231 cb bsv bs.length] L 5 [[], [], [], [], [3]] [[], [], [], [2], [3]] [] (phiG [pe (ptr cb 0), pe (.agg #[arv]), pe (ptr cb 0), fun FF us v => (ii (((intAt v))) : Value) = v ∧ (0 ≤ ((intAt v)) ∧ (((intAt v)) < 4 ∨ ((intAt v)) = 0)), fun FF us v => v = (ii (1 + (((intAt (us.getD 0 undef))))) : Value)]) (ownL []) mixed rfl rfl (by kernel_rfl) (by kernel_rfl) (MonoG.get (m1 (m1 (m1 (mC (fun le h => ⟨h.1, h.2⟩) (mC (fun le h => h) MonoG.nil)))))) ?_ ?_
 ·refine gD (fun W Fs R lF z9 => ?_) ?_
  ·refine qj (qt (ptr cb 0) rfl ?_)
   exact ⟨rfl, rfl⟩
  refine gD (fun W Fs R lF z9 => ?_) ?_
  ·replace hbs := hbs.mono lF
   replace har := har.mono lF
   refine qj (qq [arv] qI qw rfl rfl (Rd.ownN [] rfl rfl) ?_)
   exact ⟨rfl, rfl⟩
  refine gD (fun W Fs R lF z9 => ?_) ?_
  ·refine qj (qt (ptr cb 0) rfl ?_)
   exact ⟨rfl, rfl⟩
  refine gD (fun W Fs R lF z9 => ?_) ?_
  ·replace hbs := hbs.mono lF
   replace har := har.mono lF
   rw [eS (l := [(2, _)]) ⟨z9 2 rfl, ⟨⟩⟩]
   refine qj (qm (args := [ptr cb 0, ii (4)]) jP rfl (jl [_] (l1Below_spec (n := 4) hbs (by omega) (hn := (by first | assumption | rfl | omega | simp)))) ?_)
   rintro _ _ _ _ ⟨⟨rfl, x4, rfl, hr4⟩, rfl⟩
   exact ⟨⟨rfl, hr4⟩, rfl⟩
  refine gD (fun W Fs R lF z9 => ?_) ?_
  ·obtain ⟨e3, f3_1hx⟩ := z9 3 rfl
   rw [eS (l := [(3, (ii (((intAt (W 3))))))]) ⟨(e3).symm, ⟨⟩⟩]
   refine qj (qU (1 + (((intAt (W 3))))) rfl rfl (by omega) (by omega) ?_)
   exact ⟨rfl, rfl⟩
  exact stepsG.nil
 intro W F7 le7 hphi
 obtain ⟨e3, f3_1hx⟩ := hphi 3 (by decide)
 have e4 : W 4 = (ii (1 + (((intAt (W 3))))) : Value) := hphi 4 (by decide)
 generalize hu1 : (intAt (W 3)) = u1 at e3 f3_1hx e4
 rw [eS (l := [(0, _), (1, _), (3, (ii ((u1)))), (4, (ii (1 + ((u1)))))]) ⟨(hphi 0 (by decide)), (hphi 1 (by decide)), (e3).symm, e4, ⟨⟩⟩]
 replace hbs := hbs.mono le7
 replace har := har.mono le7
 show XL _ _ _ _ _ _ _ (cellsH b1 [arv] 36 :: curH .i64 231 cb bsv bs.length :: L)
 refine cX (qm (args := [ptr cb 0, .agg #[arv], ii (((1 + ((u1))).toNat : Nat) : Int), ii (3)]) call268 (by rw [show (((1 + ((u1))).toNat : Nat) : Int) = 1 + ((u1)) from by omega]; rfl) (Does.atO [_] (l1DrawTerm_spec ((1 + ((u1))).toNat) (vs := 3) hbs (by omega) har (hso := (by first | assumption | rfl | omega | simp)) (hdp := (by first | assumption | rfl | omega | simp)) (hvs := (by first | assumption | rfl | omega | simp)))) ?_)
 rintro _ F8 _ le8 ⟨x6, ⟨rfl, hsl1⟩, rfl⟩
 replace hbs := hbs.mono le8
 show XL _ _ _ _ _ _ _ (drawnH 2 x6 (fun t => goodT ar t ∧ 1 ≤ t.length ∧ t.length ≤ szT ((1 + ((u1))).toNat)) :: cellsH b1 [arv] 36 :: curH .i64 231 cb bsv bs.length :: L)
 refine XL.undraw [] rfl (fun t1 hq9 => ?_)
 obtain ⟨q1, q2, q3⟩ := hq9
 show XL _ _ _ _ _ _ _ (intsH 2 x6 t1 :: cellsH b1 [arv] 36 :: curH .i64 231 cb bsv bs.length :: L)
 have hz9 := szT_le (d := (1 + ((u1))).toNat) (e := 4) (by omega)
 have hz8 : szT 4 = 121 := rfl
 refine qi (x6) rfl (qd (qf (qf (qc (qh (ptr cb 0) rfl (cX (qm (args := [ptr cb 0, ii (12)]) call103 rfl (jl [_, _] (l1Once_spec (n := 12) hbs (by omega) (hn := (by first | assumption | rfl | omega | simp)))) ?_)))))))
 rintro _ _ _ _ ⟨⟨rfl, x7, rfl⟩, rfl⟩
 show XL _ _ _ _ _ _ _ (intsH 2 x6 t1 :: cellsH b1 [arv] 36 :: curH .i64 231 cb bsv bs.length :: L)
 refine qd ?_
 refine jw (t := x7) rfl (fun h3 => ?_) (fun h3 => ?_)
 ·refine qf (qc (qh (ptr cb 0) rfl (cX (qm (args := [ptr cb 0, ii (4)]) jP rfl (jl [_, _] (l1Below_spec (n := 4) hbs (by omega) (hn := (by first | assumption | rfl | omega | simp)))) ?_))))
  rintro _ _ _ _ ⟨⟨rfl, x8, rfl, hr5⟩, rfl⟩
  show XL _ _ _ _ _ _ _ (intsH 2 x6 t1 :: cellsH b1 [arv] 36 :: curH .i64 231 cb bsv bs.length :: L)
  refine qd (qR (qf (qc (cX (jB rfl rfl (qi (.bool (decide ((x8 : Int) = 0))) rfl (qd ?_)))))))
  refine qC (p := (x8 : Int) = 0) rfl (fun h4 => ?_) (fun h4 => ?_)
  ·refine qc (qh (x6) rfl (qh (ptr cb 0) rfl (cX (qm (args := [ptr cb 0, ii (-2), ii (3)]) call190 rfl (jl [_, _] (l1From_spec (lo := -2) (hi := 3) hbs (by omega) (hlo := (by first | assumption | rfl | omega | simp)))) ?_))))
   rintro _ _ _ _ ⟨⟨rfl, x9, rfl, hr6⟩, rfl⟩
   show XL _ _ _ _ _ _ _ (intsH 2 x6 t1 :: cellsH b1 [arv] 36 :: curH .i64 231 cb bsv bs.length :: L)
   refine cX (qz (s := 1) [ii (x9)] [ii (0)] [(0, [ii (x9)])] qg qy qO rfl (by decide) rfl (.cons rfl CellsAre.nil) rfl ?_)
   intro v3 hv3
   refine cX (XOp.append1 (u := x9) [_] _ qg typeInfo2 rfl rfl rfl rfl rfl rfl (SlV.own [] rfl) (Rd.sl [] rfl rfl) (by (try simp only [List.length_append, List.length_nil, List.length_cons, List.length_singleton, List.length_take, List.length_drop]); omega) ?_)
   intro v4 hs1 hn1
   refine qi (v4) rfl (qd (qf (qc (qh (v4) rfl (qi (v4) rfl (qd (qT [_] _ _ rfl (fun F12 le12 hz3 => ?_))))))))
   replace hbs := hbs.mono le12
   have hf3 : IntsF F12 v4 (t1 ++ [x9]) := intsH.fz (xs := t1 ++ [x9]) hz3.fz
   refine qu (qs (L' := curH .i64 231 cb bsv bs.length :: L) [v4] (v4) (.tmp rfl .nil) rfl (qn (qn le7 le8) le12) rF (sD (sD (sC sR))) ?_)
   exact ⟨⟨_, rfl, ⟨_, hf3, by (try simp only [List.length_append, List.length_cons, List.length_nil, List.length_set, List.length_take, List.length_drop]); omega⟩⟩, rfl⟩
  refine qf (qc (cX (jB rfl rfl (qi (.bool (decide ((x8 : Int) = 1))) rfl (qd ?_)))))
  refine qC (p := (x8 : Int) = 1) rfl (fun h5 => ?_) (fun h5 => ?_)
  ·refine qc (qh (x6) rfl (qh (ptr cb 0) rfl (qh (x6) rfl (cX (qE qg rfl (intsH.slv [] rfl) (cX (qm (args := [ptr cb 0, ii ((t1.length : Int))]) jP rfl (jl [_, _] (l1Below_spec (n := (t1.length : Int)) hbs (by omega) (hn := (by first | assumption | rfl | omega | simp)))) ?_)))))))
   rintro _ _ _ _ ⟨⟨rfl, x10, rfl, hr7⟩, rfl⟩
   show XL _ _ _ _ _ _ _ (intsH 2 x6 t1 :: cellsH b1 [arv] 36 :: curH .i64 231 cb bsv bs.length :: L)
   refine qh (ptr cb 0) rfl (cX (qm (args := [ptr cb 0, ii (-3), ii (4)]) call190 rfl (jl [_, _] (l1From_spec (lo := -3) (hi := 4) hbs (by omega) (hlo := (by first | assumption | rfl | omega | simp)))) ?_))
   rintro _ _ _ _ ⟨⟨rfl, x11, rfl, hr8⟩, rfl⟩
   show XL _ _ _ _ _ _ _ (intsH 2 x6 t1 :: cellsH b1 [arv] 36 :: curH .i64 231 cb bsv bs.length :: L)
   refine cX (qD ((x10).toNat) qg qy rfl rfl (by omega) (intsH.slv [] rfl) (by omega) (Nat.mul_one _) (cX (intsH.storeX (i := (x10).toNat) (v := x6) [] _ (t1.set ((x10).toNat) x11) qy rfl rfl rfl (by omega) rfl (qd (qf (qc (qh (x6) rfl (qi (x6) rfl (qd (qT [] _ _ rfl (fun F15 le15 hz4 => ?_)))))))))))
   replace hbs := hbs.mono le15
   have hf4 : IntsF F15 x6 ((t1.set ((x10).toNat) x11)) := intsH.fz (xs := (t1.set ((x10).toNat) x11)) hz4.fz
   refine qu (qs (L' := curH .i64 231 cb bsv bs.length :: L) [x6] (x6) (.tmp rfl .nil) rfl (qn (qn le7 le8) le15) rF (sD (sC sR)) ?_)
   exact ⟨⟨_, rfl, ⟨_, hf4, by (try simp only [List.length_append, List.length_cons, List.length_nil, List.length_set, List.length_take, List.length_drop]); omega⟩⟩, rfl⟩
  refine qf (qc (cX (jB rfl rfl (qi (.bool (decide ((x8 : Int) = 2))) rfl (qd ?_)))))
  refine qC (p := (x8 : Int) = 2) rfl (fun h6 => ?_) (fun h6 => ?_)
  ·refine qc (yf [] _ _ rfl (fun F16 le16 hz5 => ?_))
   replace hbs := hbs.mono le16
   have hf5 : IntsF F16 x6 t1 := intsH.fz (xs := t1) hz5.fz
   skip
   refine qh (x6) rfl (cX (XOp.sliceI 1 ((t1).length) qg qy rfl hf5 ⟨_, rfl⟩ rfl (by omega) (by omega) ?_))
   intro v5 hv4 hn2
   refine qi (v5) rfl (qd (qf (qc (qh (v5) rfl (qi (v5) rfl (qd (qu (qs (L' := curH .i64 231 cb bsv bs.length :: L) [v5] (v5) (.tmp rfl .nil) rfl (qn (qn le7 le8) le16) rF (sD (sC sR)) ?_))))))))
   exact ⟨⟨_, rfl, ⟨_, hv4, by (try simp only [List.length_append, List.length_cons, List.length_nil, List.length_set, List.length_take, List.length_drop]); omega⟩⟩, rfl⟩
  refine qf (qc (cX (jB rfl rfl (qi (.bool (decide ((x8 : Int) = 3))) rfl (qd ?_)))))
  refine qC (p := (x8 : Int) = 3) rfl (fun h7 => ?_) (fun h7 => ?_)
  ·refine qc (qh (x6) rfl (qh (ptr cb 0) rfl (cX (qm (args := [ptr cb 0]) call270 rfl (jl [_, _] (l1Odd_spec hbs (by omega))) ?_))))
   rintro _ _ _ _ ⟨⟨rfl, x12, rfl⟩, rfl⟩
   show XL _ _ _ _ _ _ _ (intsH 2 x6 t1 :: cellsH b1 [arv] 36 :: curH .i64 231 cb bsv bs.length :: L)
   refine cX (qz (s := 1) [ii (x12)] [ii (0)] [(0, [ii (x12)])] qg qy qO rfl (by decide) rfl (.cons rfl CellsAre.nil) rfl ?_)
   intro v6 hv5
   refine cX (XOp.append1 (u := x12) [_] _ qg typeInfo2 rfl rfl rfl rfl rfl rfl (SlV.own [] rfl) (Rd.sl [] rfl rfl) (by (try simp only [List.length_append, List.length_nil, List.length_cons, List.length_singleton, List.length_take, List.length_drop]); omega) ?_)
   intro v7 hs2 hn3
   refine qi (v7) rfl (qd (qf (qc (qh (v7) rfl (qi (v7) rfl (qd (qT [_] _ _ rfl (fun F18 le18 hz6 => ?_))))))))
   have hf6 : IntsF F18 v7 (t1 ++ [x12]) := intsH.fz (xs := t1 ++ [x12]) hz6.fz
   refine qu (qs (L' := curH .i64 231 cb bsv bs.length :: L) [v7] (v7) (.tmp rfl .nil) rfl (qn (qn le7 le8) le18) rF (sD (sD (sC sR))) ?_)
   exact ⟨⟨_, rfl, ⟨_, hf6, by (try simp only [List.length_append, List.length_cons, List.length_nil, List.length_set, List.length_take, List.length_drop]); omega⟩⟩, rfl⟩
  refine qA (qf (qc (qh (x6) rfl (qi (x6) rfl (qd (qT [] _ _ rfl (fun F19 le19 hz7 => ?_)))))))
  have hf7 : IntsF F19 x6 t1 := intsH.fz (xs := t1) hz7.fz
  refine qu (qs (L' := curH .i64 231 cb bsv bs.length :: L) [x6] (x6) (.tmp rfl .nil) rfl (qn (qn le7 le8) le19) rF (sD (sC sR)) ?_)
  exact ⟨⟨_, rfl, ⟨_, hf7, by (try simp only [List.length_append, List.length_cons, List.length_nil, List.length_set, List.length_take, List.length_drop]); omega⟩⟩, rfl⟩
 refine qA (qf (qc (qh (x6) rfl (qi (x6) rfl (qd (qT [] _ _ rfl (fun F20 le20 hz8 => ?_)))))))
 have hf8 : IntsF F20 x6 t1 := intsH.fz (xs := t1) hz8.fz
 refine qu (qs (L' := curH .i64 231 cb bsv bs.length :: L) [x6] (x6) (.tmp rfl .nil) rfl (qn (qn le7 le8) le20) rF (sD (sC sR)) ?_)
 exact ⟨⟨_, rfl, ⟨_, hf8, by (try simp only [List.length_append, List.length_cons, List.length_nil, List.length_set, List.length_take, List.length_drop]); omega⟩⟩, rfl⟩

/- spec.l2Draw -/
theorem l2Draw_spec {F : FH} {L : List HP} {cb : Nat} {bsv : Value} {bs : List Int} (hbs : BytesF F bsv bs) (hbl : bs.length ≤ 4000000) {arv : Value} {ar : List Int} (har : IntsF F arv ar) (hso : sigOk ar = true) :
    Does prog 283 [ptr cb 0, .agg #[arv]] F (curH .i64 231 cb bsv bs.length :: L) (fun v F' L' => (∃ (a : Value), (.agg #[a] : Value) = v ∧ (SomeRowsF F' a (fun s => s.length ≤ 4 ∧ ∀ i, (s.getD i []).length ≤ 2000))) ∧ curH .i64 231 cb bsv bs.length :: L = L') := by
 refine qH func283 rfl rfl rfl (qf (qc (cX (qZ [arv] rfl rfl ?_))))
 intro b1
 refine cX (ji [sN] jF rfl ?_)
 intro b2
 refine qd (qf (qc (cX (jk [sN] [sN] [(0, 1)] [] jc jF rfl (.cons rfl jr PlacesAre.nil) rfl CellsAre.nil (cX (ji [sN] jF rfl ?_))))))
 intro b3
 refine cX (qK [] _ [sN] js rfl rfl rfl (qx rfl qQ) rfl rfl rfl (qd (qf (qf (qc (qh (ptr cb 0) rfl (cX (qm (args := [ptr cb 0, ii (4)]) jP rfl (jl [_, _, _] (l1Below_spec (n := 4) hbs (by omega) (hn := (by first | assumption | rfl | omega | simp)))) ?_))))))))
 rintro _ _ _ _ ⟨⟨rfl, x1, rfl, hr1⟩, rfl⟩
 show XL _ _ _ _ _ _ _ (cellsH b3 [sN] 115 :: cellsH b2 [sN] 115 :: cellsH b1 [arv] 36 :: curH .i64 231 cb bsv bs.length :: L)
 refine qi (ii (x1)) rfl (qd (qR (jy (α := Nat × Value × List (List Int) × List Value × Nat × FH) (fun xQ => [(0, ptr cb 0), (3, ptr b1 0), (4, ptr b2 0), (5, ptr b3 0), (6, ii (((xQ.1 : Nat) : Int)))]) (fun xQ => slH 22 1 xQ.2.1 xQ.2.2.2.2.1 xQ.2.2.2.1 :: cellsH b3 [xQ.2.1] 115 :: cellsH b2 [sN] 115 :: cellsH b1 [arv] 36 :: curH .i64 231 cb bsv bs.length :: L) (fun xQ F' => xQ.2.2.2.2.2 = F' ∧ F ≤ xQ.2.2.2.2.2 ∧ (IsSl xQ.2.1) ∧ (RowsC xQ.2.2.2.2.2 xQ.2.2.2.1 xQ.2.2.1) ∧ (xQ.2.2.2.2.1 = xQ.2.2.1.length) ∧ (xQ.2.2.1.length + xQ.1 ≤ 4) ∧ (∀ i, (xQ.2.2.1.getD i []).length ≤ 2000)) (fun xQ => xQ.1) (x1.toNat, sN, [], [], 0, F) ⟨rfl, rfl, rfl, rfl, (vI (by omega)), ⟨⟩⟩ (jx (Sub.addNil 22 1 _ _) (sC (sC (sC (sC (sC sR)))))) ⟨rfl, FLe.refl _, (⟨_, _, _, rfl⟩), (CO.nil), (rfl), (by (try dsimp only); simp only [List.length_nil]; omega), (fun i => by simp)⟩ ?_)))
 rintro ⟨n, ov, os, cs, m, G1⟩ rE _ _ ⟨rfl, leG, hov, hC, hm, hon, hob⟩
 show X _ _ _ _ (envs [(0, ptr cb 0), (3, ptr b1 0), (4, ptr b2 0), (5, ptr b3 0), (6, ii ((n : Int)))] rE) _ (slH 22 1 ov m cs :: cellsH b3 [ov] 115 :: cellsH b2 [sN] 115 :: cellsH b1 [arv] 36 :: curH .i64 231 cb bsv bs.length :: L)
 replace leG : F ≤ G1 := leG
 dsimp only at hov hC hm hon hob
 have leG1 := leG
 replace hbs := hbs.mono leG1
 replace har := har.mono leG1
 refine qf (qf (qc (qh (ii ((n : Int))) rfl (cX (jH rfl rfl (qd ?_))))))
 refine qC (p := (n : Int) > 0) rfl (fun h1 => ?_) (fun h1 => ?_)
 ·refine qA (qf (qR (qf (qc (cX (qz (s := 1) [] [ii (0)] [] qg qy qO rfl (by decide) rfl CellsAre.nil rfl ?_))))))
  intro v1 hv1
  refine qi (v1) rfl (qd (qf (qf (qc (qh (ptr cb 0) rfl (cX (qm (args := [ptr cb 0, ii (3)]) call103 rfl (jl [_, _, _, _, _] (l1Once_spec (n := 3) hbs (by omega) (hn := (by first | assumption | rfl | omega | simp)))) ?_)))))))
  rintro _ _ _ _ ⟨⟨rfl, x2, rfl⟩, rfl⟩
  show XL _ _ _ _ _ _ _ (slH 2 1 v1 0 [] :: slH 22 1 ov m cs :: cellsH b3 [ov] 115 :: cellsH b2 [sN] 115 :: cellsH b1 [arv] 36 :: curH .i64 231 cb bsv bs.length :: L)
  refine cX (jf rfl (qd ?_))
  refine jw (t := !(x2)) rfl (fun h2 => ?_) (fun h2 => ?_)
  ·refine jM [slH 2 1 v1 0 [], slH 22 1 ov m cs, cellsH b3 [ov] 115, cellsH b2 [sN] 115, cellsH b1 [arv] 36, curH .i64 231 cb bsv bs.length] L 5 [[], [], [], [], [3]] [[], [], [], [2], [3]] [] (phiG [pe (ptr cb 0), pe (.agg #[arv]), pe (ptr cb 0), fun FF us v => (ii (((intAt v))) : Value) = v ∧ (0 ≤ ((intAt v)) ∧ (((intAt v)) < 3 ∨ ((intAt v)) = 0)), fun FF us v => v = (ii (1 + (((intAt (us.getD 0 undef))))) : Value)]) (ownL []) mixed rfl rfl (by kernel_rfl) (by kernel_rfl) (MonoG.get (m1 (m1 (m1 (mC (fun le h => ⟨h.1, h.2⟩) (mC (fun le h => h) MonoG.nil)))))) ?_ ?_
   ·refine gD (fun W Fs R lF z9 => ?_) ?_
    ·refine qj (qt (ptr cb 0) rfl ?_)
     exact ⟨rfl, rfl⟩
    refine gD (fun W Fs R lF z9 => ?_) ?_
    ·replace hbs := hbs.mono lF
     replace har := har.mono lF
     replace hC := hC.mono lF
     refine qj (qq [arv] qI qw rfl rfl (Rd.ownN [_, _, _, _] rfl rfl) ?_)
     exact ⟨rfl, rfl⟩
    refine gD (fun W Fs R lF z9 => ?_) ?_
    ·refine qj (qt (ptr cb 0) rfl ?_)
     exact ⟨rfl, rfl⟩
    refine gD (fun W Fs R lF z9 => ?_) ?_
    ·replace hbs := hbs.mono lF
     replace har := har.mono lF
     replace hC := hC.mono lF
     rw [eS (l := [(2, _)]) ⟨z9 2 rfl, ⟨⟩⟩]
     refine qj (qm (args := [ptr cb 0, ii (3)]) jP rfl (jl [_, _, _, _, _] (l1Below_spec (n := 3) hbs (by omega) (hn := (by first | assumption | rfl | omega | simp)))) ?_)
     rintro _ _ _ _ ⟨⟨rfl, x4, rfl, hr3⟩, rfl⟩
     exact ⟨⟨rfl, hr3⟩, rfl⟩
    refine gD (fun W Fs R lF z9 => ?_) ?_
    ·obtain ⟨e3, f3_1hx⟩ := z9 3 rfl
     rw [eS (l := [(3, (ii (((intAt (W 3))))))]) ⟨(e3).symm, ⟨⟩⟩]
     refine qj (qU (1 + (((intAt (W 3))))) rfl rfl (by omega) (by omega) ?_)
     exact ⟨rfl, rfl⟩
    exact stepsG.nil
   intro W F5 le5 hphi
   obtain ⟨e3, f3_1hx⟩ := hphi 3 (by decide)
   have e4 : W 4 = (ii (1 + (((intAt (W 3))))) : Value) := hphi 4 (by decide)
   generalize hu1 : (intAt (W 3)) = u1 at e3 f3_1hx e4
   rw [eS (l := [(0, _), (1, _), (3, (ii ((u1)))), (4, (ii (1 + ((u1)))))]) ⟨(hphi 0 (by decide)), (hphi 1 (by decide)), (e3).symm, e4, ⟨⟩⟩]
   replace hbs := hbs.mono le5
   replace har := har.mono le5
   replace hC := hC.mono le5
   show XL _ _ _ _ _ _ _ (slH 2 1 v1 0 [] :: slH 22 1 ov m cs :: cellsH b3 [ov] 115 :: cellsH b2 [sN] 115 :: cellsH b1 [arv] 36 :: curH .i64 231 cb bsv bs.length :: L)
   refine cX (qm (args := [ptr cb 0, .agg #[arv], ii (((1 + ((u1))).toNat : Nat) : Int), ii (3)]) call268 (by rw [show (((1 + ((u1))).toNat : Nat) : Int) = 1 + ((u1)) from by omega]; rfl) (Does.atO [_, _, _, _, _] (l1DrawTerm_spec ((1 + ((u1))).toNat) (vs := 3) hbs (by omega) har (hso := (by first | assumption | rfl | omega | simp)) (hdp := (by first | assumption | rfl | omega | simp)) (hvs := (by first | assumption | rfl | omega | simp)))) ?_)
   rintro _ F6 _ le6 ⟨x6, ⟨rfl, hsl1⟩, rfl⟩
   replace hC := hC.mono le6
   show XL _ _ _ _ _ _ _ (drawnH 2 x6 (fun t => goodT ar t ∧ 1 ≤ t.length ∧ t.length ≤ szT ((1 + ((u1))).toNat)) :: slH 2 1 v1 0 [] :: slH 22 1 ov m cs :: cellsH b3 [ov] 115 :: cellsH b2 [sN] 115 :: cellsH b1 [arv] 36 :: curH .i64 231 cb bsv bs.length :: L)
   refine XL.undraw [] rfl (fun t1 hq9 => ?_)
   obtain ⟨q1, q2, q3⟩ := hq9
   show XL _ _ _ _ _ _ _ (intsH 2 x6 t1 :: slH 2 1 v1 0 [] :: slH 22 1 ov m cs :: cellsH b3 [ov] 115 :: cellsH b2 [sN] 115 :: cellsH b1 [arv] 36 :: curH .i64 231 cb bsv bs.length :: L)
   have hz9 := szT_le (d := (1 + ((u1))).toNat) (e := 4) (by omega)
   have hz8 : szT 4 = 121 := rfl
   refine qi (x6) rfl (qd (qc (cX (ql (0) jc rfl jr (by decide) rfl rfl (cX (qk yb rfl (Rd.own [_, _, _] rfl rfl) (qh (x6) rfl (cX (qz (s := 1) [x6] [sN] [(0, [x6])] jb qv zeroValue22 rfl (by decide) rfl (.cons (cells_one hsl1) CellsAre.nil) rfl ?_)))))))))
   intro v2 hv2
   refine yf [_] _ _ rfl (fun F7 le7 hz1 => ?_)
   replace hC := hC.mono le7
   have hf1 : IntsF F7 x6 t1 := intsH.fz (xs := t1) hz1.fz
   refine cX (ye (m := 1) (bytes := 24) (cs := cs) [_, _] _ [x6] jb typeInfo22 rfl rfl rfl rfl rfl rfl rfl (SlV.own [] rfl) rfl (Rd.lit [] rfl) (qx (qJ (qG hf1)) qQ) (by (try simp only [List.length_append, List.length_nil, List.length_cons, List.length_singleton]); omega) (by (try simp only [List.length_append, List.length_nil, List.length_cons, List.length_singleton]); omega) ?_)
   intro v3 hs1 hn1 hm1
   have hc1 := RowsC.snoc hC hf1
   refine cX (ql (0) jc rfl jr (by decide) rfl rfl (cX (jJ [_, _, _] _ [v3] jr rfl rfl (qJ hs1) rfl rfl rfl (qd (qc (qh (ii ((n : Int))) rfl (cX (jp (((n : Int)) - 1) rfl rfl (by omega) (by omega) (qi (ii (((n : Int)) - 1)) rfl (qd ?_))))))))))
   exact ⟨(n - 1, v3, os ++ [t1], cs ++ [x6], (m) + 1, F7), _, (qn (qn (qn leG1 le5) le6) le7), rF, ⟨rfl, rfl, rfl, rfl, (vI (by (try dsimp only); omega)), ⟨⟩⟩, (sD (sD (sC (sC (sC (sC (sC sR))))))), ⟨rfl, (qn (qn (qn leG1 le5) le6) le7), (hs1), (hc1), (by (try dsimp only); rw [List.length_append]; simp only [List.length_singleton]; omega), (by (try dsimp only); rw [List.length_append]; simp only [List.length_singleton]; omega), (rows_snoc hob (by (try simp only [List.length_nil]); omega))⟩, (by (try dsimp only); omega)⟩
  refine qA (qc (cX (ql (0) jc rfl jr (by decide) rfl rfl (cX (qk yb rfl (Rd.own [_, _] rfl rfl) (qh (v1) rfl (cX (qz (s := 1) [v1] [sN] [(0, [v1])] jb qv zeroValue22 rfl (by decide) rfl (.cons (cells_one (qV hv1)) CellsAre.nil) rfl ?_))))))))
  intro v4 hv3
  show XL _ _ _ _ _ _ _ (slH 22 1 v4 1 [v1] :: intsH 2 v1 ([] : List Int) :: slH 22 1 ov m cs :: cellsH b3 [ov] 115 :: cellsH b2 [sN] 115 :: cellsH b1 [arv] 36 :: curH .i64 231 cb bsv bs.length :: L)
  refine yf [_] _ _ rfl (fun F8 le8 hz2 => ?_)
  replace hC := hC.mono le8
  have hf2 : IntsF F8 v1 ([]) := intsH.fz (xs := []) hz2.fz
  refine cX (ye (m := 1) (bytes := 24) (cs := cs) [_] _ [v1] jb typeInfo22 rfl rfl rfl rfl rfl rfl rfl (SlV.own [] rfl) rfl (Rd.lit [] rfl) (qx (qJ (qG hf2)) qQ) (by (try simp only [List.length_append, List.length_nil, List.length_cons, List.length_singleton]); omega) (by (try simp only [List.length_append, List.length_nil, List.length_cons, List.length_singleton]); omega) ?_)
  intro v5 hs2 hn2 hm2
  have hc2 := RowsC.snoc hC hf2
  refine cX (ql (0) jc rfl jr (by decide) rfl rfl (cX (jJ [_, _] _ [v5] jr rfl rfl (qJ hs2) rfl rfl rfl (qd (qc (qh (ii ((n : Int))) rfl (cX (jp (((n : Int)) - 1) rfl rfl (by omega) (by omega) (qi (ii (((n : Int)) - 1)) rfl (qd ?_))))))))))
  exact ⟨(n - 1, v5, os ++ [[]], cs ++ [v1], (m) + 1, F8), _, (qn leG1 le8), rF, ⟨rfl, rfl, rfl, rfl, (vI (by (try dsimp only); omega)), ⟨⟩⟩, (sD (sC (sC (sC (sC (sC sR)))))), ⟨rfl, (qn leG1 le8), (hs2), (hc2), (by (try dsimp only); rw [List.length_append]; simp only [List.length_singleton]; omega), (by (try dsimp only); rw [List.length_append]; simp only [List.length_singleton]; omega), (rows_snoc hob (by (try simp only [List.length_nil]); omega))⟩, (by (try dsimp only); omega)⟩
 refine jo (qB (qB (qW (qf (qc (cX (qq [ov] jR js rfl rfl (Rd.ownN [_] rfl rfl) (cX (qK [_, _] _ [ov] js rfl rfl rfl (qx (qJ hov) qQ) rfl rfl rfl (qd (qT [] _ _ rfl (fun F9 le9 hz3 => ?_))))))))))))
 replace hC := hC.mono le9
 have hf3 : RowsF F9 ov os := CO.fz hC (by first | rfl | omega | (rw [List.length_set]; omega) | (simp; done)) hz3.fz
 refine qu (qs (L' := curH .i64 231 cb bsv bs.length :: L) [.agg #[ov]] (.agg #[ov]) (.cell rfl (jt [ov] jR js rfl (Rd.ownN [_] rfl rfl)) .nil) rfl (qn leG1 le9) rF (sD (sD (sD (sC sR)))) ?_)
 exact ⟨⟨_, rfl, ⟨_, hf3, by omega, hob⟩⟩, rfl⟩
end Go.Proofs.YtenomejgjcpbdaaGreat
set_option linter.unusedSimpArgs false
set_option linter.unusedVariables false
namespace Go.Proofs.YtenomejgjcpbdaaGreat
open Go X M Tryz

/- spec.l2Order -/
theorem l2Order_spec {F : FH} {L : List HP}  {tv : Value} {t : List Int} (ht : IntsF F tv t) (hlt : t.length ≤ 4000000) :
    Does prog 318 [tv] F (L) (fun v F' L' => (∃ (a : Value), ∃ (os : List Int), (a : Value) = v ∧ (IntsF F' a os) ∧ (os.length ≤ t.length)) ∧ L = L') := by
 refine qH func318 rfl rfl rfl (qf (qc (qi (sN) rfl (qd (qf (qc (cX (qz (s := 1) [] [ii (0)] [] qg qy qO rfl (by decide) rfl CellsAre.nil rfl ?_))))))))
 intro v1 hv1
 refine qi (v1) rfl (qd (qf (qf (qc (qi (ii (0)) rfl (qd (qR (jy (α := Nat × Value × List Int × FH) (fun xQ => [(0, tv), (3, xQ.2.1), (4, ii (((xQ.1 : Nat) : Int)))]) (fun xQ => intsH 2 xQ.2.1 xQ.2.2.1 :: L) (fun xQ F' => xQ.2.2.2 = F' ∧ F ≤ xQ.2.2.2 ∧ (IsSl xQ.2.1) ∧ (xQ.1 ≤ t.length) ∧ (xQ.2.2.1.length ≤ xQ.1)) (fun xQ => t.length - xQ.1) (0, v1, [], F) ⟨rfl, rfl, rfl, ⟨⟩⟩ (sC sR) ⟨rfl, FLe.refl _, ((qV hv1)), (Nat.zero_le _), (Nat.le_refl _)⟩ ?_))))))))
 rintro ⟨k, ov, os, G1⟩ rE _ _ ⟨rfl, leG, hov, hk, hok⟩
 show X _ _ _ _ (envs [(0, tv), (3, ov), (4, ii ((k : Int)))] rE) _ (intsH 2 ov os :: L)
 replace leG : F ≤ G1 := leG
 dsimp only at hov hk hok
 have leG1 := leG
 replace ht := ht.mono leG1
 refine qf (qf (qc (qh (ii ((k : Int))) rfl (qh (tv) rfl (cX (qE qg rfl ht.slv (cX (jh rfl rfl (qd ?_)))))))))
 refine qC (p := (k : Int) < (t.length : Int)) rfl (fun h1 => ?_) (fun h1 => ?_)
 ·refine qA (qf (qR (qf (qc (qh (tv) rfl (qh (ii ((k : Int))) rfl (cX (qD k qg qy rfl rfl rfl ht.slv (by omega) (Nat.mul_one _) (cX (qk je rfl (ht.rd (by omega)) (cX (jh rfl rfl (qh (.bool (decide ((t.getD k 0 : Int) < 0))) rfl ?_)))))))))))))
  by_cases h2 : (t.getD k 0 : Int) < 0
  ·refine qr (t := 17) rfl (vT h2) (qt (ov) rfl (qr (t := 17) rfl (vT h2) (qt (tv) rfl (qr (t := 17) rfl (vT h2) (qt (ii ((k : Int))) rfl (qr (t := 17) rfl (vT h2) (qD k qg qy rfl rfl rfl ht.slv (by omega) (Nat.mul_one _) (qr (t := 17) rfl (vT h2) (qk je rfl (ht.rd (by omega)) (qr (t := 17) rfl (vT h2) (XOp.lend [] _ _ rfl (fun F1 le1 hz1 => ?_))))))))))))
   have hf1 : IntsF _ ov os := intsH.fz (xs := os) hz1
   refine id (qm (args := [ov, ii (t.getD k 0)]) call259 rfl (l1Has_spec (n := t.getD k 0) hf1 (hbd := (by first | assumption | rfl | omega | simp))) ?_)
   rintro _ _ _ _ ⟨rfl, rfl, rfl⟩
   show XL _ _ _ _ _ _ _ (intsH 2 ov os :: L)
   refine qr (t := 17) rfl (vT h2) (jQ rfl (cX (qP (.bool (decide (¬((t.getD k 0) ∈ os)))) (vT h2) rfl (qd ?_))))
   refine qC (p := ¬((t.getD k 0) ∈ os)) rfl (fun h3 => ?_) (fun h3 => ?_)
   ·refine qc (qh (ov) rfl (qh (tv) rfl (qh (ii ((k : Int))) rfl (cX (qD k qg qy rfl rfl rfl ht.slv (by omega) (Nat.mul_one _) (cX (qk je rfl (ht.rd (by omega)) (cX (qz (s := 1) [ii (t.getD k 0)] [ii (0)] [(0, [ii (t.getD k 0)])] qg qy qO rfl (by decide) rfl (.cons rfl CellsAre.nil) rfl ?_)))))))))
    intro v2 hv2
    refine cX (XOp.append1 (u := t.getD k 0) [_] _ qg typeInfo2 rfl rfl rfl rfl rfl rfl (SlV.own [] rfl) (Rd.sl [] rfl rfl) (by (try simp only [List.length_append, List.length_nil, List.length_cons, List.length_singleton, List.length_take, List.length_drop]); omega) ?_)
    intro v3 hs1 hn1
    refine qi (v3) rfl (qd (qc (qh (ii ((k : Int))) rfl (cX (qU (((k + 1 : Nat) : Int)) rfl rfl (by omega) (by omega) (qi (ii (((k + 1 : Nat) : Int))) rfl (qd ?_)))))))
    exact ⟨(k + 1, v3, os ++ [t.getD k 0], G1), _, leG1, rF, ⟨rfl, rfl, rfl, ⟨⟩⟩, (sD (sC sR)), ⟨rfl, leG1, (hs1), (by (try dsimp only) <;> omega), (by (try dsimp only); (try rw [List.length_append]); (try simp only [List.length_singleton]); omega)⟩, (by omega)⟩
   refine qA (qc (qh (ii ((k : Int))) rfl (cX (qU (((k + 1 : Nat) : Int)) rfl rfl (by omega) (by omega) (qi (ii (((k + 1 : Nat) : Int))) rfl (qd ?_))))))
   exact ⟨(k + 1, ov, os, G1), _, leG1, rF, ⟨rfl, rfl, rfl, ⟨⟩⟩, (sC sR), ⟨rfl, leG1, (hov), (by (try dsimp only) <;> omega), (by (try dsimp only); (try rw [List.length_append]); (try simp only [List.length_singleton]); omega)⟩, (by omega)⟩
  refine qp (t := 17) rfl (vF h2) (qp (t := 17) rfl (vF h2) (qp (t := 17) rfl (vF h2) (qp (t := 17) rfl (vF h2) (qp (t := 17) rfl (vF h2) (qp (t := 17) rfl (vF h2) (qp (t := 17) rfl (vF h2) (cX (qN (.bool (false)) (vF h2) rfl (qd (X.condF rfl ?_))))))))))
  refine qA (qc (qh (ii ((k : Int))) rfl (cX (qU (((k + 1 : Nat) : Int)) rfl rfl (by omega) (by omega) (qi (ii (((k + 1 : Nat) : Int))) rfl (qd ?_))))))
  exact ⟨(k + 1, ov, os, G1), _, leG1, rF, ⟨rfl, rfl, rfl, ⟨⟩⟩, (sC sR), ⟨rfl, leG1, (hov), (by (try dsimp only) <;> omega), (by (try dsimp only); (try rw [List.length_append]); (try simp only [List.length_singleton]); omega)⟩, (by omega)⟩
 refine jo (qB (qB (qW (qf (qc (qh (ov) rfl (qi (ov) rfl (qd (qT [] _ _ rfl (fun F2 le2 hz2 => ?_))))))))))
 have hf2 : IntsF F2 ov os := intsH.fz (xs := os) hz2.fz
 refine qu (qs (L' := L) [ov] (ov) (.tmp rfl .nil) rfl (qn leG1 le2) rF sR ?_)
 exact ⟨⟨_, _, rfl, hf2, by omega⟩, rfl⟩

/- spec.l6DrawRule -/
set_option maxHeartbeats 2000000 in
set_option maxRecDepth 20000 in
theorem l6DrawRule_spec {F : FH} {L : List HP} {cb : Nat} {bsv : Value} {bs : List Int} (hbs : BytesF F bsv bs) (hbl : bs.length ≤ 4000000) {arv : Value} {ar : List Int} (har : IntsF F arv ar) (hso : sigOk ar = true) :
    Does prog 295 [ptr cb 0, .agg #[arv]] F (curH .i64 231 cb bsv bs.length :: L) (fun v F' L' => (∃ (a : Value), ∃ (b : Value), (.agg #[a, b] : Value) = v ∧ (SomesF F' a (fun u => u.length ≤ 2000)) ∧ (SomesF F' b (fun w => w.length ≤ 2000))) ∧ curH .i64 231 cb bsv bs.length :: L = L') := by
 refine qH func295 rfl rfl rfl ?_
 have hsl := sigOk_spec hso
 refine qf (qc (cX (qZ [arv] rfl rfl ?_)))
 intro b1
 refine cX (ji [sN, sN] jn rfl ?_)
 intro b2
 refine qd (qf ?_)
 refine jM [cellsH b2 [sN, sN] 76, cellsH b1 [arv] 36, curH .i64 231 cb bsv bs.length] L 5 [[], [], [], [], [3]] [[], [], [], [2], [3]] [] (phiG [pe (ptr cb 0), pe (.agg #[arv]), pe (ptr cb 0), fun FF us v => (ii (((intAt v))) : Value) = v ∧ (0 ≤ ((intAt v)) ∧ (((intAt v)) < 2 ∨ ((intAt v)) = 0)), fun FF us v => v = (ii (2 + (((intAt (us.getD 0 undef))))) : Value)]) (ownL []) mixed rfl rfl (by kernel_rfl) (by kernel_rfl) (MonoG.get (m1 (m1 (m1 (mC (fun le h => ⟨h.1, h.2⟩) (mC (fun le h => h) MonoG.nil)))))) ?_ ?_
 ·refine gD (fun W Fs R lF z9 => ?_) ?_
  ·refine qj (qt (ptr cb 0) rfl ?_)
   exact ⟨rfl, rfl⟩
  refine gD (fun W Fs R lF z9 => ?_) ?_
  ·replace hbs := hbs.mono lF
   replace har := har.mono lF
   refine qj (qq [arv] qI qw rfl rfl (Rd.ownN [_] rfl rfl) ?_)
   exact ⟨rfl, rfl⟩
  refine gD (fun W Fs R lF z9 => ?_) ?_
  ·refine qj (qt (ptr cb 0) rfl ?_)
   exact ⟨rfl, rfl⟩
  refine gD (fun W Fs R lF z9 => ?_) ?_
  ·replace hbs := hbs.mono lF
   replace har := har.mono lF
   rw [eS (l := [(2, _)]) ⟨z9 2 rfl, ⟨⟩⟩]
   refine qj (qm (args := [ptr cb 0, ii (2)]) jP rfl (jl [_, _] (l1Below_spec (n := 2) hbs (by omega) (hn := (by first | assumption | rfl | omega | simp)))) ?_)
   rintro _ _ _ _ ⟨⟨rfl, x2, rfl, hr2⟩, rfl⟩
   exact ⟨⟨rfl, hr2⟩, rfl⟩
  refine gD (fun W Fs R lF z9 => ?_) ?_
  ·obtain ⟨e3, f3_1hx⟩ := z9 3 rfl
   rw [eS (l := [(3, (ii (((intAt (W 3))))))]) ⟨(e3).symm, ⟨⟩⟩]
   refine qj (qU (2 + (((intAt (W 3))))) rfl rfl (by omega) (by omega) ?_)
   exact ⟨rfl, rfl⟩
  exact stepsG.nil
 intro W F3 le3 hphi
 obtain ⟨e3, f3_1hx⟩ := hphi 3 (by decide)
 have e4 : W 4 = (ii (2 + (((intAt (W 3))))) : Value) := hphi 4 (by decide)
 generalize hu1 : (intAt (W 3)) = u1 at e3 f3_1hx e4
 rw [eS (l := [(0, _), (1, _), (3, (ii ((u1)))), (4, (ii (2 + ((u1)))))]) ⟨(hphi 0 (by decide)), (hphi 1 (by decide)), (e3).symm, e4, ⟨⟩⟩]
 replace hbs := hbs.mono le3
 replace har := har.mono le3
 show XL _ _ _ _ _ _ _ (cellsH b2 [sN, sN] 76 :: cellsH b1 [arv] 36 :: curH .i64 231 cb bsv bs.length :: L)
 refine cX (qm (args := [ptr cb 0, .agg #[arv], ii (((2 + ((u1))).toNat : Nat) : Int), ii (2)]) call268 (by rw [show (((2 + ((u1))).toNat : Nat) : Int) = 2 + ((u1)) from by omega]; rfl) (Does.atO [_, _] (l1DrawTerm_spec ((2 + ((u1))).toNat) (vs := 2) hbs (by omega) har (hso := (by first | assumption | rfl | omega | simp)) (hdp := (by first | assumption | rfl | omega | simp)) (hvs := (by first | assumption | rfl | omega | simp)))) ?_)
 rintro _ F4 _ le4 ⟨x4, ⟨rfl, hsl1⟩, rfl⟩
 replace hbs := hbs.mono le4
 replace har := har.mono le4
 show XL _ _ _ _ _ _ _ (drawnH 2 x4 (fun t => goodT ar t ∧ 1 ≤ t.length ∧ t.length ≤ szT ((2 + ((u1))).toNat)) :: cellsH b2 [sN, sN] 76 :: cellsH b1 [arv] 36 :: curH .i64 231 cb bsv bs.length :: L)
 refine XL.undraw [] rfl (fun t1 hq9 => ?_)
 obtain ⟨q1, q2, q3⟩ := hq9
 show XL _ _ _ _ _ _ _ (intsH 2 x4 t1 :: cellsH b2 [sN, sN] 76 :: cellsH b1 [arv] 36 :: curH .i64 231 cb bsv bs.length :: L)
 have hz9 := szT_le (d := (2 + ((u1))).toNat) (e := 3) (by omega)
 have hz8 : szT 3 = 40 := rfl
 have hz7 : szT 1 = 4 := rfl
 refine qi (x4) rfl (qd (qf (qf (qc (qh (x4) rfl (cX (qD 0 qg qy rfl rfl rfl (intsH.slv [] rfl) (by omega) (Nat.mul_one _) (cX (qk je rfl (intsH.rd [] rfl (by omega)) (cX (jh rfl rfl (qd ?_))))))))))))
 refine qC (p := (t1.getD 0 0 : Int) < 0) rfl (fun h1 => ?_) (fun h1 => ?_)
 ·refine qf (qc (qh (ptr cb 0) rfl (cX (ql (0) jm rfl qv (by decide) rfl rfl (cX (qk qS rfl (Rd.own [_, _] rfl rfl) (cX (qE qg rfl har.slv (cX (qm (args := [ptr cb 0, ii ((ar.length : Int))]) jP rfl (jl [_, _, _] (l1Below_spec (n := (ar.length : Int)) hbs (by omega) (hn := (by first | assumption | rfl | omega | simp)))) ?_))))))))))
  rintro _ _ _ _ ⟨⟨rfl, x5, rfl, hr3⟩, rfl⟩
  show XL _ _ _ _ _ _ _ (intsH 2 x4 t1 :: cellsH b2 [sN, sN] 76 :: cellsH b1 [arv] 36 :: curH .i64 231 cb bsv bs.length :: L)
  refine qi (ii (x5)) rfl (qd (qf (qc (qh (ii (x5)) rfl (cX (qz (s := 1) [ii (x5)] [ii (0)] [(0, [ii (x5)])] qg qy qO rfl (by decide) rfl (.cons rfl CellsAre.nil) rfl ?_))))))
  intro v1 hv1
  refine qi (v1) rfl (qd (qf (qc ?_)))
  show XL _ _ _ _ _ _ _ (intsH 2 v1 ([x5] : List Int) :: intsH 2 x4 t1 :: cellsH b2 [sN, sN] 76 :: cellsH b1 [arv] 36 :: curH .i64 231 cb bsv bs.length :: L)
  skip
  refine cX (ql (0) jm rfl qv (by decide) rfl rfl (cX (qk qS rfl (Rd.own [_, _, _] rfl rfl) (qh (ii (x5)) rfl (cX (qD ((x5).toNat) qg qy rfl rfl (by omega) har.slv (by omega) (Nat.mul_one _) (cX (qk je rfl (har.rd (by omega)) (qi (ii (ar.getD ((x5).toNat) 0)) rfl ?_)))))))))
  have hfr : 0 ≤ x5 ∧ x5 < (ar.length : Int) := by omega
  have hsp := (sigOk_spec hso).2.2 (x5).toNat (by omega)
  obtain ⟨haK, hKe⟩ : ∃ q : Nat, q = (ar.getD ((x5).toNat) 0).toNat := ⟨_, rfl⟩
  have hK3 : haK ≤ 3 := by omega
  have hKa : arity ar x5 = (haK : Int) := by rw [arity, if_neg (by omega)]; omega
  refine qd (qR (jy (α := Nat × Value × List Int × List Int × FH) (fun xQ => [(0, ptr cb 0), (3, ptr b1 0), (4, ptr b2 0), (5, xQ.2.1), (7, ii (((xQ.1 : Nat) : Int)))]) (fun xQ => intsH 2 xQ.2.1 xQ.2.2.1 :: intsH 2 x4 t1 :: cellsH b2 [sN, sN] 76 :: cellsH b1 [arv] 36 :: curH .i64 231 cb bsv bs.length :: L) (fun xQ F' => xQ.2.2.2.2 = F' ∧ F4 ≤ xQ.2.2.2.2 ∧ (IsSl xQ.2.1) ∧ (xQ.2.2.1 = x5 :: xQ.2.2.2.1) ∧ (xQ.1 + (haK - xQ.1) = haK ∧ xQ.1 ≤ haK) ∧ (goodN ar xQ.2.2.2.1 (haK - xQ.1)) ∧ (xQ.2.2.2.1.length ≤ (haK - xQ.1) * (szT 1))) (fun xQ => xQ.1) ((ar.getD ((x5).toNat) 0).toNat, v1, [x5], [], F4) ⟨rfl, rfl, rfl, rfl, (vI (by omega)), ⟨⟩⟩ (sC (sC (sC (sC (sC sR))))) ⟨rfl, FLe.refl _, ((qV hv1)), (rfl), (by (try dsimp only); omega), (by (try dsimp only); rw [show haK - (ar.getD ((x5).toNat) 0).toNat = 0 from by omega]; exact goodN.nil), (by (try dsimp only); simp)⟩ ?_))
  rintro ⟨n, ov, os, ot, G1⟩ rE _ _ ⟨rfl, leG, hov, hoe, hn3, hgo, hol⟩
  show X _ _ _ _ (envs [(0, ptr cb 0), (3, ptr b1 0), (4, ptr b2 0), (5, ov), (7, ii ((n : Int)))] rE) _ (intsH 2 ov os :: intsH 2 x4 t1 :: cellsH b2 [sN, sN] 76 :: cellsH b1 [arv] 36 :: curH .i64 231 cb bsv bs.length :: L)
  replace leG : F4 ≤ G1 := leG
  dsimp only at hov hoe hn3 hgo hol
  have hm9 : (haK - n) * (szT 1) ≤ 3 * (szT 1) := Nat.mul_le_mul_right _ (by omega)
  have hool : os.length = ot.length + 1 := by rw [hoe]; rfl
  have leG1 := leG
  replace hbs := hbs.mono leG1
  replace har := har.mono leG1
  refine qf (qf (qc (qh (ii ((n : Int))) rfl (cX (jH rfl rfl (qd ?_))))))
  refine qC (p := (n : Int) > 0) rfl (fun h2 => ?_) (fun h2 => ?_)
  ·refine qA (qf (qR (qc (qh (ov) rfl (qh (ptr cb 0) rfl (cX (qq [arv] qI qw rfl rfl (Rd.ownN [_, _, _] rfl rfl) (cX (qm (args := [ptr cb 0, .agg #[arv], ii ((1 : Nat) : Int), ii (2)]) call268 rfl (Does.atO [_, _, _, _] (l1DrawTerm_spec 1 (vs := 2) hbs (by omega) har (hso := (by first | assumption | rfl | omega | simp)) (hdp := (by first | assumption | rfl | omega | simp)) (hvs := (by first | assumption | rfl | omega | simp)))) ?_)))))))))
   rintro _ F6 _ le6 ⟨x7, ⟨rfl, hsl2⟩, rfl⟩
   replace hbs := hbs.mono le6
   replace har := har.mono le6
   show XL _ _ _ _ _ _ _ (drawnH 2 x7 (fun t => goodT ar t ∧ 1 ≤ t.length ∧ t.length ≤ szT 1) :: intsH 2 ov os :: intsH 2 x4 t1 :: cellsH b2 [sN, sN] 76 :: cellsH b1 [arv] 36 :: curH .i64 231 cb bsv bs.length :: L)
   refine XL.undraw [] rfl (fun t2 hq9 => ?_)
   obtain ⟨q4, q5, q6⟩ := hq9
   show XL _ _ _ _ _ _ _ (intsH 2 x7 t2 :: intsH 2 ov os :: intsH 2 x4 t1 :: cellsH b2 [sN, sN] 76 :: cellsH b1 [arv] 36 :: curH .i64 231 cb bsv bs.length :: L)
   refine yf [] _ _ rfl (fun F7 le7 hz1 => ?_)
   replace hbs := hbs.mono le7
   replace har := har.mono le7
   have hf1 : IntsF F7 x7 t2 := intsH.fz (xs := t2) hz1.fz
   refine cX (XOp.appendI [] _ qg typeInfo2 rfl rfl rfl rfl rfl rfl hf1 (by (try simp only [List.length_append, List.length_nil, List.length_cons, List.length_singleton, List.length_take, List.length_drop]); omega) ?_)
   intro v2 hs1 hn1 hm1
   refine qi (v2) rfl (qd (qc (qh (ii ((n : Int))) rfl (cX (jp (((n - 1 : Nat) : Int)) rfl rfl (by omega) (by omega) (qi (ii (((n - 1 : Nat) : Int))) rfl (qd ?_)))))))
   exact ⟨(n - 1, v2, os ++ t2, (ot ++ t2), F7), _, (qn (qn leG1 le6) le7), rF, ⟨rfl, rfl, rfl, rfl, rfl, ⟨⟩⟩, (sC (sC (sC (sC (sC sR))))), ⟨rfl, (qn (qn leG1 le6) le7), (hs1), (by (try dsimp only); rw [hoe] <;> rfl), (by (try dsimp only); omega), (by (try dsimp only); rw [show haK - (n - 1) = haK - n + 1 from by omega]; exact hgo.snoc q4), (by (try dsimp only); rw [show haK - (n - 1) = haK - n + 1 from by omega, Nat.succ_mul, List.length_append]; omega)⟩, (by (try dsimp only); omega)⟩
  refine jo (qB (qB (qW (qf ?_))))
  refine jM [intsH 2 ov os, intsH 2 x4 t1, cellsH b2 [sN, sN] 76, cellsH b1 [arv] 36, curH .i64 231 cb bsv bs.length] L 5 [[], [], [], [], [3]] [[], [], [], [2], [3]] [] (phiG [pe (ptr cb 0), pe (.agg #[arv]), pe (ptr cb 0), fun FF us v => (ii (((intAt v))) : Value) = v ∧ (0 ≤ ((intAt v)) ∧ (((intAt v)) < 3 ∨ ((intAt v)) = 0)), fun FF us v => v = (ii (1 + (((intAt (us.getD 0 undef))))) : Value)]) (ownL []) mixed rfl rfl (by kernel_rfl) (by kernel_rfl) (MonoG.get (m1 (m1 (m1 (mC (fun le h => ⟨h.1, h.2⟩) (mC (fun le h => h) MonoG.nil)))))) ?_ ?_
  ·refine gD (fun W Fs R lF z9 => ?_) ?_
   ·refine qj (qt (ptr cb 0) rfl ?_)
    exact ⟨rfl, rfl⟩
   refine gD (fun W Fs R lF z9 => ?_) ?_
   ·replace hbs := hbs.mono lF
    replace har := har.mono lF
    refine qj (qq [arv] qI qw rfl rfl (Rd.ownN [_, _, _] rfl rfl) ?_)
    exact ⟨rfl, rfl⟩
   refine gD (fun W Fs R lF z9 => ?_) ?_
   ·refine qj (qt (ptr cb 0) rfl ?_)
    exact ⟨rfl, rfl⟩
   refine gD (fun W Fs R lF z9 => ?_) ?_
   ·replace hbs := hbs.mono lF
    replace har := har.mono lF
    rw [eS (l := [(2, _)]) ⟨z9 2 rfl, ⟨⟩⟩]
    refine qj (qm (args := [ptr cb 0, ii (3)]) jP rfl (jl [_, _, _, _] (l1Below_spec (n := 3) hbs (by omega) (hn := (by first | assumption | rfl | omega | simp)))) ?_)
    rintro _ _ _ _ ⟨⟨rfl, x9, rfl, hr5⟩, rfl⟩
    exact ⟨⟨rfl, hr5⟩, rfl⟩
   refine gD (fun W Fs R lF z9 => ?_) ?_
   ·obtain ⟨e3, f3_2hx⟩ := z9 3 rfl
    rw [eS (l := [(3, (ii (((intAt (W 3))))))]) ⟨(e3).symm, ⟨⟩⟩]
    refine qj (qU (1 + (((intAt (W 3))))) rfl rfl (by omega) (by omega) ?_)
    exact ⟨rfl, rfl⟩
   exact stepsG.nil
  intro W F10 le10 hphi
  obtain ⟨e3, f3_2hx⟩ := hphi 3 (by decide)
  have e4 : W 4 = (ii (1 + (((intAt (W 3))))) : Value) := hphi 4 (by decide)
  generalize hu2 : (intAt (W 3)) = u2 at e3 f3_2hx e4
  rw [eS (l := [(0, _), (1, _), (3, (ii ((u2)))), (4, (ii (1 + ((u2)))))]) ⟨(hphi 0 (by decide)), (hphi 1 (by decide)), (e3).symm, e4, ⟨⟩⟩]
  replace hbs := hbs.mono le10
  replace har := har.mono le10
  show XL _ _ _ _ _ _ _ (intsH 2 ov os :: intsH 2 x4 t1 :: cellsH b2 [sN, sN] 76 :: cellsH b1 [arv] 36 :: curH .i64 231 cb bsv bs.length :: L)
  refine cX (qm (args := [ptr cb 0, .agg #[arv], ii (((1 + ((u2))).toNat : Nat) : Int), ii (2)]) call268 (by rw [show (((1 + ((u2))).toNat : Nat) : Int) = 1 + ((u2)) from by omega]; rfl) (Does.atO [_, _, _, _] (l1DrawTerm_spec ((1 + ((u2))).toNat) (vs := 2) hbs (by omega) har (hso := (by first | assumption | rfl | omega | simp)) (hdp := (by first | assumption | rfl | omega | simp)) (hvs := (by first | assumption | rfl | omega | simp)))) ?_)
  rintro _ F11 _ le11 ⟨x11, ⟨rfl, hsl3⟩, rfl⟩
  replace hbs := hbs.mono le11
  replace har := har.mono le11
  show XL _ _ _ _ _ _ _ (drawnH 2 x11 (fun t => goodT ar t ∧ 1 ≤ t.length ∧ t.length ≤ szT ((1 + ((u2))).toNat)) :: intsH 2 ov os :: intsH 2 x4 t1 :: cellsH b2 [sN, sN] 76 :: cellsH b1 [arv] 36 :: curH .i64 231 cb bsv bs.length :: L)
  refine XL.undraw [] rfl (fun t3 hq9 => ?_)
  obtain ⟨q7, q8, q9⟩ := hq9
  show XL _ _ _ _ _ _ _ (intsH 2 x11 t3 :: intsH 2 ov os :: intsH 2 x4 t1 :: cellsH b2 [sN, sN] 76 :: cellsH b1 [arv] 36 :: curH .i64 231 cb bsv bs.length :: L)
  have hoT : goodT ar os := by rw [hoe]; exact goodT.node hfr.1 (by omega) hKa (by have h9 := hgo; rwa [show haK - n = haK from by omega] at h9)
  have hol : termOk ar os = true := goodT.ok hso (by omega) hoT
  refine yf [_] _ _ rfl (fun F12 le12 hz2 => ?_)
  replace hbs := hbs.mono le12
  replace har := har.mono le12
  have hf2 : IntsF F12 ov os := intsH.fz (xs := os) hz2.fz
  have hy9 := szT_le (d := (1 + ((u2))).toNat) (e := 3) (by omega)
  refine qi (x11) rfl (qd (qf (qf (qc (qi (ii (0)) rfl (qd (qR (jy (α := Nat × List Int × FH) (fun xQ => [(3, ptr b1 0), (4, ptr b2 0), (5, ov), (8, x11), (9, ii (((xQ.1 : Nat) : Int)))]) (fun xQ => intsH 2 x11 xQ.2.1 :: intsH 2 x4 t1 :: cellsH b2 [sN, sN] 76 :: cellsH b1 [arv] 36 :: curH .i64 231 cb bsv bs.length :: L) (fun xQ F' => xQ.2.2 = F' ∧ F12 ≤ xQ.2.2 ∧ (xQ.1 ≤ xQ.2.1.length) ∧ (xQ.2.1.length = t3.length)) (fun xQ => xQ.2.1.length - xQ.1) (0, t3, F12) ⟨rfl, rfl, rfl, rfl, rfl, ⟨⟩⟩ (sC (sC (sC (sC (sC sR))))) ⟨rfl, FLe.refl _, (Nat.zero_le _), (rfl)⟩ ?_))))))))
  rintro ⟨k, rr, G2⟩ rE _ _ ⟨rfl, leG, hk, hrl⟩
  show X _ _ _ _ (envs [(3, ptr b1 0), (4, ptr b2 0), (5, ov), (8, x11), (9, ii ((k : Int)))] rE) _ (intsH 2 x11 rr :: intsH 2 x4 t1 :: cellsH b2 [sN, sN] 76 :: cellsH b1 [arv] 36 :: curH .i64 231 cb bsv bs.length :: L)
  replace leG : F12 ≤ G2 := leG
  dsimp only at hk hrl
  have leG2 := leG
  replace hbs := hbs.mono leG2
  replace har := har.mono leG2
  replace hf2 := hf2.mono leG2
  refine qf (qf (qc (qh (ii ((k : Int))) rfl (qh (x11) rfl (cX (qE qg rfl (intsH.slv [] rfl) (cX (jh rfl rfl (qd ?_)))))))))
  refine qC (p := (k : Int) < (rr.length : Int)) rfl (fun h3 => ?_) (fun h3 => ?_)
  ·refine qA (qf (qR (qf (qc (qh (x11) rfl (qh (ii ((k : Int))) rfl (cX (qD k qg qy rfl rfl rfl (intsH.slv [] rfl) (by omega) (Nat.mul_one _) (cX (qk je rfl (intsH.rd [] rfl (by omega)) (cX (jh rfl rfl (qh (.bool (decide ((rr.getD k 0 : Int) < 0))) rfl ?_)))))))))))))
   by_cases h4 : (rr.getD k 0 : Int) < 0
   ·refine qr (t := 59) rfl (vT h4) (qt (ov) rfl (qr (t := 59) rfl (vT h4) (qt (x11) rfl (qr (t := 59) rfl (vT h4) (qt (ii ((k : Int))) rfl (qr (t := 59) rfl (vT h4) (qD k qg qy rfl rfl rfl (intsH.slv [] rfl) (by omega) (Nat.mul_one _) (qr (t := 59) rfl (vT h4) (qk je rfl (intsH.rd [] rfl (by omega)) (qr (t := 59) rfl (vT h4) (qm (args := [ov, ii (rr.getD k 0)]) call259 rfl (l1Has_spec (n := rr.getD k 0) hf2 (hbd := (by first | assumption | rfl | omega | simp))) ?_)))))))))))
    rintro _ _ _ _ ⟨rfl, rfl, rfl⟩
    refine qr (t := 59) rfl (vT h4) (jQ rfl (cX (qP (.bool (decide (¬((rr.getD k 0) ∈ os)))) (vT h4) rfl (qd ?_))))
    refine qC (p := ¬((rr.getD k 0) ∈ os)) rfl (fun h5 => ?_) (fun h5 => ?_)
    ·refine qf (qc (qh (ov) rfl (cX (qm (args := [ov]) call318 rfl (l2Order_spec hf2 (hlt := (by first | assumption | rfl | omega | simp))) ?_))))
     rintro _ F13 _ le13 ⟨⟨x12, x13, rfl, hr6, hr7⟩, rfl⟩
     replace hbs := hbs.mono le13
     replace har := har.mono le13
     replace hf2 := hf2.mono le13
     show XL _ _ _ _ _ _ _ (intsH 2 x11 rr :: intsH 2 x4 t1 :: cellsH b2 [sN, sN] 76 :: cellsH b1 [arv] 36 :: curH .i64 231 cb bsv bs.length :: L)
     refine qi (x12) rfl (qd (qf (qf (qc (qh (x12) rfl (cX (qE qg rfl hr6.slv (cX (jB rfl rfl (qd ?_))))))))))
     refine qC (p := ((x13.length : Int) : Int) = 0) rfl (fun h6 => ?_) (fun h6 => ?_)
     ·refine qf (qc (qh (ov) rfl (cX (qq [arv] qI qw rfl rfl (Rd.ownN [_, _, _] rfl rfl) (qh (ov) rfl (qh (ov) rfl (cX (qE qg rfl hf2.slv (cX (jp (((((os).length) - 1 : Nat) : Int)) rfl rfl (by omega) (by omega) (cX (jG <| qm (args := [.agg #[arv], ov, ii ((((os).length) - 1 : Nat) : Int)]) call209 rfl (l1Sub_spec (p := ((os).length) - 1) har hf2 (ho := (hol)) (hp := (by first | assumption | rfl | omega | simp))) ?_))))))))))))
      rintro v3 _ _ _ ⟨rfl, hs2, rfl⟩
      refine ⟨_, _, rfl, fun F14 le14 hz3 => ?_⟩
      replace hbs := hbs.mono le14
      replace har := har.mono le14
      replace hf2 := hf2.mono le14
      replace hr6 := hr6.mono le14
      have hf3 : IntsF F14 v3 ((sub ar os (((os).length) - 1))) := intsH.fz (xs := (sub ar os (((os).length) - 1))) hz3.fz
      refine cX (jk [ov, v3] [sN, sN] [(0, 1), (1, 1)] [(0, [ov]), (1, [v3])] ja jn rfl (.cons rfl qv (.cons rfl qv PlacesAre.nil)) rfl (.cons (cells_one (qG hf2)) (.cons (cells_one (qG hf3)) CellsAre.nil)) (cX (qK [_, _] _ [ov, v3] jv rfl rfl rfl (qx (qJ (qG hf2)) (qx (qJ (qG hf3)) qQ)) rfl rfl rfl (qd (qu (qo (qL (qo (qo (qL (qo (qs (L' := curH .i64 231 cb bsv bs.length :: L) [.agg #[ov, v3]] (.agg #[ov, v3]) (.cell rfl (jt [ov, v3] isAgg76 jv rfl (Rd.ownN [_, _] rfl rfl)) .nil) rfl (qn (qn (qn (qn (qn (qn (qn (qn le3 le4) leG1) le10) le11) le12) leG2) le13) le14) rF (sD (sD (sD (sD (sC sR))))) ?_))))))))))))
      exact ⟨⟨_, _, rfl, ⟨_, hf2, by omega⟩, ⟨_, hf3, by have h9 := sub_le (ar := ar) (t := os) (p := os.length - 1); omega⟩⟩, rfl⟩
     refine qA (qc (qh (x11) rfl (qh (ii ((k : Int))) rfl (qh (x12) rfl (cX (qD 0 qg qy rfl rfl rfl hr6.slv (by omega) (Nat.mul_one _) (cX (qk je rfl (hr6.rd (by omega)) (cX (qD k qg qy rfl rfl rfl (intsH.slv [] rfl) (by omega) (Nat.mul_one _) (cX (intsH.storeX (i := k) (v := x11) [] _ (rr.set k (x13.getD 0 0)) qy rfl rfl rfl (by omega) rfl (qd (qc (qh (ii ((k : Int))) rfl ?_)))))))))))))))
     refine cX (qU (((k + 1 : Nat) : Int)) rfl rfl (by omega) (by omega) (qi (ii (((k + 1 : Nat) : Int))) rfl (qd ?_)))
     exact ⟨(k + 1, (rr.set k (x13.getD 0 0)), F13), _, (qn leG2 le13), rF, ⟨rfl, rfl, rfl, rfl, rfl, ⟨⟩⟩, (sC (sC (sC (sC (sC sR))))), ⟨rfl, (qn leG2 le13), (by (try dsimp only); (try rw [List.length_set]); omega), (by (try dsimp only); (try rw [List.length_set]); omega)⟩, (by (try dsimp only); (try rw [List.length_set]); omega)⟩
    refine qA (qc (qh (ii ((k : Int))) rfl (cX (qU (((k + 1 : Nat) : Int)) rfl rfl (by omega) (by omega) (qi (ii (((k + 1 : Nat) : Int))) rfl (qd ?_))))))
    exact ⟨(k + 1, rr, G2), _, leG2, rF, ⟨rfl, rfl, rfl, rfl, rfl, ⟨⟩⟩, (sC (sC (sC (sC (sC sR))))), ⟨rfl, leG2, (by (try dsimp only); (try rw [List.length_set]); omega), (by (try dsimp only); (try rw [List.length_set]); omega)⟩, (by (try dsimp only); (try rw [List.length_set]); omega)⟩
   refine qp (t := 59) rfl (vF h4) (qp (t := 59) rfl (vF h4) (qp (t := 59) rfl (vF h4) (qp (t := 59) rfl (vF h4) (qp (t := 59) rfl (vF h4) (qp (t := 59) rfl (vF h4) (qp (t := 59) rfl (vF h4) (cX (qN (.bool (false)) (vF h4) rfl (qd (X.condF rfl ?_))))))))))
   refine qA (qc (qh (ii ((k : Int))) rfl (cX (qU (((k + 1 : Nat) : Int)) rfl rfl (by omega) (by omega) (qi (ii (((k + 1 : Nat) : Int))) rfl (qd ?_))))))
   exact ⟨(k + 1, rr, G2), _, leG2, rF, ⟨rfl, rfl, rfl, rfl, rfl, ⟨⟩⟩, (sC (sC (sC (sC (sC sR))))), ⟨rfl, leG2, (by (try dsimp only); (try rw [List.length_set]); omega), (by (try dsimp only); (try rw [List.length_set]); omega)⟩, (by (try dsimp only); (try rw [List.length_set]); omega)⟩
  refine jo (qB (qB (qW (qf (qc (qh (ov) rfl (qh (x11) rfl (cX (jk [ov, x11] [sN, sN] [(0, 1), (1, 1)] [(0, [ov]), (1, [x11])] ja jn rfl (.cons rfl qv (.cons rfl qv PlacesAre.nil)) rfl (.cons (cells_one (qG hf2)) (.cons (cells_one hsl3) CellsAre.nil)) (cX (qK [_, _] _ [ov, x11] jv rfl rfl rfl (qx (qJ (qG hf2)) (qx (qJ hsl3) qQ)) rfl rfl rfl (qd (qT [] _ _ rfl (fun F15 le15 hz4 => ?_))))))))))))))
  replace hbs := hbs.mono le15
  replace har := har.mono le15
  replace hf2 := hf2.mono le15
  have hf4 : IntsF F15 x11 rr := intsH.fz (xs := rr) hz4.fz
  refine qu (qs (L' := curH .i64 231 cb bsv bs.length :: L) [.agg #[ov, x11]] (.agg #[ov, x11]) (.cell rfl (jt [ov, x11] isAgg76 jv rfl (Rd.ownN [_] rfl rfl)) .nil) rfl (qn (qn (qn (qn (qn (qn (qn le3 le4) leG1) le10) le11) le12) leG2) le15) rF (sD (sD (sD (sC sR)))) ?_)
  exact ⟨⟨_, _, rfl, ⟨_, hf2, by omega⟩, ⟨_, hf4, by omega⟩⟩, rfl⟩
 refine qA (qf ?_)
 refine jM [intsH 2 x4 t1, cellsH b2 [sN, sN] 76, cellsH b1 [arv] 36, curH .i64 231 cb bsv bs.length] L 5 [[], [], [], [], [3]] [[], [], [], [2], [3]] [] (phiG [pe (ptr cb 0), pe (.agg #[arv]), pe (ptr cb 0), fun FF us v => (ii (((intAt v))) : Value) = v ∧ (0 ≤ ((intAt v)) ∧ (((intAt v)) < 3 ∨ ((intAt v)) = 0)), fun FF us v => v = (ii (1 + (((intAt (us.getD 0 undef))))) : Value)]) (ownL []) mixed rfl rfl (by kernel_rfl) (by kernel_rfl) (MonoG.get (m1 (m1 (m1 (mC (fun le h => ⟨h.1, h.2⟩) (mC (fun le h => h) MonoG.nil)))))) ?_ ?_
 ·refine gD (fun W Fs R lF z9 => ?_) ?_
  ·refine qj (qt (ptr cb 0) rfl ?_)
   exact ⟨rfl, rfl⟩
  refine gD (fun W Fs R lF z9 => ?_) ?_
  ·replace hbs := hbs.mono lF
   replace har := har.mono lF
   refine qj (qq [arv] qI qw rfl rfl (Rd.ownN [_, _] rfl rfl) ?_)
   exact ⟨rfl, rfl⟩
  refine gD (fun W Fs R lF z9 => ?_) ?_
  ·refine qj (qt (ptr cb 0) rfl ?_)
   exact ⟨rfl, rfl⟩
  refine gD (fun W Fs R lF z9 => ?_) ?_
  ·replace hbs := hbs.mono lF
   replace har := har.mono lF
   rw [eS (l := [(2, _)]) ⟨z9 2 rfl, ⟨⟩⟩]
   refine qj (qm (args := [ptr cb 0, ii (3)]) jP rfl (jl [_, _, _] (l1Below_spec (n := 3) hbs (by omega) (hn := (by first | assumption | rfl | omega | simp)))) ?_)
   rintro _ _ _ _ ⟨⟨rfl, x15, rfl, hr9⟩, rfl⟩
   exact ⟨⟨rfl, hr9⟩, rfl⟩
  refine gD (fun W Fs R lF z9 => ?_) ?_
  ·obtain ⟨e3, f3_3hx⟩ := z9 3 rfl
   rw [eS (l := [(3, (ii (((intAt (W 3))))))]) ⟨(e3).symm, ⟨⟩⟩]
   refine qj (qU (1 + (((intAt (W 3))))) rfl rfl (by omega) (by omega) ?_)
   exact ⟨rfl, rfl⟩
  exact stepsG.nil
 intro W F18 le18 hphi
 obtain ⟨e3, f3_3hx⟩ := hphi 3 (by decide)
 have e4 : W 4 = (ii (1 + (((intAt (W 3))))) : Value) := hphi 4 (by decide)
 generalize hu3 : (intAt (W 3)) = u3 at e3 f3_3hx e4
 rw [eS (l := [(0, _), (1, _), (3, (ii ((u3)))), (4, (ii (1 + ((u3)))))]) ⟨(hphi 0 (by decide)), (hphi 1 (by decide)), (e3).symm, e4, ⟨⟩⟩]
 replace hbs := hbs.mono le18
 replace har := har.mono le18
 show XL _ _ _ _ _ _ _ (intsH 2 x4 t1 :: cellsH b2 [sN, sN] 76 :: cellsH b1 [arv] 36 :: curH .i64 231 cb bsv bs.length :: L)
 refine cX (qm (args := [ptr cb 0, .agg #[arv], ii (((1 + ((u3))).toNat : Nat) : Int), ii (2)]) call268 (by rw [show (((1 + ((u3))).toNat : Nat) : Int) = 1 + ((u3)) from by omega]; rfl) (Does.atO [_, _, _] (l1DrawTerm_spec ((1 + ((u3))).toNat) (vs := 2) hbs (by omega) har (hso := (by first | assumption | rfl | omega | simp)) (hdp := (by first | assumption | rfl | omega | simp)) (hvs := (by first | assumption | rfl | omega | simp)))) ?_)
 rintro _ F19 _ le19 ⟨x17, ⟨rfl, hsl4⟩, rfl⟩
 replace har := har.mono le19
 show XL _ _ _ _ _ _ _ (drawnH 2 x17 (fun t => goodT ar t ∧ 1 ≤ t.length ∧ t.length ≤ szT ((1 + ((u3))).toNat)) :: intsH 2 x4 t1 :: cellsH b2 [sN, sN] 76 :: cellsH b1 [arv] 36 :: curH .i64 231 cb bsv bs.length :: L)
 refine XL.undraw [] rfl (fun t4 hq9 => ?_)
 obtain ⟨q10, q11, q12⟩ := hq9
 show XL _ _ _ _ _ _ _ (intsH 2 x17 t4 :: intsH 2 x4 t1 :: cellsH b2 [sN, sN] 76 :: cellsH b1 [arv] 36 :: curH .i64 231 cb bsv bs.length :: L)
 have hol : termOk ar t1 = true := goodT.ok hso (by omega) q1
 refine yf [_] _ _ rfl (fun F20 le20 hz5 => ?_)
 replace har := har.mono le20
 have hf5 : IntsF F20 x4 t1 := intsH.fz (xs := t1) hz5.fz
 have hy9 := szT_le (d := (1 + ((u3))).toNat) (e := 3) (by omega)
 refine qi (x17) rfl (qd (qf (qf (qc (qi (ii (0)) rfl (qd (qR (jy (α := Nat × List Int × FH) (fun xQ => [(3, ptr b1 0), (4, ptr b2 0), (5, x4), (8, x17), (9, ii (((xQ.1 : Nat) : Int)))]) (fun xQ => intsH 2 x17 xQ.2.1 :: cellsH b2 [sN, sN] 76 :: cellsH b1 [arv] 36 :: curH .i64 231 cb bsv bs.length :: L) (fun xQ F' => xQ.2.2 = F' ∧ F20 ≤ xQ.2.2 ∧ (xQ.1 ≤ xQ.2.1.length) ∧ (xQ.2.1.length = t4.length)) (fun xQ => xQ.2.1.length - xQ.1) (0, t4, F20) ⟨rfl, rfl, rfl, rfl, rfl, ⟨⟩⟩ (sC (sC (sC (sC sR)))) ⟨rfl, FLe.refl _, (Nat.zero_le _), (rfl)⟩ ?_))))))))
 rintro ⟨k, rr, G3⟩ rE _ _ ⟨rfl, leG, hk, hrl⟩
 show X _ _ _ _ (envs [(3, ptr b1 0), (4, ptr b2 0), (5, x4), (8, x17), (9, ii ((k : Int)))] rE) _ (intsH 2 x17 rr :: cellsH b2 [sN, sN] 76 :: cellsH b1 [arv] 36 :: curH .i64 231 cb bsv bs.length :: L)
 replace leG : F20 ≤ G3 := leG
 dsimp only at hk hrl
 have leG3 := leG
 replace har := har.mono leG3
 replace hf5 := hf5.mono leG3
 refine qf (qf (qc (qh (ii ((k : Int))) rfl (qh (x17) rfl (cX (qE qg rfl (intsH.slv [] rfl) (cX (jh rfl rfl (qd ?_)))))))))
 refine qC (p := (k : Int) < (rr.length : Int)) rfl (fun h7 => ?_) (fun h7 => ?_)
 ·refine qA (qf (qR (qf (qc (qh (x17) rfl (qh (ii ((k : Int))) rfl (cX (qD k qg qy rfl rfl rfl (intsH.slv [] rfl) (by omega) (Nat.mul_one _) (cX (qk je rfl (intsH.rd [] rfl (by omega)) (cX (jh rfl rfl (qh (.bool (decide ((rr.getD k 0 : Int) < 0))) rfl ?_)))))))))))))
  by_cases h8 : (rr.getD k 0 : Int) < 0
  ·refine qr (t := 59) rfl (vT h8) (qt (x4) rfl (qr (t := 59) rfl (vT h8) (qt (x17) rfl (qr (t := 59) rfl (vT h8) (qt (ii ((k : Int))) rfl (qr (t := 59) rfl (vT h8) (qD k qg qy rfl rfl rfl (intsH.slv [] rfl) (by omega) (Nat.mul_one _) (qr (t := 59) rfl (vT h8) (qk je rfl (intsH.rd [] rfl (by omega)) (qr (t := 59) rfl (vT h8) (qm (args := [x4, ii (rr.getD k 0)]) call259 rfl (l1Has_spec (n := rr.getD k 0) hf5 (hbd := (by first | assumption | rfl | omega | simp))) ?_)))))))))))
   rintro _ _ _ _ ⟨rfl, rfl, rfl⟩
   refine qr (t := 59) rfl (vT h8) (jQ rfl (cX (qP (.bool (decide (¬((rr.getD k 0) ∈ t1)))) (vT h8) rfl (qd ?_))))
   refine qC (p := ¬((rr.getD k 0) ∈ t1)) rfl (fun h9 => ?_) (fun h9 => ?_)
   ·refine qf (qc (qh (x4) rfl (cX (qm (args := [x4]) call318 rfl (l2Order_spec hf5 (hlt := (by first | assumption | rfl | omega | simp))) ?_))))
    rintro _ F21 _ le21 ⟨⟨x18, x19, rfl, hr10, hr11⟩, rfl⟩
    replace har := har.mono le21
    replace hf5 := hf5.mono le21
    show XL _ _ _ _ _ _ _ (intsH 2 x17 rr :: cellsH b2 [sN, sN] 76 :: cellsH b1 [arv] 36 :: curH .i64 231 cb bsv bs.length :: L)
    refine qi (x18) rfl (qd (qf (qf (qc (qh (x18) rfl (cX (qE qg rfl hr10.slv (cX (jB rfl rfl (qd ?_))))))))))
    refine qC (p := ((x19.length : Int) : Int) = 0) rfl (fun h10 => ?_) (fun h10 => ?_)
    ·refine qf (qc (qh (x4) rfl (cX (qq [arv] qI qw rfl rfl (Rd.ownN [_, _] rfl rfl) (qh (x4) rfl (qh (x4) rfl (cX (qE qg rfl hf5.slv (cX (jp (((((t1).length) - 1 : Nat) : Int)) rfl rfl (by omega) (by omega) (cX (jG <| qm (args := [.agg #[arv], x4, ii ((((t1).length) - 1 : Nat) : Int)]) call209 rfl (l1Sub_spec (p := ((t1).length) - 1) har hf5 (ho := (hol)) (hp := (by first | assumption | rfl | omega | simp))) ?_))))))))))))
     rintro v4 _ _ _ ⟨rfl, hs3, rfl⟩
     refine ⟨_, _, rfl, fun F22 le22 hz6 => ?_⟩
     replace hf5 := hf5.mono le22
     replace hr10 := hr10.mono le22
     have hf6 : IntsF F22 v4 ((sub ar t1 (((t1).length) - 1))) := intsH.fz (xs := (sub ar t1 (((t1).length) - 1))) hz6.fz
     refine cX (jk [x4, v4] [sN, sN] [(0, 1), (1, 1)] [(0, [x4]), (1, [v4])] ja jn rfl (.cons rfl qv (.cons rfl qv PlacesAre.nil)) rfl (.cons (cells_one (qG hf5)) (.cons (cells_one (qG hf6)) CellsAre.nil)) (cX (qK [_] _ [x4, v4] jv rfl rfl rfl (qx (qJ (qG hf5)) (qx (qJ (qG hf6)) qQ)) rfl rfl rfl (qd (qu (qo (qL (qo (qo (qL (qo (qs (L' := curH .i64 231 cb bsv bs.length :: L) [.agg #[x4, v4]] (.agg #[x4, v4]) (.cell rfl (jt [x4, v4] isAgg76 jv rfl (Rd.ownN [_] rfl rfl)) .nil) rfl (qn (qn (qn (qn (qn (qn (qn le3 le4) le18) le19) le20) leG3) le21) le22) rF (sD (sD (sD (sC sR)))) ?_))))))))))))
     exact ⟨⟨_, _, rfl, ⟨_, hf5, by omega⟩, ⟨_, hf6, by have h9 := sub_le (ar := ar) (t := t1) (p := t1.length - 1); omega⟩⟩, rfl⟩
    refine qA (qc (qh (x17) rfl (qh (ii ((k : Int))) rfl (qh (x18) rfl (cX (qD 0 qg qy rfl rfl rfl hr10.slv (by omega) (Nat.mul_one _) (cX (qk je rfl (hr10.rd (by omega)) (cX (qD k qg qy rfl rfl rfl (intsH.slv [] rfl) (by omega) (Nat.mul_one _) (cX (intsH.storeX (i := k) (v := x17) [] _ (rr.set k (x19.getD 0 0)) qy rfl rfl rfl (by omega) rfl (qd (qc (qh (ii ((k : Int))) rfl ?_)))))))))))))))
    refine cX (qU (((k + 1 : Nat) : Int)) rfl rfl (by omega) (by omega) (qi (ii (((k + 1 : Nat) : Int))) rfl (qd ?_)))
    exact ⟨(k + 1, (rr.set k (x19.getD 0 0)), F21), _, (qn leG3 le21), rF, ⟨rfl, rfl, rfl, rfl, rfl, ⟨⟩⟩, (sC (sC (sC (sC sR)))), ⟨rfl, (qn leG3 le21), (by (try dsimp only); (try rw [List.length_set]); omega), (by (try dsimp only); (try rw [List.length_set]); omega)⟩, (by (try dsimp only); (try rw [List.length_set]); omega)⟩
   refine qA (qc (qh (ii ((k : Int))) rfl (cX (qU (((k + 1 : Nat) : Int)) rfl rfl (by omega) (by omega) (qi (ii (((k + 1 : Nat) : Int))) rfl (qd ?_))))))
   exact ⟨(k + 1, rr, G3), _, leG3, rF, ⟨rfl, rfl, rfl, rfl, rfl, ⟨⟩⟩, (sC (sC (sC (sC sR)))), ⟨rfl, leG3, (by (try dsimp only); (try rw [List.length_set]); omega), (by (try dsimp only); (try rw [List.length_set]); omega)⟩, (by (try dsimp only); (try rw [List.length_set]); omega)⟩
  refine qp (t := 59) rfl (vF h8) (qp (t := 59) rfl (vF h8) (qp (t := 59) rfl (vF h8) (qp (t := 59) rfl (vF h8) (qp (t := 59) rfl (vF h8) (qp (t := 59) rfl (vF h8) (qp (t := 59) rfl (vF h8) (cX (qN (.bool (false)) (vF h8) rfl (qd (X.condF rfl ?_))))))))))
  refine qA (qc (qh (ii ((k : Int))) rfl (cX (qU (((k + 1 : Nat) : Int)) rfl rfl (by omega) (by omega) (qi (ii (((k + 1 : Nat) : Int))) rfl (qd ?_))))))
  exact ⟨(k + 1, rr, G3), _, leG3, rF, ⟨rfl, rfl, rfl, rfl, rfl, ⟨⟩⟩, (sC (sC (sC (sC sR)))), ⟨rfl, leG3, (by (try dsimp only); (try rw [List.length_set]); omega), (by (try dsimp only); (try rw [List.length_set]); omega)⟩, (by (try dsimp only); (try rw [List.length_set]); omega)⟩
 refine jo (qB (qB (qW (qf (qc (qh (x4) rfl (qh (x17) rfl (cX (jk [x4, x17] [sN, sN] [(0, 1), (1, 1)] [(0, [x4]), (1, [x17])] ja jn rfl (.cons rfl qv (.cons rfl qv PlacesAre.nil)) rfl (.cons (cells_one (qG hf5)) (.cons (cells_one hsl4) CellsAre.nil)) (cX (qK [_] _ [x4, x17] jv rfl rfl rfl (qx (qJ (qG hf5)) (qx (qJ hsl4) qQ)) rfl rfl rfl (qd (qT [] _ _ rfl (fun F23 le23 hz7 => ?_))))))))))))))
 replace hf5 := hf5.mono le23
 have hf7 : IntsF F23 x17 rr := intsH.fz (xs := rr) hz7.fz
 refine qu (qs (L' := curH .i64 231 cb bsv bs.length :: L) [.agg #[x4, x17]] (.agg #[x4, x17]) (.cell rfl (jt [x4, x17] isAgg76 jv rfl (Rd.ownN [] rfl rfl)) .nil) rfl (qn (qn (qn (qn (qn (qn le3 le4) le18) le19) le20) leG3) le23) rF (sD (sD (sC sR))) ?_)
 exact ⟨⟨_, _, rfl, ⟨_, hf5, by omega⟩, ⟨_, hf7, by omega⟩⟩, rfl⟩

/- spec.l6Known -/
theorem l6Known_spec {F : FH} {L : List HP}  {k : Int} :
    Does prog 294 [ii (k)] F (L) (fun v F' L' => ∃ (a b : Value) (ar : List Int) (rs : List (List Int × List Int)) (cs : List Value), ((.agg #[a, b] : Value) = v ∧ IntsF F' a ar ∧ IsSl b ∧ PairsC F' cs rs ∧ ar.length ≤ 20 ∧ rs.length ≤ 12 ∧ smallR rs) ∧ slH 76 2 b rs.length cs :: L = L') := by
 refine qH func294 rfl rfl rfl (qf (qc (cX (ji [sN, sN] jW rfl ?_))))
 intro b1
 refine qd (qf (qc (cX (qz (s := 1) [ii (2), ii (1), ii (0)] [ii (0)] [(0, [ii (2)]), (1, [ii (1)]), (2, [ii (0)])] qg qy qO rfl (by decide) rfl (.cons rfl (.cons rfl (.cons rfl CellsAre.nil))) rfl ?_))))
 intro v1 hv1
 refine cX (jk [v1] [sN] [(0, 1)] [(0, [v1])] jm zeroValue36 rfl (.cons rfl qv PlacesAre.nil) rfl (.cons (cells_one (qV hv1)) CellsAre.nil) (cX (ji [sN] zeroValue36 rfl ?_)))
 intro b2
 refine cX (qK [] _ [v1] qw rfl rfl rfl (qx (qJ (qV hv1)) qQ) rfl rfl rfl (qd (qf (qf (qc (qh (ii (k)) rfl (qd (qR (qf (qc (cX (jB rfl rfl (qi (.bool (decide ((k : Int) = 0))) rfl (qd ?_))))))))))))))
 refine qC (p := (k : Int) = 0) rfl (fun h1 => ?_) (fun h1 => ?_)
 ·refine qf (qc (cX (qq [v1] qI qw rfl rfl (Rd.ownN [] rfl rfl) (cX (qz (s := 1) [ii (0), ii (2), ii (-1)] [ii (0)] [(0, [ii (0)]), (1, [ii (2)]), (2, [ii (-1)])] qg qy qO rfl (by decide) rfl (.cons rfl (.cons rfl (.cons rfl CellsAre.nil))) rfl ?_)))))
  intro v2 hv2
  refine cX (qz (s := 1) [ii (-1)] [ii (0)] [(0, [ii (-1)])] qg qy qO rfl (by decide) rfl (.cons rfl CellsAre.nil) rfl ?_)
  intro v3 hv3
  refine cX (jk [v2, v3] [sN, sN] [(0, 1), (1, 1)] [(0, [v2]), (1, [v3])] ja jn rfl (.cons rfl qv (.cons rfl qv PlacesAre.nil)) rfl (.cons (cells_one (qV hv2)) (.cons (cells_one (qV hv3)) CellsAre.nil)) (cX (qz (s := 1) [ii (0), ii (1), ii (-1), ii (-2)] [ii (0)] [(0, [ii (0)]), (1, [ii (1)]), (2, [ii (-1)]), (3, [ii (-2)])] qg qy qO rfl (by decide) rfl (.cons rfl (.cons rfl (.cons rfl (.cons rfl CellsAre.nil)))) rfl ?_)))
  intro v4 hv4
  refine cX (qz (s := 1) [ii (1), ii (0), ii (-1), ii (-2)] [ii (0)] [(0, [ii (1)]), (1, [ii (0)]), (2, [ii (-1)]), (3, [ii (-2)])] qg qy qO rfl (by decide) rfl (.cons rfl (.cons rfl (.cons rfl (.cons rfl CellsAre.nil)))) rfl ?_)
  intro v5 hv5
  refine cX (jk [v4, v5] [sN, sN] [(0, 1), (1, 1)] [(0, [v4]), (1, [v5])] ja jn rfl (.cons rfl qv (.cons rfl qv PlacesAre.nil)) rfl (.cons (cells_one (qV hv4)) (.cons (cells_one (qV hv5)) CellsAre.nil)) (cX (qz (s := 2) [v2, v3, v4, v5] [sN, sN] [(0, [v2, v3]), (1, [v4, v5])] jd jv jn rfl (by decide) rfl (.cons rfl (.cons rfl CellsAre.nil)) rfl ?_)))
  intro v6 hv6
  refine cX (jk [v1, v6] [sN, sN] [(0, 1), (1, 1)] [(0, [v1]), (1, [v6])] qF jW rfl (.cons rfl qw (.cons rfl jz PlacesAre.nil)) rfl (.cons rfl (.cons (cells_one (qV hv6)) CellsAre.nil)) (cX (qK [_, _, _, _, _, _, _] _ [v1, v6] qX rfl rfl rfl (qx (qJ (qV hv1)) (qx (qJ (qV hv6)) qQ)) rfl rfl rfl (qd ?_))))
  show X _ _ _ _ _ _ (slH 76 2 v6 2 [v2, v3, v4, v5] :: slH 2 1 v5 4 [ii (1), ii (0), ii (-1), ii (-2)] :: slH 2 1 v4 4 [ii (0), ii (1), ii (-1), ii (-2)] :: slH 2 1 v3 1 [ii (-1)] :: intsH 2 v2 ([0, 2, -1] : List Int) :: cellsH b2 [v1] 36 :: slH 2 1 v1 3 [ii (2), ii (1), ii (0)] :: cellsH b1 [v1, v6] 39 :: L)
  refine qT [_, _, _, _] _ _ rfl (fun F1 le1 hz1 => ?_)
  have hf1 : IntsF F1 v2 ([0, 2, -1]) := intsH.fz (xs := [0, 2, -1]) hz1.fz
  show X _ _ _ _ _ _ (slH 76 2 v6 2 [v2, v3, v4, v5] :: slH 2 1 v5 4 [ii (1), ii (0), ii (-1), ii (-2)] :: slH 2 1 v4 4 [ii (0), ii (1), ii (-1), ii (-2)] :: intsH 2 v3 ([-1] : List Int) :: cellsH b2 [v1] 36 :: slH 2 1 v1 3 [ii (2), ii (1), ii (0)] :: cellsH b1 [v1, v6] 39 :: L)
  refine qT [_, _, _] _ _ rfl (fun F2 le2 hz2 => ?_)
  replace hf1 := hf1.mono le2
  have hf2 : IntsF F2 v3 ([-1]) := intsH.fz (xs := [-1]) hz2.fz
  show X _ _ _ _ _ _ (slH 76 2 v6 2 [v2, v3, v4, v5] :: slH 2 1 v5 4 [ii (1), ii (0), ii (-1), ii (-2)] :: intsH 2 v4 ([0, 1, -1, -2] : List Int) :: cellsH b2 [v1] 36 :: slH 2 1 v1 3 [ii (2), ii (1), ii (0)] :: cellsH b1 [v1, v6] 39 :: L)
  refine qT [_, _] _ _ rfl (fun F3 le3 hz3 => ?_)
  replace hf1 := hf1.mono le3
  replace hf2 := hf2.mono le3
  have hf3 : IntsF F3 v4 ([0, 1, -1, -2]) := intsH.fz (xs := [0, 1, -1, -2]) hz3.fz
  show X _ _ _ _ _ _ (slH 76 2 v6 2 [v2, v3, v4, v5] :: intsH 2 v5 ([1, 0, -1, -2] : List Int) :: cellsH b2 [v1] 36 :: slH 2 1 v1 3 [ii (2), ii (1), ii (0)] :: cellsH b1 [v1, v6] 39 :: L)
  refine qT [_] _ _ rfl (fun F4 le4 hz4 => ?_)
  replace hf1 := hf1.mono le4
  replace hf2 := hf2.mono le4
  replace hf3 := hf3.mono le4
  have hf4 : IntsF F4 v5 ([1, 0, -1, -2]) := intsH.fz (xs := [1, 0, -1, -2]) hz4.fz
  have hc1 : PairsC F4 [v2, v3, v4, v5] ([([0, 2, -1], [-1]), ([0, 1, -1, -2], [1, 0, -1, -2])] : List (List Int × List Int)) := (PairsC.snoc (PairsC.snoc (CO.nil : PairsC F4 [] []) hf1 hf2) hf3 hf4)
  show X _ _ _ _ _ _ (slH 76 2 v6 2 ([v2, v3, v4, v5]) :: cellsH b2 [v1] 36 :: intsH 2 v1 ([2, 1, 0] : List Int) :: cellsH b1 [v1, v6] 39 :: L)
  refine qT [_, _] _ _ rfl (fun F5 le5 hz5 => ?_)
  replace hc1 := hc1.mono le5
  have hf5 : IntsF F5 v1 ([2, 1, 0]) := intsH.fz (xs := [2, 1, 0]) hz5.fz
  refine qu (qL (qo (qs (L' := slH 76 2 v6 ((([([0, 2, -1], [-1]), ([0, 1, -1, -2], [1, 0, -1, -2])] : List (List Int × List Int))).length) ([v2, v3, v4, v5]) :: L) [.agg #[v1, v6]] (.agg #[v1, v6]) (.cell rfl (jt [v1, v6] jj qX rfl (Rd.ownN [_, _] rfl rfl)) .nil) rfl (qn (qn (qn (qn le1 le2) le3) le4) le5) rF (jx (sC (sD (sD sR))) (jV (fun l hl => by first | exact hl | (rw [show 2 = (([([0, 2, -1], [-1]), ([0, 1, -1, -2], [1, 0, -1, -2])] : List (List Int × List Int))).length from by first | rfl | assumption | omega] at hl; exact hl)) sR)) ?_)))
  exact ⟨_, _, _, ([([0, 2, -1], [-1]), ([0, 1, -1, -2], [1, 0, -1, -2])] : List (List Int × List Int)), _, ⟨rfl, hf5, (qV hv6), hc1, by decide, by decide, by unfold smallR; decide⟩, rfl⟩
 refine qf (qc (cX (jB rfl rfl (qi (.bool (decide ((k : Int) = 1))) rfl (qd ?_)))))
 refine qC (p := (k : Int) = 1) rfl (fun h2 => ?_) (fun h2 => ?_)
 ·refine qf (qc (cX (qq [v1] qI qw rfl rfl (Rd.ownN [] rfl rfl) (cX (qz (s := 1) [ii (0), ii (0), ii (-1), ii (-2), ii (-3)] [ii (0)] [(0, [ii (0)]), (1, [ii (0)]), (2, [ii (-1)]), (3, [ii (-2)]), (4, [ii (-3)])] qg qy qO rfl (by decide) rfl (.cons rfl (.cons rfl (.cons rfl (.cons rfl (.cons rfl CellsAre.nil))))) rfl ?_)))))
  intro v7 hv7
  refine cX (qz (s := 1) [ii (0), ii (-1), ii (0), ii (-2), ii (-3)] [ii (0)] [(0, [ii (0)]), (1, [ii (-1)]), (2, [ii (0)]), (3, [ii (-2)]), (4, [ii (-3)])] qg qy qO rfl (by decide) rfl (.cons rfl (.cons rfl (.cons rfl (.cons rfl (.cons rfl CellsAre.nil))))) rfl ?_)
  intro v8 hv8
  refine cX (jk [v7, v8] [sN, sN] [(0, 1), (1, 1)] [(0, [v7]), (1, [v8])] ja jn rfl (.cons rfl qv (.cons rfl qv PlacesAre.nil)) rfl (.cons (cells_one (qV hv7)) (.cons (cells_one (qV hv8)) CellsAre.nil)) (cX (qz (s := 2) [v7, v8] [sN, sN] [(0, [v7, v8])] jd jv jn rfl (by decide) rfl (.cons rfl CellsAre.nil) rfl ?_)))
  intro v9 hv9
  refine cX (jk [v1, v9] [sN, sN] [(0, 1), (1, 1)] [(0, [v1]), (1, [v9])] qF jW rfl (.cons rfl qw (.cons rfl jz PlacesAre.nil)) rfl (.cons rfl (.cons (cells_one (qV hv9)) CellsAre.nil)) (cX (qK [_, _, _, _, _] _ [v1, v9] qX rfl rfl rfl (qx (qJ (qV hv1)) (qx (qJ (qV hv9)) qQ)) rfl rfl rfl (qd ?_))))
  show X _ _ _ _ _ _ (slH 76 2 v9 1 [v7, v8] :: slH 2 1 v8 5 [ii (0), ii (-1), ii (0), ii (-2), ii (-3)] :: intsH 2 v7 ([0, 0, -1, -2, -3] : List Int) :: cellsH b2 [v1] 36 :: slH 2 1 v1 3 [ii (2), ii (1), ii (0)] :: cellsH b1 [v1, v9] 39 :: L)
  refine qT [_, _] _ _ rfl (fun F6 le6 hz6 => ?_)
  have hf6 : IntsF F6 v7 ([0, 0, -1, -2, -3]) := intsH.fz (xs := [0, 0, -1, -2, -3]) hz6.fz
  show X _ _ _ _ _ _ (slH 76 2 v9 1 [v7, v8] :: intsH 2 v8 ([0, -1, 0, -2, -3] : List Int) :: cellsH b2 [v1] 36 :: slH 2 1 v1 3 [ii (2), ii (1), ii (0)] :: cellsH b1 [v1, v9] 39 :: L)
  refine qT [_] _ _ rfl (fun F7 le7 hz7 => ?_)
  replace hf6 := hf6.mono le7
  have hf7 : IntsF F7 v8 ([0, -1, 0, -2, -3]) := intsH.fz (xs := [0, -1, 0, -2, -3]) hz7.fz
  have hc2 : PairsC F7 [v7, v8] ([([0, 0, -1, -2, -3], [0, -1, 0, -2, -3])] : List (List Int × List Int)) := (PairsC.snoc (CO.nil : PairsC F7 [] []) hf6 hf7)
  show X _ _ _ _ _ _ (slH 76 2 v9 1 ([v7, v8]) :: cellsH b2 [v1] 36 :: intsH 2 v1 ([2, 1, 0] : List Int) :: cellsH b1 [v1, v9] 39 :: L)
  refine qT [_, _] _ _ rfl (fun F8 le8 hz8 => ?_)
  replace hc2 := hc2.mono le8
  have hf8 : IntsF F8 v1 ([2, 1, 0]) := intsH.fz (xs := [2, 1, 0]) hz8.fz
  refine qu (qL (qo (qs (L' := slH 76 2 v9 ((([([0, 0, -1, -2, -3], [0, -1, 0, -2, -3])] : List (List Int × List Int))).length) ([v7, v8]) :: L) [.agg #[v1, v9]] (.agg #[v1, v9]) (.cell rfl (jt [v1, v9] jj qX rfl (Rd.ownN [_, _] rfl rfl)) .nil) rfl (qn (qn le6 le7) le8) rF (jx (sC (sD (sD sR))) (jV (fun l hl => by first | exact hl | (rw [show 1 = (([([0, 0, -1, -2, -3], [0, -1, 0, -2, -3])] : List (List Int × List Int))).length from by first | rfl | assumption | omega] at hl; exact hl)) sR)) ?_)))
  exact ⟨_, _, _, ([([0, 0, -1, -2, -3], [0, -1, 0, -2, -3])] : List (List Int × List Int)), _, ⟨rfl, hf8, (qV hv9), hc2, by decide, by decide, by unfold smallR; decide⟩, rfl⟩
 refine qf (qc (cX (jB rfl rfl (qi (.bool (decide ((k : Int) = 2))) rfl (qd ?_)))))
 refine qC (p := (k : Int) = 2) rfl (fun h3 => ?_) (fun h3 => ?_)
 ·refine qf (qc (cX (qq [v1] qI qw rfl rfl (Rd.ownN [] rfl rfl) (cX (qz (s := 1) [ii (1), ii (1), ii (-1)] [ii (0)] [(0, [ii (1)]), (1, [ii (1)]), (2, [ii (-1)])] qg qy qO rfl (by decide) rfl (.cons rfl (.cons rfl (.cons rfl CellsAre.nil))) rfl ?_)))))
  intro v10 hv10
  refine cX (qz (s := 1) [ii (-1)] [ii (0)] [(0, [ii (-1)])] qg qy qO rfl (by decide) rfl (.cons rfl CellsAre.nil) rfl ?_)
  intro v11 hv11
  refine cX (jk [v10, v11] [sN, sN] [(0, 1), (1, 1)] [(0, [v10]), (1, [v11])] ja jn rfl (.cons rfl qv (.cons rfl qv PlacesAre.nil)) rfl (.cons (cells_one (qV hv10)) (.cons (cells_one (qV hv11)) CellsAre.nil)) (cX (qz (s := 2) [v10, v11] [sN, sN] [(0, [v10, v11])] jd jv jn rfl (by decide) rfl (.cons rfl CellsAre.nil) rfl ?_)))
  intro v12 hv12
  refine cX (jk [v1, v12] [sN, sN] [(0, 1), (1, 1)] [(0, [v1]), (1, [v12])] qF jW rfl (.cons rfl qw (.cons rfl jz PlacesAre.nil)) rfl (.cons rfl (.cons (cells_one (qV hv12)) CellsAre.nil)) (cX (qK [_, _, _, _, _] _ [v1, v12] qX rfl rfl rfl (qx (qJ (qV hv1)) (qx (qJ (qV hv12)) qQ)) rfl rfl rfl (qd ?_))))
  show X _ _ _ _ _ _ (slH 76 2 v12 1 [v10, v11] :: slH 2 1 v11 1 [ii (-1)] :: intsH 2 v10 ([1, 1, -1] : List Int) :: cellsH b2 [v1] 36 :: slH 2 1 v1 3 [ii (2), ii (1), ii (0)] :: cellsH b1 [v1, v12] 39 :: L)
  refine qT [_, _] _ _ rfl (fun F9 le9 hz9 => ?_)
  have hf9 : IntsF F9 v10 ([1, 1, -1]) := intsH.fz (xs := [1, 1, -1]) hz9.fz
  show X _ _ _ _ _ _ (slH 76 2 v12 1 [v10, v11] :: intsH 2 v11 ([-1] : List Int) :: cellsH b2 [v1] 36 :: slH 2 1 v1 3 [ii (2), ii (1), ii (0)] :: cellsH b1 [v1, v12] 39 :: L)
  refine qT [_] _ _ rfl (fun F10 le10 hz10 => ?_)
  replace hf9 := hf9.mono le10
  have hf10 : IntsF F10 v11 ([-1]) := intsH.fz (xs := [-1]) hz10.fz
  have hc3 : PairsC F10 [v10, v11] ([([1, 1, -1], [-1])] : List (List Int × List Int)) := (PairsC.snoc (CO.nil : PairsC F10 [] []) hf9 hf10)
  show X _ _ _ _ _ _ (slH 76 2 v12 1 ([v10, v11]) :: cellsH b2 [v1] 36 :: intsH 2 v1 ([2, 1, 0] : List Int) :: cellsH b1 [v1, v12] 39 :: L)
  refine qT [_, _] _ _ rfl (fun F11 le11 hz11 => ?_)
  replace hc3 := hc3.mono le11
  have hf11 : IntsF F11 v1 ([2, 1, 0]) := intsH.fz (xs := [2, 1, 0]) hz11.fz
  refine qu (qL (qo (qs (L' := slH 76 2 v12 ((([([1, 1, -1], [-1])] : List (List Int × List Int))).length) ([v10, v11]) :: L) [.agg #[v1, v12]] (.agg #[v1, v12]) (.cell rfl (jt [v1, v12] jj qX rfl (Rd.ownN [_, _] rfl rfl)) .nil) rfl (qn (qn le9 le10) le11) rF (jx (sC (sD (sD sR))) (jV (fun l hl => by first | exact hl | (rw [show 1 = (([([1, 1, -1], [-1])] : List (List Int × List Int))).length from by first | rfl | assumption | omega] at hl; exact hl)) sR)) ?_)))
  exact ⟨_, _, _, ([([1, 1, -1], [-1])] : List (List Int × List Int)), _, ⟨rfl, hf11, (qV hv12), hc3, by decide, by decide, by unfold smallR; decide⟩, rfl⟩
 refine qf (qc (cX (jB rfl rfl (qi (.bool (decide ((k : Int) = 3))) rfl (qd ?_)))))
 refine qC (p := (k : Int) = 3) rfl (fun h4 => ?_) (fun h4 => ?_)
 ·refine qf (qc (cX (qq [v1] qI qw rfl rfl (Rd.ownN [] rfl rfl) (cX (qz (s := 1) [ii (1), ii (-1)] [ii (0)] [(0, [ii (1)]), (1, [ii (-1)])] qg qy qO rfl (by decide) rfl (.cons rfl (.cons rfl CellsAre.nil)) rfl ?_)))))
  intro v13 hv13
  refine cX (qz (s := 1) [ii (1), ii (1), ii (-1)] [ii (0)] [(0, [ii (1)]), (1, [ii (1)]), (2, [ii (-1)])] qg qy qO rfl (by decide) rfl (.cons rfl (.cons rfl (.cons rfl CellsAre.nil))) rfl ?_)
  intro v14 hv14
  refine cX (jk [v13, v14] [sN, sN] [(0, 1), (1, 1)] [(0, [v13]), (1, [v14])] ja jn rfl (.cons rfl qv (.cons rfl qv PlacesAre.nil)) rfl (.cons (cells_one (qV hv13)) (.cons (cells_one (qV hv14)) CellsAre.nil)) (cX (qz (s := 2) [v13, v14] [sN, sN] [(0, [v13, v14])] jd jv jn rfl (by decide) rfl (.cons rfl CellsAre.nil) rfl ?_)))
  intro v15 hv15
  refine cX (jk [v1, v15] [sN, sN] [(0, 1), (1, 1)] [(0, [v1]), (1, [v15])] qF jW rfl (.cons rfl qw (.cons rfl jz PlacesAre.nil)) rfl (.cons rfl (.cons (cells_one (qV hv15)) CellsAre.nil)) (cX (qK [_, _, _, _, _] _ [v1, v15] qX rfl rfl rfl (qx (qJ (qV hv1)) (qx (qJ (qV hv15)) qQ)) rfl rfl rfl (qd ?_))))
  show X _ _ _ _ _ _ (slH 76 2 v15 1 [v13, v14] :: slH 2 1 v14 3 [ii (1), ii (1), ii (-1)] :: intsH 2 v13 ([1, -1] : List Int) :: cellsH b2 [v1] 36 :: slH 2 1 v1 3 [ii (2), ii (1), ii (0)] :: cellsH b1 [v1, v15] 39 :: L)
  refine qT [_, _] _ _ rfl (fun F12 le12 hz12 => ?_)
  have hf12 : IntsF F12 v13 ([1, -1]) := intsH.fz (xs := [1, -1]) hz12.fz
  show X _ _ _ _ _ _ (slH 76 2 v15 1 [v13, v14] :: intsH 2 v14 ([1, 1, -1] : List Int) :: cellsH b2 [v1] 36 :: slH 2 1 v1 3 [ii (2), ii (1), ii (0)] :: cellsH b1 [v1, v15] 39 :: L)
  refine qT [_] _ _ rfl (fun F13 le13 hz13 => ?_)
  replace hf12 := hf12.mono le13
  have hf13 : IntsF F13 v14 ([1, 1, -1]) := intsH.fz (xs := [1, 1, -1]) hz13.fz
  have hc4 : PairsC F13 [v13, v14] ([([1, -1], [1, 1, -1])] : List (List Int × List Int)) := (PairsC.snoc (CO.nil : PairsC F13 [] []) hf12 hf13)
  show X _ _ _ _ _ _ (slH 76 2 v15 1 ([v13, v14]) :: cellsH b2 [v1] 36 :: intsH 2 v1 ([2, 1, 0] : List Int) :: cellsH b1 [v1, v15] 39 :: L)
  refine qT [_, _] _ _ rfl (fun F14 le14 hz14 => ?_)
  replace hc4 := hc4.mono le14
  have hf14 : IntsF F14 v1 ([2, 1, 0]) := intsH.fz (xs := [2, 1, 0]) hz14.fz
  refine qu (qL (qo (qs (L' := slH 76 2 v15 ((([([1, -1], [1, 1, -1])] : List (List Int × List Int))).length) ([v13, v14]) :: L) [.agg #[v1, v15]] (.agg #[v1, v15]) (.cell rfl (jt [v1, v15] jj qX rfl (Rd.ownN [_, _] rfl rfl)) .nil) rfl (qn (qn le12 le13) le14) rF (jx (sC (sD (sD sR))) (jV (fun l hl => by first | exact hl | (rw [show 1 = (([([1, -1], [1, 1, -1])] : List (List Int × List Int))).length from by first | rfl | assumption | omega] at hl; exact hl)) sR)) ?_)))
  exact ⟨_, _, _, ([([1, -1], [1, 1, -1])] : List (List Int × List Int)), _, ⟨rfl, hf14, (qV hv15), hc4, by decide, by decide, by unfold smallR; decide⟩, rfl⟩
 refine qf (qc (cX (jB rfl rfl (qi (.bool (decide ((k : Int) = 4))) rfl (qd ?_)))))
 refine qC (p := (k : Int) = 4) rfl (fun h5 => ?_) (fun h5 => ?_)
 ·refine qf (qc (cX (qq [v1] qI qw rfl rfl (Rd.ownN [] rfl rfl) (cX (qz (s := 1) [ii (0), ii (-1), ii (-2)] [ii (0)] [(0, [ii (0)]), (1, [ii (-1)]), (2, [ii (-2)])] qg qy qO rfl (by decide) rfl (.cons rfl (.cons rfl (.cons rfl CellsAre.nil))) rfl ?_)))))
  intro v16 hv16
  refine cX (qz (s := 1) [ii (-1)] [ii (0)] [(0, [ii (-1)])] qg qy qO rfl (by decide) rfl (.cons rfl CellsAre.nil) rfl ?_)
  intro v17 hv17
  refine cX (jk [v16, v17] [sN, sN] [(0, 1), (1, 1)] [(0, [v16]), (1, [v17])] ja jn rfl (.cons rfl qv (.cons rfl qv PlacesAre.nil)) rfl (.cons (cells_one (qV hv16)) (.cons (cells_one (qV hv17)) CellsAre.nil)) (cX (qz (s := 1) [ii (0), ii (-1), ii (-2)] [ii (0)] [(0, [ii (0)]), (1, [ii (-1)]), (2, [ii (-2)])] qg qy qO rfl (by decide) rfl (.cons rfl (.cons rfl (.cons rfl CellsAre.nil))) rfl ?_)))
  intro v18 hv18
  refine cX (qz (s := 1) [ii (-2)] [ii (0)] [(0, [ii (-2)])] qg qy qO rfl (by decide) rfl (.cons rfl CellsAre.nil) rfl ?_)
  intro v19 hv19
  refine cX (jk [v18, v19] [sN, sN] [(0, 1), (1, 1)] [(0, [v18]), (1, [v19])] ja jn rfl (.cons rfl qv (.cons rfl qv PlacesAre.nil)) rfl (.cons (cells_one (qV hv18)) (.cons (cells_one (qV hv19)) CellsAre.nil)) (cX (qz (s := 2) [v16, v17, v18, v19] [sN, sN] [(0, [v16, v17]), (1, [v18, v19])] jd jv jn rfl (by decide) rfl (.cons rfl (.cons rfl CellsAre.nil)) rfl ?_)))
  intro v20 hv20
  refine cX (jk [v1, v20] [sN, sN] [(0, 1), (1, 1)] [(0, [v1]), (1, [v20])] qF jW rfl (.cons rfl qw (.cons rfl jz PlacesAre.nil)) rfl (.cons rfl (.cons (cells_one (qV hv20)) CellsAre.nil)) (cX (qK [_, _, _, _, _, _, _] _ [v1, v20] qX rfl rfl rfl (qx (qJ (qV hv1)) (qx (qJ (qV hv20)) qQ)) rfl rfl rfl (qd ?_))))
  show X _ _ _ _ _ _ (slH 76 2 v20 2 [v16, v17, v18, v19] :: slH 2 1 v19 1 [ii (-2)] :: slH 2 1 v18 3 [ii (0), ii (-1), ii (-2)] :: slH 2 1 v17 1 [ii (-1)] :: intsH 2 v16 ([0, -1, -2] : List Int) :: cellsH b2 [v1] 36 :: slH 2 1 v1 3 [ii (2), ii (1), ii (0)] :: cellsH b1 [v1, v20] 39 :: L)
  refine qT [_, _, _, _] _ _ rfl (fun F15 le15 hz15 => ?_)
  have hf15 : IntsF F15 v16 ([0, -1, -2]) := intsH.fz (xs := [0, -1, -2]) hz15.fz
  show X _ _ _ _ _ _ (slH 76 2 v20 2 [v16, v17, v18, v19] :: slH 2 1 v19 1 [ii (-2)] :: slH 2 1 v18 3 [ii (0), ii (-1), ii (-2)] :: intsH 2 v17 ([-1] : List Int) :: cellsH b2 [v1] 36 :: slH 2 1 v1 3 [ii (2), ii (1), ii (0)] :: cellsH b1 [v1, v20] 39 :: L)
  refine qT [_, _, _] _ _ rfl (fun F16 le16 hz16 => ?_)
  replace hf15 := hf15.mono le16
  have hf16 : IntsF F16 v17 ([-1]) := intsH.fz (xs := [-1]) hz16.fz
  show X _ _ _ _ _ _ (slH 76 2 v20 2 [v16, v17, v18, v19] :: slH 2 1 v19 1 [ii (-2)] :: intsH 2 v18 ([0, -1, -2] : List Int) :: cellsH b2 [v1] 36 :: slH 2 1 v1 3 [ii (2), ii (1), ii (0)] :: cellsH b1 [v1, v20] 39 :: L)
  refine qT [_, _] _ _ rfl (fun F17 le17 hz17 => ?_)
  replace hf15 := hf15.mono le17
  replace hf16 := hf16.mono le17
  have hf17 : IntsF F17 v18 ([0, -1, -2]) := intsH.fz (xs := [0, -1, -2]) hz17.fz
  show X _ _ _ _ _ _ (slH 76 2 v20 2 [v16, v17, v18, v19] :: intsH 2 v19 ([-2] : List Int) :: cellsH b2 [v1] 36 :: slH 2 1 v1 3 [ii (2), ii (1), ii (0)] :: cellsH b1 [v1, v20] 39 :: L)
  refine qT [_] _ _ rfl (fun F18 le18 hz18 => ?_)
  replace hf15 := hf15.mono le18
  replace hf16 := hf16.mono le18
  replace hf17 := hf17.mono le18
  have hf18 : IntsF F18 v19 ([-2]) := intsH.fz (xs := [-2]) hz18.fz
  have hc5 : PairsC F18 [v16, v17, v18, v19] ([([0, -1, -2], [-1]), ([0, -1, -2], [-2])] : List (List Int × List Int)) := (PairsC.snoc (PairsC.snoc (CO.nil : PairsC F18 [] []) hf15 hf16) hf17 hf18)
  show X _ _ _ _ _ _ (slH 76 2 v20 2 ([v16, v17, v18, v19]) :: cellsH b2 [v1] 36 :: intsH 2 v1 ([2, 1, 0] : List Int) :: cellsH b1 [v1, v20] 39 :: L)
  refine qT [_, _] _ _ rfl (fun F19 le19 hz19 => ?_)
  replace hc5 := hc5.mono le19
  have hf19 : IntsF F19 v1 ([2, 1, 0]) := intsH.fz (xs := [2, 1, 0]) hz19.fz
  refine qu (qL (qo (qs (L' := slH 76 2 v20 ((([([0, -1, -2], [-1]), ([0, -1, -2], [-2])] : List (List Int × List Int))).length) ([v16, v17, v18, v19]) :: L) [.agg #[v1, v20]] (.agg #[v1, v20]) (.cell rfl (jt [v1, v20] jj qX rfl (Rd.ownN [_, _] rfl rfl)) .nil) rfl (qn (qn (qn (qn le15 le16) le17) le18) le19) rF (jx (sC (sD (sD sR))) (jV (fun l hl => by first | exact hl | (rw [show 2 = (([([0, -1, -2], [-1]), ([0, -1, -2], [-2])] : List (List Int × List Int))).length from by first | rfl | assumption | omega] at hl; exact hl)) sR)) ?_)))
  exact ⟨_, _, _, ([([0, -1, -2], [-1]), ([0, -1, -2], [-2])] : List (List Int × List Int)), _, ⟨rfl, hf19, (qV hv20), hc5, by decide, by decide, by unfold smallR; decide⟩, rfl⟩
 refine qf (qc (cX (jB rfl rfl (qi (.bool (decide ((k : Int) = 5))) rfl (qd ?_)))))
 refine qC (p := (k : Int) = 5) rfl (fun h6 => ?_) (fun h6 => ?_)
 ·refine qf (qc (cX (qq [v1] qI qw rfl rfl (Rd.ownN [] rfl rfl) (cX (qz (s := 1) [ii (0), ii (-1), ii (-2)] [ii (0)] [(0, [ii (0)]), (1, [ii (-1)]), (2, [ii (-2)])] qg qy qO rfl (by decide) rfl (.cons rfl (.cons rfl (.cons rfl CellsAre.nil))) rfl ?_)))))
  intro v21 hv21
  refine cX (qz (s := 1) [ii (0), ii (-2), ii (-1)] [ii (0)] [(0, [ii (0)]), (1, [ii (-2)]), (2, [ii (-1)])] qg qy qO rfl (by decide) rfl (.cons rfl (.cons rfl (.cons rfl CellsAre.nil))) rfl ?_)
  intro v22 hv22
  refine cX (jk [v21, v22] [sN, sN] [(0, 1), (1, 1)] [(0, [v21]), (1, [v22])] ja jn rfl (.cons rfl qv (.cons rfl qv PlacesAre.nil)) rfl (.cons (cells_one (qV hv21)) (.cons (cells_one (qV hv22)) CellsAre.nil)) (cX (qz (s := 2) [v21, v22] [sN, sN] [(0, [v21, v22])] jd jv jn rfl (by decide) rfl (.cons rfl CellsAre.nil) rfl ?_)))
  intro v23 hv23
  refine cX (jk [v1, v23] [sN, sN] [(0, 1), (1, 1)] [(0, [v1]), (1, [v23])] qF jW rfl (.cons rfl qw (.cons rfl jz PlacesAre.nil)) rfl (.cons rfl (.cons (cells_one (qV hv23)) CellsAre.nil)) (cX (qK [_, _, _, _, _] _ [v1, v23] qX rfl rfl rfl (qx (qJ (qV hv1)) (qx (qJ (qV hv23)) qQ)) rfl rfl rfl (qd ?_))))
  show X _ _ _ _ _ _ (slH 76 2 v23 1 [v21, v22] :: slH 2 1 v22 3 [ii (0), ii (-2), ii (-1)] :: intsH 2 v21 ([0, -1, -2] : List Int) :: cellsH b2 [v1] 36 :: slH 2 1 v1 3 [ii (2), ii (1), ii (0)] :: cellsH b1 [v1, v23] 39 :: L)
  refine qT [_, _] _ _ rfl (fun F20 le20 hz20 => ?_)
  have hf20 : IntsF F20 v21 ([0, -1, -2]) := intsH.fz (xs := [0, -1, -2]) hz20.fz
  show X _ _ _ _ _ _ (slH 76 2 v23 1 [v21, v22] :: intsH 2 v22 ([0, -2, -1] : List Int) :: cellsH b2 [v1] 36 :: slH 2 1 v1 3 [ii (2), ii (1), ii (0)] :: cellsH b1 [v1, v23] 39 :: L)
  refine qT [_] _ _ rfl (fun F21 le21 hz21 => ?_)
  replace hf20 := hf20.mono le21
  have hf21 : IntsF F21 v22 ([0, -2, -1]) := intsH.fz (xs := [0, -2, -1]) hz21.fz
  have hc6 : PairsC F21 [v21, v22] ([([0, -1, -2], [0, -2, -1])] : List (List Int × List Int)) := (PairsC.snoc (CO.nil : PairsC F21 [] []) hf20 hf21)
  show X _ _ _ _ _ _ (slH 76 2 v23 1 ([v21, v22]) :: cellsH b2 [v1] 36 :: intsH 2 v1 ([2, 1, 0] : List Int) :: cellsH b1 [v1, v23] 39 :: L)
  refine qT [_, _] _ _ rfl (fun F22 le22 hz22 => ?_)
  replace hc6 := hc6.mono le22
  have hf22 : IntsF F22 v1 ([2, 1, 0]) := intsH.fz (xs := [2, 1, 0]) hz22.fz
  refine qu (qL (qo (qs (L' := slH 76 2 v23 ((([([0, -1, -2], [0, -2, -1])] : List (List Int × List Int))).length) ([v21, v22]) :: L) [.agg #[v1, v23]] (.agg #[v1, v23]) (.cell rfl (jt [v1, v23] jj qX rfl (Rd.ownN [_, _] rfl rfl)) .nil) rfl (qn (qn le20 le21) le22) rF (jx (sC (sD (sD sR))) (jV (fun l hl => by first | exact hl | (rw [show 1 = (([([0, -1, -2], [0, -2, -1])] : List (List Int × List Int))).length from by first | rfl | assumption | omega] at hl; exact hl)) sR)) ?_)))
  exact ⟨_, _, _, ([([0, -1, -2], [0, -2, -1])] : List (List Int × List Int)), _, ⟨rfl, hf22, (qV hv23), hc6, by decide, by decide, by unfold smallR; decide⟩, rfl⟩
 refine qA (qf (qc (cX (qq [v1] qI qw rfl rfl (Rd.ownN [] rfl rfl) (cX (qz (s := 1) [ii (0), ii (2), ii (-1)] [ii (0)] [(0, [ii (0)]), (1, [ii (2)]), (2, [ii (-1)])] qg qy qO rfl (by decide) rfl (.cons rfl (.cons rfl (.cons rfl CellsAre.nil))) rfl ?_))))))
 intro v24 hv24
 refine cX (qz (s := 1) [ii (-1)] [ii (0)] [(0, [ii (-1)])] qg qy qO rfl (by decide) rfl (.cons rfl CellsAre.nil) rfl ?_)
 intro v25 hv25
 refine cX (jk [v24, v25] [sN, sN] [(0, 1), (1, 1)] [(0, [v24]), (1, [v25])] ja jn rfl (.cons rfl qv (.cons rfl qv PlacesAre.nil)) rfl (.cons (cells_one (qV hv24)) (.cons (cells_one (qV hv25)) CellsAre.nil)) (cX (qz (s := 1) [ii (0), ii (1), ii (-1), ii (-1)] [ii (0)] [(0, [ii (0)]), (1, [ii (1)]), (2, [ii (-1)]), (3, [ii (-1)])] qg qy qO rfl (by decide) rfl (.cons rfl (.cons rfl (.cons rfl (.cons rfl CellsAre.nil)))) rfl ?_)))
 intro v26 hv26
 refine cX (qz (s := 1) [ii (2)] [ii (0)] [(0, [ii (2)])] qg qy qO rfl (by decide) rfl (.cons rfl CellsAre.nil) rfl ?_)
 intro v27 hv27
 refine cX (jk [v26, v27] [sN, sN] [(0, 1), (1, 1)] [(0, [v26]), (1, [v27])] ja jn rfl (.cons rfl qv (.cons rfl qv PlacesAre.nil)) rfl (.cons (cells_one (qV hv26)) (.cons (cells_one (qV hv27)) CellsAre.nil)) (cX (qz (s := 1) [ii (0), ii (0), ii (-1), ii (-2), ii (-3)] [ii (0)] [(0, [ii (0)]), (1, [ii (0)]), (2, [ii (-1)]), (3, [ii (-2)]), (4, [ii (-3)])] qg qy qO rfl (by decide) rfl (.cons rfl (.cons rfl (.cons rfl (.cons rfl (.cons rfl CellsAre.nil))))) rfl ?_)))
 intro v28 hv28
 refine cX (qz (s := 1) [ii (0), ii (-1), ii (0), ii (-2), ii (-3)] [ii (0)] [(0, [ii (0)]), (1, [ii (-1)]), (2, [ii (0)]), (3, [ii (-2)]), (4, [ii (-3)])] qg qy qO rfl (by decide) rfl (.cons rfl (.cons rfl (.cons rfl (.cons rfl (.cons rfl CellsAre.nil))))) rfl ?_)
 intro v29 hv29
 refine cX (jk [v28, v29] [sN, sN] [(0, 1), (1, 1)] [(0, [v28]), (1, [v29])] ja jn rfl (.cons rfl qv (.cons rfl qv PlacesAre.nil)) rfl (.cons (cells_one (qV hv28)) (.cons (cells_one (qV hv29)) CellsAre.nil)) (cX (qz (s := 2) [v24, v25, v26, v27, v28, v29] [sN, sN] [(0, [v24, v25]), (1, [v26, v27]), (2, [v28, v29])] jd jv jn rfl (by decide) rfl (.cons rfl (.cons rfl (.cons rfl CellsAre.nil))) rfl ?_)))
 intro v30 hv30
 refine cX (jk [v1, v30] [sN, sN] [(0, 1), (1, 1)] [(0, [v1]), (1, [v30])] qF jW rfl (.cons rfl qw (.cons rfl jz PlacesAre.nil)) rfl (.cons rfl (.cons (cells_one (qV hv30)) CellsAre.nil)) (cX (qK [_, _, _, _, _, _, _, _, _] _ [v1, v30] qX rfl rfl rfl (qx (qJ (qV hv1)) (qx (qJ (qV hv30)) qQ)) rfl rfl rfl (qd ?_))))
 show X _ _ _ _ _ _ (slH 76 2 v30 3 [v24, v25, v26, v27, v28, v29] :: slH 2 1 v29 5 [ii (0), ii (-1), ii (0), ii (-2), ii (-3)] :: slH 2 1 v28 5 [ii (0), ii (0), ii (-1), ii (-2), ii (-3)] :: slH 2 1 v27 1 [ii (2)] :: slH 2 1 v26 4 [ii (0), ii (1), ii (-1), ii (-1)] :: slH 2 1 v25 1 [ii (-1)] :: intsH 2 v24 ([0, 2, -1] : List Int) :: cellsH b2 [v1] 36 :: slH 2 1 v1 3 [ii (2), ii (1), ii (0)] :: cellsH b1 [v1, v30] 39 :: L)
 refine qT [_, _, _, _, _, _] _ _ rfl (fun F23 le23 hz23 => ?_)
 have hf23 : IntsF F23 v24 ([0, 2, -1]) := intsH.fz (xs := [0, 2, -1]) hz23.fz
 show X _ _ _ _ _ _ (slH 76 2 v30 3 [v24, v25, v26, v27, v28, v29] :: slH 2 1 v29 5 [ii (0), ii (-1), ii (0), ii (-2), ii (-3)] :: slH 2 1 v28 5 [ii (0), ii (0), ii (-1), ii (-2), ii (-3)] :: slH 2 1 v27 1 [ii (2)] :: slH 2 1 v26 4 [ii (0), ii (1), ii (-1), ii (-1)] :: intsH 2 v25 ([-1] : List Int) :: cellsH b2 [v1] 36 :: slH 2 1 v1 3 [ii (2), ii (1), ii (0)] :: cellsH b1 [v1, v30] 39 :: L)
 refine qT [_, _, _, _, _] _ _ rfl (fun F24 le24 hz24 => ?_)
 replace hf23 := hf23.mono le24
 have hf24 : IntsF F24 v25 ([-1]) := intsH.fz (xs := [-1]) hz24.fz
 show X _ _ _ _ _ _ (slH 76 2 v30 3 [v24, v25, v26, v27, v28, v29] :: slH 2 1 v29 5 [ii (0), ii (-1), ii (0), ii (-2), ii (-3)] :: slH 2 1 v28 5 [ii (0), ii (0), ii (-1), ii (-2), ii (-3)] :: slH 2 1 v27 1 [ii (2)] :: intsH 2 v26 ([0, 1, -1, -1] : List Int) :: cellsH b2 [v1] 36 :: slH 2 1 v1 3 [ii (2), ii (1), ii (0)] :: cellsH b1 [v1, v30] 39 :: L)
 refine qT [_, _, _, _] _ _ rfl (fun F25 le25 hz25 => ?_)
 replace hf23 := hf23.mono le25
 replace hf24 := hf24.mono le25
 have hf25 : IntsF F25 v26 ([0, 1, -1, -1]) := intsH.fz (xs := [0, 1, -1, -1]) hz25.fz
 show X _ _ _ _ _ _ (slH 76 2 v30 3 [v24, v25, v26, v27, v28, v29] :: slH 2 1 v29 5 [ii (0), ii (-1), ii (0), ii (-2), ii (-3)] :: slH 2 1 v28 5 [ii (0), ii (0), ii (-1), ii (-2), ii (-3)] :: intsH 2 v27 ([2] : List Int) :: cellsH b2 [v1] 36 :: slH 2 1 v1 3 [ii (2), ii (1), ii (0)] :: cellsH b1 [v1, v30] 39 :: L)
 refine qT [_, _, _] _ _ rfl (fun F26 le26 hz26 => ?_)
 replace hf23 := hf23.mono le26
 replace hf24 := hf24.mono le26
 replace hf25 := hf25.mono le26
 have hf26 : IntsF F26 v27 ([2]) := intsH.fz (xs := [2]) hz26.fz
 show X _ _ _ _ _ _ (slH 76 2 v30 3 [v24, v25, v26, v27, v28, v29] :: slH 2 1 v29 5 [ii (0), ii (-1), ii (0), ii (-2), ii (-3)] :: intsH 2 v28 ([0, 0, -1, -2, -3] : List Int) :: cellsH b2 [v1] 36 :: slH 2 1 v1 3 [ii (2), ii (1), ii (0)] :: cellsH b1 [v1, v30] 39 :: L)
 refine qT [_, _] _ _ rfl (fun F27 le27 hz27 => ?_)
 replace hf23 := hf23.mono le27
 replace hf24 := hf24.mono le27
 replace hf25 := hf25.mono le27
 replace hf26 := hf26.mono le27
 have hf27 : IntsF F27 v28 ([0, 0, -1, -2, -3]) := intsH.fz (xs := [0, 0, -1, -2, -3]) hz27.fz
 show X _ _ _ _ _ _ (slH 76 2 v30 3 [v24, v25, v26, v27, v28, v29] :: intsH 2 v29 ([0, -1, 0, -2, -3] : List Int) :: cellsH b2 [v1] 36 :: slH 2 1 v1 3 [ii (2), ii (1), ii (0)] :: cellsH b1 [v1, v30] 39 :: L)
 refine qT [_] _ _ rfl (fun F28 le28 hz28 => ?_)
 replace hf23 := hf23.mono le28
 replace hf24 := hf24.mono le28
 replace hf25 := hf25.mono le28
 replace hf26 := hf26.mono le28
 replace hf27 := hf27.mono le28
 have hf28 : IntsF F28 v29 ([0, -1, 0, -2, -3]) := intsH.fz (xs := [0, -1, 0, -2, -3]) hz28.fz
 have hc7 : PairsC F28 [v24, v25, v26, v27, v28, v29] ([([0, 2, -1], [-1]), ([0, 1, -1, -1], [2]), ([0, 0, -1, -2, -3], [0, -1, 0, -2, -3])] : List (List Int × List Int)) := (PairsC.snoc (PairsC.snoc (PairsC.snoc (CO.nil : PairsC F28 [] []) hf23 hf24) hf25 hf26) hf27 hf28)
 show X _ _ _ _ _ _ (slH 76 2 v30 3 ([v24, v25, v26, v27, v28, v29]) :: cellsH b2 [v1] 36 :: intsH 2 v1 ([2, 1, 0] : List Int) :: cellsH b1 [v1, v30] 39 :: L)
 refine qT [_, _] _ _ rfl (fun F29 le29 hz29 => ?_)
 replace hc7 := hc7.mono le29
 have hf29 : IntsF F29 v1 ([2, 1, 0]) := intsH.fz (xs := [2, 1, 0]) hz29.fz
 refine qu (qs (L' := slH 76 2 v30 ((([([0, 2, -1], [-1]), ([0, 1, -1, -1], [2]), ([0, 0, -1, -2, -3], [0, -1, 0, -2, -3])] : List (List Int × List Int))).length) ([v24, v25, v26, v27, v28, v29]) :: L) [.agg #[v1, v30]] (.agg #[v1, v30]) (.cell rfl (jt [v1, v30] jj qX rfl (Rd.ownN [_, _] rfl rfl)) .nil) rfl (qn (qn (qn (qn (qn (qn le23 le24) le25) le26) le27) le28) le29) rF (jx (sC (sD (sD sR))) (jV (fun l hl => by first | exact hl | (rw [show 3 = (([([0, 2, -1], [-1]), ([0, 1, -1, -1], [2]), ([0, 0, -1, -2, -3], [0, -1, 0, -2, -3])] : List (List Int × List Int))).length from by first | rfl | assumption | omega] at hl; exact hl)) sR)) ?_)
 exact ⟨_, _, _, ([([0, 2, -1], [-1]), ([0, 1, -1, -1], [2]), ([0, 0, -1, -2, -3], [0, -1, 0, -2, -3])] : List (List Int × List Int)), _, ⟨rfl, hf29, (qV hv30), hc7, by decide, by decide, by unfold smallR; decide⟩, rfl⟩

/- spec.l6Draw -/
set_option maxHeartbeats 1000000 in
set_option maxRecDepth 20000 in
theorem l6Draw_spec {F : FH} {L : List HP} {cb : Nat} {bsv : Value} {bs : List Int} (hbs : BytesF F bsv bs) (hbl : bs.length ≤ 4000000) :
    Does prog 226 [ptr cb 0] F (curH .i64 231 cb bsv bs.length :: L) (fun v F' L' => ∃ (a b : Value) (ar : List Int) (rs : List (List Int × List Int)) (cs : List Value), ((.agg #[a, b] : Value) = v ∧ IntsF F' a ar ∧ IsSl b ∧ PairsC F' cs rs ∧ ar.length ≤ 20 ∧ rs.length ≤ 12 ∧ smallR rs) ∧ slH 76 2 b rs.length cs :: curH .i64 231 cb bsv bs.length :: L = L') := by
 refine qH func226 rfl rfl rfl (qf (qc (cX (ji [sN, sN] jW rfl ?_))))
 intro b1
 refine qd (qf (qf (qc (qh (ptr cb 0) rfl (cX (qm (args := [ptr cb 0, ii (2)]) call103 rfl (jl [_] (l1Once_spec (n := 2) hbs (by omega) (hn := (by first | assumption | rfl | omega | simp)))) ?_))))))
 rintro _ _ _ _ ⟨⟨rfl, x1, rfl⟩, rfl⟩
 show XL _ _ _ _ _ _ _ (cellsH b1 [sN, sN] 39 :: curH .i64 231 cb bsv bs.length :: L)
 refine qd ?_
 refine jw (t := x1) rfl (fun h1 => ?_) (fun h1 => ?_)
 ·refine qf (qc (qh (ptr cb 0) rfl (cX (qm (args := [ptr cb 0, ii (7)]) jP rfl (jl [_] (l1Below_spec (n := 7) hbs (by omega) (hn := (by first | assumption | rfl | omega | simp)))) ?_))))
  rintro _ _ _ _ ⟨⟨rfl, x2, rfl, hr1⟩, rfl⟩
  show XL _ _ _ _ _ _ _ (cellsH b1 [sN, sN] 39 :: curH .i64 231 cb bsv bs.length :: L)
  refine cX (qm (args := [ii (x2)]) call294 rfl (l6Known_spec (k := x2)) ?_)
  rintro _ F3 _ le3 ⟨x3, x4, ar1, rs1, cs1, ⟨rfl, ha1, hsl1, hc1, h_1, h_2, h_3⟩, rfl⟩
  replace hbs := hbs.mono le3
  show XL _ _ _ _ _ _ _ (slH 76 2 x4 rs1.length cs1 :: cellsH b1 [sN, sN] 39 :: curH .i64 231 cb bsv bs.length :: L)
  refine cX (qK [_] _ [x3, x4] qX rfl rfl rfl (qx (qJ (qG ha1)) (qx (qJ hsl1) qQ)) rfl rfl rfl (qd (qu (qo (qs (L' := slH 76 2 x4 rs1.length cs1 :: curH .i64 231 cb bsv bs.length :: L) [.agg #[x3, x4]] (.agg #[x3, x4]) (.cell rfl (jt [x3, x4] jj qX rfl (Rd.ownN [_] rfl rfl)) .nil) rfl le3 rF ((sC (sD (sC sR)))) ?_)))))
  exact ⟨_, _, _, rs1, _, ⟨rfl, ha1, hsl1, hc1, h_1, h_2, h_3⟩, rfl⟩
 refine qA (qf (qc (qh (ptr cb 0) rfl (cX (qm (args := [ptr cb 0]) call276 rfl (Does.atO [_] (l1DrawSig_spec hbs (by omega))) ?_)))))
 rintro _ F4 _ le4 ⟨x6, ⟨rfl, hsl2⟩, rfl⟩
 replace hbs := hbs.mono le4
 show XL _ _ _ _ _ _ _ (drawnH 2 x6 (fun ar => sigOk ar = true) :: cellsH b1 [sN, sN] 39 :: curH .i64 231 cb bsv bs.length :: L)
 refine XL.undraw [] rfl (fun t1 hq9 => ?_)
 have q1 := hq9
 show XL _ _ _ _ _ _ _ (intsH 2 x6 t1 :: cellsH b1 [sN, sN] 39 :: curH .i64 231 cb bsv bs.length :: L)
 refine yf [] _ _ rfl (fun F5 le5 hz1 => ?_)
 replace hbs := hbs.mono le5
 have hf1 : IntsF F5 x6 t1 := intsH.fz (xs := t1) hz1.fz
 have hsl9 := sigOk_spec q1
 refine cX (jk [x6, sN] [sN, sN] [(0, 1), (1, 1)] [(0, [x6])] qF jW rfl (.cons rfl qw (.cons rfl jz PlacesAre.nil)) rfl (.cons rfl CellsAre.nil) (cX (ji [sN, sN] jW rfl ?_)))
 intro b2
 refine cX (qK [] _ [x6, sN] qX rfl rfl rfl (qx (qJ (qG hf1)) (qx rfl qQ)) rfl rfl rfl (qd (qf (qf (qc (qh (ptr cb 0) rfl (cX (qm (args := [ptr cb 0, ii (4)]) jP rfl (jl [_, _] (l1Below_spec (n := 4) hbs (by omega) (hn := (by first | assumption | rfl | omega | simp)))) ?_))))))))
 rintro _ _ _ _ ⟨⟨rfl, x7, rfl, hr2⟩, rfl⟩
 show XL _ _ _ _ _ _ _ (cellsH b2 [x6, sN] 39 :: cellsH b1 [sN, sN] 39 :: curH .i64 231 cb bsv bs.length :: L)
 refine qi (ii (x7)) rfl (qd (qR (jy (α := Nat × Value × List (List Int × List Int) × List Value × Nat × FH) (fun xQ => [(0, ptr cb 0), (2, ptr b1 0), (3, ptr b2 0), (4, ii (((xQ.1 : Nat) : Int)))]) (fun xQ => slH 76 2 xQ.2.1 xQ.2.2.2.2.1 xQ.2.2.2.1 :: cellsH b2 [x6, xQ.2.1] 39 :: cellsH b1 [sN, sN] 39 :: curH .i64 231 cb bsv bs.length :: L) (fun xQ F' => xQ.2.2.2.2.2 = F' ∧ F5 ≤ xQ.2.2.2.2.2 ∧ (IsSl xQ.2.1) ∧ (PairsC xQ.2.2.2.2.2 xQ.2.2.2.1 xQ.2.2.1) ∧ (xQ.2.2.2.2.1 = xQ.2.2.1.length) ∧ (xQ.2.2.1.length + xQ.1 ≤ 4) ∧ (smallR xQ.2.2.1)) (fun xQ => xQ.1) (x7.toNat, sN, [], [], 0, F5) ⟨rfl, rfl, rfl, (vI (by omega)), ⟨⟩⟩ (jx (Sub.addNil 76 2 _ _) (sC (sC (sC (sC sR))))) ⟨rfl, FLe.refl _, (⟨_, _, _, rfl⟩), (CO.nil), (rfl), (by (try dsimp only); simp only [List.length_nil]; omega), (smallR.nil)⟩ ?_)))
 rintro ⟨n, ov, os, cs, m, G1⟩ rE _ _ ⟨rfl, leG, hov, hC, hm, hon, hos⟩
 show X _ _ _ _ (envs [(0, ptr cb 0), (2, ptr b1 0), (3, ptr b2 0), (4, ii ((n : Int)))] rE) _ (slH 76 2 ov m cs :: cellsH b2 [x6, ov] 39 :: cellsH b1 [sN, sN] 39 :: curH .i64 231 cb bsv bs.length :: L)
 replace leG : F5 ≤ G1 := leG
 dsimp only at hov hC hm hon hos
 have leG1 := leG
 replace hbs := hbs.mono leG1
 replace hf1 := hf1.mono leG1
 refine qf (qf (qc (qh (ii ((n : Int))) rfl (cX (jH rfl rfl (qd ?_))))))
 refine qC (p := (n : Int) > 0) rfl (fun h2 => ?_) (fun h2 => ?_)
 ·refine qA (qf (qR ?_))
  refine jM [slH 76 2 ov m cs, cellsH b2 [x6, ov] 39, cellsH b1 [sN, sN] 39, curH .i64 231 cb bsv bs.length] L 7 [[], [], [], [], [], [], [5]] [[], [0], [], [], [3], [2, 4], [5]] [] (phiG [pe (ptr b2 1), pe ov, pe (ptr cb 0), pe (ptr b2 0), pe (.agg #[x6]), fun FF us v => (.agg #[((aggAt v 0)), ((aggAt v 1))] : Value) = v ∧ (SomesF FF ((aggAt v 0)) (fun u => u.length ≤ 2000)) ∧ (SomesF FF ((aggAt v 1)) (fun w => w.length ≤ 2000)), fun FF us v => ∃ b, v = .slice (some ⟨b, 0, none⟩) 1 1]) (ownL [o0, o0, o0, o0, o0, o0, fun us v => [slH 76 2 v 1 [((aggAt (us.getD 0 undef) 0)), ((aggAt (us.getD 0 undef) 1))]]]) mixed rfl rfl (by kernel_rfl) (by kernel_rfl) (MonoG.get (m1 (m1 (m1 (m1 (m1 (mC (fun le h => ⟨h.1, h.2.1.mono le, h.2.2.mono le⟩) (mC (fun le h => h) MonoG.nil)))))))) ?_ ?_
  ·refine gD (fun W Fs R lF z9 => ?_) ?_
   ·refine qj (ql (1) qF rfl jz (by decide) rfl rfl ?_)
    exact ⟨rfl, rfl⟩
   refine gD (fun W Fs R lF z9 => ?_) ?_
   ·replace hbs := hbs.mono lF
    replace hf1 := hf1.mono lF
    replace hC := hC.mono lF
    rw [eS (l := [(0, _)]) ⟨z9 0 rfl, ⟨⟩⟩]
    refine qj (qk ya rfl (Rd.own [_] rfl rfl) ?_)
    exact ⟨rfl, rfl⟩
   refine gD (fun W Fs R lF z9 => ?_) ?_
   ·refine qj (qt (ptr cb 0) rfl ?_)
    exact ⟨rfl, rfl⟩
   refine gD (fun W Fs R lF z9 => ?_) ?_
   ·refine qj (ql (0) qF rfl qw (by decide) rfl rfl ?_)
    exact ⟨rfl, rfl⟩
   refine gD (fun W Fs R lF z9 => ?_) ?_
   ·replace hbs := hbs.mono lF
    replace hf1 := hf1.mono lF
    replace hC := hC.mono lF
    rw [eS (l := [(3, _)]) ⟨z9 3 rfl, ⟨⟩⟩]
    refine qj (qq [x6] qI qw rfl rfl (Rd.ownN [_] rfl rfl) ?_)
    exact ⟨rfl, rfl⟩
   refine gD (fun W Fs R lF z9 => ?_) ?_
   ·replace hbs := hbs.mono lF
    replace hf1 := hf1.mono lF
    replace hC := hC.mono lF
    rw [eS (l := [(2, _), (4, _)]) ⟨z9 2 rfl, z9 4 rfl, ⟨⟩⟩]
    refine qj (qm (args := [ptr cb 0, .agg #[x6]]) call295 rfl (jl [_, _, _] (l6DrawRule_spec hbs (by omega) hf1 (hso := (by first | assumption | rfl | omega | simp)))) ?_)
    rintro _ F8 _ le8 ⟨⟨x10, x11, rfl, hr5, hr6⟩, rfl⟩
    replace hf1 := hf1.mono le8
    replace hC := hC.mono le8
    exact ⟨⟨rfl, hr5, hr6⟩, rfl⟩
   refine gD (fun W Fs R lF z9 => ?_) ?_
   ·obtain ⟨e5, f5_1hp_a, f5_1hp_b⟩ := z9 5 rfl
    obtain ⟨t5X1_a, f5_1hp_a, q5_1_a0⟩ := f5_1hp_a
    obtain ⟨t5X1_b, f5_1hp_b, q5_1_b0⟩ := f5_1hp_b
    replace hf1 := hf1.mono lF
    replace hC := hC.mono lF
    rw [eS (l := [(5, (.agg #[((aggAt (W 5) 0)), ((aggAt (W 5) 1))]))]) ⟨(e5).symm, ⟨⟩⟩]
    refine qj (qz (s := 2) [((aggAt (W 5) 0)), ((aggAt (W 5) 1))] [sN, sN] [(0, [((aggAt (W 5) 0)), ((aggAt (W 5) 1))])] jd jv jn rfl (by decide) rfl (.cons rfl CellsAre.nil) rfl ?_)
    intro v2 hv2
    exact ⟨hv2, rfl⟩
   exact stepsG.nil
  intro W F9 le9 hphi
  obtain ⟨e5, f5_1hp_a, f5_1hp_b⟩ := hphi 5 (by decide)
  obtain ⟨t5X1_a, f5_1hp_a, q5_1_a0⟩ := f5_1hp_a
  obtain ⟨t5X1_b, f5_1hp_b, q5_1_b0⟩ := f5_1hp_b
  have f6 : ∃ b, (W 6) = .slice (some ⟨b, 0, none⟩) 1 1 := hphi 6 (by decide)
  generalize hu1 : ((aggAt (W 5) 0)) = u1 at e5 f5_1hp_a f5_1hp_b f6
  generalize hu2 : ((aggAt (W 5) 1)) = u2 at e5 f5_1hp_a f5_1hp_b f6
  generalize hu6 : W 6 = u3 at e5 f5_1hp_a f5_1hp_b f6
  rw [eS (l := [(1, _), (5, (.agg #[u1, u2])), (6, u3)]) ⟨(hphi 1 (by decide)), (e5).symm, hu6, ⟨⟩⟩]
  replace hf1 := hf1.mono le9
  replace hC := hC.mono le9
  show XL _ _ _ _ _ _ _ (slH 76 2 u3 1 [u1, u2] :: slH 76 2 ov m cs :: cellsH b2 [x6, ov] 39 :: cellsH b1 [sN, sN] 39 :: curH .i64 231 cb bsv bs.length :: L)
  refine cX (ye (m := 1) (bytes := 48) (cs := cs) [_] _ [u1, u2] jd typeInfo76 rfl rfl rfl rfl rfl rfl rfl (SlV.own [] rfl) rfl (Rd.lit [] rfl) (qx (qJ (qG f5_1hp_a)) (qx (qJ (qG f5_1hp_b)) qQ)) (by (try simp only [List.length_append, List.length_nil, List.length_cons, List.length_singleton]); omega) (by (try simp only [List.length_append, List.length_nil, List.length_cons, List.length_singleton]); omega) ?_)
  intro v3 hs1 hn1 hm1
  have hc2 := PairsC.snoc hC f5_1hp_a f5_1hp_b
  refine cX (ql (1) qF rfl jz (by decide) rfl rfl (cX (jJ [_, _] _ [x6, v3] jz rfl rfl (qJ hs1) rfl rfl rfl (qd (qc (qh (ii ((n : Int))) rfl (cX (jp (((n : Int)) - 1) rfl rfl (by omega) (by omega) (qi (ii (((n : Int)) - 1)) rfl (qd ?_))))))))))
  exact ⟨(n - 1, v3, os ++ [(t5X1_a, t5X1_b)], cs ++ [u1, u2], (m) + 1, F9), _, (qn leG1 le9), rF, ⟨rfl, rfl, rfl, (vI (by (try dsimp only); omega)), ⟨⟩⟩, (sD (sC (sC (sC (sC sR))))), ⟨rfl, (qn leG1 le9), (hs1), (hc2), (by (try dsimp only); rw [List.length_append]; simp only [List.length_singleton]; omega), (by (try dsimp only); rw [List.length_append]; simp only [List.length_singleton]; omega), (smallR.snoc hos q5_1_a0 q5_1_b0)⟩, (by (try dsimp only); omega)⟩
 refine jo (qB (qB (qW (qf (qc (cX (qq [x6, ov] jj qX rfl rfl (Rd.ownN [_] rfl rfl) (cX (qK [_, _] _ [x6, ov] qX rfl rfl rfl (qx (qJ (qG hf1)) (qx (qJ hov) qQ)) rfl rfl rfl (qd (qu (qs (L' := slH 76 2 ov os.length cs :: curH .i64 231 cb bsv bs.length :: L) [.agg #[x6, ov]] (.agg #[x6, ov]) (.cell rfl (jt [x6, ov] jj qX rfl (Rd.ownN [_, _] rfl rfl)) .nil) rfl (qn (qn le4 le5) leG1) rF (jx (sC (sD (sD (sC sR)))) (jV (fun l hl => by first | exact hl | (rw [show m = os.length from by first | rfl | assumption | omega] at hl; exact hl)) sR)) ?_))))))))))))
 exact ⟨_, _, _, os, _, ⟨rfl, hf1, hov, hC, by omega, by omega, hos⟩, rfl⟩

/- spec.l6DrawAny -/
set_option maxHeartbeats 1000000 in
set_option maxRecDepth 20000 in
theorem l6DrawAny_spec {F : FH} {L : List HP} {cb : Nat} {bsv : Value} {bs : List Int} (hbs : BytesF F bsv bs) (hbl : bs.length ≤ 4000000) :
    Does prog 128 [ptr cb 0] F (curH .i64 231 cb bsv bs.length :: L) (fun v F' L' => (∃ (a : Value), ∃ (b : Value), ∃ (ar : List Int), ∃ (rs : List (List Int × List Int)), (.agg #[a, b] : Value) = v ∧ (IntsF F' a ar) ∧ (PairsF F' b rs) ∧ (smallS ar rs)) ∧ curH .i64 231 cb bsv bs.length :: L = L') := by
 refine qH func128 rfl rfl rfl (qf (qc (cX (ji [sN, sN] jW rfl ?_))))
 intro b1
 refine qd (qf (qc (qh (ptr cb 0) rfl (cX (qm (args := [ptr cb 0]) call226 rfl ((Does.weaken (Sub.front (A := [_])) (l6Draw_spec hbs (by omega)))) ?_)))))
 rintro _ F1 _ le1 ⟨x1, x2, ar1, rs1, cs1, ⟨rfl, ha1, hsl1, hc1, h_1, h_2, h_3⟩, rfl⟩
 replace hbs := hbs.mono le1
 show XL _ _ _ _ _ _ _ (slH 76 2 x2 rs1.length cs1 :: curH .i64 231 cb bsv bs.length :: cellsH b1 [sN, sN] 39 :: L)
 skip
 refine cX (ji [sN, sN] jW rfl ?_)
 intro b2
 refine cX (qK [] _ [x1, x2] qX rfl rfl rfl (qx (qJ (qG ha1)) (qx (qJ hsl1) qQ)) rfl rfl rfl (qd (qf (qf (qc (qh (ptr cb 0) rfl (cX (qm (args := [ptr cb 0, ii (15)]) call103 rfl (jl [_, _] (l1Once_spec (n := 15) hbs (by omega) (hn := (by first | assumption | rfl | omega | simp)))) ?_))))))))
 rintro _ _ _ _ ⟨⟨rfl, x3, rfl⟩, rfl⟩
 show XL _ _ _ _ _ _ _ (cellsH b2 [x1, x2] 39 :: slH 76 2 x2 rs1.length cs1 :: curH .i64 231 cb bsv bs.length :: cellsH b1 [sN, sN] 39 :: L)
 refine qd ?_
 refine jw (t := x3) rfl (fun h1 => ?_) (fun h1 => ?_)
 ·refine qf (qc (qh (ptr cb 0) rfl (cX (qm (args := [ptr cb 0, ii (4)]) jP rfl (jl [_, _] (l1Below_spec (n := 4) hbs (by omega) (hn := (by first | assumption | rfl | omega | simp)))) ?_))))
  rintro _ _ _ _ ⟨⟨rfl, x4, rfl, hr1⟩, rfl⟩
  show XL _ _ _ _ _ _ _ (cellsH b2 [x1, x2] 39 :: slH 76 2 x2 rs1.length cs1 :: curH .i64 231 cb bsv bs.length :: cellsH b1 [sN, sN] 39 :: L)
  refine qd (qR (qf (qc (cX (jB rfl rfl (qi (.bool (decide ((x4 : Int) = 0))) rfl (qd ?_)))))))
  refine qC (p := (x4 : Int) = 0) rfl (fun h2 => ?_) (fun h2 => ?_)
  ·refine jM [cellsH b2 [x1, x2] 39, slH 76 2 x2 rs1.length cs1, curH .i64 231 cb bsv bs.length, cellsH b1 [sN, sN] 39] L 12 [[], [], [], [], [], [], [], [], [], [], [5, 9], [5, 9]] [[], [0], [], [], [3], [2, 4], [], [], [7], [6, 8], [5, 9], [5, 9, 10]] [] (phiG [pe (ptr b2 1), pe x2, pe (ptr cb 0), pe (ptr b2 0), pe (.agg #[x1]), fun FF us v => ((v) : Value) = v ∧ (SomesF FF (v) (fun u => u.length ≤ 2000)), pe (ptr cb 0), pe (ptr b2 0), pe (.agg #[x1]), fun FF us v => ((v) : Value) = v ∧ (SomesF FF (v) (fun u => u.length ≤ 2000)), fun FF us v => v = (.agg #[((us.getD 0 undef)), ((us.getD 1 undef))] : Value), fun FF us v => ∃ b, v = .slice (some ⟨b, 0, none⟩) 1 1]) (ownL [o0, o0, o0, o0, o0, o0, o0, o0, o0, o0, o0, fun us v => [slH 76 2 v 1 [((us.getD 0 undef)), ((us.getD 1 undef))]]]) mixed rfl rfl (by kernel_rfl) (by kernel_rfl) (MonoG.get (m1 (m1 (m1 (m1 (m1 (mC (fun le h => ⟨h.1, h.2.mono le⟩) (m1 (m1 (m1 (mC (fun le h => ⟨h.1, h.2.mono le⟩) (mC (fun le h => h) (mC (fun le h => h) MonoG.nil))))))))))))) ?_ ?_
   ·refine gD (fun W Fs R lF z9 => ?_) ?_
    ·refine qj (ql (1) qF rfl jz (by decide) rfl rfl ?_)
     exact ⟨rfl, rfl⟩
    refine gD (fun W Fs R lF z9 => ?_) ?_
    ·replace hbs := hbs.mono lF
     replace ha1 := ha1.mono lF
     replace hc1 := hc1.mono lF
     rw [eS (l := [(0, _)]) ⟨z9 0 rfl, ⟨⟩⟩]
     refine qj (qk ya rfl (Rd.own [] rfl rfl) ?_)
     exact ⟨rfl, rfl⟩
    refine gD (fun W Fs R lF z9 => ?_) ?_
    ·refine qj (qt (ptr cb 0) rfl ?_)
     exact ⟨rfl, rfl⟩
    refine gD (fun W Fs R lF z9 => ?_) ?_
    ·refine qj (ql (0) qF rfl qw (by decide) rfl rfl ?_)
     exact ⟨rfl, rfl⟩
    refine gD (fun W Fs R lF z9 => ?_) ?_
    ·replace hbs := hbs.mono lF
     replace ha1 := ha1.mono lF
     replace hc1 := hc1.mono lF
     rw [eS (l := [(3, _)]) ⟨z9 3 rfl, ⟨⟩⟩]
     refine qj (qq [x1] qI qw rfl rfl (Rd.ownN [] rfl rfl) ?_)
     exact ⟨rfl, rfl⟩
    refine gD (fun W Fs R lF z9 => ?_) ?_
    ·replace hbs := hbs.mono lF
     replace ha1 := ha1.mono lF
     replace hc1 := hc1.mono lF
     rw [eS (l := [(2, _), (4, _)]) ⟨z9 2 rfl, z9 4 rfl, ⟨⟩⟩]
     refine qj (qm (args := [ptr cb 0, .agg #[x1]]) call227 rfl (jl [_, _] (l1DrawAny_spec hbs (by omega) ha1 (hal := (by first | assumption | rfl | omega | simp)))) ?_)
     rintro _ F6 _ le6 ⟨⟨x7, rfl, hr4⟩, rfl⟩
     replace hbs := hbs.mono le6
     replace ha1 := ha1.mono le6
     replace hc1 := hc1.mono le6
     exact ⟨⟨rfl, hr4⟩, rfl⟩
    refine gD (fun W Fs R lF z9 => ?_) ?_
    ·refine qj (qt (ptr cb 0) rfl ?_)
     exact ⟨rfl, rfl⟩
    refine gD (fun W Fs R lF z9 => ?_) ?_
    ·refine qj (ql (0) qF rfl qw (by decide) rfl rfl ?_)
     exact ⟨rfl, rfl⟩
    refine gD (fun W Fs R lF z9 => ?_) ?_
    ·replace hbs := hbs.mono lF
     replace ha1 := ha1.mono lF
     replace hc1 := hc1.mono lF
     rw [eS (l := [(7, _)]) ⟨z9 7 rfl, ⟨⟩⟩]
     refine qj (qq [x1] qI qw rfl rfl (Rd.ownN [] rfl rfl) ?_)
     exact ⟨rfl, rfl⟩
    refine gD (fun W Fs R lF z9 => ?_) ?_
    ·replace hbs := hbs.mono lF
     replace ha1 := ha1.mono lF
     replace hc1 := hc1.mono lF
     rw [eS (l := [(6, _), (8, _)]) ⟨z9 6 rfl, z9 8 rfl, ⟨⟩⟩]
     refine qj (qm (args := [ptr cb 0, .agg #[x1]]) call227 rfl (jl [_, _] (l1DrawAny_spec hbs (by omega) ha1 (hal := (by first | assumption | rfl | omega | simp)))) ?_)
     rintro _ F7 _ le7 ⟨⟨x8, rfl, hr5⟩, rfl⟩
     replace hbs := hbs.mono le7
     replace ha1 := ha1.mono le7
     replace hc1 := hc1.mono le7
     exact ⟨⟨rfl, hr5⟩, rfl⟩
    refine gD (fun W Fs R lF z9 => ?_) ?_
    ·obtain ⟨e5, f5_1hp_a⟩ := z9 5 rfl
     obtain ⟨t5X1_a, f5_1hp_a, q5_1_a0⟩ := f5_1hp_a
     obtain ⟨e9, f9_1hp_a⟩ := z9 9 rfl
     obtain ⟨t9X1_a, f9_1hp_a, q9_1_a0⟩ := f9_1hp_a
     replace hbs := hbs.mono lF
     replace ha1 := ha1.mono lF
     replace hc1 := hc1.mono lF
     rw [eS (l := [(5, ((W 5))), (9, ((W 9)))]) ⟨(e5).symm, (e9).symm, ⟨⟩⟩]
     refine qj (jk [((W 5)), ((W 9))] [sN, sN] [(0, 1), (1, 1)] [(0, [((W 5))]), (1, [((W 9))])] ja jn rfl (.cons rfl qv (.cons rfl qv PlacesAre.nil)) rfl (.cons (cells_one (qG f5_1hp_a)) (.cons (cells_one (qG f9_1hp_a)) CellsAre.nil)) ?_)
     exact ⟨rfl, rfl⟩
    refine gD (fun W Fs R lF z9 => ?_) ?_
    ·obtain ⟨e5, f5_1hp_a⟩ := z9 5 rfl
     obtain ⟨t5X1_a, f5_1hp_a, q5_1_a0⟩ := f5_1hp_a
     obtain ⟨e9, f9_1hp_a⟩ := z9 9 rfl
     obtain ⟨t9X1_a, f9_1hp_a, q9_1_a0⟩ := f9_1hp_a
     have e10 : W 10 = (.agg #[((W 5)), ((W 9))] : Value) := z9 10 rfl
     replace hbs := hbs.mono lF
     replace ha1 := ha1.mono lF
     replace hc1 := hc1.mono lF
     rw [eS (l := [(5, ((W 5))), (9, ((W 9))), (10, (.agg #[((W 5)), ((W 9))]))]) ⟨(e5).symm, (e9).symm, e10, ⟨⟩⟩]
     refine qj (qz (s := 2) [((W 5)), ((W 9))] [sN, sN] [(0, [((W 5)), ((W 9))])] jd jv jn rfl (by decide) rfl (.cons rfl CellsAre.nil) rfl ?_)
     intro v2 hv2
     exact ⟨hv2, rfl⟩
    exact stepsG.nil
   intro W F8 le8 hphi
   obtain ⟨e5, f5_1hp_a⟩ := hphi 5 (by decide)
   obtain ⟨t5X1_a, f5_1hp_a, q5_1_a0⟩ := f5_1hp_a
   obtain ⟨e9, f9_1hp_a⟩ := hphi 9 (by decide)
   obtain ⟨t9X1_a, f9_1hp_a, q9_1_a0⟩ := f9_1hp_a
   have e10 : W 10 = (.agg #[((W 5)), ((W 9))] : Value) := hphi 10 (by decide)
   have f11 : ∃ b, (W 11) = .slice (some ⟨b, 0, none⟩) 1 1 := hphi 11 (by decide)
   generalize hu1 : ((W 5)) = u1 at e5 f5_1hp_a e9 f9_1hp_a e10 f11
   generalize hu2 : ((W 9)) = u2 at e5 f5_1hp_a e9 f9_1hp_a e10 f11
   generalize hu11 : W 11 = u3 at e5 f5_1hp_a e9 f9_1hp_a e10 f11
   rw [eS (l := [(1, _), (5, u1), (9, u2), (11, u3)]) ⟨(hphi 1 (by decide)), hu1, hu2, hu11, ⟨⟩⟩]
   replace hbs := hbs.mono le8
   replace ha1 := ha1.mono le8
   replace hc1 := hc1.mono le8
   show XL _ _ _ _ _ _ _ (slH 76 2 u3 1 [u1, u2] :: cellsH b2 [x1, x2] 39 :: slH 76 2 x2 rs1.length cs1 :: curH .i64 231 cb bsv bs.length :: cellsH b1 [sN, sN] 39 :: L)
   refine cX (ye (m := 1) (bytes := 48) (cs := cs1) [_, _] _ [u1, u2] jd typeInfo76 rfl rfl rfl rfl rfl rfl rfl (SlV.own [] rfl) rfl (Rd.lit [] rfl) (qx (qJ (qG f5_1hp_a)) (qx (qJ (qG f9_1hp_a)) qQ)) (by (try simp only [List.length_append, List.length_nil, List.length_cons, List.length_singleton]); omega) (by (try simp only [List.length_append, List.length_nil, List.length_cons, List.length_singleton]); omega) ?_)
   intro v3 hs1 hn1 hm1
   have hc2 := PairsC.snoc hc1 f5_1hp_a f9_1hp_a
   refine cX (ql (1) qF rfl jz (by decide) rfl rfl (cX (jJ [_] _ [x1, v3] jz rfl rfl (qJ hs1) rfl rfl rfl (qd (qf (qc (cX (qq [x1, v3] jj qX rfl rfl (Rd.ownN [_] rfl rfl) (cX (qK [_, _, _, _] _ [x1, v3] qX rfl rfl rfl (qx (qJ (qG ha1)) (qx (qJ hs1) qQ)) rfl rfl rfl (qd (qT [_, _] _ _ rfl (fun F9 le9 hz1 => ?_)))))))))))))
   replace hbs := hbs.mono le9
   replace ha1 := ha1.mono le9
   replace hc1 := hc1.mono le9
   replace hc2 := hc2.mono le9
   have hf1 : PairsF F9 v3 (rs1 ++ [(t5X1_a, t9X1_a)]) := CO.fz hc2 (by first | rfl | omega | (rw [List.length_set]; omega) | (simp; done)) hz1.fz
   refine qu (qs (L' := curH .i64 231 cb bsv bs.length :: L) [.agg #[x1, v3]] (.agg #[x1, v3]) (.cell rfl (jt [x1, v3] jj qX rfl (Rd.ownN [_, _, _] rfl rfl)) .nil) rfl (qn (qn le1 le8) le9) rF (sD (sD (sC (sD sR)))) ?_)
   exact ⟨⟨_, _, _, _, rfl, ha1, hf1, smallS.mk' (by omega) (by (try simp only [List.length_append, List.length_cons, List.length_nil]); omega) (smallR.snoc h_3 q5_1_a0 q9_1_a0)⟩, rfl⟩
  refine qf (qc (cX (jB rfl rfl (qi (.bool (decide ((x4 : Int) = 1))) rfl (qd ?_)))))
  refine qC (p := (x4 : Int) = 1) rfl (fun h3 => ?_) (fun h3 => ?_)
  ·refine qc (qh (ptr cb 0) rfl (cX (qm (args := [ptr cb 0]) call198 rfl (jl [_, _] (l1DrawSigAny_spec hbs (by omega))) ?_)))
   rintro _ F10 _ le10 ⟨⟨x9, x10, rfl, hr6, hr7⟩, rfl⟩
   replace ha1 := ha1.mono le10
   replace hc1 := hc1.mono le10
   show XL _ _ _ _ _ _ _ (cellsH b2 [x1, x2] 39 :: slH 76 2 x2 rs1.length cs1 :: curH .i64 231 cb bsv bs.length :: cellsH b1 [sN, sN] 39 :: L)
   refine cX (ql (0) qF rfl qw (by decide) rfl rfl (cX (qK [] _ [x9, x2] qw rfl rfl rfl (qx (qJ (qG hr6)) qQ) rfl rfl rfl (qd (qf (qc (cX (qq [x9, x2] jj qX rfl rfl (Rd.ownN [] rfl rfl) (cX (qK [_, _, _] _ [x9, x2] qX rfl rfl rfl (qx (qJ (qG hr6)) (qx (qJ hsl1) qQ)) rfl rfl rfl (qd (qT [_] _ _ rfl (fun F11 le11 hz2 => ?_)))))))))))))
   replace ha1 := ha1.mono le11
   replace hc1 := hc1.mono le11
   replace hr6 := hr6.mono le11
   have hf2 : PairsF F11 x2 rs1 := CO.fz hc1 (by first | rfl | omega | (rw [List.length_set]; omega) | (simp; done)) hz2.fz
   refine qu (qs (L' := curH .i64 231 cb bsv bs.length :: L) [.agg #[x9, x2]] (.agg #[x9, x2]) (.cell rfl (jt [x9, x2] jj qX rfl (Rd.ownN [_, _] rfl rfl)) .nil) rfl (qn (qn le1 le10) le11) rF (sD (sC (sD sR))) ?_)
   exact ⟨⟨_, _, _, _, rfl, hr6, hf2, smallS.mk' (by omega) (by (try simp only [List.length_append, List.length_cons, List.length_nil]); omega) h_3⟩, rfl⟩
  refine qf (qc (cX (jB rfl rfl (qi (.bool (decide ((x4 : Int) = 2))) rfl (qd ?_)))))
  refine qC (p := (x4 : Int) = 2) rfl (fun h4 => ?_) (fun h4 => ?_)
  ·refine qR (jy (α := Value × List (List Int × List Int) × List Value × Nat × FH) (fun xQ => [(2, ptr b1 0), (3, ptr b2 0)]) (fun xQ => slH 76 2 xQ.1 xQ.2.2.2.1 xQ.2.2.1 :: cellsH b2 [x1, xQ.1] 39 :: curH .i64 231 cb bsv bs.length :: cellsH b1 [sN, sN] 39 :: L) (fun xQ F' => xQ.2.2.2.2 = F' ∧ F1 ≤ xQ.2.2.2.2 ∧ (IsSl xQ.1) ∧ (PairsC xQ.2.2.2.2 xQ.2.2.1 xQ.2.1) ∧ (xQ.2.2.2.1 = xQ.2.1.length) ∧ (xQ.2.1.length ≤ 13) ∧ (smallR xQ.2.1)) (fun xQ => 13 - xQ.2.2.2.1) (x2, rs1, cs1, rs1.length, F1) ⟨rfl, rfl, ⟨⟩⟩ (jx (Sub.front (A := [_, _, _])) (jx (Sub.front (A := [_, _, _])) (jx (Sub.front (A := [_, _])) (jx (Sub.front (A := [_, _, _])) (sC (sC (sC (sC sR)))))))) ⟨rfl, FLe.refl _, (hsl1), (hc1), (rfl), (by (try dsimp only); omega), (h_3)⟩ ?_)
   rintro ⟨ov, os, cs, m, G1⟩ rE _ _ ⟨rfl, leG, hov, hC, hm, hon, hos⟩
   show X _ _ _ _ (envs [(2, ptr b1 0), (3, ptr b2 0)] rE) _ (slH 76 2 ov m cs :: cellsH b2 [x1, ov] 39 :: curH .i64 231 cb bsv bs.length :: cellsH b1 [sN, sN] 39 :: L)
   replace leG : F1 ≤ G1 := leG
   dsimp only at hov hC hm hon hos
   have leG1 := leG
   replace ha1 := ha1.mono leG1
   replace hc1 := hc1.mono leG1
   refine qf (qf (qc (cX (ql (1) qF rfl jz (by decide) rfl rfl (cX (qk ya rfl (Rd.own [_] rfl rfl) (cX (qE jd rfl (SlV.own [] rfl) (cX (jh rfl rfl (qd ?_)))))))))))
   refine qC (p := (m : Int) < 13) rfl (fun h5 => ?_) (fun h5 => ?_)
   ·refine qA (qR (qc (cX (ql (1) qF rfl jz (by decide) rfl rfl (cX (qk ya rfl (Rd.own [_] rfl rfl) (cX (qz (s := 1) [ii (2)] [ii (0)] [(0, [ii (2)])] qg qy qO rfl (by decide) rfl (.cons rfl CellsAre.nil) rfl ?_))))))))
    intro v4 hv3
    refine cX (qz (s := 1) [ii (2)] [ii (0)] [(0, [ii (2)])] qg qy qO rfl (by decide) rfl (.cons rfl CellsAre.nil) rfl ?_)
    intro v5 hv4
    refine cX (jk [v4, v5] [sN, sN] [(0, 1), (1, 1)] [(0, [v4]), (1, [v5])] ja jn rfl (.cons rfl qv (.cons rfl qv PlacesAre.nil)) rfl (.cons (cells_one (qV hv3)) (.cons (cells_one (qV hv4)) CellsAre.nil)) (cX (qz (s := 2) [v4, v5] [sN, sN] [(0, [v4, v5])] jd jv jn rfl (by decide) rfl (.cons rfl CellsAre.nil) rfl ?_)))
    intro v6 hv5
    show XL _ _ _ _ _ _ _ (slH 76 2 v6 1 [v4, v5] :: slH 2 1 v5 1 [ii (2)] :: intsH 2 v4 ([2] : List Int) :: slH 76 2 ov m cs :: cellsH b2 [x1, ov] 39 :: curH .i64 231 cb bsv bs.length :: cellsH b1 [sN, sN] 39 :: L)
    refine yf [_, _] _ _ rfl (fun F12 le12 hz3 => ?_)
    replace ha1 := ha1.mono le12
    replace hc1 := hc1.mono le12
    replace hC := hC.mono le12
    have hf3 : IntsF F12 v4 ([2]) := intsH.fz (xs := [2]) hz3.fz
    show XL _ _ _ _ _ _ _ (slH 76 2 v6 1 [v4, v5] :: intsH 2 v5 ([2] : List Int) :: slH 76 2 ov m cs :: cellsH b2 [x1, ov] 39 :: curH .i64 231 cb bsv bs.length :: cellsH b1 [sN, sN] 39 :: L)
    refine yf [_] _ _ rfl (fun F13 le13 hz4 => ?_)
    replace ha1 := ha1.mono le13
    replace hc1 := hc1.mono le13
    replace hC := hC.mono le13
    replace hf3 := hf3.mono le13
    have hf4 : IntsF F13 v5 ([2]) := intsH.fz (xs := [2]) hz4.fz
    refine cX (ye (m := 1) (bytes := 48) (cs := cs) [_] _ [v4, v5] jd typeInfo76 rfl rfl rfl rfl rfl rfl rfl (SlV.own [] rfl) rfl (Rd.lit [] rfl) (qx (qJ (qG hf3)) (qx (qJ (qG hf4)) qQ)) (by (try simp only [List.length_append, List.length_nil, List.length_cons, List.length_singleton]); omega) (by (try simp only [List.length_append, List.length_nil, List.length_cons, List.length_singleton]); omega) ?_)
    intro v7 hs2 hn2 hm2
    have hc3 := PairsC.snoc hC hf3 hf4
    refine cX (ql (1) qF rfl jz (by decide) rfl rfl (cX (jJ [_, _] _ [x1, v7] jz rfl rfl (qJ hs2) rfl rfl rfl (qd ?_))))
    exact ⟨(v7, os ++ [([2], [2])], cs ++ [v4, v5], (m) + 1, F13), _, (qn (qn leG1 le12) le13), rF, ⟨rfl, rfl, ⟨⟩⟩, (sD (sC (sC (sC (sC sR))))), ⟨rfl, (qn (qn leG1 le12) le13), (hs2), (hc3), (by (try dsimp only); rw [List.length_append]; simp only [List.length_singleton]; omega), (by (try dsimp only); rw [List.length_append]; simp only [List.length_singleton]; omega), (smallR.snoc hos (by decide) (by decide))⟩, (by (try dsimp only); omega)⟩
   refine jo (qB (qB (qW (qf (qc (cX (qq [x1, ov] jj qX rfl rfl (Rd.ownN [_] rfl rfl) (cX (qK [_, _, _] _ [x1, ov] qX rfl rfl rfl (qx (qJ (qG ha1)) (qx (qJ hov) qQ)) rfl rfl rfl (qd (qT [] _ _ rfl (fun F14 le14 hz5 => ?_))))))))))))
   replace ha1 := ha1.mono le14
   replace hc1 := hc1.mono le14
   replace hC := hC.mono le14
   have hf5 : PairsF F14 ov os := CO.fz hC (by first | rfl | omega | (rw [List.length_set]; omega) | (simp; done)) hz5.fz
   refine qu (qs (L' := curH .i64 231 cb bsv bs.length :: L) [.agg #[x1, ov]] (.agg #[x1, ov]) (.cell rfl (jt [x1, ov] jj qX rfl (Rd.ownN [_, _] rfl rfl)) .nil) rfl (qn (qn le1 leG1) le14) rF (sD (sC (sD sR))) ?_)
   exact ⟨⟨_, _, _, _, rfl, ha1, hf5, smallS.mk' (by omega) (by (try simp only [List.length_append, List.length_cons, List.length_nil]); omega) hos⟩, rfl⟩
  refine qf (qc (cX (jB rfl rfl (qi (.bool (decide ((x4 : Int) = 3))) rfl (qd ?_)))))
  refine qC (p := (x4 : Int) = 3) rfl (fun h6 => ?_) (fun h6 => ?_)
  ·refine qc (cX (ql (1) qF rfl jz (by decide) rfl rfl (cX (qk ya rfl (Rd.own [] rfl rfl) (cX (qz (s := 1) [ii (-1)] [ii (0)] [(0, [ii (-1)])] qg qy qO rfl (by decide) rfl (.cons rfl CellsAre.nil) rfl ?_))))))
   intro v8 hv6
   refine cX (qz (s := 1) [ii (-1)] [ii (0)] [(0, [ii (-1)])] qg qy qO rfl (by decide) rfl (.cons rfl CellsAre.nil) rfl ?_)
   intro v9 hv7
   refine cX (jk [v8, v9] [sN, sN] [(0, 1), (1, 1)] [(0, [v8]), (1, [v9])] ja jn rfl (.cons rfl qv (.cons rfl qv PlacesAre.nil)) rfl (.cons (cells_one (qV hv6)) (.cons (cells_one (qV hv7)) CellsAre.nil)) (cX (qz (s := 2) [v8, v9] [sN, sN] [(0, [v8, v9])] jd jv jn rfl (by decide) rfl (.cons rfl CellsAre.nil) rfl ?_)))
   intro v10 hv8
   show XL _ _ _ _ _ _ _ (slH 76 2 v10 1 [v8, v9] :: slH 2 1 v9 1 [ii (-1)] :: intsH 2 v8 ([-1] : List Int) :: cellsH b2 [x1, x2] 39 :: slH 76 2 x2 rs1.length cs1 :: curH .i64 231 cb bsv bs.length :: cellsH b1 [sN, sN] 39 :: L)
   refine yf [_, _] _ _ rfl (fun F15 le15 hz6 => ?_)
   replace ha1 := ha1.mono le15
   replace hc1 := hc1.mono le15
   have hf6 : IntsF F15 v8 ([-1]) := intsH.fz (xs := [-1]) hz6.fz
   show XL _ _ _ _ _ _ _ (slH 76 2 v10 1 [v8, v9] :: intsH 2 v9 ([-1] : List Int) :: cellsH b2 [x1, x2] 39 :: slH 76 2 x2 rs1.length cs1 :: curH .i64 231 cb bsv bs.length :: cellsH b1 [sN, sN] 39 :: L)
   refine yf [_] _ _ rfl (fun F16 le16 hz7 => ?_)
   replace ha1 := ha1.mono le16
   replace hc1 := hc1.mono le16
   replace hf6 := hf6.mono le16
   have hf7 : IntsF F16 v9 ([-1]) := intsH.fz (xs := [-1]) hz7.fz
   refine cX (ye (m := 1) (bytes := 48) (cs := cs1) [_, _] _ [v8, v9] jd typeInfo76 rfl rfl rfl rfl rfl rfl rfl (SlV.own [] rfl) rfl (Rd.lit [] rfl) (qx (qJ (qG hf6)) (qx (qJ (qG hf7)) qQ)) (by (try simp only [List.length_append, List.length_nil, List.length_cons, List.length_singleton]); omega) (by (try simp only [List.length_append, List.length_nil, List.length_cons, List.length_singleton]); omega) ?_)
   intro v11 hs3 hn3 hm3
   have hc4 := PairsC.snoc hc1 hf6 hf7
   refine cX (ql (1) qF rfl jz (by decide) rfl rfl (cX (jJ [_] _ [x1, v11] jz rfl rfl (qJ hs3) rfl rfl rfl (qd (qf (qc (cX (qq [x1, v11] jj qX rfl rfl (Rd.ownN [_] rfl rfl) (cX (qK [_, _, _, _] _ [x1, v11] qX rfl rfl rfl (qx (qJ (qG ha1)) (qx (qJ hs3) qQ)) rfl rfl rfl (qd (qT [_, _] _ _ rfl (fun F17 le17 hz8 => ?_)))))))))))))
   replace ha1 := ha1.mono le17
   replace hc1 := hc1.mono le17
   replace hc4 := hc4.mono le17
   have hf8 : PairsF F17 v11 (rs1 ++ [([-1], [-1])]) := CO.fz hc4 (by first | rfl | omega | (rw [List.length_set]; omega) | (simp; done)) hz8.fz
   refine qu (qs (L' := curH .i64 231 cb bsv bs.length :: L) [.agg #[x1, v11]] (.agg #[x1, v11]) (.cell rfl (jt [x1, v11] jj qX rfl (Rd.ownN [_, _, _] rfl rfl)) .nil) rfl (qn (qn (qn le1 le15) le16) le17) rF (sD (sD (sC (sD sR)))) ?_)
   exact ⟨⟨_, _, _, _, rfl, ha1, hf8, smallS.mk' (by omega) (by (try simp only [List.length_append, List.length_cons, List.length_nil]); omega) (smallR.snoc h_3 (by decide) (by decide))⟩, rfl⟩
  refine qA (qf (qc (cX (qq [x1, x2] jj qX rfl rfl (Rd.ownN [] rfl rfl) (cX (qK [_, _, _] _ [x1, x2] qX rfl rfl rfl (qx (qJ (qG ha1)) (qx (qJ hsl1) qQ)) rfl rfl rfl (qd (qT [_] _ _ rfl (fun F18 le18 hz9 => ?_)))))))))
  replace ha1 := ha1.mono le18
  replace hc1 := hc1.mono le18
  have hf9 : PairsF F18 x2 rs1 := CO.fz hc1 (by first | rfl | omega | (rw [List.length_set]; omega) | (simp; done)) hz9.fz
  refine qu (qs (L' := curH .i64 231 cb bsv bs.length :: L) [.agg #[x1, x2]] (.agg #[x1, x2]) (.cell rfl (jt [x1, x2] jj qX rfl (Rd.ownN [_, _] rfl rfl)) .nil) rfl (qn le1 le18) rF (sD (sC (sD sR))) ?_)
  exact ⟨⟨_, _, _, _, rfl, ha1, hf9, smallS.mk' (by omega) (by (try simp only [List.length_append, List.length_cons, List.length_nil]); omega) h_3⟩, rfl⟩
 refine qA (qf (qc (cX (qq [x1, x2] jj qX rfl rfl (Rd.ownN [] rfl rfl) (cX (qK [_, _, _] _ [x1, x2] qX rfl rfl rfl (qx (qJ (qG ha1)) (qx (qJ hsl1) qQ)) rfl rfl rfl (qd (qT [_] _ _ rfl (fun F19 le19 hz10 => ?_)))))))))
 replace ha1 := ha1.mono le19
 replace hc1 := hc1.mono le19
 have hf10 : PairsF F19 x2 rs1 := CO.fz hc1 (by first | rfl | omega | (rw [List.length_set]; omega) | (simp; done)) hz10.fz
 refine qu (qs (L' := curH .i64 231 cb bsv bs.length :: L) [.agg #[x1, x2]] (.agg #[x1, x2]) (.cell rfl (jt [x1, x2] jj qX rfl (Rd.ownN [_, _] rfl rfl)) .nil) rfl (qn le1 le19) rF (sD (sC (sD sR))) ?_)
 exact ⟨⟨_, _, _, _, rfl, ha1, hf10, smallS.mk' (by omega) (by (try simp only [List.length_append, List.length_cons, List.length_nil]); omega) h_3⟩, rfl⟩
theorem l2FilledW_spec {F : FH} {L : List HP} {sv : Value} {s : List (List Int)} (hs : RowsF F sv s) {tv : Value} {t : List Int} (ht : IntsF F tv t) (hsl : s.length ≤ 4000000) (hsb : ∀ i, (s.getD i []).length ≤ 4000000) (htl : t.length ≤ 4000000) (htg : ∀ k, k < t.length → -4000000 ≤ t.getD k 0) :
    Does prog 210 [.agg #[sv], tv] F (L) (fun v F' L' => (∃ (a : Value) (b : Bool), (.tuple #[a, .bool b] : Value) = v ∧ (SomesF F' a (fun u => u.length ≤ 60))) ∧ L = L') :=
  (l2Filled_spec hs ht hsl hsb htl htg).mono (by rintro _ F' L' le ⟨a, rfl, h, rfl⟩; exact ⟨⟨a, _, rfl, ⟨_, h, fill_le60⟩⟩, rfl⟩)

/- spec.l7DrawTerm -/
set_option maxHeartbeats 1000000 in
set_option maxRecDepth 20000 in
theorem l7DrawTerm_spec {F : FH} {L : List HP} {cb : Nat} {bsv : Value} {bs : List Int} (hbs : BytesF F bsv bs) (hbl : bs.length ≤ 4000000) {arv : Value} {ar : List Int} (har : IntsF F arv ar) {rsv : Value} {rs : List (List Int × List Int)} (hrs : PairsF F rsv rs) (hsm : smallS ar rs) :
    Does prog 216 [ptr cb 0, .agg #[arv, rsv]] F (curH .i64 231 cb bsv bs.length :: L) (fun v F' L' => (∃ (a : Value), (a : Value) = v ∧ (SomesF F' a (fun u => u.length ≤ 2000))) ∧ curH .i64 231 cb bsv bs.length :: L = L') := by
 refine qH func216 rfl rfl rfl ?_
 have hla := hsm.la
 have hlr := hsm.lr
 have hrb := hsm.each
 refine qf (qc (cX (qZ [arv, rsv] rfl rfl ?_)))
 intro b1
 refine qi (sN) rfl (qd (qf (qf (qc (cX (qq [arv, rsv] jj qX rfl rfl (Rd.ownN [] rfl rfl) (cX (qm (args := [.agg #[arv, rsv]]) call84 rfl (sSystemOk_spec har hrs (hla := (by first | assumption | rfl | omega | simp)) (hlr := (by first | assumption | rfl | omega | simp)) (hrb := (by first | assumption | rfl | omega | simp))) ?_))))))))
 rintro _ _ _ _ ⟨rfl, rfl, rfl⟩
 refine cX (jf rfl (qd ?_))
 refine jw (t := !(sysOk ar rs)) rfl (fun h1 => ?_) (fun h1 => ?_)
 ·refine qf (qc (qh (ptr cb 0) rfl (cX (ql (0) qF rfl qw (by decide) rfl rfl (cX (qq [arv] qI qw rfl rfl (Rd.ownN [] rfl rfl) (cX (qm (args := [ptr cb 0, .agg #[arv]]) call227 rfl (jl [_] (l1DrawAny_spec hbs (by omega) har (hal := (by first | assumption | rfl | omega | simp)))) ?_))))))))
  rintro _ F1 _ le1 ⟨⟨x1, rfl, hr1⟩, rfl⟩
  obtain ⟨t1, hr1, q1⟩ := hr1
  replace hbs := hbs.mono le1
  replace har := har.mono le1
  replace hrs := hrs.mono le1
  show XL _ _ _ _ _ _ _ (cellsH b1 [arv, rsv] 39 :: curH .i64 231 cb bsv bs.length :: L)
  refine qi (x1) rfl (qd (qu (qo (qs (L' := curH .i64 231 cb bsv bs.length :: L) [x1] (x1) (.tmp rfl .nil) rfl le1 rF (sD (sC sR)) ?_))))
  exact ⟨⟨_, rfl, ⟨_, hr1, by omega⟩⟩, rfl⟩
 have hsys : sysOk ar rs = true := by simpa using h1
 have hsq := sysOk_iff.1 hsys
 have hso := hsq.1
 refine qA (qf (qf (qc (cX (ql (1) qF rfl jz (by decide) rfl rfl (cX (qk ya rfl (Rd.own [] rfl rfl) (cX (qE jd rfl hrs.slv (cX (jH rfl rfl (qh (.bool (decide (((rs.length : Int) : Int) > 0))) rfl ?_))))))))))))
 by_cases h2 : ((rs.length : Int) : Int) > 0
 ·refine qr (t := 21) rfl (vT h2) (qt (ptr cb 0) rfl (qr (t := 21) rfl (vT h2) (qm (args := [ptr cb 0, ii (2)]) call103 rfl (jl [_] (l1Once_spec (n := 2) hbs (by omega) (hn := (by first | assumption | rfl | omega | simp)))) ?_)))
  rintro _ _ _ _ ⟨⟨rfl, x2, rfl⟩, rfl⟩
  show XL _ _ _ _ _ _ _ (cellsH b1 [arv, rsv] 39 :: curH .i64 231 cb bsv bs.length :: L)
  refine cX (qP (.bool (x2)) (vT h2) rfl (qd ?_))
  refine jw (t := x2) rfl (fun h3 => ?_) (fun h3 => ?_)
  ·refine qf ?_
   refine jM [cellsH b1 [arv, rsv] 39, curH .i64 231 cb bsv bs.length] L 19 [[], [], [], [], [], [], [], [], [], [], [], [10], [10], [10], [], [14], [14], [14], [14]] [[], [], [1], [0, 2], [], [4], [], [], [7], [8], [6, 9], [5, 10], [10, 11], [10, 12], [3, 10, 13], [14], [14, 15], [14, 15], [14, 16]] [] (phiG [pe (ptr cb 0), pe (ptr b1 0), pe (.agg #[arv]), fun FF us v => (.agg #[((aggAt v 0))] : Value) = v ∧ (SomeRowsF FF ((aggAt v 0)) (fun s => s.length ≤ 4 ∧ ∀ i, (s.getD i []).length ≤ 2000)), pe (ptr b1 1), pe rsv, pe (ptr cb 0), pe (ptr b1 1), pe rsv, pe (ii ((rs.length : Int)) : Value), fun FF us v => (ii (((intAt v))) : Value) = v ∧ (0 ≤ ((intAt v)) ∧ (((intAt v)) < ((rs.length : Int)) ∨ ((intAt v)) = 0)), fun FF us v => v = (.pointer (some (elemA rsv (((((intAt (us.getD 0 undef)))).toNat) * 2))) : Value), fun FF us v => v = (.pointer (some (elemA rsv (((((intAt (us.getD 0 undef)))).toNat) * 2))) : Value), fun FF us v => (v : Value) = v ∧ (IntsF FF v ((rs.getD ((((intAt (us.getD 0 undef)))).toNat) ([], [])).1)), fun FF us v => (.tuple #[((tupAt v 0)), .bool (((boolAt (tupAt v 1))))] : Value) = v ∧ (SomesF FF ((tupAt v 0)) (fun u => u.length ≤ 60)), fun FF us v => v = (.tuple #[((tupAt (us.getD 0 undef) 0)), .bool (((boolAt (tupAt (us.getD 0 undef) 1))))] : Value), fun FF us v => v = ((tupAt (us.getD 0 undef) 0)), fun FF us v => v = (.bool (((boolAt (tupAt (us.getD 0 undef) 1)))) : Value), fun FF us v => v = ((tupAt (us.getD 0 undef) 0))]) (ownL []) mixed rfl rfl (by kernel_rfl) (by kernel_rfl) (MonoG.get (m1 (m1 (m1 (mC (fun le h => ⟨h.1, h.2.mono le⟩) (m1 (m1 (m1 (m1 (m1 (m1 (mC (fun le h => ⟨h.1, h.2⟩) (mC (fun le h => h) (mC (fun le h => h) (mC (fun le h => ⟨h.1, h.2.mono le⟩) (mC (fun le h => ⟨h.1, h.2.mono le⟩) (mC (fun le h => h) (mC (fun le h => h) (mC (fun le h => h) (mC (fun le h => h) MonoG.nil)))))))))))))))))))) ?_ ?_
   ·refine gD (fun W Fs R lF z9 => ?_) ?_
    ·refine qj (qt (ptr cb 0) rfl ?_)
     exact ⟨rfl, rfl⟩
    refine gD (fun W Fs R lF z9 => ?_) ?_
    ·refine qj (ql (0) qF rfl qw (by decide) rfl rfl ?_)
     exact ⟨rfl, rfl⟩
    refine gD (fun W Fs R lF z9 => ?_) ?_
    ·replace hbs := hbs.mono lF
     replace har := har.mono lF
     replace hrs := hrs.mono lF
     rw [eS (l := [(1, _)]) ⟨z9 1 rfl, ⟨⟩⟩]
     refine qj (qq [arv] qI qw rfl rfl (Rd.ownN [] rfl rfl) ?_)
     exact ⟨rfl, rfl⟩
    refine gD (fun W Fs R lF z9 => ?_) ?_
    ·replace hbs := hbs.mono lF
     replace har := har.mono lF
     replace hrs := hrs.mono lF
     rw [eS (l := [(0, _), (2, _)]) ⟨z9 0 rfl, z9 2 rfl, ⟨⟩⟩]
     refine qj (qm (args := [ptr cb 0, .agg #[arv]]) call283 rfl (jl [_] (l2Draw_spec hbs (by omega) har (hso := (by first | assumption | rfl | omega | simp)))) ?_)
     rintro _ F6 _ le6 ⟨⟨x7, rfl, hr7⟩, rfl⟩
     replace hbs := hbs.mono le6
     replace har := har.mono le6
     replace hrs := hrs.mono le6
     exact ⟨⟨rfl, hr7⟩, rfl⟩
    refine gD (fun W Fs R lF z9 => ?_) ?_
    ·refine qj (ql (1) qF rfl jz (by decide) rfl rfl ?_)
     exact ⟨rfl, rfl⟩
    refine gD (fun W Fs R lF z9 => ?_) ?_
    ·replace hbs := hbs.mono lF
     replace har := har.mono lF
     replace hrs := hrs.mono lF
     rw [eS (l := [(4, _)]) ⟨z9 4 rfl, ⟨⟩⟩]
     refine qj (qk ya rfl (Rd.own [] rfl rfl) ?_)
     exact ⟨rfl, rfl⟩
    refine gD (fun W Fs R lF z9 => ?_) ?_
    ·refine qj (qt (ptr cb 0) rfl ?_)
     exact ⟨rfl, rfl⟩
    refine gD (fun W Fs R lF z9 => ?_) ?_
    ·refine qj (ql (1) qF rfl jz (by decide) rfl rfl ?_)
     exact ⟨rfl, rfl⟩
    refine gD (fun W Fs R lF z9 => ?_) ?_
    ·replace hbs := hbs.mono lF
     replace har := har.mono lF
     replace hrs := hrs.mono lF
     rw [eS (l := [(7, _)]) ⟨z9 7 rfl, ⟨⟩⟩]
     refine qj (qk ya rfl (Rd.own [] rfl rfl) ?_)
     exact ⟨rfl, rfl⟩
    refine gD (fun W Fs R lF z9 => ?_) ?_
    ·replace hbs := hbs.mono lF
     replace har := har.mono lF
     replace hrs := hrs.mono lF
     rw [eS (l := [(8, _)]) ⟨z9 8 rfl, ⟨⟩⟩]
     refine qj (qE jd rfl hrs.slv ?_)
     exact ⟨rfl, rfl⟩
    refine gD (fun W Fs R lF z9 => ?_) ?_
    ·replace hbs := hbs.mono lF
     replace har := har.mono lF
     replace hrs := hrs.mono lF
     rw [eS (l := [(6, _), (9, _)]) ⟨z9 6 rfl, z9 9 rfl, ⟨⟩⟩]
     refine qj (qm (args := [ptr cb 0, ii ((rs.length : Int))]) jP rfl (jl [_] (l1Below_spec (n := (rs.length : Int)) hbs (by omega) (hn := (by first | assumption | rfl | omega | simp)))) ?_)
     rintro _ _ _ _ ⟨⟨rfl, x8, rfl, hr8⟩, rfl⟩
     exact ⟨⟨rfl, hr8⟩, rfl⟩
    refine gD (fun W Fs R lF z9 => ?_) ?_
    ·obtain ⟨e10, f10_1hx⟩ := z9 10 rfl
     replace hbs := hbs.mono lF
     replace har := har.mono lF
     replace hrs := hrs.mono lF
     rw [eS (l := [(5, _), (10, (ii (((intAt (W 10))))))]) ⟨z9 5 rfl, (e10).symm, ⟨⟩⟩]
     refine qj (qD ((((intAt (W 10)))).toNat) jd jv rfl rfl (by omega) hrs.slv (by omega) rfl ?_)
     exact ⟨rfl, rfl⟩
    refine gD (fun W Fs R lF z9 => ?_) ?_
    ·obtain ⟨e10, f10_1hx⟩ := z9 10 rfl
     have e11 : W 11 = (.pointer (some (elemA rsv (((((intAt (W 10)))).toNat) * 2))) : Value) := z9 11 rfl
     rw [eS (l := [(10, (ii (((intAt (W 10)))))), (11, (.pointer (some (elemA rsv (((((intAt (W 10)))).toNat) * 2)))))]) ⟨(e10).symm, e11, ⟨⟩⟩]
     refine qj (jT (((((intAt (W 10)))).toNat) * 2) ja rfl qv (by decide) rfl rfl ?_)
     exact ⟨rfl, rfl⟩
    refine gD (fun W Fs R lF z9 => ?_) ?_
    ·obtain ⟨e10, f10_1hx⟩ := z9 10 rfl
     have e12 : W 12 = (.pointer (some (elemA rsv (((((intAt (W 10)))).toNat) * 2))) : Value) := z9 12 rfl
     replace hbs := hbs.mono lF
     replace har := har.mono lF
     replace hrs := hrs.mono lF
     rw [eS (l := [(10, (ii (((intAt (W 10)))))), (12, (.pointer (some (elemA rsv (((((intAt (W 10)))).toNat) * 2)))))]) ⟨(e10).symm, e12, ⟨⟩⟩]
     obtain ⟨a3, a4, ha3, ha4, hr9, hr10⟩ := hrs.rd (i := (((intAt (W 10)))).toNat) (by omega)
     refine qj (qk qS rfl (hr9 _) ?_)
     exact ⟨⟨rfl, ha3⟩, rfl⟩
    refine gD (fun W Fs R lF z9 => ?_) ?_
    ·obtain ⟨e3, f3_1hp_a⟩ := z9 3 rfl
     obtain ⟨t3X1_a, f3_1hp_a, q3_1_a0, q3_1_a1⟩ := f3_1hp_a
     obtain ⟨e10, f10_1hx⟩ := z9 10 rfl
     obtain ⟨e13, f13_1ld⟩ : ((W 13) : Value) = (W 13) ∧ (IntsF Fs (W 13) ((rs.getD ((((intAt (W 10)))).toNat) ([], [])).1)) := z9 13 rfl
     replace hbs := hbs.mono lF
     replace har := har.mono lF
     rw [eS (l := [(3, (.agg #[((aggAt (W 3) 0))])), (10, (ii (((intAt (W 10)))))), (13, (W 13))]) ⟨(e3).symm, (e10).symm, (e13).symm, ⟨⟩⟩]
     refine qj (qm (args := [.agg #[((aggAt (W 3) 0))], (W 13)]) call210 rfl (l2FilledW_spec f3_1hp_a f13_1ld (hsl := (by first | assumption | rfl | omega | simp)) (hsb := (fun i => Nat.le_trans (by first | exact q3_1_a1 i | exact q3_2_a1 i) (show 2000 ≤ 4000000 by omega))) (htl := ((hrb _ (by omega)).1)) (htg := (fun k hk => Int.le_trans (show (-4000000 : Int) ≤ -24 by omega) (termOk_ge (ruleOk_iff.1 (hsq.2.2 _ (by omega))).left hk)))) ?_)
     rintro _ F8 _ le8 ⟨⟨x9, x10, rfl, hr11⟩, rfl⟩
     replace hbs := hbs.mono le8
     replace har := har.mono le8
     replace f3_1hp_a := f3_1hp_a.mono le8
     replace f13_1ld := f13_1ld.mono le8
     exact ⟨⟨rfl, hr11⟩, rfl⟩
    refine gD (fun W Fs R lF z9 => ?_) ?_
    ·obtain ⟨e14, f14_1hp_a⟩ := z9 14 rfl
     obtain ⟨t14X1_a, f14_1hp_a, q14_1_a0⟩ := f14_1hp_a
     rw [eS (l := [(14, (.tuple #[((tupAt (W 14) 0)), .bool (((boolAt (tupAt (W 14) 1))))]))]) ⟨(e14).symm, ⟨⟩⟩]
     refine qj (qt (.tuple #[((tupAt (W 14) 0)), .bool (((boolAt (tupAt (W 14) 1))))]) rfl ?_)
     exact ⟨rfl, rfl⟩
    refine gD (fun W Fs R lF z9 => ?_) ?_
    ·obtain ⟨e14, f14_1hp_a⟩ := z9 14 rfl
     obtain ⟨t14X1_a, f14_1hp_a, q14_1_a0⟩ := f14_1hp_a
     have e15 : W 15 = (.tuple #[((tupAt (W 14) 0)), .bool (((boolAt (tupAt (W 14) 1))))] : Value) := z9 15 rfl
     rw [eS (l := [(14, (.tuple #[((tupAt (W 14) 0)), .bool (((boolAt (tupAt (W 14) 1))))])), (15, (.tuple #[((tupAt (W 14) 0)), .bool (((boolAt (tupAt (W 14) 1))))]))]) ⟨(e14).symm, e15, ⟨⟩⟩]
     refine qj (qM (((tupAt (W 14) 0))) rfl rfl ?_)
     exact ⟨rfl, rfl⟩
    refine gD (fun W Fs R lF z9 => ?_) ?_
    ·obtain ⟨e14, f14_1hp_a⟩ := z9 14 rfl
     obtain ⟨t14X1_a, f14_1hp_a, q14_1_a0⟩ := f14_1hp_a
     have e15 : W 15 = (.tuple #[((tupAt (W 14) 0)), .bool (((boolAt (tupAt (W 14) 1))))] : Value) := z9 15 rfl
     rw [eS (l := [(14, (.tuple #[((tupAt (W 14) 0)), .bool (((boolAt (tupAt (W 14) 1))))])), (15, (.tuple #[((tupAt (W 14) 0)), .bool (((boolAt (tupAt (W 14) 1))))]))]) ⟨(e14).symm, e15, ⟨⟩⟩]
     refine qj (qM (.bool (((boolAt (tupAt (W 14) 1))))) rfl rfl ?_)
     exact ⟨rfl, rfl⟩
    refine gD (fun W Fs R lF z9 => ?_) ?_
    ·obtain ⟨e14, f14_1hp_a⟩ := z9 14 rfl
     obtain ⟨t14X1_a, f14_1hp_a, q14_1_a0⟩ := f14_1hp_a
     have e16 : W 16 = ((tupAt (W 14) 0)) := z9 16 rfl
     rw [eS (l := [(14, (.tuple #[((tupAt (W 14) 0)), .bool (((boolAt (tupAt (W 14) 1))))])), (16, ((tupAt (W 14) 0)))]) ⟨(e14).symm, e16, ⟨⟩⟩]
     refine qj (XOp.assign (((tupAt (W 14) 0))) rfl ?_)
     exact ⟨rfl, rfl⟩
    exact stepsG.nil
   intro W F9 le9 hphi
   obtain ⟨e3, f3_1hp_a⟩ := hphi 3 (by decide)
   obtain ⟨t3X1_a, f3_1hp_a, q3_1_a0, q3_1_a1⟩ := f3_1hp_a
   obtain ⟨e10, f10_1hx⟩ := hphi 10 (by decide)
   have e11 : W 11 = (.pointer (some (elemA rsv (((((intAt (W 10)))).toNat) * 2))) : Value) := hphi 11 (by decide)
   have e12 : W 12 = (.pointer (some (elemA rsv (((((intAt (W 10)))).toNat) * 2))) : Value) := hphi 12 (by decide)
   obtain ⟨e13, f13_1ld⟩ : ((W 13) : Value) = (W 13) ∧ (IntsF F9 (W 13) ((rs.getD ((((intAt (W 10)))).toNat) ([], [])).1)) := hphi 13 (by decide)
   obtain ⟨e14, f14_1hp_a⟩ := hphi 14 (by decide)
   obtain ⟨t14X1_a, f14_1hp_a, q14_1_a0⟩ := f14_1hp_a
   have e15 : W 15 = (.tuple #[((tupAt (W 14) 0)), .bool (((boolAt (tupAt (W 14) 1))))] : Value) := hphi 15 (by decide)
   have e16 : W 16 = ((tupAt (W 14) 0)) := hphi 16 (by decide)
   have e17 : W 17 = (.bool (((boolAt (tupAt (W 14) 1)))) : Value) := hphi 17 (by decide)
   have e18 : W 18 = ((tupAt (W 14) 0)) := hphi 18 (by decide)
   generalize hu1 : ((aggAt (W 3) 0)) = u1 at e3 f3_1hp_a e10 f10_1hx e11 e12 e13 f13_1ld e14 f14_1hp_a e15 e16 e17 e18
   generalize hu2 : (intAt (W 10)) = u2 at e3 f3_1hp_a e10 f10_1hx e11 e12 e13 f13_1ld e14 f14_1hp_a e15 e16 e17 e18
   generalize hu3 : (W 13) = u3 at e3 f3_1hp_a e10 f10_1hx e11 e12 e13 f13_1ld e14 f14_1hp_a e15 e16 e17 e18
   generalize hu4 : ((tupAt (W 14) 0)) = u4 at e3 f3_1hp_a e10 f10_1hx e11 e12 e13 f13_1ld e14 f14_1hp_a e15 e16 e17 e18
   generalize hu5 : (boolAt (tupAt (W 14) 1)) = u5 at e3 f3_1hp_a e10 f10_1hx e11 e12 e13 f13_1ld e14 f14_1hp_a e15 e16 e17 e18
   rw [eS (l := [(10, (ii ((u2)))), (14, (.tuple #[u4, .bool ((u5))])), (17, (.bool ((u5)))), (18, u4)]) ⟨(e10).symm, (e14).symm, e17, e18, ⟨⟩⟩]
   replace hbs := hbs.mono le9
   replace har := har.mono le9
   show XL _ _ _ _ _ _ _ (cellsH b1 [arv, rsv] 39 :: curH .i64 231 cb bsv bs.length :: L)
   refine qi (.bool ((u5))) rfl (qd (qf (qc (qh (.bool ((u5))) rfl (qd ?_)))))
   refine jw (t := (u5)) rfl (fun h4 => ?_) (fun h4 => ?_)
   ·refine qf (qf (qc (qh (ptr cb 0) rfl (cX (qm (args := [ptr cb 0, ii (2)]) call103 rfl (jl [_] (l1Once_spec (n := 2) hbs (by omega) (hn := (by first | assumption | rfl | omega | simp)))) ?_)))))
    rintro _ _ _ _ ⟨⟨rfl, x11, rfl⟩, rfl⟩
    show XL _ _ _ _ _ _ _ (cellsH b1 [arv, rsv] 39 :: curH .i64 231 cb bsv bs.length :: L)
    refine qd ?_
    refine jw (t := x11) rfl (fun h5 => ?_) (fun h5 => ?_)
    ·refine qf (qc (qh (u4) rfl (qi (u4) rfl (qd (qu (qo (qo (qs (L' := curH .i64 231 cb bsv bs.length :: L) [u4] (u4) (.tmp rfl .nil) rfl le9 rF (sD (sC sR)) ?_))))))))
     exact ⟨⟨_, rfl, ⟨_, f14_1hp_a, by omega⟩⟩, rfl⟩
    refine qA (qf (qc (qh (ptr cb 0) rfl (cX (ql (0) qF rfl qw (by decide) rfl rfl (cX (qq [arv] qI qw rfl rfl (Rd.ownN [] rfl rfl) (cX (qm (args := [ptr cb 0, .agg #[arv], ii ((3 : Nat) : Int), ii (2)]) call268 rfl (Does.atO [_] (l1DrawTerm_spec 3 (vs := 2) hbs (by omega) har (hso := (by first | assumption | rfl | omega | simp)) (hdp := (by first | assumption | rfl | omega | simp)) (hvs := (by first | assumption | rfl | omega | simp)))) ?_)))))))))
    rintro _ F11 _ le11 ⟨x13, ⟨rfl, hsl1⟩, rfl⟩
    replace hbs := hbs.mono le11
    replace har := har.mono le11
    replace f14_1hp_a := f14_1hp_a.mono le11
    show XL _ _ _ _ _ _ _ (drawnH 2 x13 (fun t => goodT ar t ∧ 1 ≤ t.length ∧ t.length ≤ szT 3) :: cellsH b1 [arv, rsv] 39 :: curH .i64 231 cb bsv bs.length :: L)
    refine XL.undraw [] rfl (fun t2 hq9 => ?_)
    obtain ⟨q2, q3, q4⟩ := hq9
    show XL _ _ _ _ _ _ _ (intsH 2 x13 t2 :: cellsH b1 [arv, rsv] 39 :: curH .i64 231 cb bsv bs.length :: L)
    refine qi (x13) rfl (yf [] _ _ rfl (fun F12 le12 hz1 => ?_))
    replace hbs := hbs.mono le12
    replace har := har.mono le12
    replace f14_1hp_a := f14_1hp_a.mono le12
    have hf1 : IntsF F12 x13 t2 := intsH.fz (xs := t2) hz1.fz
    have hz8 : szT 3 = 40 := rfl
    have hou : termOk ar t2 = true := goodT.ok hso (by omega) q2
    refine qd (qf ?_)
    refine jM [cellsH b1 [arv, rsv] 39, curH .i64 231 cb bsv bs.length] L 13 [[], [], [], [], [], [], [], [], [6], [6, 8], [8], [6], [8]] [[], [0], [], [], [], [4], [3, 5], [], [1, 2, 6, 7], [6, 8], [6, 8, 9], [6, 8, 9], [6, 8, 10]] [] (phiG [pe (ptr b1 0), pe (.agg #[arv]), pe x13, pe (ptr cb 0), pe x13, pe (ii ((t2.length : Int)) : Value), fun FF us v => (ii (((intAt v))) : Value) = v ∧ (0 ≤ ((intAt v)) ∧ (((intAt v)) < ((t2.length : Int)) ∨ ((intAt v)) = 0)), pe u4, fun FF us v => (.tuple #[((tupAt v 0)), .bool ((putL ar t2 ((((intAt (us.getD 0 undef)))).toNat) t14X1_a).isSome)] : Value) = v ∧ (IntsF FF ((tupAt v 0)) ((putL ar t2 ((((intAt (us.getD 0 undef)))).toNat) t14X1_a).getD [])), fun FF us v => v = (.tuple #[((tupAt (us.getD 1 undef) 0)), .bool ((putL ar t2 ((((intAt (us.getD 0 undef)))).toNat) t14X1_a).isSome)] : Value), fun FF us v => v = ((tupAt (us.getD 0 undef) 0)), fun FF us v => v = (.bool ((putL ar t2 ((((intAt (us.getD 0 undef)))).toNat) t14X1_a).isSome) : Value), fun FF us v => v = ((tupAt (us.getD 0 undef) 0))]) (ownL []) mixed rfl rfl (by kernel_rfl) (by kernel_rfl) (MonoG.get (m1 (m1 (m1 (m1 (m1 (m1 (mC (fun le h => ⟨h.1, h.2⟩) (m1 (mC (fun le h => ⟨h.1, h.2.mono le⟩) (mC (fun le h => h) (mC (fun le h => h) (mC (fun le h => h) (mC (fun le h => h) MonoG.nil)))))))))))))) ?_ ?_
    ·refine gD (fun W Fs R lF z9 => ?_) ?_
     ·refine qj (ql (0) qF rfl qw (by decide) rfl rfl ?_)
      exact ⟨rfl, rfl⟩
     refine gD (fun W Fs R lF z9 => ?_) ?_
     ·replace hbs := hbs.mono lF
      replace har := har.mono lF
      replace f14_1hp_a := f14_1hp_a.mono lF
      replace hf1 := hf1.mono lF
      rw [eS (l := [(0, _)]) ⟨z9 0 rfl, ⟨⟩⟩]
      refine qj (qq [arv] qI qw rfl rfl (Rd.ownN [] rfl rfl) ?_)
      exact ⟨rfl, rfl⟩
     refine gD (fun W Fs R lF z9 => ?_) ?_
     ·refine qj (qt (x13) rfl ?_)
      exact ⟨rfl, rfl⟩
     refine gD (fun W Fs R lF z9 => ?_) ?_
     ·refine qj (qt (ptr cb 0) rfl ?_)
      exact ⟨rfl, rfl⟩
     refine gD (fun W Fs R lF z9 => ?_) ?_
     ·refine qj (qt (x13) rfl ?_)
      exact ⟨rfl, rfl⟩
     refine gD (fun W Fs R lF z9 => ?_) ?_
     ·replace hbs := hbs.mono lF
      replace har := har.mono lF
      replace f14_1hp_a := f14_1hp_a.mono lF
      replace hf1 := hf1.mono lF
      rw [eS (l := [(4, _)]) ⟨z9 4 rfl, ⟨⟩⟩]
      refine qj (qE qg rfl hf1.slv ?_)
      exact ⟨rfl, rfl⟩
     refine gD (fun W Fs R lF z9 => ?_) ?_
     ·replace hbs := hbs.mono lF
      replace har := har.mono lF
      replace f14_1hp_a := f14_1hp_a.mono lF
      replace hf1 := hf1.mono lF
      rw [eS (l := [(3, _), (5, _)]) ⟨z9 3 rfl, z9 5 rfl, ⟨⟩⟩]
      refine qj (qm (args := [ptr cb 0, ii ((t2.length : Int))]) jP rfl (jl [_] (l1Below_spec (n := (t2.length : Int)) hbs (by omega) (hn := (by first | assumption | rfl | omega | simp)))) ?_)
      rintro _ _ _ _ ⟨⟨rfl, x16, rfl, hr14⟩, rfl⟩
      exact ⟨⟨rfl, hr14⟩, rfl⟩
     refine gD (fun W Fs R lF z9 => ?_) ?_
     ·refine qj (qt (u4) rfl ?_)
      exact ⟨rfl, rfl⟩
     refine gD (fun W Fs R lF z9 => ?_) ?_
     ·obtain ⟨e6, f6_2hx⟩ := z9 6 rfl
      replace hbs := hbs.mono lF
      replace har := har.mono lF
      replace f14_1hp_a := f14_1hp_a.mono lF
      replace hf1 := hf1.mono lF
      rw [eS (l := [(1, _), (2, _), (6, (ii (((intAt (W 6)))))), (7, _)]) ⟨z9 1 rfl, z9 2 rfl, (e6).symm, z9 7 rfl, ⟨⟩⟩]
      refine qj (qm (args := [.agg #[arv], x13, ii (((((intAt (W 6)))).toNat : Nat) : Int), u4]) call211 (by rw [show (((((intAt (W 6)))).toNat : Nat) : Int) = ((intAt (W 6))) from by omega]; rfl) (l3Put_spec (p := (((intAt (W 6)))).toNat) har hf1 f14_1hp_a (ho := (hou)) (hp := (by first | assumption | rfl | omega | simp)) (hul := (by first | assumption | rfl | omega | simp))) ?_)
      rintro _ F16 _ le16 ⟨x17, rfl, hr15, rfl⟩
      replace hbs := hbs.mono le16
      replace har := har.mono le16
      exact ⟨⟨rfl, hr15⟩, rfl⟩
     refine gD (fun W Fs R lF z9 => ?_) ?_
     ·obtain ⟨e6, f6_2hx⟩ := z9 6 rfl
      obtain ⟨e8, f8_2hr⟩ : (.tuple #[((tupAt (W 8) 0)), .bool ((putL ar t2 ((((intAt (W 6)))).toNat) t14X1_a).isSome)] : Value) = (W 8) ∧ (IntsF Fs ((tupAt (W 8) 0)) ((putL ar t2 ((((intAt (W 6)))).toNat) t14X1_a).getD [])) := z9 8 rfl
      rw [eS (l := [(6, (ii (((intAt (W 6)))))), (8, (.tuple #[((tupAt (W 8) 0)), .bool ((putL ar t2 ((((intAt (W 6)))).toNat) t14X1_a).isSome)]))]) ⟨(e6).symm, (e8).symm, ⟨⟩⟩]
      refine qj (qt (.tuple #[((tupAt (W 8) 0)), .bool ((putL ar t2 ((((intAt (W 6)))).toNat) t14X1_a).isSome)]) rfl ?_)
      exact ⟨rfl, rfl⟩
     refine gD (fun W Fs R lF z9 => ?_) ?_
     ·obtain ⟨e6, f6_2hx⟩ := z9 6 rfl
      obtain ⟨e8, f8_2hr⟩ : (.tuple #[((tupAt (W 8) 0)), .bool ((putL ar t2 ((((intAt (W 6)))).toNat) t14X1_a).isSome)] : Value) = (W 8) ∧ (IntsF Fs ((tupAt (W 8) 0)) ((putL ar t2 ((((intAt (W 6)))).toNat) t14X1_a).getD [])) := z9 8 rfl
      have e9 : W 9 = (.tuple #[((tupAt (W 8) 0)), .bool ((putL ar t2 ((((intAt (W 6)))).toNat) t14X1_a).isSome)] : Value) := z9 9 rfl
      rw [eS (l := [(6, (ii (((intAt (W 6)))))), (8, (.tuple #[((tupAt (W 8) 0)), .bool ((putL ar t2 ((((intAt (W 6)))).toNat) t14X1_a).isSome)])), (9, (.tuple #[((tupAt (W 8) 0)), .bool ((putL ar t2 ((((intAt (W 6)))).toNat) t14X1_a).isSome)]))]) ⟨(e6).symm, (e8).symm, e9, ⟨⟩⟩]
      refine qj (qM (((tupAt (W 8) 0))) rfl rfl ?_)
      exact ⟨rfl, rfl⟩
     refine gD (fun W Fs R lF z9 => ?_) ?_
     ·obtain ⟨e6, f6_2hx⟩ := z9 6 rfl
      obtain ⟨e8, f8_2hr⟩ : (.tuple #[((tupAt (W 8) 0)), .bool ((putL ar t2 ((((intAt (W 6)))).toNat) t14X1_a).isSome)] : Value) = (W 8) ∧ (IntsF Fs ((tupAt (W 8) 0)) ((putL ar t2 ((((intAt (W 6)))).toNat) t14X1_a).getD [])) := z9 8 rfl
      have e9 : W 9 = (.tuple #[((tupAt (W 8) 0)), .bool ((putL ar t2 ((((intAt (W 6)))).toNat) t14X1_a).isSome)] : Value) := z9 9 rfl
      rw [eS (l := [(6, (ii (((intAt (W 6)))))), (8, (.tuple #[((tupAt (W 8) 0)), .bool ((putL ar t2 ((((intAt (W 6)))).toNat) t14X1_a).isSome)])), (9, (.tuple #[((tupAt (W 8) 0)), .bool ((putL ar t2 ((((intAt (W 6)))).toNat) t14X1_a).isSome)]))]) ⟨(e6).symm, (e8).symm, e9, ⟨⟩⟩]
      refine qj (qM (.bool ((putL ar t2 ((((intAt (W 6)))).toNat) t14X1_a).isSome)) rfl rfl ?_)
      exact ⟨rfl, rfl⟩
     refine gD (fun W Fs R lF z9 => ?_) ?_
     ·obtain ⟨e6, f6_2hx⟩ := z9 6 rfl
      obtain ⟨e8, f8_2hr⟩ : (.tuple #[((tupAt (W 8) 0)), .bool ((putL ar t2 ((((intAt (W 6)))).toNat) t14X1_a).isSome)] : Value) = (W 8) ∧ (IntsF Fs ((tupAt (W 8) 0)) ((putL ar t2 ((((intAt (W 6)))).toNat) t14X1_a).getD [])) := z9 8 rfl
      have e10 : W 10 = ((tupAt (W 8) 0)) := z9 10 rfl
      rw [eS (l := [(6, (ii (((intAt (W 6)))))), (8, (.tuple #[((tupAt (W 8) 0)), .bool ((putL ar t2 ((((intAt (W 6)))).toNat) t14X1_a).isSome)])), (10, ((tupAt (W 8) 0)))]) ⟨(e6).symm, (e8).symm, e10, ⟨⟩⟩]
      refine qj (XOp.assign (((tupAt (W 8) 0))) rfl ?_)
      exact ⟨rfl, rfl⟩
     exact stepsG.nil
    intro W F17 le17 hphi
    obtain ⟨e6, f6_2hx⟩ := hphi 6 (by decide)
    obtain ⟨e8, f8_2hr⟩ : (.tuple #[((tupAt (W 8) 0)), .bool ((putL ar t2 ((((intAt (W 6)))).toNat) t14X1_a).isSome)] : Value) = (W 8) ∧ (IntsF F17 ((tupAt (W 8) 0)) ((putL ar t2 ((((intAt (W 6)))).toNat) t14X1_a).getD [])) := hphi 8 (by decide)
    have e9 : W 9 = (.tuple #[((tupAt (W 8) 0)), .bool ((putL ar t2 ((((intAt (W 6)))).toNat) t14X1_a).isSome)] : Value) := hphi 9 (by decide)
    have e10 : W 10 = ((tupAt (W 8) 0)) := hphi 10 (by decide)
    have e11 : W 11 = (.bool ((putL ar t2 ((((intAt (W 6)))).toNat) t14X1_a).isSome) : Value) := hphi 11 (by decide)
    have e12 : W 12 = ((tupAt (W 8) 0)) := hphi 12 (by decide)
    generalize hu6 : (intAt (W 6)) = u6 at e6 f6_2hx e8 f8_2hr e9 e10 e11 e12
    generalize hu7 : ((tupAt (W 8) 0)) = u7 at e6 f6_2hx e8 f8_2hr e9 e10 e11 e12
    rw [eS (l := [(6, (ii ((u6)))), (8, (.tuple #[u7, .bool ((putL ar t2 (((u6)).toNat) t14X1_a).isSome)])), (11, (.bool ((putL ar t2 (((u6)).toNat) t14X1_a).isSome))), (12, u7)]) ⟨(e6).symm, (e8).symm, e11, e12, ⟨⟩⟩]
    replace hbs := hbs.mono le17
    replace har := har.mono le17
    show XL _ _ _ _ _ _ _ (cellsH b1 [arv, rsv] 39 :: curH .i64 231 cb bsv bs.length :: L)
    refine qi (.bool ((putL ar t2 (((u6)).toNat) t14X1_a).isSome)) rfl (qd (qf (qc (qh (.bool ((putL ar t2 (((u6)).toNat) t14X1_a).isSome)) rfl (qd ?_)))))
    refine jw (t := (putL ar t2 (((u6)).toNat) t14X1_a).isSome) rfl (fun h6 => ?_) (fun h6 => ?_)
    ·refine qf (qc (qh (u7) rfl (qi (u7) rfl (qd (qu (qo (qs (L' := curH .i64 231 cb bsv bs.length :: L) [u7] (u7) (.tmp rfl .nil) rfl (qn (qn (qn le9 le11) le12) le17) rF (sD (sC sR)) ?_)))))))
     exact ⟨⟨_, rfl, ⟨_, f8_2hr, Nat.le_trans put_le60 (by omega)⟩⟩, rfl⟩
    refine qA (qf (qc (qh (ptr cb 0) rfl (cX (ql (0) qF rfl qw (by decide) rfl rfl (cX (qq [arv] qI qw rfl rfl (Rd.ownN [] rfl rfl) (cX (qm (args := [ptr cb 0, .agg #[arv]]) call227 rfl (jl [_] (l1DrawAny_spec hbs (by omega) har (hal := (by first | assumption | rfl | omega | simp)))) ?_)))))))))
    rintro _ F18 _ le18 ⟨⟨x18, rfl, hr16⟩, rfl⟩
    obtain ⟨t3, hr16, q5⟩ := hr16
    replace hbs := hbs.mono le18
    replace har := har.mono le18
    show XL _ _ _ _ _ _ _ (cellsH b1 [arv, rsv] 39 :: curH .i64 231 cb bsv bs.length :: L)
    refine qi (x18) rfl (qd (qu (qs (L' := curH .i64 231 cb bsv bs.length :: L) [x18] (x18) (.tmp rfl .nil) rfl (qn (qn (qn (qn le9 le11) le12) le17) le18) rF (sD (sC sR)) ?_)))
    exact ⟨⟨_, rfl, ⟨_, hr16, by omega⟩⟩, rfl⟩
   refine qA (qf (qc (qh (ptr cb 0) rfl (cX (ql (0) qF rfl qw (by decide) rfl rfl (cX (qq [arv] qI qw rfl rfl (Rd.ownN [] rfl rfl) (cX (qm (args := [ptr cb 0, .agg #[arv]]) call227 rfl (jl [_] (l1DrawAny_spec hbs (by omega) har (hal := (by first | assumption | rfl | omega | simp)))) ?_)))))))))
   rintro _ F19 _ le19 ⟨⟨x19, rfl, hr17⟩, rfl⟩
   obtain ⟨t4, hr17, q6⟩ := hr17
   replace hbs := hbs.mono le19
   replace har := har.mono le19
   show XL _ _ _ _ _ _ _ (cellsH b1 [arv, rsv] 39 :: curH .i64 231 cb bsv bs.length :: L)
   refine qi (x19) rfl (qd (qu (qs (L' := curH .i64 231 cb bsv bs.length :: L) [x19] (x19) (.tmp rfl .nil) rfl (qn le9 le19) rF (sD (sC sR)) ?_)))
   exact ⟨⟨_, rfl, ⟨_, hr17, by omega⟩⟩, rfl⟩
  refine qA (qf (qc (qh (ptr cb 0) rfl (cX (ql (0) qF rfl qw (by decide) rfl rfl (cX (qq [arv] qI qw rfl rfl (Rd.ownN [] rfl rfl) (cX (qm (args := [ptr cb 0, .agg #[arv]]) call227 rfl (jl [_] (l1DrawAny_spec hbs (by omega) har (hal := (by first | assumption | rfl | omega | simp)))) ?_)))))))))
  rintro _ F20 _ le20 ⟨⟨x20, rfl, hr18⟩, rfl⟩
  obtain ⟨t5, hr18, q7⟩ := hr18
  replace hbs := hbs.mono le20
  replace har := har.mono le20
  show XL _ _ _ _ _ _ _ (cellsH b1 [arv, rsv] 39 :: curH .i64 231 cb bsv bs.length :: L)
  refine qi (x20) rfl (qd (qu (qs (L' := curH .i64 231 cb bsv bs.length :: L) [x20] (x20) (.tmp rfl .nil) rfl le20 rF (sD (sC sR)) ?_)))
  exact ⟨⟨_, rfl, ⟨_, hr18, by omega⟩⟩, rfl⟩
 refine qp (t := 21) rfl (vF h2) (qp (t := 21) rfl (vF h2) (cX (qN (.bool (false)) (vF h2) rfl (qd (X.condF rfl (qA (qf (qc (qh (ptr cb 0) rfl (cX (ql (0) qF rfl qw (by decide) rfl rfl (cX (qq [arv] qI qw rfl rfl (Rd.ownN [] rfl rfl) (cX (qm (args := [ptr cb 0, .agg #[arv]]) call227 rfl (jl [_] (l1DrawAny_spec hbs (by omega) har (hal := (by first | assumption | rfl | omega | simp)))) ?_)))))))))))))))
 rintro _ F21 _ le21 ⟨⟨x21, rfl, hr19⟩, rfl⟩
 obtain ⟨t6, hr19, q8⟩ := hr19
 show XL _ _ _ _ _ _ _ (cellsH b1 [arv, rsv] 39 :: curH .i64 231 cb bsv bs.length :: L)
 refine qi (x21) rfl (qd (qu (qs (L' := curH .i64 231 cb bsv bs.length :: L) [x21] (x21) (.tmp rfl .nil) rfl le21 rF (sD (sC sR)) ?_)))
 exact ⟨⟨_, rfl, ⟨_, hr19, by omega⟩⟩, rfl⟩
end Go.Proofs.YtenomejgjcpbdaaGreat
set_option linter.unusedSimpArgs false
set_option linter.unusedVariables false
namespace Go.Proofs.YtenomejgjcpbdaaGreat
open Go X M Tryz

/- spec.l1Min -/
theorem l1Min_spec {F : FH} {L : List HP} {a : Int} {b : Int} :
    Does prog 271 [ii (a), ii (b)] F (L) (fun v F' L' => (ii (min a b) : Value) = v ∧ F = F' ∧ L = L') := by
 refine qH func271 rfl rfl rfl (qf (qc (qi (ii (0)) rfl (qd (qf (qf (qc (qh (ii (a)) rfl (qh (ii (b)) rfl (cX (jh rfl rfl (qd ?_))))))))))))
 refine qC (p := (a : Int) < b) rfl (fun h1 => ?_) (fun h1 => ?_)
 ·refine qf (qc (qh (ii (a)) rfl (qi (ii (a)) rfl (qd (qu (qo (qs (L' := L) [ii (a)] (ii (a)) (.tmp rfl .nil) rfl rF rF sR ?_)))))))
  exact ⟨(vI (by omega)), rfl, rfl⟩
 refine qA (qf (qc (qh (ii (b)) rfl (qi (ii (b)) rfl (qd (qu (qs (L' := L) [ii (b)] (ii (b)) (.tmp rfl .nil) rfl rF rF sR ?_)))))))
 exact ⟨(vI (by omega)), rfl, rfl⟩

/- spec.l1Num -/
theorem l1Num_spec {F : FH} {L : List HP} {cb : Nat} {bsv : Value} {bs : List Int} (hbs : BytesF F bsv bs) (hbl : bs.length ≤ 4000000) {m : Int} (hm : 0 ≤ m ∧ m ≤ 1000) :
    Does prog 191 [ptr cb 0, ii (m)] F (curH .i64 231 cb bsv bs.length :: L) (fun v F' L' => (F = F' ∧ ∃ (x : Int), (ii (x) : Value) = v) ∧ curH .i64 231 cb bsv bs.length :: L = L') := by
 refine qH func191 rfl rfl rfl (qf (qc (qi (ii (0)) rfl (qd (qf (qf (qc (qh (ptr cb 0) rfl (cX (qm (args := [ptr cb 0, ii (10)]) call103 rfl (jl [] (l1Once_spec (n := 10) hbs (by omega) (hn := (by first | assumption | rfl | omega | simp)))) ?_))))))))))
 rintro _ _ _ _ ⟨⟨rfl, x1, rfl⟩, rfl⟩
 show XL _ _ _ _ _ _ _ (curH .i64 231 cb bsv bs.length :: L)
 refine qd ?_
 refine jw (t := x1) rfl (fun h1 => ?_) (fun h1 => ?_)
 ·refine qf (qc (qh (ii (m)) rfl (qh (ii (m)) rfl (cX (qU (m + 1) rfl rfl (by omega) (by omega) (qh (ptr cb 0) rfl (cX (qm (args := [ptr cb 0]) call270 rfl (jl [] (l1Odd_spec hbs (by omega))) ?_))))))))
  rintro _ _ _ _ ⟨⟨rfl, x2, rfl⟩, rfl⟩
  show XL _ _ _ _ _ _ _ (curH .i64 231 cb bsv bs.length :: L)
  refine cX (qz (s := 1) [ii (-1), ii (m), ii (m + 1), ii (x2)] [ii (0)] [(0, [ii (-1)]), (1, [ii (m)]), (2, [ii (m + 1)]), (3, [ii (x2)])] qg qy qO rfl (by decide) rfl (.cons rfl (.cons rfl (.cons rfl (.cons rfl CellsAre.nil)))) rfl ?_)
  intro v1 hv1
  show XL _ _ _ _ _ _ _ (intsH 2 v1 ([-1, m, m + 1, x2] : List Int) :: curH .i64 231 cb bsv bs.length :: L)
  have hl4 : ([-1, m, m + 1, x2] : List Int).length = 4 := rfl
  refine qh (ptr cb 0) rfl (cX (qm (args := [ptr cb 0, ii (4)]) jP rfl (jl [_] (l1Below_spec (n := 4) hbs (by omega) (hn := (by first | assumption | rfl | omega | simp)))) ?_))
  rintro _ _ _ _ ⟨⟨rfl, x3, rfl, hr1⟩, rfl⟩
  show XL _ _ _ _ _ _ _ (intsH 2 v1 ([-1, m, m + 1, x2] : List Int) :: curH .i64 231 cb bsv bs.length :: L)
  refine cX (qD ((x3).toNat) qg qy rfl rfl (by omega) (intsH.slv [] rfl) (by omega) (Nat.mul_one _) (cX (qk je rfl (intsH.rd [] rfl (by omega)) (qi (ii (([-1, m, m + 1, x2]).getD ((x3).toNat) 0)) rfl (qd (qu (qo (qs (L' := curH .i64 231 cb bsv bs.length :: L) [ii (([-1, m, m + 1, x2]).getD ((x3).toNat) 0)] (ii (([-1, m, m + 1, x2]).getD ((x3).toNat) 0)) (.tmp rfl .nil) rfl rF rF (sD (sC sR)) ?_))))))))
  exact ⟨⟨rfl, _, rfl⟩, rfl⟩
 refine qA (qf (qf (qc (qh (ptr cb 0) rfl (cX (qm (args := [ptr cb 0, ii (2)]) call103 rfl (jl [] (l1Once_spec (n := 2) hbs (by omega) (hn := (by first | assumption | rfl | omega | simp)))) ?_))))))
 rintro _ _ _ _ ⟨⟨rfl, x4, rfl⟩, rfl⟩
 show XL _ _ _ _ _ _ _ (curH .i64 231 cb bsv bs.length :: L)
 refine qd ?_
 refine jw (t := x4) rfl (fun h2 => ?_) (fun h2 => ?_)
 ·refine qf (qc (qh (ptr cb 0) rfl (qh (ii (m)) rfl (cX (qm (args := [ii (m), ii (4)]) call271 rfl (l1Min_spec (a := m) (b := 4)) ?_)))))
  rintro _ _ _ _ ⟨rfl, rfl, rfl⟩
  refine cX (qU ((min m 4) + 1) rfl rfl (by omega) (by omega) (cX (qm (args := [ptr cb 0, ii ((min m 4) + 1)]) jP rfl (jl [] (l1Below_spec (n := (min m 4) + 1) hbs (by omega) (hn := (by first | assumption | rfl | omega | simp)))) ?_)))
  rintro _ _ _ _ ⟨⟨rfl, x5, rfl, hr2⟩, rfl⟩
  show XL _ _ _ _ _ _ _ (curH .i64 231 cb bsv bs.length :: L)
  refine qi (ii (x5)) rfl (qd (qu (qo (qs (L' := curH .i64 231 cb bsv bs.length :: L) [ii (x5)] (ii (x5)) (.tmp rfl .nil) rfl rF rF (sC sR) ?_))))
  exact ⟨⟨rfl, _, rfl⟩, rfl⟩
 refine qA (qf (qc (qh (ptr cb 0) rfl (qh (ii (m)) rfl (cX (qU (m + 1) rfl rfl (by omega) (by omega) (cX (qm (args := [ptr cb 0, ii (m + 1)]) jP rfl (jl [] (l1Below_spec (n := m + 1) hbs (by omega) (hn := (by first | assumption | rfl | omega | simp)))) ?_))))))))
 rintro _ _ _ _ ⟨⟨rfl, x6, rfl, hr3⟩, rfl⟩
 show XL _ _ _ _ _ _ _ (curH .i64 231 cb bsv bs.length :: L)
 refine qi (ii (x6)) rfl (qd (qu (qs (L' := curH .i64 231 cb bsv bs.length :: L) [ii (x6)] (ii (x6)) (.tmp rfl .nil) rfl rF rF (sC sR) ?_)))
 exact ⟨⟨rfl, _, rfl⟩, rfl⟩
end Go.Proofs.YtenomejgjcpbdaaGreat
