/-
  Walks, one after the other (part 2).
-/
import Derived.Test.YtcdjpapjjoldeaaQSL1
import Derived.Test.YtcdjpapjjoldeaaQSB0
set_option linter.unusedSimpArgs false
set_option linter.unusedVariables false
namespace Go.Proofs.Ytcdjpapjjoldeaa
open Go X M Try

/- spec.l1New -/
theorem l1New_spec {F : FH} {L : List HP} {bsv : Value} {bs : List Int} (hbs : BytesF F bsv bs) (hlb : bs.length ≤ 4000000) :
    Does prog 72 [bsv] F (L) (fun v F' L' => ∃ cb : Nat, (ptr cb 0 : Value) = v ∧ F = F' ∧ curH .i64 142 cb bsv bs.length :: L = L') := by
 refine qM func72 rfl rfl rfl (qc (qa (qh ((.pointer none)) rfl (qb (qc (qa (qf (bsv) rfl (cX (qO runUnderlying22 rfl hbs.slv (cX (qT (((570029 + ((bs).length) : Nat) : Int)) rfl rfl (by omega) (by omega) (qh (ii (((570029 + ((bs).length) : Nat) : Int))) rfl (qb (qc (qc (qa (qh (ii (0)) rfl ?_)))))))))))))))))
 refine qb (qQ (js (α := Nat × Int) (fun xQ => [(0, bsv), (3, ii (xQ.2)), (4, ii (((xQ.1 : Nat) : Int)))]) (fun xQ => L) (fun xQ F' => F = F' ∧ (xQ.1 ≤ bs.length) ∧ (0 ≤ xQ.2 ∧ xQ.2 ≤ 1073741823)) (fun xQ => bs.length - xQ.1) (0, ((570029 + ((bs).length) : Nat) : Int)) ⟨rfl, rfl, rfl, ⟨⟩⟩ sR ⟨rfl, (Nat.zero_le _), (by (try dsimp only) <;> omega)⟩ ?_))
 rintro ⟨k, h⟩ rE _ _ ⟨rfl, hk, hh⟩
 show X _ _ _ _ (envs [(0, bsv), (3, ii (h)), (4, ii ((k : Int)))] rE) _ (L)
 dsimp only at hk hh
 refine qc (qc (qa (qf (ii ((k : Int))) rfl (qf (bsv) rfl (cX (qO runUnderlying22 rfl hbs.slv (cX (qZ rfl rfl (qb ?_)))))))))
 refine qF (p := (k : Int) < (bs.length : Int)) rfl (fun h1 => ?_) (fun h1 => ?_)
 ·have hrg := hbs.range (i := k) (by omega)
  refine qv (qc (qQ (qa (qf (ii (h)) rfl (cX (XOp.mulR (h * 317) rfl rfl (by omega) (by omega) (qf (bsv) rfl (qf (ii ((k : Int))) rfl (cX (qB k runUnderlying22 sizeOf5 rfl rfl rfl hbs.slv (by omega) (Nat.mul_one _) (cX (qn isAgg5 rfl (hbs.rd (by omega) _) (cX (XOp.convI (k' := .u8) (a := bs.getD k 0) (bs.getD k 0) runUnderlying5 runUnderlying2 rfl (IntWalk.i64_in _ (by omega)) (cX (qT ((h * 317) + (bs.getD k 0)) rfl rfl (by omega) (by omega) (cX (qT (((h * 317) + (bs.getD k 0)) + 11) rfl rfl (by omega) (by omega) ?_))))))))))))))))))
  refine cX (XOp.andW (a := ((h * 317) + (bs.getD k 0)) + 11) (b := 1073741823) rfl rfl rfl (by decide) ?_)
  intro r1 hr1
  refine qh (ii (r1)) rfl (qb (qa (qf (ii ((k : Int))) rfl (cX (qT (((k + 1 : Nat) : Int)) rfl rfl (by omega) (by omega) (qh (ii (((k + 1 : Nat) : Int))) rfl (qb ?_)))))))
  exact ⟨(k + 1, r1), _, FLe.refl _, rF, ⟨rfl, rfl, rfl, ⟨⟩⟩, sR, ⟨rfl, (by (try dsimp only) <;> omega), (hr1)⟩, (by omega)⟩
 refine jl (qE (qE (qS (qc (qa (qf (bsv) rfl (qf (ii (h)) rfl (cX (qY [bsv, ii (0), ii (h)] [sN, ii (0), ii (0)] [(0, 1), (1, 1), (2, 1)] [(0, [bsv]), (2, [ii (h)])] jD zeroValue142 rfl (.cons rfl sizeOf22 (.cons rfl sizeOf3 (.cons rfl qy PlacesAre.nil))) rfl (.cons (cells_one (BytesF.isSl hbs)) (.cons rfl CellsAre.nil)) (cX (jg [bsv, ii (0), ii (h)] rfl rfl ?_)))))))))))
 intro b1
 refine qh (ptr b1 0) rfl (qb (qx (qp (L' := curH .i64 142 b1 bsv bs.length :: L) [ptr b1 0] (ptr b1 0) (.tmp rfl .nil) rfl rF rF (Sub.keep (curH.of (by omega) (by omega)) sR) ?_)))
 exact ⟨_, rfl, rfl, rfl⟩

/- spec.l1Byte -/
theorem l1Byte_spec0 {F : FH} {L : List HP} {cb : Nat} {bsv : Value} {bs : List Int} (hbs : BytesF F bsv bs) (hbl : bs.length ≤ 4000000) {i h : Int} (h0 : 0 ≤ i) (h1 : i ≤ bs.length) :
    Does prog 201 [ptr cb 0] F (cellsH cb [bsv, ii (i), ii (h)] 142 :: L) (fun v F' L' => (F = F' ∧ ∃ x : Int, (.int .i64 x : Value) = v ∧ (0 ≤ x ∧ x ≤ 255)) ∧ ∃ i' h' : Int, 0 ≤ i' ∧ i' ≤ bs.length ∧ cellsH cb [bsv, ii (i'), ii (h')] 142 :: L = L') := by
 refine qM func201 rfl rfl rfl (qc (qa (qh (ii (0)) rfl (qb (qc (qa (qf (ptr cb 0) rfl (qf (ptr cb 0) rfl (cX (jb rfl (cX (qA (2) jD rfl qy (by decide) rfl rfl (cX (qn qV rfl (Rd.own [] rfl rfl) (cX (XOp.mulW (a := h) (b := 6364136223846793005) rfl rfl ?_))))))))))))))))
 intro r1
 refine cX (XOp.addW (a := r1) (b := 1442695040888963407) rfl rfl ?_)
 intro r2
 refine cX (jb rfl (cX (qA (2) jD rfl qy (by decide) rfl rfl (cX (jq [] _ [bsv, ii (i), ii (r2)] qy rfl rfl rfl rfl rfl rfl (qb (qc ?_)))))))
 refine X.drawG [cellsH cb [bsv, ii (i), ii (r2)] 142] L 10 [] [[], [0], [1], [2], [3], [], [5], [6], [7], [8]] [] (phiG [pe (ptr cb 0), pe (ptr cb 0), pe (ptr cb 2), pe (ii (r2)), fun FF us v => (ii ((intAt v)) : Value) = v, pe (ptr cb 0), pe (ptr cb 0), pe (ptr cb 2), pe (ii (r2)), fun FF us v => (ii ((intAt v)) : Value) = v]) (ownL []) mixed rfl rfl (by kernel_rfl) (by kernel_rfl) (MonoG.get (m1 (m1 (m1 (m1 (mC (fun le h => h) (m1 (m1 (m1 (m1 (mC (fun le h => h) MonoG.nil))))))))))) ?_ ?_
 ·refine gD (fun W Fs R lF z9 => ?_) ?_
  ·refine qj (qk (ptr cb 0) rfl ?_)
   exact ⟨rfl, rfl⟩
  refine gD (fun W Fs R lF z9 => ?_) ?_
  ·replace hbs := hbs.mono lF
   rw [eS (l := [(0, _)]) ⟨z9 0 rfl, ⟨⟩⟩]
   refine qj (jb rfl ?_)
   exact ⟨rfl, rfl⟩
  refine gD (fun W Fs R lF z9 => ?_) ?_
  ·rw [eS (l := [(1, _)]) ⟨z9 1 rfl, ⟨⟩⟩]
   refine qj (qA (2) jD rfl qy (by decide) rfl rfl ?_)
   exact ⟨rfl, rfl⟩
  refine gD (fun W Fs R lF z9 => ?_) ?_
  ·replace hbs := hbs.mono lF
   rw [eS (l := [(2, _)]) ⟨z9 2 rfl, ⟨⟩⟩]
   refine qj (qn qV rfl (Rd.own [] rfl rfl) ?_)
   exact ⟨rfl, rfl⟩
  refine gD (fun W Fs R lF z9 => ?_) ?_
  ·rw [eS (l := [(3, _)]) ⟨z9 3 rfl, ⟨⟩⟩]
   refine qj (XOp.shrW (a := r2) (b := 33) rfl rfl (by decide) ?_)
   intro r5
   exact ⟨rfl, rfl⟩
  refine gD (fun W Fs R lF z9 => ?_) ?_
  ·refine qj (qk (ptr cb 0) rfl ?_)
   exact ⟨rfl, rfl⟩
  refine gD (fun W Fs R lF z9 => ?_) ?_
  ·replace hbs := hbs.mono lF
   rw [eS (l := [(5, _)]) ⟨z9 5 rfl, ⟨⟩⟩]
   refine qj (jb rfl ?_)
   exact ⟨rfl, rfl⟩
  refine gD (fun W Fs R lF z9 => ?_) ?_
  ·rw [eS (l := [(6, _)]) ⟨z9 6 rfl, ⟨⟩⟩]
   refine qj (qA (2) jD rfl qy (by decide) rfl rfl ?_)
   exact ⟨rfl, rfl⟩
  refine gD (fun W Fs R lF z9 => ?_) ?_
  ·replace hbs := hbs.mono lF
   rw [eS (l := [(7, _)]) ⟨z9 7 rfl, ⟨⟩⟩]
   refine qj (qn qV rfl (Rd.own [] rfl rfl) ?_)
   exact ⟨rfl, rfl⟩
  refine gD (fun W Fs R lF z9 => ?_) ?_
  ·rw [eS (l := [(8, _)]) ⟨z9 8 rfl, ⟨⟩⟩]
   refine qj (XOp.shrW (a := r2) (b := 45) rfl rfl (by decide) ?_)
   intro r6
   exact ⟨rfl, rfl⟩
  exact stepsG.nil
 intro W F1 le1 hphi
 have e4 : (ii ((intAt (W 4))) : Value) = (W 4) := hphi 4 (by decide)
 have e9 : (ii ((intAt (W 9))) : Value) = (W 9) := hphi 9 (by decide)
 generalize hu1 : (intAt (W 4)) = u1 at e4 e9
 generalize hu2 : (intAt (W 9)) = u2 at e4 e9
 rw [eS (l := [(4, (ii (u1))), (9, (ii (u2)))]) ⟨(e4).symm, (e9).symm, ⟨⟩⟩]
 replace hbs := hbs.mono le1
 show XL _ _ _ _ _ _ _ (cellsH cb [bsv, ii (i), ii (r2)] 142 :: L)
 refine cX (XOp.xorW (a := u1) (b := u2) rfl rfl ?_)
 intro r7
 refine cX (XOp.andW (a := r7) (b := 255) rfl rfl rfl (by decide) ?_)
 intro r8 hr1
 refine qh (ii (r8)) rfl (qb (qc (qc ?_)))
 refine jz [cellsH cb [bsv, ii (i), ii (r2)] 142] L 9 [] [[], [0], [1], [2], [], [4], [5], [6], [7]] (phiL [qe (ptr cb 0), qe (ptr cb 0), qe (ptr cb 1), qe (ii (i)), qe (ptr cb 0), qe (ptr cb 0), qe (ptr cb 0), qe bsv, qe (ii ((bs.length : Int)) : Value)]) (ownL []) mixed rfl rfl (by kernel_rfl) ?_ ?_
 ·refine pD (fun W R z9 => ?_) ?_
  ·refine qj (qk (ptr cb 0) rfl ?_)
   exact ⟨rfl, rfl, rfl⟩
  refine pD (fun W R z9 => ?_) ?_
  ·rw [eS (l := [(0, _)]) ⟨z9 0 rfl, ⟨⟩⟩]
   refine qj (jb rfl ?_)
   exact ⟨rfl, rfl, rfl⟩
  refine pD (fun W R z9 => ?_) ?_
  ·rw [eS (l := [(1, _)]) ⟨z9 1 rfl, ⟨⟩⟩]
   refine qj (qA (1) jD rfl sizeOf3 (by decide) rfl rfl ?_)
   exact ⟨rfl, rfl, rfl⟩
  refine pD (fun W R z9 => ?_) ?_
  ·rw [eS (l := [(2, _)]) ⟨z9 2 rfl, ⟨⟩⟩]
   refine qj (qn isAgg3 rfl (Rd.own [] rfl rfl) ?_)
   exact ⟨rfl, rfl, rfl⟩
  refine pD (fun W R z9 => ?_) ?_
  ·refine qj (qk (ptr cb 0) rfl ?_)
   exact ⟨rfl, rfl, rfl⟩
  refine pD (fun W R z9 => ?_) ?_
  ·rw [eS (l := [(4, _)]) ⟨z9 4 rfl, ⟨⟩⟩]
   refine qj (jb rfl ?_)
   exact ⟨rfl, rfl, rfl⟩
  refine pD (fun W R z9 => ?_) ?_
  ·rw [eS (l := [(5, _)]) ⟨z9 5 rfl, ⟨⟩⟩]
   refine qj (qA (0) jD rfl sizeOf22 (by decide) rfl rfl ?_)
   exact ⟨rfl, rfl, rfl⟩
  refine pD (fun W R z9 => ?_) ?_
  ·rw [eS (l := [(6, _)]) ⟨z9 6 rfl, ⟨⟩⟩]
   refine qj (qn isAgg22 rfl (Rd.own [] rfl rfl) ?_)
   exact ⟨rfl, rfl, rfl⟩
  refine pD (fun W R z9 => ?_) ?_
  ·rw [eS (l := [(7, _)]) ⟨z9 7 rfl, ⟨⟩⟩]
   refine qj (qO runUnderlying22 rfl hbs.slv ?_)
   exact ⟨rfl, rfl, rfl⟩
  exact stepsP.nil
 intro W hphi
 rw [eS (l := [(3, _), (8, _)]) ⟨(hphi 3 (by decide)), (hphi 8 (by decide)), ⟨⟩⟩]
 show XL _ _ _ _ _ _ _ (cellsH cb [bsv, ii (i), ii (r2)] 142 :: L)
 refine cX (qZ rfl rfl (qb ?_))
 refine qF (p := (i : Int) < (bs.length : Int)) rfl (fun h1 => ?_) (fun h1 => ?_)
 ·have hrg := hbs.range (i := i.toNat) (by omega)
  refine qc ?_
  refine jz [cellsH cb [bsv, ii (i), ii (r2)] 142] L 12 [] [[], [], [1], [2], [3], [], [5], [6], [7], [4, 8], [9], [10]] (phiL [qe (ii (r8)), qe (ptr cb 0), qe (ptr cb 0), qe (ptr cb 0), qe bsv, qe (ptr cb 0), qe (ptr cb 0), qe (ptr cb 1), qe (ii (i)), qe (.pointer (some (elemA bsv ((i).toNat)))), qe (.int .u8 (bs.getD ((i).toNat) 0)), qe (ii (bs.getD ((i).toNat) 0))]) (ownL []) mixed rfl rfl (by kernel_rfl) ?_ ?_
  ·refine pD (fun W R z9 => ?_) ?_
   ·refine qj (qk (ii (r8)) rfl ?_)
    exact ⟨rfl, rfl, rfl⟩
   refine pD (fun W R z9 => ?_) ?_
   ·refine qj (qk (ptr cb 0) rfl ?_)
    exact ⟨rfl, rfl, rfl⟩
   refine pD (fun W R z9 => ?_) ?_
   ·rw [eS (l := [(1, _)]) ⟨z9 1 rfl, ⟨⟩⟩]
    refine qj (jb rfl ?_)
    exact ⟨rfl, rfl, rfl⟩
   refine pD (fun W R z9 => ?_) ?_
   ·rw [eS (l := [(2, _)]) ⟨z9 2 rfl, ⟨⟩⟩]
    refine qj (qA (0) jD rfl sizeOf22 (by decide) rfl rfl ?_)
    exact ⟨rfl, rfl, rfl⟩
   refine pD (fun W R z9 => ?_) ?_
   ·rw [eS (l := [(3, _)]) ⟨z9 3 rfl, ⟨⟩⟩]
    refine qj (qn isAgg22 rfl (Rd.own [] rfl rfl) ?_)
    exact ⟨rfl, rfl, rfl⟩
   refine pD (fun W R z9 => ?_) ?_
   ·refine qj (qk (ptr cb 0) rfl ?_)
    exact ⟨rfl, rfl, rfl⟩
   refine pD (fun W R z9 => ?_) ?_
   ·rw [eS (l := [(5, _)]) ⟨z9 5 rfl, ⟨⟩⟩]
    refine qj (jb rfl ?_)
    exact ⟨rfl, rfl, rfl⟩
   refine pD (fun W R z9 => ?_) ?_
   ·rw [eS (l := [(6, _)]) ⟨z9 6 rfl, ⟨⟩⟩]
    refine qj (qA (1) jD rfl sizeOf3 (by decide) rfl rfl ?_)
    exact ⟨rfl, rfl, rfl⟩
   refine pD (fun W R z9 => ?_) ?_
   ·rw [eS (l := [(7, _)]) ⟨z9 7 rfl, ⟨⟩⟩]
    refine qj (qn isAgg3 rfl (Rd.own [] rfl rfl) ?_)
    exact ⟨rfl, rfl, rfl⟩
   refine pD (fun W R z9 => ?_) ?_
   ·rw [eS (l := [(4, _), (8, _)]) ⟨z9 4 rfl, z9 8 rfl, ⟨⟩⟩]
    refine qj (qB ((i).toNat) runUnderlying22 sizeOf5 rfl rfl (by omega) hbs.slv (by omega) (Nat.mul_one _) ?_)
    exact ⟨rfl, rfl, rfl⟩
   refine pD (fun W R z9 => ?_) ?_
   ·rw [eS (l := [(9, _)]) ⟨z9 9 rfl, ⟨⟩⟩]
    refine qj (qn isAgg5 rfl (hbs.rd (by omega) _) ?_)
    exact ⟨rfl, rfl, rfl⟩
   refine pD (fun W R z9 => ?_) ?_
   ·rw [eS (l := [(10, _)]) ⟨z9 10 rfl, ⟨⟩⟩]
    refine qj (XOp.convI (k' := .u8) (a := bs.getD ((i).toNat) 0) (bs.getD ((i).toNat) 0) runUnderlying5 runUnderlying2 rfl (IntWalk.i64_in _ (by omega)) ?_)
    exact ⟨rfl, rfl, rfl⟩
   exact stepsP.nil
  intro W hphi
  rw [eS (l := [(0, _), (11, _)]) ⟨(hphi 0 (by decide)), (hphi 11 (by decide)), ⟨⟩⟩]
  show XL _ _ _ _ _ _ _ (cellsH cb [bsv, ii (i), ii (r2)] 142 :: L)
  refine cX (qT (r8 + (bs.getD ((i).toNat) 0)) rfl rfl (by omega) (by omega) (cX (XOp.andW (a := r8 + (bs.getD ((i).toNat) 0)) (b := 255) rfl rfl rfl (by decide) ?_)))
  intro r9 hr2
  refine qh (ii (r9)) rfl (qb (qa (qf (ptr cb 0) rfl (qf (ptr cb 0) rfl (cX (jb rfl (cX (qA (1) jD rfl sizeOf3 (by decide) rfl rfl (cX (qn isAgg3 rfl (Rd.own [] rfl rfl) (cX (qT (i + 1) rfl rfl (by omega) (by omega) (cX (jb rfl (cX (qA (1) jD rfl sizeOf3 (by decide) rfl rfl ?_))))))))))))))))
  refine cX (jq [] _ [bsv, ii (i + 1), ii (r2)] sizeOf3 rfl rfl rfl rfl rfl rfl (qb (qc (qa (qf (ii (r9)) rfl (qh (ii (r9)) rfl (qb (qx (qp (L' := cellsH cb [bsv, ii (i + 1), ii (r2)] 142 :: L) [ii (r9)] (ii (r9)) (.tmp rfl .nil) rfl rF le1 (sC sR) ?_)))))))))
  exact ⟨⟨rfl, _, rfl, by omega⟩, _, _, by omega, by omega, rfl⟩
 refine qv (qc (qa (qf (ii (r8)) rfl (qh (ii (r8)) rfl (qb (qx (qp (L' := cellsH cb [bsv, ii (i), ii (r2)] 142 :: L) [ii (r8)] (ii (r8)) (.tmp rfl .nil) rfl rF le1 (sC sR) ?_)))))))
 exact ⟨⟨rfl, _, rfl, by omega⟩, _, _, by omega, by omega, rfl⟩
theorem l1Byte_spec {F : FH} {L : List HP} {cb : Nat} {bsv : Value} {bs : List Int} (hbs : BytesF F bsv bs) (hbl : bs.length ≤ 4000000) : Does prog 201 [ptr cb 0] F (curH .i64 142 cb bsv bs.length :: L) (fun v F' L' => (F = F' ∧ ∃ (x : Int), (.int .i64 x : Value) = v ∧ (0 ≤ x ∧ x ≤ 255)) ∧ curH .i64 142 cb bsv bs.length :: L = L') :=
  Does.cur (Q := fun v F' => F = F' ∧ ∃ (x : Int), (.int .i64 x : Value) = v ∧ (0 ≤ x ∧ x ≤ 255)) fun i h h0 h1 => l1Byte_spec0 hbs hbl h0 h1

/- spec.l1Below -/
theorem l1Below_spec {F : FH} {L : List HP} {cb : Nat} {bsv : Value} {bs : List Int} (hbs : BytesF F bsv bs) (hbl : bs.length ≤ 4000000) {n : Int} (hn : n ≤ 1000000) :
    Does prog 140 [ptr cb 0, ii (n)] F (curH .i64 142 cb bsv bs.length :: L) (fun v F' L' => (F = F' ∧ ∃ (x : Int), (ii (x) : Value) = v ∧ (0 ≤ x ∧ (x < n ∨ x = 0))) ∧ curH .i64 142 cb bsv bs.length :: L = L') := by
 refine qM func140 rfl rfl rfl (qc (qa (qh (ii (0)) rfl (qb (qc (qc (qa (qf (ii (n)) rfl (cX (XOp.leq rfl rfl (qb ?_)))))))))))
 refine qF (p := (n : Int) ≤ 0) rfl (fun h1 => ?_) (fun h1 => ?_)
 ·refine qc (qa (qh (ii (0)) rfl (qb (qx (qi (qp (L' := curH .i64 142 cb bsv bs.length :: L) [ii (0)] (ii (0)) (.tmp rfl .nil) rfl rF rF (sC sR) ?_))))))
  exact ⟨⟨rfl, _, rfl, by omega⟩, rfl⟩
 refine qv (qc (qc (qa (qf (ii (n)) rfl (cX (XOp.leq rfl rfl (qb ?_)))))))
 refine qF (p := (n : Int) ≤ 256) rfl (fun h2 => ?_) (fun h2 => ?_)
 ·refine qc (qa (qf (ptr cb 0) rfl (cX (ql (args := [ptr cb 0]) call201 rfl (jj [] (l1Byte_spec hbs (by omega))) ?_))))
  rintro _ _ _ _ ⟨⟨rfl, x1, rfl, hr1⟩, rfl⟩
  show XL _ _ _ _ _ _ _ (curH .i64 142 cb bsv bs.length :: L)
  refine qf (ii (n)) rfl (cX (XOp.remV (a := x1) (b := n) rfl rfl (by omega) (by omega) ?_))
  intro r1 hr2
  refine qh (ii (r1)) rfl (qb (qx (qi (qp (L' := curH .i64 142 cb bsv bs.length :: L) [ii (r1)] (ii (r1)) (.tmp rfl .nil) rfl rF rF (sC sR) ?_))))
  exact ⟨⟨rfl, _, rfl, by omega⟩, rfl⟩
 refine qv (qc (qa (qf (ptr cb 0) rfl (cX (ql (args := [ptr cb 0]) call201 rfl (jj [] (l1Byte_spec hbs (by omega))) ?_)))))
 rintro _ _ _ _ ⟨⟨rfl, x2, rfl, hr3⟩, rfl⟩
 show XL _ _ _ _ _ _ _ (curH .i64 142 cb bsv bs.length :: L)
 refine qh (ii (x2)) rfl (qb (qc (qa (qf (ptr cb 0) rfl (cX (ql (args := [ptr cb 0]) call201 rfl (jj [] (l1Byte_spec hbs (by omega))) ?_))))))
 rintro _ _ _ _ ⟨⟨rfl, x3, rfl, hr4⟩, rfl⟩
 show XL _ _ _ _ _ _ _ (curH .i64 142 cb bsv bs.length :: L)
 refine qh (ii (x3)) rfl (qb (qc (qa (qf (ptr cb 0) rfl (cX (ql (args := [ptr cb 0]) call201 rfl (jj [] (l1Byte_spec hbs (by omega))) ?_))))))
 rintro _ _ _ _ ⟨⟨rfl, x4, rfl, hr5⟩, rfl⟩
 show XL _ _ _ _ _ _ _ (curH .i64 142 cb bsv bs.length :: L)
 refine qh (ii (x4)) rfl (qb (qc (qa (qf (ptr cb 0) rfl (cX (ql (args := [ptr cb 0]) call201 rfl (jj [] (l1Byte_spec hbs (by omega))) ?_))))))
 rintro _ _ _ _ ⟨⟨rfl, x5, rfl, hr6⟩, rfl⟩
 show XL _ _ _ _ _ _ _ (curH .i64 142 cb bsv bs.length :: L)
 refine qh (ii (x5)) rfl (qb (qc (qa (qf (ii (x2)) rfl (cX (XOp.mulR (x2 * 16777216) rfl rfl (by omega) (by omega) (qf (ii (x3)) rfl (cX (XOp.mulR (x3 * 65536) rfl rfl (by omega) (by omega) (cX (qT ((x2 * 16777216) + (x3 * 65536)) rfl rfl (by omega) (by omega) (qf (ii (x4)) rfl (cX (XOp.mulR (x4 * 256) rfl rfl (by omega) (by omega) (cX (qT (((x2 * 16777216) + (x3 * 65536)) + (x4 * 256)) rfl rfl (by omega) (by omega) ?_))))))))))))))))
 refine qf (ii (x5)) rfl (cX (qT ((((x2 * 16777216) + (x3 * 65536)) + (x4 * 256)) + x5) rfl rfl (by omega) (by omega) (qf (ii (n)) rfl (cX (XOp.remV (a := (((x2 * 16777216) + (x3 * 65536)) + (x4 * 256)) + x5) (b := n) rfl rfl (by omega) (by omega) ?_)))))
 intro r2 hr7
 refine qh (ii (r2)) rfl (qb (qx (qp (L' := curH .i64 142 cb bsv bs.length :: L) [ii (r2)] (ii (r2)) (.tmp rfl .nil) rfl rF rF (sC sR) ?_)))
 exact ⟨⟨rfl, _, rfl, by omega⟩, rfl⟩

/- spec.l1Once -/
theorem l1Once_spec {F : FH} {L : List HP} {cb : Nat} {bsv : Value} {bs : List Int} (hbs : BytesF F bsv bs) (hbl : bs.length ≤ 4000000) {n : Int} (hn : n ≤ 1000000) :
    Does prog 137 [ptr cb 0, ii (n)] F (curH .i64 142 cb bsv bs.length :: L) (fun v F' L' => (F = F' ∧ ∃ (b : Bool), (.bool (b) : Value) = v) ∧ curH .i64 142 cb bsv bs.length :: L = L') := by
 refine qM func137 rfl rfl rfl (qc (qa (qh (.bool (false)) rfl (qb (qc (qa (qf (ptr cb 0) rfl (qf (ii (n)) rfl (cX (ql (args := [ptr cb 0, ii (n)]) jH rfl (jj [] (l1Below_spec (n := n) hbs (by omega) (hn := (by first | assumption | rfl | omega | simp)))) ?_))))))))))
 rintro _ _ _ _ ⟨⟨rfl, x1, rfl, hr1⟩, rfl⟩
 show XL _ _ _ _ _ _ _ (curH .i64 142 cb bsv bs.length :: L)
 refine cX (jt rfl rfl (qh (.bool (decide ((x1 : Int) = 0))) rfl (qb (qx (qp (L' := curH .i64 142 cb bsv bs.length :: L) [.bool (decide ((x1 : Int) = 0))] (.bool (decide ((x1 : Int) = 0))) (.tmp rfl .nil) rfl rF rF (sC sR) ?_)))))
 exact ⟨⟨rfl, _, rfl⟩, rfl⟩

/- spec.l1From -/
theorem l1From_spec {F : FH} {L : List HP} {cb : Nat} {bsv : Value} {bs : List Int} (hbs : BytesF F bsv bs) (hbl : bs.length ≤ 4000000) {lo : Int} {hi : Int} (hlo : -1000 ≤ lo ∧ lo ≤ 1000 ∧ -1000 ≤ hi ∧ hi ≤ 900000) :
    Does prog 197 [ptr cb 0, ii (lo), ii (hi)] F (curH .i64 142 cb bsv bs.length :: L) (fun v F' L' => (F = F' ∧ ∃ (x : Int), (ii (x) : Value) = v ∧ (lo ≤ x ∧ (x ≤ hi ∨ x = lo))) ∧ curH .i64 142 cb bsv bs.length :: L = L') := by
 refine qM func197 rfl rfl rfl (qc (qa (qh (ii (0)) rfl (qb (qc (qa (qf (ii (lo)) rfl (qf (ptr cb 0) rfl (qf (ii (hi)) rfl (qf (ii (lo)) rfl (cX (qW (hi - lo) rfl rfl (by omega) (by omega) (cX (qT ((hi - lo) + 1) rfl rfl (by omega) (by omega) ?_))))))))))))))
 refine cX (ql (args := [ptr cb 0, ii ((hi - lo) + 1)]) jH rfl (jj [] (l1Below_spec (n := (hi - lo) + 1) hbs (by omega) (hn := (by first | assumption | rfl | omega | simp)))) ?_)
 rintro _ _ _ _ ⟨⟨rfl, x1, rfl, hr1⟩, rfl⟩
 show XL _ _ _ _ _ _ _ (curH .i64 142 cb bsv bs.length :: L)
 refine cX (qT (lo + x1) rfl rfl (by omega) (by omega) (qh (ii (lo + x1)) rfl (qb (qx (qp (L' := curH .i64 142 cb bsv bs.length :: L) [ii (lo + x1)] (ii (lo + x1)) (.tmp rfl .nil) rfl rF rF (sC sR) ?_)))))
 exact ⟨⟨rfl, _, rfl, by omega⟩, rfl⟩

/- spec.l1Odd -/
theorem l1Odd_spec {F : FH} {L : List HP} {cb : Nat} {bsv : Value} {bs : List Int} (hbs : BytesF F bsv bs) (hbl : bs.length ≤ 4000000) :
    Does prog 199 [ptr cb 0] F (curH .i64 142 cb bsv bs.length :: L) (fun v F' L' => (F = F' ∧ ∃ (x : Int), (ii (x) : Value) = v) ∧ curH .i64 142 cb bsv bs.length :: L = L') := by
 refine qM func199 rfl rfl rfl (qc (qa (qh (ii (0)) rfl (qb (qc (qa (cX (qD (s := 1) [ii (-1), ii (0), ii (1), ii (2147483648), ii (-2147483648), ii (1099511627776), ii (4611686018427387904), ii (-4611686018427387904), ii (9223372036854775807), ii (-9223372036854775808)] [ii (0)] [(0, [ii (-1)]), (1, [ii (0)]), (2, [ii (1)]), (3, [ii (2147483648)]), (4, [ii (-2147483648)]), (5, [ii (1099511627776)]), (6, [ii (4611686018427387904)]), (7, [ii (-4611686018427387904)]), (8, [ii (9223372036854775807)]), (9, [ii (-9223372036854775808)])] qd qy qU rfl (by decide) rfl (.cons rfl (.cons rfl (.cons rfl (.cons rfl (.cons rfl (.cons rfl (.cons rfl (.cons rfl (.cons rfl (.cons rfl CellsAre.nil)))))))))) rfl ?_))))))))
 intro v1 hv1
 show XL _ _ _ _ _ _ _ (intsH 2 v1 ([-1, 0, 1, 2147483648, -2147483648, 1099511627776, 4611686018427387904, -4611686018427387904, 9223372036854775807, -9223372036854775808] : List Int) :: curH .i64 142 cb bsv bs.length :: L)
 have hl10 : ([-1, 0, 1, 2147483648, -2147483648, 1099511627776, 4611686018427387904, -4611686018427387904, 9223372036854775807, -9223372036854775808] : List Int).length = 10 := rfl
 refine qf (ptr cb 0) rfl (cX (ql (args := [ptr cb 0, ii (10)]) jH rfl (jj [_] (l1Below_spec (n := 10) hbs (by omega) (hn := (by first | assumption | rfl | omega | simp)))) ?_))
 rintro _ _ _ _ ⟨⟨rfl, x1, rfl, hr1⟩, rfl⟩
 show XL _ _ _ _ _ _ _ (intsH 2 v1 ([-1, 0, 1, 2147483648, -2147483648, 1099511627776, 4611686018427387904, -4611686018427387904, 9223372036854775807, -9223372036854775808] : List Int) :: curH .i64 142 cb bsv bs.length :: L)
 refine cX (qB ((x1).toNat) qd qy rfl rfl (by omega) (intsH.slv [] rfl) (by omega) (Nat.mul_one _) (cX (qn qV rfl (intsH.rd [] rfl (by omega)) (qh (ii (([-1, 0, 1, 2147483648, -2147483648, 1099511627776, 4611686018427387904, -4611686018427387904, 9223372036854775807, -9223372036854775808]).getD ((x1).toNat) 0)) rfl (qb (qx (qp (L' := curH .i64 142 cb bsv bs.length :: L) [ii (([-1, 0, 1, 2147483648, -2147483648, 1099511627776, 4611686018427387904, -4611686018427387904, 9223372036854775807, -9223372036854775808]).getD ((x1).toNat) 0)] (ii (([-1, 0, 1, 2147483648, -2147483648, 1099511627776, 4611686018427387904, -4611686018427387904, 9223372036854775807, -9223372036854775808]).getD ((x1).toNat) 0)) (.tmp rfl .nil) rfl rF rF (sD (sC sR)) ?_)))))))
 exact ⟨⟨rfl, _, rfl⟩, rfl⟩

/- spec.l1DrawSig -/
theorem l1DrawSig_spec {F : FH} {L : List HP} {cb : Nat} {bsv : Value} {bs : List Int} (hbs : BytesF F bsv bs) (hbl : bs.length ≤ 4000000) :
    Does prog 196 [ptr cb 0] F (curH .i64 142 cb bsv bs.length :: L) (fun v F' L' => ∃ a : Value, ((.agg #[a] : Value) = v ∧ IsSl a) ∧ drawnH 2 a (fun ar => sigOk ar = true) :: curH .i64 142 cb bsv bs.length :: L = L') := by
 refine qM func196 rfl rfl rfl (qc (qa (cX (jd [sN] zeroValue29 rfl ?_))))
 intro b1
 refine qb (qc (qa (cX (qD (s := 1) [ii (2), ii (1), ii (0)] [ii (0)] [(0, [ii (2)]), (1, [ii (1)]), (2, [ii (0)])] qd qy qU rfl (by decide) rfl (.cons rfl (.cons rfl (.cons rfl CellsAre.nil))) rfl ?_))))
 intro v1 hv1
 refine cX (qY [v1] [sN] [(0, 1)] [(0, [v1])] je zeroValue29 rfl (.cons rfl qN PlacesAre.nil) rfl (.cons (cells_one (jo hv1)) CellsAre.nil) (cX (jd [sN] zeroValue29 rfl ?_)))
 intro b2
 refine cX (qt [] _ [v1] qz rfl rfl rfl (qw (qP (jo hv1)) qC) rfl rfl rfl (qb (qc (qc (qa (qf (ptr cb 0) rfl (cX (ql (args := [ptr cb 0, ii (4)]) call137 rfl (jj [_, _, _] (l1Once_spec (n := 4) hbs (by omega) (hn := (by first | assumption | rfl | omega | simp)))) ?_))))))))
 rintro _ _ _ _ ⟨⟨rfl, x1, rfl⟩, rfl⟩
 show XL _ _ _ _ _ _ _ (cellsH b2 [v1] 29 :: slH 2 1 v1 3 [ii (2), ii (1), ii (0)] :: cellsH b1 [sN] 29 :: curH .i64 142 cb bsv bs.length :: L)
 refine qb ?_
 refine jk (t := x1) rfl (fun h1 => ?_) (fun h1 => ?_)
 ·refine qc (qa (cX (qD (s := 1) [ii (0)] [ii (0)] [(0, [ii (0)])] qd qy qU rfl (by decide) rfl (.cons rfl CellsAre.nil) rfl ?_)))
  intro v2 hv2
  refine cX (qY [v2] [sN] [(0, 1)] [(0, [v2])] je zeroValue29 rfl (.cons rfl qN PlacesAre.nil) rfl (.cons (cells_one (jo hv2)) CellsAre.nil) (cX (qt [_] _ [v2] qz rfl rfl rfl (qw (qP (jo hv2)) qC) rfl rfl rfl (qb (qc (qa ?_))))))
  show XL _ _ _ _ _ _ _ (intsH 2 v2 ([0] : List Int) :: cellsH b2 [v2] 29 :: slH 2 1 v1 3 [ii (2), ii (1), ii (0)] :: cellsH b1 [sN] 29 :: curH .i64 142 cb bsv bs.length :: L)
  skip
  refine qf (ptr cb 0) rfl (cX (ql (args := [ptr cb 0, ii (4)]) jH rfl (jj [_, _, _, _] (l1Below_spec (n := 4) hbs (by omega) (hn := (by first | assumption | rfl | omega | simp)))) ?_))
  rintro _ _ _ _ ⟨⟨rfl, x2, rfl, hr1⟩, rfl⟩
  show XL _ _ _ _ _ _ _ (intsH 2 v2 ([0] : List Int) :: cellsH b2 [v2] 29 :: slH 2 1 v1 3 [ii (2), ii (1), ii (0)] :: cellsH b1 [sN] 29 :: curH .i64 142 cb bsv bs.length :: L)
  refine qh (ii (x2)) rfl (qb (qQ (js (α := Nat × Value × List Int) (fun xQ => [(0, ptr cb 0), (2, ptr b1 0), (3, ptr b2 0), (4, ii (((xQ.1 : Nat) : Int)))]) (fun xQ => intsH 2 xQ.2.1 xQ.2.2 :: cellsH b2 [xQ.2.1] 29 :: slH 2 1 v1 3 [ii (2), ii (1), ii (0)] :: cellsH b1 [sN] 29 :: curH .i64 142 cb bsv bs.length :: L) (fun xQ F' => F = F' ∧ (IsSl xQ.2.1) ∧ (sigOk xQ.2.2 = true) ∧ (xQ.2.2.length + xQ.1 ≤ 4)) (fun xQ => xQ.1) (x2.toNat, v2, [0]) ⟨rfl, rfl, rfl, (vI (by omega)), ⟨⟩⟩ (sC (sC (sC (sC (sC sR))))) ⟨rfl, ((jo hv2)), ((show sigOk [0] = true from by decide)), (by (try simp only [List.length_cons, List.length_nil]); omega)⟩ ?_)))
  rintro ⟨n, ov, os⟩ rE _ _ ⟨rfl, hov, hso, hon⟩
  show X _ _ _ _ (envs [(0, ptr cb 0), (2, ptr b1 0), (3, ptr b2 0), (4, ii ((n : Int)))] rE) _ (intsH 2 ov os :: cellsH b2 [ov] 29 :: slH 2 1 v1 3 [ii (2), ii (1), ii (0)] :: cellsH b1 [sN] 29 :: curH .i64 142 cb bsv bs.length :: L)
  dsimp only at hov hso hon
  refine qc (qc (qa (qf (ii ((n : Int))) rfl (cX (jF rfl rfl (qb ?_))))))
  refine qF (p := (n : Int) > 0) rfl (fun h2 => ?_) (fun h2 => ?_)
  ·refine qv (qc (qQ ?_))
   refine X.drawG [intsH 2 ov os, cellsH b2 [ov] 29, slH 2 1 v1 3 [ii (2), ii (1), ii (0)], cellsH b1 [sN] 29, curH .i64 142 cb bsv bs.length] L 5 [[], [], [], [], [3]] [[], [0], [], [2], [3]] [] (phiG [pe (ptr b2 0), pe ov, pe (ptr cb 0), fun FF us v => (ii (((intAt v))) : Value) = v ∧ (0 ≤ ((intAt v)) ∧ (((intAt v)) < 3 ∨ ((intAt v)) = 0)), fun FF us v => ∃ b, v = .slice (some ⟨b, 0, none⟩) 1 1]) (ownL [o0, o0, o0, o0, fun us v => [slH 2 1 v 1 [ii (((intAt (us.getD 0 undef))))]]]) mixed rfl rfl (by kernel_rfl) (by kernel_rfl) (MonoG.get (m1 (m1 (m1 (mC (fun le h => ⟨h.1, h.2⟩) (mC (fun le h => h) MonoG.nil)))))) ?_ ?_
   ·refine gD (fun W Fs R lF z9 => ?_) ?_
    ·refine qj (qA (0) je rfl qN (by decide) rfl rfl ?_)
     exact ⟨rfl, rfl⟩
    refine gD (fun W Fs R lF z9 => ?_) ?_
    ·replace hbs := hbs.mono lF
     rw [eS (l := [(0, _)]) ⟨z9 0 rfl, ⟨⟩⟩]
     refine qj (qn jn rfl (Rd.own [_] rfl rfl) ?_)
     exact ⟨rfl, rfl⟩
    refine gD (fun W Fs R lF z9 => ?_) ?_
    ·refine qj (qk (ptr cb 0) rfl ?_)
     exact ⟨rfl, rfl⟩
    refine gD (fun W Fs R lF z9 => ?_) ?_
    ·replace hbs := hbs.mono lF
     rw [eS (l := [(2, _)]) ⟨z9 2 rfl, ⟨⟩⟩]
     refine qj (ql (args := [ptr cb 0, ii (3)]) jH rfl (jj [_, _, _, _] (l1Below_spec (n := 3) hbs (by omega) (hn := (by first | assumption | rfl | omega | simp)))) ?_)
     rintro _ _ _ _ ⟨⟨rfl, x4, rfl, hr3⟩, rfl⟩
     exact ⟨⟨rfl, hr3⟩, rfl⟩
    refine gD (fun W Fs R lF z9 => ?_) ?_
    ·obtain ⟨e3, f3_1hx⟩ := z9 3 rfl
     rw [eS (l := [(3, (ii (((intAt (W 3))))))]) ⟨(e3).symm, ⟨⟩⟩]
     refine qj (qD (s := 1) [ii (((intAt (W 3))))] [ii (0)] [(0, [ii (((intAt (W 3))))])] qd qy qU rfl (by decide) rfl (.cons rfl CellsAre.nil) rfl ?_)
     intro v4 hv4
     exact ⟨hv4, rfl⟩
    exact stepsG.nil
   intro W F5 le5 hphi
   obtain ⟨e3, f3_1hx⟩ := hphi 3 (by decide)
   have f4 : ∃ b, (W 4) = .slice (some ⟨b, 0, none⟩) 1 1 := hphi 4 (by decide)
   generalize hu1 : (intAt (W 3)) = u1 at e3 f3_1hx f4
   generalize hu4 : W 4 = u2 at e3 f3_1hx f4
   rw [eS (l := [(1, _), (3, (ii ((u1)))), (4, u2)]) ⟨(hphi 1 (by decide)), (e3).symm, hu4, ⟨⟩⟩]
   show XL _ _ _ _ _ _ _ (slH 2 1 u2 1 [ii ((u1))] :: intsH 2 ov os :: cellsH b2 [ov] 29 :: slH 2 1 v1 3 [ii (2), ii (1), ii (0)] :: cellsH b1 [sN] 29 :: curH .i64 142 cb bsv bs.length :: L)
   refine cX (jC (u := (u1)) [_] _ qd typeInfo2 rfl rfl rfl rfl rfl rfl (SlV.own [] rfl) (Rd.sl [] rfl rfl) (by (try simp only [List.length_append, List.length_nil, List.length_cons, List.length_singleton, List.length_take, List.length_drop]); omega) ?_)
   intro v5 hs1 hn1
   refine cX (qA (0) je rfl qN (by decide) rfl rfl (cX (jq [_, _] _ [v5] qN rfl rfl (qP hs1) rfl rfl rfl (qb (qa (qf (ii ((n : Int))) rfl (cX (qW (((n : Int)) - 1) rfl rfl (by omega) (by omega) (qh (ii (((n : Int)) - 1)) rfl (qb ?_))))))))))
   exact ⟨(n - 1, v5, os ++ [(u1)]), _, FLe.refl _, le5, ⟨rfl, rfl, rfl, (vI (by (try dsimp only); omega)), ⟨⟩⟩, (sD (sC (sC (sC (sC (sC sR)))))), ⟨rfl, (hs1), (sigOk_snoc hso (by omega) (by omega)), (by (try dsimp only); rw [List.length_append]; simp only [List.length_singleton]; omega)⟩, (by (try dsimp only); omega)⟩
  refine jl (qE (qE (qS (qc (qa (cX (qr [ov] qL qz rfl rfl (Rd.ownN [_] rfl rfl) (cX (qt [_, _, _] _ [ov] qz rfl rfl rfl (qw (qP hov) qC) rfl rfl rfl (qb (qx (qp (L' := drawnH 2 ov (fun ar => sigOk ar = true) :: curH .i64 142 cb bsv bs.length :: L) [.agg #[ov]] (.agg #[ov]) (.cell rfl (ja [ov] qL qz rfl (Rd.ownN [_, _, _] rfl rfl)) .nil) rfl rF rF (jp (sC (sD (sD (sD (sC sR))))) (Sub.keep (drawnH.of (t := os) hso) sR)) ?_))))))))))))
  exact ⟨_, ⟨rfl, hov⟩, rfl⟩
 refine qv (qc (qa (cX (qr [v1] qL qz rfl rfl (Rd.ownN [] rfl rfl) (cX (qt [_, _] _ [v1] qz rfl rfl rfl (qw (qP (jo hv1)) qC) rfl rfl rfl (qb (qx (qp (L' := drawnH 2 v1 (fun ar => sigOk ar = true) :: curH .i64 142 cb bsv bs.length :: L) [.agg #[v1]] (.agg #[v1]) (.cell rfl (ja [v1] qL qz rfl (Rd.ownN [_, _] rfl rfl)) .nil) rfl rF rF (jp (sD (sC (sD (sC sR)))) (Sub.keep (drawnH.of (t := [2, 1, 0]) ((by decide))) sR)) ?_)))))))))
 exact ⟨_, ⟨rfl, (jo hv1)⟩, rfl⟩

/- spec.l1DrawSigAny -/
theorem l1DrawSigAny_spec {F : FH} {L : List HP} {cb : Nat} {bsv : Value} {bs : List Int} (hbs : BytesF F bsv bs) (hbl : bs.length ≤ 4000000) :
    Does prog 135 [ptr cb 0] F (curH .i64 142 cb bsv bs.length :: L) (fun v F' L' => (∃ (a : Value), ∃ (ar : List Int), (.agg #[a] : Value) = v ∧ (IntsF F' a ar) ∧ (ar.length ≤ 20)) ∧ curH .i64 142 cb bsv bs.length :: L = L') := by
 refine qM func135 rfl rfl rfl (qc (qa (cX (jd [sN] zeroValue29 rfl ?_))))
 intro b1
 refine qb (qc (qa (qf (ptr cb 0) rfl (cX (ql (args := [ptr cb 0]) call196 rfl (Does.atO [_] (l1DrawSig_spec hbs (by omega))) ?_)))))
 rintro _ F1 _ le1 ⟨x2, ⟨rfl, hsl1⟩, rfl⟩
 replace hbs := hbs.mono le1
 show XL _ _ _ _ _ _ _ (drawnH 2 x2 (fun ar => sigOk ar = true) :: cellsH b1 [sN] 29 :: curH .i64 142 cb bsv bs.length :: L)
 refine XL.undraw [] rfl (fun t1 hq9 => ?_)
 have q1 := hq9
 show XL _ _ _ _ _ _ _ (intsH 2 x2 t1 :: cellsH b1 [sN] 29 :: curH .i64 142 cb bsv bs.length :: L)
 have hsl9 := sigOk_spec q1
 refine cX (jd [sN] zeroValue29 rfl ?_)
 intro b2
 refine cX (qt [] _ [x2] qz rfl rfl rfl (qw (qP hsl1) qC) rfl rfl rfl (qb (qc (qc (qa (qf (ptr cb 0) rfl (cX (ql (args := [ptr cb 0, ii (15)]) call137 rfl (jj [_, _, _] (l1Once_spec (n := 15) hbs (by omega) (hn := (by first | assumption | rfl | omega | simp)))) ?_))))))))
 rintro _ _ _ _ ⟨⟨rfl, x3, rfl⟩, rfl⟩
 show XL _ _ _ _ _ _ _ (cellsH b2 [x2] 29 :: intsH 2 x2 t1 :: cellsH b1 [sN] 29 :: curH .i64 142 cb bsv bs.length :: L)
 refine qb ?_
 refine jk (t := x3) rfl (fun h1 => ?_) (fun h1 => ?_)
 ·refine qc (qa (qf (ptr cb 0) rfl (cX (ql (args := [ptr cb 0, ii (3)]) jH rfl (jj [_, _, _] (l1Below_spec (n := 3) hbs (by omega) (hn := (by first | assumption | rfl | omega | simp)))) ?_))))
  rintro _ _ _ _ ⟨⟨rfl, x4, rfl, hr1⟩, rfl⟩
  show XL _ _ _ _ _ _ _ (cellsH b2 [x2] 29 :: intsH 2 x2 t1 :: cellsH b1 [sN] 29 :: curH .i64 142 cb bsv bs.length :: L)
  refine qb (qQ (qc (qa (cX (jt rfl rfl (qh (.bool (decide ((x4 : Int) = 0))) rfl (qb ?_)))))))
  refine qF (p := (x4 : Int) = 0) rfl (fun h2 => ?_) (fun h2 => ?_)
  ·refine X.drawG [cellsH b2 [x2] 29, intsH 2 x2 t1, cellsH b1 [sN] 29, curH .i64 142 cb bsv bs.length] L 5 [[], [], [], [], [3]] [[], [0], [], [2], [3]] [] (phiG [pe (ptr b2 0), pe x2, pe (ptr cb 0), fun FF us v => (ii (((intAt v))) : Value) = v ∧ ((-1) ≤ ((intAt v)) ∧ (((intAt v)) ≤ 4 ∨ ((intAt v)) = (-1))), fun FF us v => ∃ b, v = .slice (some ⟨b, 0, none⟩) 1 1]) (ownL [o0, o0, o0, o0, fun us v => [slH 2 1 v 1 [ii (((intAt (us.getD 0 undef))))]]]) mixed rfl rfl (by kernel_rfl) (by kernel_rfl) (MonoG.get (m1 (m1 (m1 (mC (fun le h => ⟨h.1, h.2⟩) (mC (fun le h => h) MonoG.nil)))))) ?_ ?_
   ·refine gD (fun W Fs R lF z9 => ?_) ?_
    ·refine qj (qA (0) je rfl qN (by decide) rfl rfl ?_)
     exact ⟨rfl, rfl⟩
    refine gD (fun W Fs R lF z9 => ?_) ?_
    ·replace hbs := hbs.mono lF
     rw [eS (l := [(0, _)]) ⟨z9 0 rfl, ⟨⟩⟩]
     refine qj (qn jn rfl (Rd.own [] rfl rfl) ?_)
     exact ⟨rfl, rfl⟩
    refine gD (fun W Fs R lF z9 => ?_) ?_
    ·refine qj (qk (ptr cb 0) rfl ?_)
     exact ⟨rfl, rfl⟩
    refine gD (fun W Fs R lF z9 => ?_) ?_
    ·replace hbs := hbs.mono lF
     rw [eS (l := [(2, _)]) ⟨z9 2 rfl, ⟨⟩⟩]
     refine qj (ql (args := [ptr cb 0, ii (-1), ii (4)]) call197 rfl (jj [_, _, _] (l1From_spec (lo := -1) (hi := 4) hbs (by omega) (hlo := (by first | assumption | rfl | omega | simp)))) ?_)
     rintro _ _ _ _ ⟨⟨rfl, x6, rfl, hr3⟩, rfl⟩
     exact ⟨⟨rfl, hr3⟩, rfl⟩
    refine gD (fun W Fs R lF z9 => ?_) ?_
    ·obtain ⟨e3, f3_1hx⟩ := z9 3 rfl
     replace hbs := hbs.mono lF
     rw [eS (l := [(3, (ii (((intAt (W 3))))))]) ⟨(e3).symm, ⟨⟩⟩]
     refine qj (qD (s := 1) [ii (((intAt (W 3))))] [ii (0)] [(0, [ii (((intAt (W 3))))])] qd qy qU rfl (by decide) rfl (.cons rfl CellsAre.nil) rfl ?_)
     intro v2 hv2
     exact ⟨hv2, rfl⟩
    exact stepsG.nil
   intro W F6 le6 hphi
   obtain ⟨e3, f3_1hx⟩ := hphi 3 (by decide)
   have f4 : ∃ b, (W 4) = .slice (some ⟨b, 0, none⟩) 1 1 := hphi 4 (by decide)
   generalize hu1 : (intAt (W 3)) = u1 at e3 f3_1hx f4
   generalize hu4 : W 4 = u2 at e3 f3_1hx f4
   rw [eS (l := [(1, _), (3, (ii ((u1)))), (4, u2)]) ⟨(hphi 1 (by decide)), (e3).symm, hu4, ⟨⟩⟩]
   replace hbs := hbs.mono le6
   show XL _ _ _ _ _ _ _ (slH 2 1 u2 1 [ii ((u1))] :: cellsH b2 [x2] 29 :: intsH 2 x2 t1 :: cellsH b1 [sN] 29 :: curH .i64 142 cb bsv bs.length :: L)
   refine cX (jC (u := (u1)) [_, _] _ qd typeInfo2 rfl rfl rfl rfl rfl rfl (SlV.own [] rfl) (Rd.sl [] rfl rfl) (by (try simp only [List.length_append, List.length_nil, List.length_cons, List.length_singleton, List.length_take, List.length_drop]); omega) ?_)
   intro v3 hs1 hn1
   refine cX (qA (0) je rfl qN (by decide) rfl rfl (cX (jq [_] _ [v3] qN rfl rfl (qP hs1) rfl rfl rfl (qb (qc (qa (cX (qr [v3] qL qz rfl rfl (Rd.ownN [_] rfl rfl) (cX (qt [_, _, _] _ [v3] qz rfl rfl rfl (qw (qP hs1) qC) rfl rfl rfl (qb (ji [_, _] _ _ rfl (fun F7 le7 hz1 => ?_)))))))))))))
   replace hbs := hbs.mono le7
   have hf1 : IntsF F7 v3 (t1 ++ [(u1)]) := intsH.fz (xs := t1 ++ [(u1)]) hz1.fz
   refine qx (qp (L' := curH .i64 142 cb bsv bs.length :: L) [.agg #[v3]] (.agg #[v3]) (.cell rfl (ja [v3] qL qz rfl (Rd.ownN [_, _] rfl rfl)) .nil) rfl (qg (qg le1 le6) le7) rF (sD (sD (sD (sC sR)))) ?_)
   exact ⟨⟨_, _, rfl, hf1, by (have h9 := sigOk_spec q1); (try simp only [List.length_append, List.length_cons, List.length_nil, List.length_replicate]); omega⟩, rfl⟩
  refine qc (qa (cX (jt rfl rfl (qh (.bool (decide ((x4 : Int) = 1))) rfl (qb ?_)))))
  refine qF (p := (x4 : Int) = 1) rfl (fun h3 => ?_) (fun h3 => ?_)
  ·refine qa (cX (qD (s := 1) [] [ii (0)] [] qd qy qU rfl (by decide) rfl CellsAre.nil rfl ?_))
   intro v4 hv3
   refine cX (qA (0) je rfl qN (by decide) rfl rfl (cX (jq [_] _ [v4] qN rfl rfl (qP (jo hv3)) rfl rfl rfl (qb (qc (qa (cX (qr [v4] qL qz rfl rfl (Rd.ownN [_] rfl rfl) (cX (qt [_, _, _] _ [v4] qz rfl rfl rfl (qw (qP (jo hv3)) qC) rfl rfl rfl (qb ?_)))))))))))
   show X _ _ _ _ _ _ (intsH 2 v4 ([] : List Int) :: cellsH b2 [v4] 29 :: intsH 2 x2 t1 :: cellsH b1 [v4] 29 :: curH .i64 142 cb bsv bs.length :: L)
   refine ji [] _ _ rfl (fun F8 le8 hz2 => ?_)
   replace hbs := hbs.mono le8
   have hf2 : IntsF F8 v4 ([]) := intsH.fz (xs := []) hz2.fz
   refine qx (qp (L' := curH .i64 142 cb bsv bs.length :: L) [.agg #[v4]] (.agg #[v4]) (.cell rfl (ja [v4] qL qz rfl (Rd.ownN [_, _] rfl rfl)) .nil) rfl (qg le1 le8) rF (sD (sD (sD (sC sR)))) ?_)
   exact ⟨⟨_, _, rfl, hf2, by (have h9 := sigOk_spec q1); (try simp only [List.length_append, List.length_cons, List.length_nil, List.length_replicate]); omega⟩, rfl⟩
  refine qc (qa (cX (jt rfl rfl (qh (.bool (decide ((x4 : Int) = 2))) rfl (qb ?_)))))
  refine qF (p := (x4 : Int) = 2) rfl (fun h4 => ?_) (fun h4 => ?_)
  ·refine qa (qf (ptr cb 0) rfl (cX (ql (args := [ptr cb 0, ii (2)]) jH rfl (jj [_, _, _] (l1Below_spec (n := 2) hbs (by omega) (hn := (by first | assumption | rfl | omega | simp)))) ?_)))
   rintro _ _ _ _ ⟨⟨rfl, x7, rfl, hr4⟩, rfl⟩
   show XL _ _ _ _ _ _ _ (cellsH b2 [x2] 29 :: intsH 2 x2 t1 :: cellsH b1 [sN] 29 :: curH .i64 142 cb bsv bs.length :: L)
   refine cX (qT (((8 + (x7).toNat : Nat) : Int)) rfl rfl (by omega) (by omega) (cX (XOp.makeSlice (n := 8 + (x7).toNat) (bytes := 8) [ii (0)] qd qy typeInfo2 rfl qU rfl rfl rfl rfl (by omega) (by omega) ?_)))
   intro v5 hv4
   rw [intsH_zeros]
   refine cX (qA (0) je rfl qN (by decide) rfl rfl (cX (jq [_] _ [v5] qN rfl rfl (qP (jo hv4)) rfl rfl rfl (qb (qc (qa (cX (qr [v5] qL qz rfl rfl (Rd.ownN [_] rfl rfl) (cX (qt [_, _, _] _ [v5] qz rfl rfl rfl (qw (qP (jo hv4)) qC) rfl rfl rfl (qb (ji [] _ _ rfl (fun F10 le10 hz3 => ?_)))))))))))))
   have hf3 : IntsF F10 v5 ((List.replicate (8 + (x7).toNat) 0)) := intsH.fz (xs := (List.replicate (8 + (x7).toNat) 0)) hz3.fz
   refine qx (qp (L' := curH .i64 142 cb bsv bs.length :: L) [.agg #[v5]] (.agg #[v5]) (.cell rfl (ja [v5] qL qz rfl (Rd.ownN [_, _] rfl rfl)) .nil) rfl (qg le1 le10) rF (sD (sD (sD (sC sR)))) ?_)
   exact ⟨⟨_, _, rfl, hf3, by (have h9 := sigOk_spec q1); (try simp only [List.length_append, List.length_cons, List.length_nil, List.length_replicate]); omega⟩, rfl⟩
  refine qv (qc (qa (cX (qr [x2] qL qz rfl rfl (Rd.ownN [] rfl rfl) (cX (qt [_, _] _ [x2] qz rfl rfl rfl (qw (qP hsl1) qC) rfl rfl rfl (qb (ji [_] _ _ rfl (fun F11 le11 hz4 => ?_)))))))))
  have hf4 : IntsF F11 x2 t1 := intsH.fz (xs := t1) hz4.fz
  refine qx (qp (L' := curH .i64 142 cb bsv bs.length :: L) [.agg #[x2]] (.agg #[x2]) (.cell rfl (ja [x2] qL qz rfl (Rd.ownN [_] rfl rfl)) .nil) rfl (qg le1 le11) rF (sD (sD (sC sR))) ?_)
  exact ⟨⟨_, _, rfl, hf4, by (have h9 := sigOk_spec q1); (try simp only [List.length_append, List.length_cons, List.length_nil, List.length_replicate]); omega⟩, rfl⟩
 refine qv (qc (qa (cX (qr [x2] qL qz rfl rfl (Rd.ownN [] rfl rfl) (cX (qt [_, _] _ [x2] qz rfl rfl rfl (qw (qP hsl1) qC) rfl rfl rfl (qb (ji [_] _ _ rfl (fun F12 le12 hz5 => ?_)))))))))
 have hf5 : IntsF F12 x2 t1 := intsH.fz (xs := t1) hz5.fz
 refine qx (qp (L' := curH .i64 142 cb bsv bs.length :: L) [.agg #[x2]] (.agg #[x2]) (.cell rfl (ja [x2] qL qz rfl (Rd.ownN [_] rfl rfl)) .nil) rfl (qg le1 le12) rF (sD (sD (sC sR))) ?_)
 exact ⟨⟨_, _, rfl, hf5, by (have h9 := sigOk_spec q1); (try simp only [List.length_append, List.length_cons, List.length_nil, List.length_replicate]); omega⟩, rfl⟩

/- spec.l1DrawTerm -/
theorem l1DrawTerm_spec_step {dp : Nat} (ih : ∀ m : Nat, m < dp → ∀ {F : FH} {L : List HP} {cb : Nat} {bsv : Value} {bs : List Int} (hbs : BytesF F bsv bs) (hbl : bs.length ≤ 4000000) {arv : Value} {ar : List Int} (har : IntsF F arv ar) {vs : Int} (hso : sigOk ar = true) (hdp : m ≤ 5) (hvs : 0 ≤ vs ∧ vs ≤ 24), Does prog 198 [ptr cb 0, .agg #[arv], ii ((m : Int)), ii (vs)] F (curH .i64 142 cb bsv bs.length :: L) (fun v F' L' => ∃ a : Value, ((a : Value) = v ∧ IsSl a) ∧ drawnH 2 a (fun t => goodT ar t ∧ 1 ≤ t.length ∧ t.length ≤ szT m) :: curH .i64 142 cb bsv bs.length :: L = L')) {F : FH} {L : List HP} {cb : Nat} {bsv : Value} {bs : List Int} (hbs : BytesF F bsv bs) (hbl : bs.length ≤ 4000000) {arv : Value} {ar : List Int} (har : IntsF F arv ar) {vs : Int} (hso : sigOk ar = true) (hdp : dp ≤ 5) (hvs : 0 ≤ vs ∧ vs ≤ 24) :
    Does prog 198 [ptr cb 0, .agg #[arv], ii (((dp : Nat) : Int)), ii (vs)] F (curH .i64 142 cb bsv bs.length :: L) (fun v F' L' => ∃ a : Value, ((a : Value) = v ∧ IsSl a) ∧ drawnH 2 a (fun t => goodT ar t ∧ 1 ≤ t.length ∧ t.length ≤ szT dp) :: curH .i64 142 cb bsv bs.length :: L = L') := by
 refine qM func198 rfl rfl rfl ?_
 have hz9 := szT_le (d := dp - 1) (e := 4) (by omega)
 have hz8 : szT 4 = 121 := rfl
 have hz7 := szT_pos (dp - 1)
 have hsl := sigOk_spec hso
 refine qc (qa (cX (jg [arv] rfl rfl ?_)))
 intro b1
 refine qh (sN) rfl (qb (qc (qc (qa (qf (ii (((dp : Nat) : Int))) rfl (cX (XOp.leq rfl rfl (qf (.bool (decide ((((dp : Nat) : Int) : Int) ≤ 1))) rfl ?_))))))))
 by_cases h1 : (((dp : Nat) : Int) : Int) ≤ 1
 ·refine qu (t := 15) rfl (vT h1) (qu (t := 15) rfl (vT h1) (cX (qX (.bool (true)) (vT h1) rfl (qb (jK rfl (qc (qc (qa (qf (ii (vs)) rfl (cX (jF rfl rfl (qf (.bool (decide ((vs : Int) > 0))) rfl ?_))))))))))))
  by_cases h2 : (vs : Int) > 0
  ·refine qq (t := 21) rfl (vT h2) (qk (ptr cb 0) rfl (qq (t := 21) rfl (vT h2) (ql (args := [ptr cb 0, ii (2)]) call137 rfl (jj [_] (l1Once_spec (n := 2) hbs (by omega) (hn := (by first | assumption | rfl | omega | simp)))) ?_)))
   rintro _ _ _ _ ⟨⟨rfl, x1, rfl⟩, rfl⟩
   show XL _ _ _ _ _ _ _ (cellsH b1 [arv] 29 :: curH .i64 142 cb bsv bs.length :: L)
   refine cX (qX (.bool (x1)) (vT h2) rfl (qb ?_))
   refine jk (t := x1) rfl (fun h3 => ?_) (fun h3 => ?_)
   ·refine qc (qa (qf (ptr cb 0) rfl (qf (ii (vs)) rfl (cX (ql (args := [ptr cb 0, ii (vs)]) jH rfl (jj [_] (l1Below_spec (n := vs) hbs (by omega) (hn := (by first | assumption | rfl | omega | simp)))) ?_)))))
    rintro _ _ _ _ ⟨⟨rfl, x2, rfl, hr1⟩, rfl⟩
    show XL _ _ _ _ _ _ _ (cellsH b1 [arv] 29 :: curH .i64 142 cb bsv bs.length :: L)
    refine cX (qW ((-1) - x2) rfl rfl (by omega) (by omega) (cX (qD (s := 1) [ii ((-1) - x2)] [ii (0)] [(0, [ii ((-1) - x2)])] qd qy qU rfl (by decide) rfl (.cons rfl CellsAre.nil) rfl ?_)))
    intro v1 hv1
    refine qh (v1) rfl (qb (qx (qi (qi (qp (L' := drawnH 2 v1 (fun t => goodT ar t ∧ 1 ≤ t.length ∧ t.length ≤ szT dp) :: curH .i64 142 cb bsv bs.length :: L) [v1] (v1) (.tmp rfl .nil) rfl rF rF (jp (sC (sD (sC sR))) (Sub.keep (drawnH.of (t := [(-1) - x2]) (⟨goodT.var (by omega) (by omega), Nat.le_refl _, szT_pos dp⟩)) sR)) ?_)))))
    exact ⟨_, ⟨rfl, (jo hv1)⟩, rfl⟩
   refine qv (qc (qc (qa (cX (qA (0) je rfl qN (by decide) rfl rfl (cX (qn jn rfl (Rd.own [] rfl rfl) (cX (qO qd rfl har.slv (cX (qW (((((ar).length) - 1 : Nat) : Int)) rfl rfl (by omega) (by omega) (qh (ii (((((ar).length) - 1 : Nat) : Int))) rfl (qb (qQ (js (α := Nat) (fun j => [(5, ptr b1 0), (9, ii ((j : Int) - 1))]) (fun j => cellsH b1 [arv] 29 :: curH .i64 142 cb bsv bs.length :: L) (fun j F' => F = F' ∧ (j ≤ ar.length)) (fun j => j) ar.length ⟨rfl, (vI (by omega)), ⟨⟩⟩ (sC (sC sR)) ⟨rfl, (Nat.le_refl _)⟩ ?_)))))))))))))))
   rintro j rE _ _ ⟨rfl, hj⟩
   show X _ _ _ _ (envs [(5, ptr b1 0), (9, ii ((j : Int) - 1))] rE) _ (cellsH b1 [arv] 29 :: curH .i64 142 cb bsv bs.length :: L)
   refine qc (qc (qa (qf (ii ((j : Int) - 1)) rfl (cX (ju rfl rfl (qb ?_))))))
   refine qF (p := ((j : Int) - 1 : Int) ≥ 0) rfl (fun h4 => ?_) (fun h4 => ?_)
   ·refine qv (qc (qQ (qc (qa (cX (qA (0) je rfl qN (by decide) rfl rfl (cX (qn jn rfl (Rd.own [] rfl rfl) (qf (ii ((j : Int) - 1)) rfl (cX (qB (((j : Int) - 1).toNat) qd qy rfl rfl (by omega) har.slv (by omega) (Nat.mul_one _) (cX (qn qV rfl (har.rd (by omega)) (cX (jt rfl rfl (qb ?_))))))))))))))))
    refine qF (p := (ar.getD (((j : Int) - 1).toNat) 0 : Int) = 0) rfl (fun h5 => ?_) (fun h5 => ?_)
    ·refine qc (qa (qf (ii ((j : Int) - 1)) rfl (cX (qD (s := 1) [ii ((j : Int) - 1)] [ii (0)] [(0, [ii ((j : Int) - 1)])] qd qy qU rfl (by decide) rfl (.cons rfl CellsAre.nil) rfl ?_))))
     intro v2 hv2
     refine qh (v2) rfl (qb (qx (qs (qi (qi (qs (qi (qi (qp (L' := drawnH 2 v2 (fun t => goodT ar t ∧ 1 ≤ t.length ∧ t.length ≤ szT dp) :: curH .i64 142 cb bsv bs.length :: L) [v2] (v2) (.tmp rfl .nil) rfl rF rF (jp (sC (sD (sC sR))) (Sub.keep (drawnH.of (t := [(j : Int) - 1]) (⟨goodT.one (by omega) (by omega) (by rw [arity, if_neg (by omega)]; omega), Nat.le_refl _, szT_pos dp⟩)) sR)) ?_)))))))))
     exact ⟨_, ⟨rfl, (jo hv2)⟩, rfl⟩
    refine qv (qa (qf (ii ((j : Int) - 1)) rfl (cX (qW (((j : Int) - 1) - 1) rfl rfl (by omega) (by omega) (qh (ii (((j : Int) - 1) - 1)) rfl (qb ?_))))))
    exact ⟨j - 1, _, FLe.refl _, rF, ⟨rfl, (vI (by (try dsimp only); omega)), ⟨⟩⟩, (sC (sC sR)), ⟨rfl, (by (try dsimp only) <;> omega)⟩, (by (try dsimp only); omega)⟩
   refine jl (qE (qE (qS (qc (qa (cX (qD (s := 1) [ii (-1)] [ii (0)] [(0, [ii (-1)])] qd qy qU rfl (by decide) rfl (.cons rfl CellsAre.nil) rfl ?_)))))))
   intro v3 hv3
   refine qh (v3) rfl (qb (qx (qi (qp (L' := drawnH 2 v3 (fun t => goodT ar t ∧ 1 ≤ t.length ∧ t.length ≤ szT dp) :: curH .i64 142 cb bsv bs.length :: L) [v3] (v3) (.tmp rfl .nil) rfl rF rF (jp (sC (sD (sC sR))) (Sub.keep (drawnH.of (t := [-1]) (⟨goodT.var (by omega) (by omega), Nat.le_refl _, szT_pos dp⟩)) sR)) ?_))))
   exact ⟨_, ⟨rfl, (jo hv3)⟩, rfl⟩
  refine qu (t := 21) rfl (vF h2) (qu (t := 21) rfl (vF h2) (cX (qR (.bool (false)) (vF h2) rfl (qb (jx rfl (qv (qc (qc (qa (cX (qA (0) je rfl qN (by decide) rfl rfl (cX (qn jn rfl (Rd.own [] rfl rfl) (cX (qO qd rfl har.slv (cX (qW (((((ar).length) - 1 : Nat) : Int)) rfl rfl (by omega) (by omega) ?_)))))))))))))))))
  refine qh (ii (((((ar).length) - 1 : Nat) : Int))) rfl (qb (qQ (js (α := Nat) (fun j => [(5, ptr b1 0), (9, ii ((j : Int) - 1))]) (fun j => cellsH b1 [arv] 29 :: curH .i64 142 cb bsv bs.length :: L) (fun j F' => F = F' ∧ (j ≤ ar.length)) (fun j => j) ar.length ⟨rfl, (vI (by omega)), ⟨⟩⟩ (sC (sC sR)) ⟨rfl, (Nat.le_refl _)⟩ ?_)))
  rintro j rE _ _ ⟨rfl, hj⟩
  show X _ _ _ _ (envs [(5, ptr b1 0), (9, ii ((j : Int) - 1))] rE) _ (cellsH b1 [arv] 29 :: curH .i64 142 cb bsv bs.length :: L)
  refine qc (qc (qa (qf (ii ((j : Int) - 1)) rfl (cX (ju rfl rfl (qb ?_))))))
  refine qF (p := ((j : Int) - 1 : Int) ≥ 0) rfl (fun h6 => ?_) (fun h6 => ?_)
  ·refine qv (qc (qQ (qc (qa (cX (qA (0) je rfl qN (by decide) rfl rfl (cX (qn jn rfl (Rd.own [] rfl rfl) (qf (ii ((j : Int) - 1)) rfl (cX (qB (((j : Int) - 1).toNat) qd qy rfl rfl (by omega) har.slv (by omega) (Nat.mul_one _) (cX (qn qV rfl (har.rd (by omega)) (cX (jt rfl rfl (qb ?_))))))))))))))))
   refine qF (p := (ar.getD (((j : Int) - 1).toNat) 0 : Int) = 0) rfl (fun h7 => ?_) (fun h7 => ?_)
   ·refine qc (qa (qf (ii ((j : Int) - 1)) rfl (cX (qD (s := 1) [ii ((j : Int) - 1)] [ii (0)] [(0, [ii ((j : Int) - 1)])] qd qy qU rfl (by decide) rfl (.cons rfl CellsAre.nil) rfl ?_))))
    intro v4 hv4
    refine qh (v4) rfl (qb (qx (qs (qi (qi (qs (qi (qi (qp (L' := drawnH 2 v4 (fun t => goodT ar t ∧ 1 ≤ t.length ∧ t.length ≤ szT dp) :: curH .i64 142 cb bsv bs.length :: L) [v4] (v4) (.tmp rfl .nil) rfl rF rF (jp (sC (sD (sC sR))) (Sub.keep (drawnH.of (t := [(j : Int) - 1]) (⟨goodT.one (by omega) (by omega) (by rw [arity, if_neg (by omega)]; omega), Nat.le_refl _, szT_pos dp⟩)) sR)) ?_)))))))))
    exact ⟨_, ⟨rfl, (jo hv4)⟩, rfl⟩
   refine qv (qa (qf (ii ((j : Int) - 1)) rfl (cX (qW (((j : Int) - 1) - 1) rfl rfl (by omega) (by omega) (qh (ii (((j : Int) - 1) - 1)) rfl (qb ?_))))))
   exact ⟨j - 1, _, FLe.refl _, rF, ⟨rfl, (vI (by (try dsimp only); omega)), ⟨⟩⟩, (sC (sC sR)), ⟨rfl, (by (try dsimp only) <;> omega)⟩, (by (try dsimp only); omega)⟩
  refine jl (qE (qE (qS (qc (qa (cX (qD (s := 1) [ii (-1)] [ii (0)] [(0, [ii (-1)])] qd qy qU rfl (by decide) rfl (.cons rfl CellsAre.nil) rfl ?_)))))))
  intro v5 hv5
  refine qh (v5) rfl (qb (qx (qi (qp (L' := drawnH 2 v5 (fun t => goodT ar t ∧ 1 ≤ t.length ∧ t.length ≤ szT dp) :: curH .i64 142 cb bsv bs.length :: L) [v5] (v5) (.tmp rfl .nil) rfl rF rF (jp (sC (sD (sC sR))) (Sub.keep (drawnH.of (t := [-1]) (⟨goodT.var (by omega) (by omega), Nat.le_refl _, szT_pos dp⟩)) sR)) ?_))))
  exact ⟨_, ⟨rfl, (jo hv5)⟩, rfl⟩
 refine qq (t := 15) rfl (vF h1) (qk (ptr cb 0) rfl (qq (t := 15) rfl (vF h1) (ql (args := [ptr cb 0, ii (4)]) call137 rfl (jj [_] (l1Once_spec (n := 4) hbs (by omega) (hn := (by first | assumption | rfl | omega | simp)))) ?_)))
 rintro _ _ _ _ ⟨⟨rfl, x3, rfl⟩, rfl⟩
 show XL _ _ _ _ _ _ _ (cellsH b1 [arv] 29 :: curH .i64 142 cb bsv bs.length :: L)
 refine cX (qR (.bool (x3)) (vF h1) rfl (qb ?_))
 refine jk (t := x3) rfl (fun h8 => ?_) (fun h8 => ?_)
 ·refine qc (qc (qa (qf (ii (vs)) rfl (cX (jF rfl rfl (qf (.bool (decide ((vs : Int) > 0))) rfl ?_))))))
  by_cases h9 : (vs : Int) > 0
  ·refine qq (t := 21) rfl (vT h9) (qk (ptr cb 0) rfl (qq (t := 21) rfl (vT h9) (ql (args := [ptr cb 0, ii (2)]) call137 rfl (jj [_] (l1Once_spec (n := 2) hbs (by omega) (hn := (by first | assumption | rfl | omega | simp)))) ?_)))
   rintro _ _ _ _ ⟨⟨rfl, x4, rfl⟩, rfl⟩
   show XL _ _ _ _ _ _ _ (cellsH b1 [arv] 29 :: curH .i64 142 cb bsv bs.length :: L)
   refine cX (qX (.bool (x4)) (vT h9) rfl (qb ?_))
   refine jk (t := x4) rfl (fun h10 => ?_) (fun h10 => ?_)
   ·refine qc (qa (qf (ptr cb 0) rfl (qf (ii (vs)) rfl (cX (ql (args := [ptr cb 0, ii (vs)]) jH rfl (jj [_] (l1Below_spec (n := vs) hbs (by omega) (hn := (by first | assumption | rfl | omega | simp)))) ?_)))))
    rintro _ _ _ _ ⟨⟨rfl, x5, rfl, hr2⟩, rfl⟩
    show XL _ _ _ _ _ _ _ (cellsH b1 [arv] 29 :: curH .i64 142 cb bsv bs.length :: L)
    refine cX (qW ((-1) - x5) rfl rfl (by omega) (by omega) (cX (qD (s := 1) [ii ((-1) - x5)] [ii (0)] [(0, [ii ((-1) - x5)])] qd qy qU rfl (by decide) rfl (.cons rfl CellsAre.nil) rfl ?_)))
    intro v6 hv6
    refine qh (v6) rfl (qb (qx (qi (qi (qp (L' := drawnH 2 v6 (fun t => goodT ar t ∧ 1 ≤ t.length ∧ t.length ≤ szT dp) :: curH .i64 142 cb bsv bs.length :: L) [v6] (v6) (.tmp rfl .nil) rfl rF rF (jp (sC (sD (sC sR))) (Sub.keep (drawnH.of (t := [(-1) - x5]) (⟨goodT.var (by omega) (by omega), Nat.le_refl _, szT_pos dp⟩)) sR)) ?_)))))
    exact ⟨_, ⟨rfl, (jo hv6)⟩, rfl⟩
   refine qv (qc (qc (qa (cX (qA (0) je rfl qN (by decide) rfl rfl (cX (qn jn rfl (Rd.own [] rfl rfl) (cX (qO qd rfl har.slv (cX (qW (((((ar).length) - 1 : Nat) : Int)) rfl rfl (by omega) (by omega) (qh (ii (((((ar).length) - 1 : Nat) : Int))) rfl (qb (qQ (js (α := Nat) (fun j => [(5, ptr b1 0), (9, ii ((j : Int) - 1))]) (fun j => cellsH b1 [arv] 29 :: curH .i64 142 cb bsv bs.length :: L) (fun j F' => F = F' ∧ (j ≤ ar.length)) (fun j => j) ar.length ⟨rfl, (vI (by omega)), ⟨⟩⟩ (sC (sC sR)) ⟨rfl, (Nat.le_refl _)⟩ ?_)))))))))))))))
   rintro j rE _ _ ⟨rfl, hj⟩
   show X _ _ _ _ (envs [(5, ptr b1 0), (9, ii ((j : Int) - 1))] rE) _ (cellsH b1 [arv] 29 :: curH .i64 142 cb bsv bs.length :: L)
   refine qc (qc (qa (qf (ii ((j : Int) - 1)) rfl (cX (ju rfl rfl (qb ?_))))))
   refine qF (p := ((j : Int) - 1 : Int) ≥ 0) rfl (fun h11 => ?_) (fun h11 => ?_)
   ·refine qv (qc (qQ (qc (qa (cX (qA (0) je rfl qN (by decide) rfl rfl (cX (qn jn rfl (Rd.own [] rfl rfl) (qf (ii ((j : Int) - 1)) rfl (cX (qB (((j : Int) - 1).toNat) qd qy rfl rfl (by omega) har.slv (by omega) (Nat.mul_one _) (cX (qn qV rfl (har.rd (by omega)) (cX (jt rfl rfl (qb ?_))))))))))))))))
    refine qF (p := (ar.getD (((j : Int) - 1).toNat) 0 : Int) = 0) rfl (fun h12 => ?_) (fun h12 => ?_)
    ·refine qc (qa (qf (ii ((j : Int) - 1)) rfl (cX (qD (s := 1) [ii ((j : Int) - 1)] [ii (0)] [(0, [ii ((j : Int) - 1)])] qd qy qU rfl (by decide) rfl (.cons rfl CellsAre.nil) rfl ?_))))
     intro v7 hv7
     refine qh (v7) rfl (qb (qx (qs (qi (qi (qs (qi (qi (qp (L' := drawnH 2 v7 (fun t => goodT ar t ∧ 1 ≤ t.length ∧ t.length ≤ szT dp) :: curH .i64 142 cb bsv bs.length :: L) [v7] (v7) (.tmp rfl .nil) rfl rF rF (jp (sC (sD (sC sR))) (Sub.keep (drawnH.of (t := [(j : Int) - 1]) (⟨goodT.one (by omega) (by omega) (by rw [arity, if_neg (by omega)]; omega), Nat.le_refl _, szT_pos dp⟩)) sR)) ?_)))))))))
     exact ⟨_, ⟨rfl, (jo hv7)⟩, rfl⟩
    refine qv (qa (qf (ii ((j : Int) - 1)) rfl (cX (qW (((j : Int) - 1) - 1) rfl rfl (by omega) (by omega) (qh (ii (((j : Int) - 1) - 1)) rfl (qb ?_))))))
    exact ⟨j - 1, _, FLe.refl _, rF, ⟨rfl, (vI (by (try dsimp only); omega)), ⟨⟩⟩, (sC (sC sR)), ⟨rfl, (by (try dsimp only) <;> omega)⟩, (by (try dsimp only); omega)⟩
   refine jl (qE (qE (qS (qc (qa (cX (qD (s := 1) [ii (-1)] [ii (0)] [(0, [ii (-1)])] qd qy qU rfl (by decide) rfl (.cons rfl CellsAre.nil) rfl ?_)))))))
   intro v8 hv8
   refine qh (v8) rfl (qb (qx (qi (qp (L' := drawnH 2 v8 (fun t => goodT ar t ∧ 1 ≤ t.length ∧ t.length ≤ szT dp) :: curH .i64 142 cb bsv bs.length :: L) [v8] (v8) (.tmp rfl .nil) rfl rF rF (jp (sC (sD (sC sR))) (Sub.keep (drawnH.of (t := [-1]) (⟨goodT.var (by omega) (by omega), Nat.le_refl _, szT_pos dp⟩)) sR)) ?_))))
   exact ⟨_, ⟨rfl, (jo hv8)⟩, rfl⟩
  refine qu (t := 21) rfl (vF h9) (qu (t := 21) rfl (vF h9) (cX (qR (.bool (false)) (vF h9) rfl (qb (jx rfl (qv (qc (qc (qa (cX (qA (0) je rfl qN (by decide) rfl rfl (cX (qn jn rfl (Rd.own [] rfl rfl) (cX (qO qd rfl har.slv (cX (qW (((((ar).length) - 1 : Nat) : Int)) rfl rfl (by omega) (by omega) ?_)))))))))))))))))
  refine qh (ii (((((ar).length) - 1 : Nat) : Int))) rfl (qb (qQ (js (α := Nat) (fun j => [(5, ptr b1 0), (9, ii ((j : Int) - 1))]) (fun j => cellsH b1 [arv] 29 :: curH .i64 142 cb bsv bs.length :: L) (fun j F' => F = F' ∧ (j ≤ ar.length)) (fun j => j) ar.length ⟨rfl, (vI (by omega)), ⟨⟩⟩ (sC (sC sR)) ⟨rfl, (Nat.le_refl _)⟩ ?_)))
  rintro j rE _ _ ⟨rfl, hj⟩
  show X _ _ _ _ (envs [(5, ptr b1 0), (9, ii ((j : Int) - 1))] rE) _ (cellsH b1 [arv] 29 :: curH .i64 142 cb bsv bs.length :: L)
  refine qc (qc (qa (qf (ii ((j : Int) - 1)) rfl (cX (ju rfl rfl (qb ?_))))))
  refine qF (p := ((j : Int) - 1 : Int) ≥ 0) rfl (fun h13 => ?_) (fun h13 => ?_)
  ·refine qv (qc (qQ (qc (qa (cX (qA (0) je rfl qN (by decide) rfl rfl (cX (qn jn rfl (Rd.own [] rfl rfl) (qf (ii ((j : Int) - 1)) rfl (cX (qB (((j : Int) - 1).toNat) qd qy rfl rfl (by omega) har.slv (by omega) (Nat.mul_one _) (cX (qn qV rfl (har.rd (by omega)) (cX (jt rfl rfl (qb ?_))))))))))))))))
   refine qF (p := (ar.getD (((j : Int) - 1).toNat) 0 : Int) = 0) rfl (fun h14 => ?_) (fun h14 => ?_)
   ·refine qc (qa (qf (ii ((j : Int) - 1)) rfl (cX (qD (s := 1) [ii ((j : Int) - 1)] [ii (0)] [(0, [ii ((j : Int) - 1)])] qd qy qU rfl (by decide) rfl (.cons rfl CellsAre.nil) rfl ?_))))
    intro v9 hv9
    refine qh (v9) rfl (qb (qx (qs (qi (qi (qs (qi (qi (qp (L' := drawnH 2 v9 (fun t => goodT ar t ∧ 1 ≤ t.length ∧ t.length ≤ szT dp) :: curH .i64 142 cb bsv bs.length :: L) [v9] (v9) (.tmp rfl .nil) rfl rF rF (jp (sC (sD (sC sR))) (Sub.keep (drawnH.of (t := [(j : Int) - 1]) (⟨goodT.one (by omega) (by omega) (by rw [arity, if_neg (by omega)]; omega), Nat.le_refl _, szT_pos dp⟩)) sR)) ?_)))))))))
    exact ⟨_, ⟨rfl, (jo hv9)⟩, rfl⟩
   refine qv (qa (qf (ii ((j : Int) - 1)) rfl (cX (qW (((j : Int) - 1) - 1) rfl rfl (by omega) (by omega) (qh (ii (((j : Int) - 1) - 1)) rfl (qb ?_))))))
   exact ⟨j - 1, _, FLe.refl _, rF, ⟨rfl, (vI (by (try dsimp only); omega)), ⟨⟩⟩, (sC (sC sR)), ⟨rfl, (by (try dsimp only) <;> omega)⟩, (by (try dsimp only); omega)⟩
  refine jl (qE (qE (qS (qc (qa (cX (qD (s := 1) [ii (-1)] [ii (0)] [(0, [ii (-1)])] qd qy qU rfl (by decide) rfl (.cons rfl CellsAre.nil) rfl ?_)))))))
  intro v10 hv10
  refine qh (v10) rfl (qb (qx (qi (qp (L' := drawnH 2 v10 (fun t => goodT ar t ∧ 1 ≤ t.length ∧ t.length ≤ szT dp) :: curH .i64 142 cb bsv bs.length :: L) [v10] (v10) (.tmp rfl .nil) rfl rF rF (jp (sC (sD (sC sR))) (Sub.keep (drawnH.of (t := [-1]) (⟨goodT.var (by omega) (by omega), Nat.le_refl _, szT_pos dp⟩)) sR)) ?_))))
  exact ⟨_, ⟨rfl, (jo hv10)⟩, rfl⟩
 refine qv (qc (qa (qf (ptr cb 0) rfl (cX (qA (0) je rfl qN (by decide) rfl rfl (cX (qn jn rfl (Rd.own [] rfl rfl) (cX (qO qd rfl har.slv (cX (ql (args := [ptr cb 0, ii ((ar.length : Int))]) jH rfl (jj [_] (l1Below_spec (n := (ar.length : Int)) hbs (by omega) (hn := (by first | assumption | rfl | omega | simp)))) ?_)))))))))))
 rintro _ _ _ _ ⟨⟨rfl, x6, rfl, hr3⟩, rfl⟩
 show XL _ _ _ _ _ _ _ (cellsH b1 [arv] 29 :: curH .i64 142 cb bsv bs.length :: L)
 refine qh (ii (x6)) rfl (qb (qc (qa (qf (ii (x6)) rfl (cX (qD (s := 1) [ii (x6)] [ii (0)] [(0, [ii (x6)])] qd qy qU rfl (by decide) rfl (.cons rfl CellsAre.nil) rfl ?_))))))
 intro v11 hv11
 refine qh (v11) rfl (qb (qc (qc (qa ?_))))
 show XL _ _ _ _ _ _ _ (intsH 2 v11 ([x6] : List Int) :: cellsH b1 [arv] 29 :: curH .i64 142 cb bsv bs.length :: L)
 skip
 refine cX (qA (0) je rfl qN (by decide) rfl rfl (cX (qn jn rfl (Rd.own [_] rfl rfl) (qf (ii (x6)) rfl (cX (qB ((x6).toNat) qd qy rfl rfl (by omega) har.slv (by omega) (Nat.mul_one _) (cX (qn qV rfl (har.rd (by omega)) (qh (ii (ar.getD ((x6).toNat) 0)) rfl ?_)))))))))
 have hfr : 0 ≤ x6 ∧ x6 < (ar.length : Int) := by omega
 have hsp := (sigOk_spec hso).2.2 (x6).toNat (by omega)
 obtain ⟨haK, hKe⟩ : ∃ q : Nat, q = (ar.getD ((x6).toNat) 0).toNat := ⟨_, rfl⟩
 have hK3 : haK ≤ 3 := by omega
 have hKa : arity ar x6 = (haK : Int) := by rw [arity, if_neg (by omega)]; omega
 refine qb (qQ (js (α := Nat × Value × List Int × List Int × FH) (fun xQ => [(0, ptr cb 0), (2, ii (((dp : Nat) : Int))), (3, ii (vs)), (5, ptr b1 0), (11, xQ.2.1), (12, ii (((xQ.1 : Nat) : Int)))]) (fun xQ => intsH 2 xQ.2.1 xQ.2.2.1 :: cellsH b1 [arv] 29 :: curH .i64 142 cb bsv bs.length :: L) (fun xQ F' => xQ.2.2.2.2 = F' ∧ F ≤ xQ.2.2.2.2 ∧ (IsSl xQ.2.1) ∧ (xQ.2.2.1 = x6 :: xQ.2.2.2.1) ∧ (xQ.1 + (haK - xQ.1) = haK ∧ xQ.1 ≤ haK) ∧ (goodN ar xQ.2.2.2.1 (haK - xQ.1)) ∧ (xQ.2.2.2.1.length ≤ (haK - xQ.1) * szT (dp - 1))) (fun xQ => xQ.1) ((ar.getD ((x6).toNat) 0).toNat, v11, [x6], [], F) ⟨rfl, rfl, rfl, rfl, rfl, (vI (by omega)), ⟨⟩⟩ (sC (sC (sC sR))) ⟨rfl, FLe.refl _, ((jo hv11)), (rfl), (by (try dsimp only); omega), (by (try dsimp only); rw [show haK - (ar.getD ((x6).toNat) 0).toNat = 0 from by omega]; exact goodN.nil), (by (try dsimp only); simp)⟩ ?_))
 rintro ⟨n, ov, os, ot, G1⟩ rE _ _ ⟨rfl, leG, hov, hoe, hn3, hgo, hol⟩
 show X _ _ _ _ (envs [(0, ptr cb 0), (2, ii (((dp : Nat) : Int))), (3, ii (vs)), (5, ptr b1 0), (11, ov), (12, ii ((n : Int)))] rE) _ (intsH 2 ov os :: cellsH b1 [arv] 29 :: curH .i64 142 cb bsv bs.length :: L)
 replace leG : F ≤ G1 := leG
 dsimp only at hov hoe hn3 hgo hol
 have hm9 : (haK - n) * szT (dp - 1) ≤ 3 * szT (dp - 1) := Nat.mul_le_mul_right _ (by omega)
 have hool : os.length = ot.length + 1 := by rw [hoe]; rfl
 have leG1 := leG
 replace hbs := hbs.mono leG1
 replace har := har.mono leG1
 refine qc (qc (qa (qf (ii ((n : Int))) rfl (cX (jF rfl rfl (qb ?_))))))
 refine qF (p := (n : Int) > 0) rfl (fun h15 => ?_) (fun h15 => ?_)
 ·refine qv (qc (qQ (qa (qf (ov) rfl (qf (ptr cb 0) rfl (cX (qr [arv] qL qz rfl rfl (Rd.ownN [_] rfl rfl) (qf (ii (((dp : Nat) : Int))) rfl (cX (qW (((dp - 1 : Nat) : Int)) rfl rfl (by omega) (by omega) (qf (ii (vs)) rfl (cX (ql (args := [ptr cb 0, .agg #[arv], ii ((dp - 1 : Nat) : Int), ii (vs)]) call198 rfl (Does.atO [_, _] (ih (dp - 1) (by omega) (vs := vs) hbs (by omega) har (hso := (by first | assumption | rfl | omega | simp)) (hdp := (by first | assumption | rfl | omega | simp)) (hvs := (by first | assumption | rfl | omega | simp)))) ?_)))))))))))))
  rintro _ F7 _ le7 ⟨x8, ⟨rfl, hsl1⟩, rfl⟩
  show XL _ _ _ _ _ _ _ (drawnH 2 x8 (fun t => goodT ar t ∧ 1 ≤ t.length ∧ t.length ≤ szT (dp - 1)) :: intsH 2 ov os :: cellsH b1 [arv] 29 :: curH .i64 142 cb bsv bs.length :: L)
  refine XL.undraw [] rfl (fun t1 hq9 => ?_)
  obtain ⟨q1, q2, q3⟩ := hq9
  show XL _ _ _ _ _ _ _ (intsH 2 x8 t1 :: intsH 2 ov os :: cellsH b1 [arv] 29 :: curH .i64 142 cb bsv bs.length :: L)
  refine XL.freezeF [] _ _ rfl (fun F8 le8 hz1 => ?_)
  have hf1 : IntsF F8 x8 t1 := intsH.fz (xs := t1) hz1.fz
  refine cX (XOp.appendI [] _ qd typeInfo2 rfl rfl rfl rfl rfl rfl hf1 (by (try simp only [List.length_append, List.length_nil, List.length_cons, List.length_singleton, List.length_take, List.length_drop]); omega) ?_)
  intro v12 hs1 hn1 hm1
  refine qh (v12) rfl (qb (qa (qf (ii ((n : Int))) rfl (cX (qW (((n - 1 : Nat) : Int)) rfl rfl (by omega) (by omega) (qh (ii (((n - 1 : Nat) : Int))) rfl (qb ?_)))))))
  exact ⟨(n - 1, v12, os ++ t1, (ot ++ t1), F8), _, (qg (qg leG1 le7) le8), rF, ⟨rfl, rfl, rfl, rfl, rfl, rfl, ⟨⟩⟩, (sC (sC (sC sR))), ⟨rfl, (qg (qg leG1 le7) le8), (hs1), (by (try dsimp only); rw [hoe] <;> rfl), (by (try dsimp only); omega), (by (try dsimp only); rw [show haK - (n - 1) = haK - n + 1 from by omega]; exact hgo.snoc q1), (by (try dsimp only); rw [show haK - (n - 1) = haK - n + 1 from by omega, Nat.succ_mul, List.length_append]; omega)⟩, (by (try dsimp only); omega)⟩
 refine jl (qE (qE (qS (qc (qa (qf (ov) rfl (qh (ov) rfl (qb (qx (qp (L' := drawnH 2 ov (fun t => goodT ar t ∧ 1 ≤ t.length ∧ t.length ≤ szT dp) :: curH .i64 142 cb bsv bs.length :: L) [ov] (ov) (.tmp rfl .nil) rfl leG1 rF (jp (sC (sD (sC sR))) (Sub.keep (drawnH.of (t := os) ((show goodT ar os ∧ 1 ≤ os.length ∧ os.length ≤ szT dp from ⟨by rw [hoe]; exact goodT.node hfr.1 (by omega) hKa (by have h9 := hgo; rwa [show haK - n = haK from by omega] at h9), by omega, by have h9 := szT_next (d := dp) (by omega); omega⟩))) sR)) ?_))))))))))
 exact ⟨_, ⟨rfl, hov⟩, rfl⟩

theorem l1DrawTerm_spec (dp : Nat) : ∀ {F : FH} {L : List HP} {cb : Nat} {bsv : Value} {bs : List Int} (hbs : BytesF F bsv bs) (hbl : bs.length ≤ 4000000) {arv : Value} {ar : List Int} (har : IntsF F arv ar) {vs : Int} (hso : sigOk ar = true) (hdp : dp ≤ 5) (hvs : 0 ≤ vs ∧ vs ≤ 24), Does prog 198 [ptr cb 0, .agg #[arv], ii (((dp : Nat) : Int)), ii (vs)] F (curH .i64 142 cb bsv bs.length :: L) (fun v F' L' => ∃ a : Value, ((a : Value) = v ∧ IsSl a) ∧ drawnH 2 a (fun t => goodT ar t ∧ 1 ≤ t.length ∧ t.length ≤ szT dp) :: curH .i64 142 cb bsv bs.length :: L = L') := by
  induction dp using Nat.strongRecOn with
  | _ dp ih =>
    intros
    exact l1DrawTerm_spec_step ih (by assumption) (by assumption) (by assumption) (by assumption) (by assumption) (by assumption)

/- spec.l1DrawAny -/
set_option maxHeartbeats 1000000 in
theorem l1DrawAny_spec {F : FH} {L : List HP} {cb : Nat} {bsv : Value} {bs : List Int} (hbs : BytesF F bsv bs) (hbl : bs.length ≤ 4000000) {arv : Value} {ar : List Int} (har : IntsF F arv ar) (hal : ar.length ≤ 4000000) :
    Does prog 136 [ptr cb 0, .agg #[arv]] F (curH .i64 142 cb bsv bs.length :: L) (fun v F' L' => (∃ (a : Value), (a : Value) = v ∧ (SomesF F' a (fun u => u.length ≤ 2000))) ∧ curH .i64 142 cb bsv bs.length :: L = L') := by
 refine qM func136 rfl rfl rfl (qc (qa (cX (jg [arv] rfl rfl ?_))))
 intro b1
 refine qh (sN) rfl (qb (qc (qc (qa (cX (qA (0) je rfl qN (by decide) rfl rfl (cX (qn jn rfl (Rd.own [] rfl rfl) (cX (qO qd rfl har.slv (cX (jt rfl rfl (qf (.bool (decide (((ar.length : Int) : Int) = 0))) rfl ?_)))))))))))))
 by_cases h1 : ((ar.length : Int) : Int) = 0
 ·refine qu (t := 10) rfl (vT h1) (qu (t := 10) rfl (vT h1) (qu (t := 10) rfl (vT h1) (cX (qX (.bool (true)) (vT h1) rfl (qb (jK rfl (qc (qa (qf (ptr cb 0) rfl (cX (ql (args := [ptr cb 0, ii (-2), ii (2)]) call197 rfl (jj [_] (l1From_spec (lo := -2) (hi := 2) hbs (by omega) (hlo := (by first | assumption | rfl | omega | simp)))) ?_)))))))))))
  rintro _ _ _ _ ⟨⟨rfl, x1, rfl, hr1⟩, rfl⟩
  show XL _ _ _ _ _ _ _ (cellsH b1 [arv] 29 :: curH .i64 142 cb bsv bs.length :: L)
  refine cX (qD (s := 1) [ii (x1)] [ii (0)] [(0, [ii (x1)])] qd qy qU rfl (by decide) rfl (.cons rfl CellsAre.nil) rfl ?_)
  intro v1 hv1
  refine qh (v1) rfl (qb ?_)
  show X _ _ _ _ _ _ (intsH 2 v1 ([x1] : List Int) :: cellsH b1 [arv] 29 :: curH .i64 142 cb bsv bs.length :: L)
  refine ji [] _ _ rfl (fun F2 le2 hz1 => ?_)
  replace hbs := hbs.mono le2
  replace har := har.mono le2
  have hf1 : IntsF F2 v1 ([x1]) := intsH.fz (xs := [x1]) hz1.fz
  refine qx (qi (qp (L' := curH .i64 142 cb bsv bs.length :: L) [v1] (v1) (.tmp rfl .nil) rfl le2 rF (sD (sC sR)) ?_))
  exact ⟨⟨_, rfl, ⟨_, hf1, by (try simp only [List.length_append, List.length_cons, List.length_nil, List.length_set, List.length_take, List.length_drop]); omega⟩⟩, rfl⟩
 refine qq (t := 10) rfl (vF h1) (qr [arv] qL qz rfl rfl (Rd.ownN [] rfl rfl) (qq (t := 10) rfl (vF h1) (ql (args := [.agg #[arv]]) call151 rfl (sSigOk_spec har (hla := (by first | assumption | rfl | omega | simp))) ?_)))
 rintro _ _ _ _ ⟨rfl, rfl, rfl⟩
 refine qq (t := 10) rfl (vF h1) (jh rfl (cX (qR (.bool (!(sigOk ar))) (vF h1) rfl (qb ?_))))
 refine jk (t := !(sigOk ar)) rfl (fun h2 => ?_) (fun h2 => ?_)
 ·refine qc (qa (qf (ptr cb 0) rfl (cX (ql (args := [ptr cb 0, ii (-2), ii (2)]) call197 rfl (jj [_] (l1From_spec (lo := -2) (hi := 2) hbs (by omega) (hlo := (by first | assumption | rfl | omega | simp)))) ?_))))
  rintro _ _ _ _ ⟨⟨rfl, x2, rfl, hr2⟩, rfl⟩
  show XL _ _ _ _ _ _ _ (cellsH b1 [arv] 29 :: curH .i64 142 cb bsv bs.length :: L)
  refine cX (qD (s := 1) [ii (x2)] [ii (0)] [(0, [ii (x2)])] qd qy qU rfl (by decide) rfl (.cons rfl CellsAre.nil) rfl ?_)
  intro v2 hv2
  refine qh (v2) rfl (qb ?_)
  show X _ _ _ _ _ _ (intsH 2 v2 ([x2] : List Int) :: cellsH b1 [arv] 29 :: curH .i64 142 cb bsv bs.length :: L)
  refine ji [] _ _ rfl (fun F4 le4 hz2 => ?_)
  replace hbs := hbs.mono le4
  replace har := har.mono le4
  have hf2 : IntsF F4 v2 ([x2]) := intsH.fz (xs := [x2]) hz2.fz
  refine qx (qi (qp (L' := curH .i64 142 cb bsv bs.length :: L) [v2] (v2) (.tmp rfl .nil) rfl le4 rF (sD (sC sR)) ?_))
  exact ⟨⟨_, rfl, ⟨_, hf2, by (try simp only [List.length_append, List.length_cons, List.length_nil, List.length_set, List.length_take, List.length_drop]); omega⟩⟩, rfl⟩
 have hso : sigOk ar = true := by simpa using h2
 refine qv (qc ?_)
 refine X.drawG [cellsH b1 [arv] 29, curH .i64 142 cb bsv bs.length] L 5 [[], [], [], [], [3]] [[], [], [], [2], [3]] [] (phiG [pe (ptr cb 0), pe (.agg #[arv]), pe (ptr cb 0), fun FF us v => (ii (((intAt v))) : Value) = v ∧ (0 ≤ ((intAt v)) ∧ (((intAt v)) < 4 ∨ ((intAt v)) = 0)), fun FF us v => v = (ii (1 + (((intAt (us.getD 0 undef))))) : Value)]) (ownL []) mixed rfl rfl (by kernel_rfl) (by kernel_rfl) (MonoG.get (m1 (m1 (m1 (mC (fun le h => ⟨h.1, h.2⟩) (mC (fun le h => h) MonoG.nil)))))) ?_ ?_
 ·refine gD (fun W Fs R lF z9 => ?_) ?_
  ·refine qj (qk (ptr cb 0) rfl ?_)
   exact ⟨rfl, rfl⟩
  refine gD (fun W Fs R lF z9 => ?_) ?_
  ·replace hbs := hbs.mono lF
   replace har := har.mono lF
   refine qj (qr [arv] qL qz rfl rfl (Rd.ownN [] rfl rfl) ?_)
   exact ⟨rfl, rfl⟩
  refine gD (fun W Fs R lF z9 => ?_) ?_
  ·refine qj (qk (ptr cb 0) rfl ?_)
   exact ⟨rfl, rfl⟩
  refine gD (fun W Fs R lF z9 => ?_) ?_
  ·replace hbs := hbs.mono lF
   replace har := har.mono lF
   rw [eS (l := [(2, _)]) ⟨z9 2 rfl, ⟨⟩⟩]
   refine qj (ql (args := [ptr cb 0, ii (4)]) jH rfl (jj [_] (l1Below_spec (n := 4) hbs (by omega) (hn := (by first | assumption | rfl | omega | simp)))) ?_)
   rintro _ _ _ _ ⟨⟨rfl, x4, rfl, hr4⟩, rfl⟩
   exact ⟨⟨rfl, hr4⟩, rfl⟩
  refine gD (fun W Fs R lF z9 => ?_) ?_
  ·obtain ⟨e3, f3_1hx⟩ := z9 3 rfl
   rw [eS (l := [(3, (ii (((intAt (W 3))))))]) ⟨(e3).symm, ⟨⟩⟩]
   refine qj (qT (1 + (((intAt (W 3))))) rfl rfl (by omega) (by omega) ?_)
   exact ⟨rfl, rfl⟩
  exact stepsG.nil
 intro W F7 le7 hphi
 obtain ⟨e3, f3_1hx⟩ := hphi 3 (by decide)
 have e4 : W 4 = (ii (1 + (((intAt (W 3))))) : Value) := hphi 4 (by decide)
 generalize hu1 : (intAt (W 3)) = u1 at e3 f3_1hx e4
 rw [eS (l := [(0, _), (1, _), (3, (ii ((u1)))), (4, (ii (1 + ((u1)))))]) ⟨(hphi 0 (by decide)), (hphi 1 (by decide)), (e3).symm, e4, ⟨⟩⟩]
 replace hbs := hbs.mono le7
 replace har := har.mono le7
 show XL _ _ _ _ _ _ _ (cellsH b1 [arv] 29 :: curH .i64 142 cb bsv bs.length :: L)
 refine cX (ql (args := [ptr cb 0, .agg #[arv], ii (((1 + ((u1))).toNat : Nat) : Int), ii (3)]) call198 (by rw [show (((1 + ((u1))).toNat : Nat) : Int) = 1 + ((u1)) from by omega]; rfl) (Does.atO [_] (l1DrawTerm_spec ((1 + ((u1))).toNat) (vs := 3) hbs (by omega) har (hso := (by first | assumption | rfl | omega | simp)) (hdp := (by first | assumption | rfl | omega | simp)) (hvs := (by first | assumption | rfl | omega | simp)))) ?_)
 rintro _ F8 _ le8 ⟨x6, ⟨rfl, hsl1⟩, rfl⟩
 replace hbs := hbs.mono le8
 show XL _ _ _ _ _ _ _ (drawnH 2 x6 (fun t => goodT ar t ∧ 1 ≤ t.length ∧ t.length ≤ szT ((1 + ((u1))).toNat)) :: cellsH b1 [arv] 29 :: curH .i64 142 cb bsv bs.length :: L)
 refine XL.undraw [] rfl (fun t1 hq9 => ?_)
 obtain ⟨q1, q2, q3⟩ := hq9
 show XL _ _ _ _ _ _ _ (intsH 2 x6 t1 :: cellsH b1 [arv] 29 :: curH .i64 142 cb bsv bs.length :: L)
 have hz9 := szT_le (d := (1 + ((u1))).toNat) (e := 4) (by omega)
 have hz8 : szT 4 = 121 := rfl
 refine qh (x6) rfl (qb (qc (qc (qa (qf (ptr cb 0) rfl (cX (ql (args := [ptr cb 0, ii (12)]) call137 rfl (jj [_, _] (l1Once_spec (n := 12) hbs (by omega) (hn := (by first | assumption | rfl | omega | simp)))) ?_)))))))
 rintro _ _ _ _ ⟨⟨rfl, x7, rfl⟩, rfl⟩
 show XL _ _ _ _ _ _ _ (intsH 2 x6 t1 :: cellsH b1 [arv] 29 :: curH .i64 142 cb bsv bs.length :: L)
 refine qb ?_
 refine jk (t := x7) rfl (fun h3 => ?_) (fun h3 => ?_)
 ·refine qc (qa (qf (ptr cb 0) rfl (cX (ql (args := [ptr cb 0, ii (4)]) jH rfl (jj [_, _] (l1Below_spec (n := 4) hbs (by omega) (hn := (by first | assumption | rfl | omega | simp)))) ?_))))
  rintro _ _ _ _ ⟨⟨rfl, x8, rfl, hr5⟩, rfl⟩
  show XL _ _ _ _ _ _ _ (intsH 2 x6 t1 :: cellsH b1 [arv] 29 :: curH .i64 142 cb bsv bs.length :: L)
  refine qb (qQ (qc (qa (cX (jt rfl rfl (qh (.bool (decide ((x8 : Int) = 0))) rfl (qb ?_)))))))
  refine qF (p := (x8 : Int) = 0) rfl (fun h4 => ?_) (fun h4 => ?_)
  ·refine qa (qf (x6) rfl (qf (ptr cb 0) rfl (cX (ql (args := [ptr cb 0, ii (-2), ii (3)]) call197 rfl (jj [_, _] (l1From_spec (lo := -2) (hi := 3) hbs (by omega) (hlo := (by first | assumption | rfl | omega | simp)))) ?_))))
   rintro _ _ _ _ ⟨⟨rfl, x9, rfl, hr6⟩, rfl⟩
   show XL _ _ _ _ _ _ _ (intsH 2 x6 t1 :: cellsH b1 [arv] 29 :: curH .i64 142 cb bsv bs.length :: L)
   refine cX (qD (s := 1) [ii (x9)] [ii (0)] [(0, [ii (x9)])] qd qy qU rfl (by decide) rfl (.cons rfl CellsAre.nil) rfl ?_)
   intro v3 hv3
   refine cX (jC (u := x9) [_] _ qd typeInfo2 rfl rfl rfl rfl rfl rfl (SlV.own [] rfl) (Rd.sl [] rfl rfl) (by (try simp only [List.length_append, List.length_nil, List.length_cons, List.length_singleton, List.length_take, List.length_drop]); omega) ?_)
   intro v4 hs1 hn1
   refine qh (v4) rfl (qb (qc (qa (qf (v4) rfl (qh (v4) rfl (qb (ji [_] _ _ rfl (fun F12 le12 hz3 => ?_))))))))
   replace hbs := hbs.mono le12
   have hf3 : IntsF F12 v4 (t1 ++ [x9]) := intsH.fz (xs := t1 ++ [x9]) hz3.fz
   refine qx (qp (L' := curH .i64 142 cb bsv bs.length :: L) [v4] (v4) (.tmp rfl .nil) rfl (qg (qg le7 le8) le12) rF (sD (sD (sC sR))) ?_)
   exact ⟨⟨_, rfl, ⟨_, hf3, by (try simp only [List.length_append, List.length_cons, List.length_nil, List.length_set, List.length_take, List.length_drop]); omega⟩⟩, rfl⟩
  refine qc (qa (cX (jt rfl rfl (qh (.bool (decide ((x8 : Int) = 1))) rfl (qb ?_)))))
  refine qF (p := (x8 : Int) = 1) rfl (fun h5 => ?_) (fun h5 => ?_)
  ·refine qa (qf (x6) rfl (qf (ptr cb 0) rfl (qf (x6) rfl (cX (qO qd rfl (intsH.slv [] rfl) (cX (ql (args := [ptr cb 0, ii ((t1.length : Int))]) jH rfl (jj [_, _] (l1Below_spec (n := (t1.length : Int)) hbs (by omega) (hn := (by first | assumption | rfl | omega | simp)))) ?_)))))))
   rintro _ _ _ _ ⟨⟨rfl, x10, rfl, hr7⟩, rfl⟩
   show XL _ _ _ _ _ _ _ (intsH 2 x6 t1 :: cellsH b1 [arv] 29 :: curH .i64 142 cb bsv bs.length :: L)
   refine qf (ptr cb 0) rfl (cX (ql (args := [ptr cb 0, ii (-3), ii (4)]) call197 rfl (jj [_, _] (l1From_spec (lo := -3) (hi := 4) hbs (by omega) (hlo := (by first | assumption | rfl | omega | simp)))) ?_))
   rintro _ _ _ _ ⟨⟨rfl, x11, rfl, hr8⟩, rfl⟩
   show XL _ _ _ _ _ _ _ (intsH 2 x6 t1 :: cellsH b1 [arv] 29 :: curH .i64 142 cb bsv bs.length :: L)
   refine cX (qB ((x10).toNat) qd qy rfl rfl (by omega) (intsH.slv [] rfl) (by omega) (Nat.mul_one _) (cX (intsH.storeX (i := (x10).toNat) (v := x6) [] _ (t1.set ((x10).toNat) x11) qy rfl rfl rfl (by omega) rfl (qb (qc (qa (qf (x6) rfl (qh (x6) rfl (qb (ji [] _ _ rfl (fun F15 le15 hz4 => ?_)))))))))))
   replace hbs := hbs.mono le15
   have hf4 : IntsF F15 x6 ((t1.set ((x10).toNat) x11)) := intsH.fz (xs := (t1.set ((x10).toNat) x11)) hz4.fz
   refine qx (qp (L' := curH .i64 142 cb bsv bs.length :: L) [x6] (x6) (.tmp rfl .nil) rfl (qg (qg le7 le8) le15) rF (sD (sC sR)) ?_)
   exact ⟨⟨_, rfl, ⟨_, hf4, by (try simp only [List.length_append, List.length_cons, List.length_nil, List.length_set, List.length_take, List.length_drop]); omega⟩⟩, rfl⟩
  refine qc (qa (cX (jt rfl rfl (qh (.bool (decide ((x8 : Int) = 2))) rfl (qb ?_)))))
  refine qF (p := (x8 : Int) = 2) rfl (fun h6 => ?_) (fun h6 => ?_)
  ·refine qa (XL.freezeF [] _ _ rfl (fun F16 le16 hz5 => ?_))
   replace hbs := hbs.mono le16
   have hf5 : IntsF F16 x6 t1 := intsH.fz (xs := t1) hz5.fz
   skip
   refine qf (x6) rfl (cX (XOp.sliceI 1 ((t1).length) qd qy rfl hf5 ⟨_, rfl⟩ rfl (by omega) (by omega) ?_))
   intro v5 hv4 hn2
   refine qh (v5) rfl (qb (qc (qa (qf (v5) rfl (qh (v5) rfl (qb (qx (qp (L' := curH .i64 142 cb bsv bs.length :: L) [v5] (v5) (.tmp rfl .nil) rfl (qg (qg le7 le8) le16) rF (sD (sC sR)) ?_))))))))
   exact ⟨⟨_, rfl, ⟨_, hv4, by (try simp only [List.length_append, List.length_cons, List.length_nil, List.length_set, List.length_take, List.length_drop]); omega⟩⟩, rfl⟩
  refine qc (qa (cX (jt rfl rfl (qh (.bool (decide ((x8 : Int) = 3))) rfl (qb ?_)))))
  refine qF (p := (x8 : Int) = 3) rfl (fun h7 => ?_) (fun h7 => ?_)
  ·refine qa (qf (x6) rfl (qf (ptr cb 0) rfl (cX (ql (args := [ptr cb 0]) call199 rfl (jj [_, _] (l1Odd_spec hbs (by omega))) ?_))))
   rintro _ _ _ _ ⟨⟨rfl, x12, rfl⟩, rfl⟩
   show XL _ _ _ _ _ _ _ (intsH 2 x6 t1 :: cellsH b1 [arv] 29 :: curH .i64 142 cb bsv bs.length :: L)
   refine cX (qD (s := 1) [ii (x12)] [ii (0)] [(0, [ii (x12)])] qd qy qU rfl (by decide) rfl (.cons rfl CellsAre.nil) rfl ?_)
   intro v6 hv5
   refine cX (jC (u := x12) [_] _ qd typeInfo2 rfl rfl rfl rfl rfl rfl (SlV.own [] rfl) (Rd.sl [] rfl rfl) (by (try simp only [List.length_append, List.length_nil, List.length_cons, List.length_singleton, List.length_take, List.length_drop]); omega) ?_)
   intro v7 hs2 hn3
   refine qh (v7) rfl (qb (qc (qa (qf (v7) rfl (qh (v7) rfl (qb (ji [_] _ _ rfl (fun F18 le18 hz6 => ?_))))))))
   have hf6 : IntsF F18 v7 (t1 ++ [x12]) := intsH.fz (xs := t1 ++ [x12]) hz6.fz
   refine qx (qp (L' := curH .i64 142 cb bsv bs.length :: L) [v7] (v7) (.tmp rfl .nil) rfl (qg (qg le7 le8) le18) rF (sD (sD (sC sR))) ?_)
   exact ⟨⟨_, rfl, ⟨_, hf6, by (try simp only [List.length_append, List.length_cons, List.length_nil, List.length_set, List.length_take, List.length_drop]); omega⟩⟩, rfl⟩
  refine qv (qc (qa (qf (x6) rfl (qh (x6) rfl (qb (ji [] _ _ rfl (fun F19 le19 hz7 => ?_)))))))
  have hf7 : IntsF F19 x6 t1 := intsH.fz (xs := t1) hz7.fz
  refine qx (qp (L' := curH .i64 142 cb bsv bs.length :: L) [x6] (x6) (.tmp rfl .nil) rfl (qg (qg le7 le8) le19) rF (sD (sC sR)) ?_)
  exact ⟨⟨_, rfl, ⟨_, hf7, by (try simp only [List.length_append, List.length_cons, List.length_nil, List.length_set, List.length_take, List.length_drop]); omega⟩⟩, rfl⟩
 refine qv (qc (qa (qf (x6) rfl (qh (x6) rfl (qb (ji [] _ _ rfl (fun F20 le20 hz8 => ?_)))))))
 have hf8 : IntsF F20 x6 t1 := intsH.fz (xs := t1) hz8.fz
 refine qx (qp (L' := curH .i64 142 cb bsv bs.length :: L) [x6] (x6) (.tmp rfl .nil) rfl (qg (qg le7 le8) le20) rF (sD (sC sR)) ?_)
 exact ⟨⟨_, rfl, ⟨_, hf8, by (try simp only [List.length_append, List.length_cons, List.length_nil, List.length_set, List.length_take, List.length_drop]); omega⟩⟩, rfl⟩

/- spec.l2Draw -/
theorem l2Draw_spec {F : FH} {L : List HP} {cb : Nat} {bsv : Value} {bs : List Int} (hbs : BytesF F bsv bs) (hbl : bs.length ≤ 4000000) {arv : Value} {ar : List Int} (har : IntsF F arv ar) (hso : sigOk ar = true) :
    Does prog 200 [ptr cb 0, .agg #[arv]] F (curH .i64 142 cb bsv bs.length :: L) (fun v F' L' => (∃ (a : Value), (.agg #[a] : Value) = v ∧ (SomeRowsF F' a (fun s => s.length ≤ 4 ∧ ∀ i, (s.getD i []).length ≤ 2000))) ∧ curH .i64 142 cb bsv bs.length :: L = L') := by
 refine qM func200 rfl rfl rfl (qc (qa (cX (jg [arv] rfl rfl ?_))))
 intro b1
 refine cX (jd [sN] qG rfl ?_)
 intro b2
 refine qb (qc (qa (cX (qY [sN] [sN] [(0, 1)] [] qo qG rfl (.cons rfl qI PlacesAre.nil) rfl CellsAre.nil (cX (jd [sN] qG rfl ?_))))))
 intro b3
 refine cX (qt [] _ [sN] qm rfl rfl rfl (qw rfl qC) rfl rfl rfl (qb (qc (qc (qa (qf (ptr cb 0) rfl (cX (ql (args := [ptr cb 0, ii (4)]) jH rfl (jj [_, _, _] (l1Below_spec (n := 4) hbs (by omega) (hn := (by first | assumption | rfl | omega | simp)))) ?_))))))))
 rintro _ _ _ _ ⟨⟨rfl, x1, rfl, hr1⟩, rfl⟩
 show XL _ _ _ _ _ _ _ (cellsH b3 [sN] 50 :: cellsH b2 [sN] 50 :: cellsH b1 [arv] 29 :: curH .i64 142 cb bsv bs.length :: L)
 refine qh (ii (x1)) rfl (qb (qQ (js (α := Nat × Value × List (List Int) × List Value × Nat × FH) (fun xQ => [(0, ptr cb 0), (3, ptr b1 0), (4, ptr b2 0), (5, ptr b3 0), (6, ii (((xQ.1 : Nat) : Int)))]) (fun xQ => slH 27 1 xQ.2.1 xQ.2.2.2.2.1 xQ.2.2.2.1 :: cellsH b3 [xQ.2.1] 50 :: cellsH b2 [sN] 50 :: cellsH b1 [arv] 29 :: curH .i64 142 cb bsv bs.length :: L) (fun xQ F' => xQ.2.2.2.2.2 = F' ∧ F ≤ xQ.2.2.2.2.2 ∧ (IsSl xQ.2.1) ∧ (RowsC xQ.2.2.2.2.2 xQ.2.2.2.1 xQ.2.2.1) ∧ (xQ.2.2.2.2.1 = xQ.2.2.1.length) ∧ (xQ.2.2.1.length + xQ.1 ≤ 4) ∧ (∀ i, (xQ.2.2.1.getD i []).length ≤ 2000)) (fun xQ => xQ.1) (x1.toNat, sN, [], [], 0, F) ⟨rfl, rfl, rfl, rfl, (vI (by omega)), ⟨⟩⟩ (jp (Sub.addNil 27 1 _ _) (sC (sC (sC (sC (sC sR)))))) ⟨rfl, FLe.refl _, (⟨_, _, _, rfl⟩), (CO.nil), (rfl), (by (try dsimp only); simp only [List.length_nil]; omega), (fun i => by simp)⟩ ?_)))
 rintro ⟨n, ov, os, cs, m, G1⟩ rE _ _ ⟨rfl, leG, hov, hC, hm, hon, hob⟩
 show X _ _ _ _ (envs [(0, ptr cb 0), (3, ptr b1 0), (4, ptr b2 0), (5, ptr b3 0), (6, ii ((n : Int)))] rE) _ (slH 27 1 ov m cs :: cellsH b3 [ov] 50 :: cellsH b2 [sN] 50 :: cellsH b1 [arv] 29 :: curH .i64 142 cb bsv bs.length :: L)
 replace leG : F ≤ G1 := leG
 dsimp only at hov hC hm hon hob
 have leG1 := leG
 replace hbs := hbs.mono leG1
 replace har := har.mono leG1
 refine qc (qc (qa (qf (ii ((n : Int))) rfl (cX (jF rfl rfl (qb ?_))))))
 refine qF (p := (n : Int) > 0) rfl (fun h1 => ?_) (fun h1 => ?_)
 ·refine qv (qc (qQ (qc (qa (cX (qD (s := 1) [] [ii (0)] [] qd qy qU rfl (by decide) rfl CellsAre.nil rfl ?_))))))
  intro v1 hv1
  refine qh (v1) rfl (qb (qc (qc (qa (qf (ptr cb 0) rfl (cX (ql (args := [ptr cb 0, ii (3)]) call137 rfl (jj [_, _, _, _, _] (l1Once_spec (n := 3) hbs (by omega) (hn := (by first | assumption | rfl | omega | simp)))) ?_)))))))
  rintro _ _ _ _ ⟨⟨rfl, x2, rfl⟩, rfl⟩
  show XL _ _ _ _ _ _ _ (slH 2 1 v1 0 [] :: slH 27 1 ov m cs :: cellsH b3 [ov] 50 :: cellsH b2 [sN] 50 :: cellsH b1 [arv] 29 :: curH .i64 142 cb bsv bs.length :: L)
  refine cX (jh rfl (qb ?_))
  refine jk (t := !(x2)) rfl (fun h2 => ?_) (fun h2 => ?_)
  ·refine X.drawG [slH 2 1 v1 0 [], slH 27 1 ov m cs, cellsH b3 [ov] 50, cellsH b2 [sN] 50, cellsH b1 [arv] 29, curH .i64 142 cb bsv bs.length] L 5 [[], [], [], [], [3]] [[], [], [], [2], [3]] [] (phiG [pe (ptr cb 0), pe (.agg #[arv]), pe (ptr cb 0), fun FF us v => (ii (((intAt v))) : Value) = v ∧ (0 ≤ ((intAt v)) ∧ (((intAt v)) < 3 ∨ ((intAt v)) = 0)), fun FF us v => v = (ii (1 + (((intAt (us.getD 0 undef))))) : Value)]) (ownL []) mixed rfl rfl (by kernel_rfl) (by kernel_rfl) (MonoG.get (m1 (m1 (m1 (mC (fun le h => ⟨h.1, h.2⟩) (mC (fun le h => h) MonoG.nil)))))) ?_ ?_
   ·refine gD (fun W Fs R lF z9 => ?_) ?_
    ·refine qj (qk (ptr cb 0) rfl ?_)
     exact ⟨rfl, rfl⟩
    refine gD (fun W Fs R lF z9 => ?_) ?_
    ·replace hbs := hbs.mono lF
     replace har := har.mono lF
     replace hC := hC.mono lF
     refine qj (qr [arv] qL qz rfl rfl (Rd.ownN [_, _, _, _] rfl rfl) ?_)
     exact ⟨rfl, rfl⟩
    refine gD (fun W Fs R lF z9 => ?_) ?_
    ·refine qj (qk (ptr cb 0) rfl ?_)
     exact ⟨rfl, rfl⟩
    refine gD (fun W Fs R lF z9 => ?_) ?_
    ·replace hbs := hbs.mono lF
     replace har := har.mono lF
     replace hC := hC.mono lF
     rw [eS (l := [(2, _)]) ⟨z9 2 rfl, ⟨⟩⟩]
     refine qj (ql (args := [ptr cb 0, ii (3)]) jH rfl (jj [_, _, _, _, _] (l1Below_spec (n := 3) hbs (by omega) (hn := (by first | assumption | rfl | omega | simp)))) ?_)
     rintro _ _ _ _ ⟨⟨rfl, x4, rfl, hr3⟩, rfl⟩
     exact ⟨⟨rfl, hr3⟩, rfl⟩
    refine gD (fun W Fs R lF z9 => ?_) ?_
    ·obtain ⟨e3, f3_1hx⟩ := z9 3 rfl
     rw [eS (l := [(3, (ii (((intAt (W 3))))))]) ⟨(e3).symm, ⟨⟩⟩]
     refine qj (qT (1 + (((intAt (W 3))))) rfl rfl (by omega) (by omega) ?_)
     exact ⟨rfl, rfl⟩
    exact stepsG.nil
   intro W F5 le5 hphi
   obtain ⟨e3, f3_1hx⟩ := hphi 3 (by decide)
   have e4 : W 4 = (ii (1 + (((intAt (W 3))))) : Value) := hphi 4 (by decide)
   generalize hu1 : (intAt (W 3)) = u1 at e3 f3_1hx e4
   rw [eS (l := [(0, _), (1, _), (3, (ii ((u1)))), (4, (ii (1 + ((u1)))))]) ⟨(hphi 0 (by decide)), (hphi 1 (by decide)), (e3).symm, e4, ⟨⟩⟩]
   replace hbs := hbs.mono le5
   replace har := har.mono le5
   replace hC := hC.mono le5
   show XL _ _ _ _ _ _ _ (slH 2 1 v1 0 [] :: slH 27 1 ov m cs :: cellsH b3 [ov] 50 :: cellsH b2 [sN] 50 :: cellsH b1 [arv] 29 :: curH .i64 142 cb bsv bs.length :: L)
   refine cX (ql (args := [ptr cb 0, .agg #[arv], ii (((1 + ((u1))).toNat : Nat) : Int), ii (3)]) call198 (by rw [show (((1 + ((u1))).toNat : Nat) : Int) = 1 + ((u1)) from by omega]; rfl) (Does.atO [_, _, _, _, _] (l1DrawTerm_spec ((1 + ((u1))).toNat) (vs := 3) hbs (by omega) har (hso := (by first | assumption | rfl | omega | simp)) (hdp := (by first | assumption | rfl | omega | simp)) (hvs := (by first | assumption | rfl | omega | simp)))) ?_)
   rintro _ F6 _ le6 ⟨x6, ⟨rfl, hsl1⟩, rfl⟩
   replace hC := hC.mono le6
   show XL _ _ _ _ _ _ _ (drawnH 2 x6 (fun t => goodT ar t ∧ 1 ≤ t.length ∧ t.length ≤ szT ((1 + ((u1))).toNat)) :: slH 2 1 v1 0 [] :: slH 27 1 ov m cs :: cellsH b3 [ov] 50 :: cellsH b2 [sN] 50 :: cellsH b1 [arv] 29 :: curH .i64 142 cb bsv bs.length :: L)
   refine XL.undraw [] rfl (fun t1 hq9 => ?_)
   obtain ⟨q1, q2, q3⟩ := hq9
   show XL _ _ _ _ _ _ _ (intsH 2 x6 t1 :: slH 2 1 v1 0 [] :: slH 27 1 ov m cs :: cellsH b3 [ov] 50 :: cellsH b2 [sN] 50 :: cellsH b1 [arv] 29 :: curH .i64 142 cb bsv bs.length :: L)
   have hz9 := szT_le (d := (1 + ((u1))).toNat) (e := 4) (by omega)
   have hz8 : szT 4 = 121 := rfl
   refine qh (x6) rfl (qb (qa (cX (qA (0) qo rfl qI (by decide) rfl rfl (cX (qn jv rfl (Rd.own [_, _, _] rfl rfl) (qf (x6) rfl (cX (qD (s := 1) [x6] [sN] [(0, [x6])] qJ qN jB rfl (by decide) rfl (.cons (cells_one hsl1) CellsAre.nil) rfl ?_)))))))))
   intro v2 hv2
   refine XL.freezeF [_] _ _ rfl (fun F7 le7 hz1 => ?_)
   replace hC := hC.mono le7
   have hf1 : IntsF F7 x6 t1 := intsH.fz (xs := t1) hz1.fz
   refine cX (XOp.append (m := 1) (bytes := 24) (cs := cs) [_, _] _ [x6] qJ typeInfo27 rfl rfl rfl rfl rfl rfl rfl (SlV.own [] rfl) rfl (Rd.lit [] rfl) (qw (qP (jc hf1)) qC) (by (try simp only [List.length_append, List.length_nil, List.length_cons, List.length_singleton]); omega) (by (try simp only [List.length_append, List.length_nil, List.length_cons, List.length_singleton]); omega) ?_)
   intro v3 hs1 hn1 hm1
   have hc1 := RowsC.snoc hC hf1
   refine cX (qA (0) qo rfl qI (by decide) rfl rfl (cX (jq [_, _, _] _ [v3] qI rfl rfl (qP hs1) rfl rfl rfl (qb (qa (qf (ii ((n : Int))) rfl (cX (qW (((n : Int)) - 1) rfl rfl (by omega) (by omega) (qh (ii (((n : Int)) - 1)) rfl (qb ?_))))))))))
   exact ⟨(n - 1, v3, os ++ [t1], cs ++ [x6], (m) + 1, F7), _, (qg (qg (qg leG1 le5) le6) le7), rF, ⟨rfl, rfl, rfl, rfl, (vI (by (try dsimp only); omega)), ⟨⟩⟩, (sD (sD (sC (sC (sC (sC (sC sR))))))), ⟨rfl, (qg (qg (qg leG1 le5) le6) le7), (hs1), (hc1), (by (try dsimp only); rw [List.length_append]; simp only [List.length_singleton]; omega), (by (try dsimp only); rw [List.length_append]; simp only [List.length_singleton]; omega), (rows_snoc hob (by (try simp only [List.length_nil]); omega))⟩, (by (try dsimp only); omega)⟩
  refine qv (qa (cX (qA (0) qo rfl qI (by decide) rfl rfl (cX (qn jv rfl (Rd.own [_, _] rfl rfl) (qf (v1) rfl (cX (qD (s := 1) [v1] [sN] [(0, [v1])] qJ qN jB rfl (by decide) rfl (.cons (cells_one (jo hv1)) CellsAre.nil) rfl ?_))))))))
  intro v4 hv3
  show XL _ _ _ _ _ _ _ (slH 27 1 v4 1 [v1] :: intsH 2 v1 ([] : List Int) :: slH 27 1 ov m cs :: cellsH b3 [ov] 50 :: cellsH b2 [sN] 50 :: cellsH b1 [arv] 29 :: curH .i64 142 cb bsv bs.length :: L)
  refine XL.freezeF [_] _ _ rfl (fun F8 le8 hz2 => ?_)
  replace hC := hC.mono le8
  have hf2 : IntsF F8 v1 ([]) := intsH.fz (xs := []) hz2.fz
  refine cX (XOp.append (m := 1) (bytes := 24) (cs := cs) [_] _ [v1] qJ typeInfo27 rfl rfl rfl rfl rfl rfl rfl (SlV.own [] rfl) rfl (Rd.lit [] rfl) (qw (qP (jc hf2)) qC) (by (try simp only [List.length_append, List.length_nil, List.length_cons, List.length_singleton]); omega) (by (try simp only [List.length_append, List.length_nil, List.length_cons, List.length_singleton]); omega) ?_)
  intro v5 hs2 hn2 hm2
  have hc2 := RowsC.snoc hC hf2
  refine cX (qA (0) qo rfl qI (by decide) rfl rfl (cX (jq [_, _] _ [v5] qI rfl rfl (qP hs2) rfl rfl rfl (qb (qa (qf (ii ((n : Int))) rfl (cX (qW (((n : Int)) - 1) rfl rfl (by omega) (by omega) (qh (ii (((n : Int)) - 1)) rfl (qb ?_))))))))))
  exact ⟨(n - 1, v5, os ++ [[]], cs ++ [v1], (m) + 1, F8), _, (qg leG1 le8), rF, ⟨rfl, rfl, rfl, rfl, (vI (by (try dsimp only); omega)), ⟨⟩⟩, (sD (sC (sC (sC (sC (sC sR)))))), ⟨rfl, (qg leG1 le8), (hs2), (hc2), (by (try dsimp only); rw [List.length_append]; simp only [List.length_singleton]; omega), (by (try dsimp only); rw [List.length_append]; simp only [List.length_singleton]; omega), (rows_snoc hob (by (try simp only [List.length_nil]); omega))⟩, (by (try dsimp only); omega)⟩
 refine jl (qE (qE (qS (qc (qa (cX (qr [ov] qK qm rfl rfl (Rd.ownN [_] rfl rfl) (cX (qt [_, _] _ [ov] qm rfl rfl rfl (qw (qP hov) qC) rfl rfl rfl (qb (ji [] _ _ rfl (fun F9 le9 hz3 => ?_))))))))))))
 replace hC := hC.mono le9
 have hf3 : RowsF F9 ov os := CO.fz hC (by first | rfl | omega | (rw [List.length_set]; omega) | (simp; done)) hz3.fz
 refine qx (qp (L' := curH .i64 142 cb bsv bs.length :: L) [.agg #[ov]] (.agg #[ov]) (.cell rfl (ja [ov] qK qm rfl (Rd.ownN [_] rfl rfl)) .nil) rfl (qg leG1 le9) rF (sD (sD (sD (sC sR)))) ?_)
 exact ⟨⟨_, rfl, ⟨_, hf3, by omega, hob⟩⟩, rfl⟩

/- spec.l2Order -/
theorem l2Order_spec {F : FH} {L : List HP}  {tv : Value} {t : List Int} (ht : IntsF F tv t) (hlt : t.length ≤ 4000000) :
    Does prog 147 [tv] F (L) (fun v F' L' => (∃ (a : Value), ∃ (os : List Int), (a : Value) = v ∧ (IntsF F' a os) ∧ (os.length ≤ t.length)) ∧ L = L') := by
 refine qM func147 rfl rfl rfl (qc (qa (qh (sN) rfl (qb (qc (qa (cX (qD (s := 1) [] [ii (0)] [] qd qy qU rfl (by decide) rfl CellsAre.nil rfl ?_))))))))
 intro v1 hv1
 refine qh (v1) rfl (qb (qc (qc (qa (qh (ii (0)) rfl (qb (qQ (js (α := Nat × Value × List Int × FH) (fun xQ => [(0, tv), (3, xQ.2.1), (4, ii (((xQ.1 : Nat) : Int)))]) (fun xQ => intsH 2 xQ.2.1 xQ.2.2.1 :: L) (fun xQ F' => xQ.2.2.2 = F' ∧ F ≤ xQ.2.2.2 ∧ (IsSl xQ.2.1) ∧ (xQ.1 ≤ t.length) ∧ (xQ.2.2.1.length ≤ xQ.1)) (fun xQ => t.length - xQ.1) (0, v1, [], F) ⟨rfl, rfl, rfl, ⟨⟩⟩ (sC sR) ⟨rfl, FLe.refl _, ((jo hv1)), (Nat.zero_le _), (Nat.le_refl _)⟩ ?_))))))))
 rintro ⟨k, ov, os, G1⟩ rE _ _ ⟨rfl, leG, hov, hk, hok⟩
 show X _ _ _ _ (envs [(0, tv), (3, ov), (4, ii ((k : Int)))] rE) _ (intsH 2 ov os :: L)
 replace leG : F ≤ G1 := leG
 dsimp only at hov hk hok
 have leG1 := leG
 replace ht := ht.mono leG1
 refine qc (qc (qa (qf (ii ((k : Int))) rfl (qf (tv) rfl (cX (qO qd rfl ht.slv (cX (qZ rfl rfl (qb ?_)))))))))
 refine qF (p := (k : Int) < (t.length : Int)) rfl (fun h1 => ?_) (fun h1 => ?_)
 ·refine qv (qc (qQ (qc (qa (qf (tv) rfl (qf (ii ((k : Int))) rfl (cX (qB k qd qy rfl rfl rfl ht.slv (by omega) (Nat.mul_one _) (cX (qn qV rfl (ht.rd (by omega)) (cX (qZ rfl rfl (qf (.bool (decide ((t.getD k 0 : Int) < 0))) rfl ?_)))))))))))))
  by_cases h2 : (t.getD k 0 : Int) < 0
  ·refine qq (t := 17) rfl (vT h2) (qk (ov) rfl (qq (t := 17) rfl (vT h2) (qk (tv) rfl (qq (t := 17) rfl (vT h2) (qk (ii ((k : Int))) rfl (qq (t := 17) rfl (vT h2) (qB k qd qy rfl rfl rfl ht.slv (by omega) (Nat.mul_one _) (qq (t := 17) rfl (vT h2) (qn qV rfl (ht.rd (by omega)) (qq (t := 17) rfl (vT h2) (XOp.lend [] _ _ rfl (fun F1 le1 hz1 => ?_))))))))))))
   have hf1 : IntsF _ ov os := intsH.fz (xs := os) hz1
   refine id (ql (args := [ov, ii (t.getD k 0)]) call206 rfl (l1Has_spec (n := t.getD k 0) hf1 (hbd := (by first | assumption | rfl | omega | simp))) ?_)
   rintro _ _ _ _ ⟨rfl, rfl, rfl⟩
   show XL _ _ _ _ _ _ _ (intsH 2 ov os :: L)
   refine qq (t := 17) rfl (vT h2) (XOp.notD rfl (cX (qX (.bool (decide (¬((t.getD k 0) ∈ os)))) (vT h2) rfl (qb ?_))))
   refine qF (p := ¬((t.getD k 0) ∈ os)) rfl (fun h3 => ?_) (fun h3 => ?_)
   ·refine qa (qf (ov) rfl (qf (tv) rfl (qf (ii ((k : Int))) rfl (cX (qB k qd qy rfl rfl rfl ht.slv (by omega) (Nat.mul_one _) (cX (qn qV rfl (ht.rd (by omega)) (cX (qD (s := 1) [ii (t.getD k 0)] [ii (0)] [(0, [ii (t.getD k 0)])] qd qy qU rfl (by decide) rfl (.cons rfl CellsAre.nil) rfl ?_)))))))))
    intro v2 hv2
    refine cX (jC (u := t.getD k 0) [_] _ qd typeInfo2 rfl rfl rfl rfl rfl rfl (SlV.own [] rfl) (Rd.sl [] rfl rfl) (by (try simp only [List.length_append, List.length_nil, List.length_cons, List.length_singleton, List.length_take, List.length_drop]); omega) ?_)
    intro v3 hs1 hn1
    refine qh (v3) rfl (qb (qa (qf (ii ((k : Int))) rfl (cX (qT (((k + 1 : Nat) : Int)) rfl rfl (by omega) (by omega) (qh (ii (((k + 1 : Nat) : Int))) rfl (qb ?_)))))))
    exact ⟨(k + 1, v3, os ++ [t.getD k 0], G1), _, leG1, rF, ⟨rfl, rfl, rfl, ⟨⟩⟩, (sD (sC sR)), ⟨rfl, leG1, (hs1), (by (try dsimp only) <;> omega), (by (try dsimp only); (try rw [List.length_append]); (try simp only [List.length_singleton]); omega)⟩, (by omega)⟩
   refine qv (qa (qf (ii ((k : Int))) rfl (cX (qT (((k + 1 : Nat) : Int)) rfl rfl (by omega) (by omega) (qh (ii (((k + 1 : Nat) : Int))) rfl (qb ?_))))))
   exact ⟨(k + 1, ov, os, G1), _, leG1, rF, ⟨rfl, rfl, rfl, ⟨⟩⟩, (sC sR), ⟨rfl, leG1, (hov), (by (try dsimp only) <;> omega), (by (try dsimp only); (try rw [List.length_append]); (try simp only [List.length_singleton]); omega)⟩, (by omega)⟩
  refine qu (t := 17) rfl (vF h2) (qu (t := 17) rfl (vF h2) (qu (t := 17) rfl (vF h2) (qu (t := 17) rfl (vF h2) (qu (t := 17) rfl (vF h2) (qu (t := 17) rfl (vF h2) (qu (t := 17) rfl (vF h2) (cX (qR (.bool (false)) (vF h2) rfl (qb (jx rfl ?_))))))))))
  refine qv (qa (qf (ii ((k : Int))) rfl (cX (qT (((k + 1 : Nat) : Int)) rfl rfl (by omega) (by omega) (qh (ii (((k + 1 : Nat) : Int))) rfl (qb ?_))))))
  exact ⟨(k + 1, ov, os, G1), _, leG1, rF, ⟨rfl, rfl, rfl, ⟨⟩⟩, (sC sR), ⟨rfl, leG1, (hov), (by (try dsimp only) <;> omega), (by (try dsimp only); (try rw [List.length_append]); (try simp only [List.length_singleton]); omega)⟩, (by omega)⟩
 refine jl (qE (qE (qS (qc (qa (qf (ov) rfl (qh (ov) rfl (qb (ji [] _ _ rfl (fun F2 le2 hz2 => ?_))))))))))
 have hf2 : IntsF F2 ov os := intsH.fz (xs := os) hz2.fz
 refine qx (qp (L' := L) [ov] (ov) (.tmp rfl .nil) rfl (qg leG1 le2) rF sR ?_)
 exact ⟨⟨_, _, rfl, hf2, by omega⟩, rfl⟩
theorem l2FilledW_spec {F : FH} {L : List HP} {sv : Value} {s : List (List Int)} (hs : RowsF F sv s) {tv : Value} {t : List Int} (ht : IntsF F tv t) (hsl : s.length ≤ 4000000) (hsb : ∀ i, (s.getD i []).length ≤ 4000000) (htl : t.length ≤ 4000000) (htg : ∀ k, k < t.length → -4000000 ≤ t.getD k 0) :
    Does prog 77 [.agg #[sv], tv] F (L) (fun v F' L' => (∃ (a : Value) (b : Bool), (.tuple #[a, .bool b] : Value) = v ∧ (SomesF F' a (fun u => u.length ≤ 60))) ∧ L = L') :=
  (l2Filled_spec hs ht hsl hsb htl htg).mono (by rintro _ F' L' le ⟨a, rfl, h, rfl⟩; exact ⟨⟨a, _, rfl, ⟨_, h, fill_le60⟩⟩, rfl⟩)

/- laws.big -/
theorem big_spec {F : FH} {L : List HP} {bsv : Value} {bs : List Int} (hbs : BytesF F bsv bs) :
    Does prog 11 [bsv] F (L) (fun v F' L' => (.bool (decide ((bs.length : Int) > 4096)) : Value) = v ∧ F = F' ∧ L = L') := by
 refine qM func11 rfl rfl rfl (qc (qa (qh (.bool (false)) rfl (qb (qc (qa (qf (bsv) rfl (cX (qO runUnderlying22 rfl hbs.slv (cX (jF rfl rfl (qh (.bool (decide (((bs.length : Int) : Int) > 4096))) rfl (qb (qx (qp (L' := L) [.bool (decide (((bs.length : Int) : Int) > 4096))] (.bool (decide (((bs.length : Int) : Int) > 4096))) (.tmp rfl .nil) rfl rF rF sR ?_)))))))))))))))
 exact ⟨rfl, rfl, rfl⟩

/- impl.SameTerm -/
theorem iSameTerm_spec {F : FH} {L : List HP} {av : Value} {a : List Int} (ha : IntsF F av a) {bv : Value} {b : List Int} (hb : IntsF F bv b) (hbd : a.length ≤ 9223372036854775807 ∨ b.length ≤ 9223372036854775807) :
    Does prog 24 [av, bv] F (L) (fun v F' L' => (.bool (decide (a = b)) : Value) = v ∧ F = F' ∧ L = L') := by
 refine qM func24 rfl rfl rfl (qc (qa (qh (.bool (false)) rfl (qb (qc (qa (qf (av) rfl (qf (bv) rfl (cX (ql (args := [av, bv]) call67 rfl (Equal_spec ha hb (hbd := (by first | assumption | rfl | omega | (left; simp; done) | (right; simp; done)))) ?_))))))))))
 rintro _ _ _ _ ⟨rfl, rfl, rfl⟩
 refine qh (.bool (decide (a = b))) rfl (qb (qx (qp (L' := L) [.bool (decide (a = b))] (.bool (decide (a = b))) (.tmp rfl .nil) rfl rF rF sR ?_)))
 exact ⟨rfl, rfl, rfl⟩

/- spec.l2Draw -/
theorem l2DrawO_spec {F : FH} {L : List HP} {cb : Nat} {bsv : Value} {bs : List Int} (hbs : BytesF F bsv bs) (hbl : bs.length ≤ 4000000) {arv : Value} {ar : List Int} (har : IntsF F arv ar) (hso : sigOk ar = true) :
    Does prog 200 [ptr cb 0, .agg #[arv]] F (curH .i64 142 cb bsv bs.length :: L) (fun v F' L' => ∃ (a : Value) (s : List (List Int)) (cs : List Value), ((.agg #[a] : Value) = v ∧ IsSl a ∧ RowsC F' cs s ∧ s.length ≤ 4 ∧ ∀ i, (s.getD i []).length ≤ 2000) ∧ slH 27 1 a s.length cs :: curH .i64 142 cb bsv bs.length :: L = L') := by
 refine qM func200 rfl rfl rfl (qc (qa (cX (jg [arv] rfl rfl ?_))))
 intro b1
 refine cX (jd [sN] qG rfl ?_)
 intro b2
 refine qb (qc (qa (cX (qY [sN] [sN] [(0, 1)] [] qo qG rfl (.cons rfl qI PlacesAre.nil) rfl CellsAre.nil (cX (jd [sN] qG rfl ?_))))))
 intro b3
 refine cX (qt [] _ [sN] qm rfl rfl rfl (qw rfl qC) rfl rfl rfl (qb (qc (qc (qa (qf (ptr cb 0) rfl (cX (ql (args := [ptr cb 0, ii (4)]) jH rfl (jj [_, _, _] (l1Below_spec (n := 4) hbs (by omega) (hn := (by first | assumption | rfl | omega | simp)))) ?_))))))))
 rintro _ _ _ _ ⟨⟨rfl, x1, rfl, hr1⟩, rfl⟩
 show XL _ _ _ _ _ _ _ (cellsH b3 [sN] 50 :: cellsH b2 [sN] 50 :: cellsH b1 [arv] 29 :: curH .i64 142 cb bsv bs.length :: L)
 refine qh (ii (x1)) rfl (qb (qQ (js (α := Nat × Value × List (List Int) × List Value × Nat × FH) (fun xQ => [(0, ptr cb 0), (3, ptr b1 0), (4, ptr b2 0), (5, ptr b3 0), (6, ii (((xQ.1 : Nat) : Int)))]) (fun xQ => slH 27 1 xQ.2.1 xQ.2.2.2.2.1 xQ.2.2.2.1 :: cellsH b3 [xQ.2.1] 50 :: cellsH b2 [sN] 50 :: cellsH b1 [arv] 29 :: curH .i64 142 cb bsv bs.length :: L) (fun xQ F' => xQ.2.2.2.2.2 = F' ∧ F ≤ xQ.2.2.2.2.2 ∧ (IsSl xQ.2.1) ∧ (RowsC xQ.2.2.2.2.2 xQ.2.2.2.1 xQ.2.2.1) ∧ (xQ.2.2.2.2.1 = xQ.2.2.1.length) ∧ (xQ.2.2.1.length + xQ.1 ≤ 4) ∧ (∀ i, (xQ.2.2.1.getD i []).length ≤ 2000)) (fun xQ => xQ.1) (x1.toNat, sN, [], [], 0, F) ⟨rfl, rfl, rfl, rfl, (vI (by omega)), ⟨⟩⟩ (jp (Sub.addNil 27 1 _ _) (sC (sC (sC (sC (sC sR)))))) ⟨rfl, FLe.refl _, (⟨_, _, _, rfl⟩), (CO.nil), (rfl), (by (try dsimp only); simp only [List.length_nil]; omega), (fun i => by simp)⟩ ?_)))
 rintro ⟨n, ov, os, cs, m, G1⟩ rE _ _ ⟨rfl, leG, hov, hC, hm, hon, hob⟩
 show X _ _ _ _ (envs [(0, ptr cb 0), (3, ptr b1 0), (4, ptr b2 0), (5, ptr b3 0), (6, ii ((n : Int)))] rE) _ (slH 27 1 ov m cs :: cellsH b3 [ov] 50 :: cellsH b2 [sN] 50 :: cellsH b1 [arv] 29 :: curH .i64 142 cb bsv bs.length :: L)
 replace leG : F ≤ G1 := leG
 dsimp only at hov hC hm hon hob
 have leG1 := leG
 replace hbs := hbs.mono leG1
 replace har := har.mono leG1
 refine qc (qc (qa (qf (ii ((n : Int))) rfl (cX (jF rfl rfl (qb ?_))))))
 refine qF (p := (n : Int) > 0) rfl (fun h1 => ?_) (fun h1 => ?_)
 ·refine qv (qc (qQ (qc (qa (cX (qD (s := 1) [] [ii (0)] [] qd qy qU rfl (by decide) rfl CellsAre.nil rfl ?_))))))
  intro v1 hv1
  refine qh (v1) rfl (qb (qc (qc (qa (qf (ptr cb 0) rfl (cX (ql (args := [ptr cb 0, ii (3)]) call137 rfl (jj [_, _, _, _, _] (l1Once_spec (n := 3) hbs (by omega) (hn := (by first | assumption | rfl | omega | simp)))) ?_)))))))
  rintro _ _ _ _ ⟨⟨rfl, x2, rfl⟩, rfl⟩
  show XL _ _ _ _ _ _ _ (slH 2 1 v1 0 [] :: slH 27 1 ov m cs :: cellsH b3 [ov] 50 :: cellsH b2 [sN] 50 :: cellsH b1 [arv] 29 :: curH .i64 142 cb bsv bs.length :: L)
  refine cX (jh rfl (qb ?_))
  refine jk (t := !(x2)) rfl (fun h2 => ?_) (fun h2 => ?_)
  ·refine X.drawG [slH 2 1 v1 0 [], slH 27 1 ov m cs, cellsH b3 [ov] 50, cellsH b2 [sN] 50, cellsH b1 [arv] 29, curH .i64 142 cb bsv bs.length] L 5 [[], [], [], [], [3]] [[], [], [], [2], [3]] [] (phiG [pe (ptr cb 0), pe (.agg #[arv]), pe (ptr cb 0), fun FF us v => (ii (((intAt v))) : Value) = v ∧ (0 ≤ ((intAt v)) ∧ (((intAt v)) < 3 ∨ ((intAt v)) = 0)), fun FF us v => v = (ii (1 + (((intAt (us.getD 0 undef))))) : Value)]) (ownL []) mixed rfl rfl (by kernel_rfl) (by kernel_rfl) (MonoG.get (m1 (m1 (m1 (mC (fun le h => ⟨h.1, h.2⟩) (mC (fun le h => h) MonoG.nil)))))) ?_ ?_
   ·refine gD (fun W Fs R lF z9 => ?_) ?_
    ·refine qj (qk (ptr cb 0) rfl ?_)
     exact ⟨rfl, rfl⟩
    refine gD (fun W Fs R lF z9 => ?_) ?_
    ·replace hbs := hbs.mono lF
     replace har := har.mono lF
     replace hC := hC.mono lF
     refine qj (qr [arv] qL qz rfl rfl (Rd.ownN [_, _, _, _] rfl rfl) ?_)
     exact ⟨rfl, rfl⟩
    refine gD (fun W Fs R lF z9 => ?_) ?_
    ·refine qj (qk (ptr cb 0) rfl ?_)
     exact ⟨rfl, rfl⟩
    refine gD (fun W Fs R lF z9 => ?_) ?_
    ·replace hbs := hbs.mono lF
     replace har := har.mono lF
     replace hC := hC.mono lF
     rw [eS (l := [(2, _)]) ⟨z9 2 rfl, ⟨⟩⟩]
     refine qj (ql (args := [ptr cb 0, ii (3)]) jH rfl (jj [_, _, _, _, _] (l1Below_spec (n := 3) hbs (by omega) (hn := (by first | assumption | rfl | omega | simp)))) ?_)
     rintro _ _ _ _ ⟨⟨rfl, x4, rfl, hr3⟩, rfl⟩
     exact ⟨⟨rfl, hr3⟩, rfl⟩
    refine gD (fun W Fs R lF z9 => ?_) ?_
    ·obtain ⟨e3, f3_1hx⟩ := z9 3 rfl
     rw [eS (l := [(3, (ii (((intAt (W 3))))))]) ⟨(e3).symm, ⟨⟩⟩]
     refine qj (qT (1 + (((intAt (W 3))))) rfl rfl (by omega) (by omega) ?_)
     exact ⟨rfl, rfl⟩
    exact stepsG.nil
   intro W F5 le5 hphi
   obtain ⟨e3, f3_1hx⟩ := hphi 3 (by decide)
   have e4 : W 4 = (ii (1 + (((intAt (W 3))))) : Value) := hphi 4 (by decide)
   generalize hu1 : (intAt (W 3)) = u1 at e3 f3_1hx e4
   rw [eS (l := [(0, _), (1, _), (3, (ii ((u1)))), (4, (ii (1 + ((u1)))))]) ⟨(hphi 0 (by decide)), (hphi 1 (by decide)), (e3).symm, e4, ⟨⟩⟩]
   replace hbs := hbs.mono le5
   replace har := har.mono le5
   replace hC := hC.mono le5
   show XL _ _ _ _ _ _ _ (slH 2 1 v1 0 [] :: slH 27 1 ov m cs :: cellsH b3 [ov] 50 :: cellsH b2 [sN] 50 :: cellsH b1 [arv] 29 :: curH .i64 142 cb bsv bs.length :: L)
   refine cX (ql (args := [ptr cb 0, .agg #[arv], ii (((1 + ((u1))).toNat : Nat) : Int), ii (3)]) call198 (by rw [show (((1 + ((u1))).toNat : Nat) : Int) = 1 + ((u1)) from by omega]; rfl) (Does.atO [_, _, _, _, _] (l1DrawTerm_spec ((1 + ((u1))).toNat) (vs := 3) hbs (by omega) har (hso := (by first | assumption | rfl | omega | simp)) (hdp := (by first | assumption | rfl | omega | simp)) (hvs := (by first | assumption | rfl | omega | simp)))) ?_)
   rintro _ F6 _ le6 ⟨x6, ⟨rfl, hsl1⟩, rfl⟩
   replace hC := hC.mono le6
   show XL _ _ _ _ _ _ _ (drawnH 2 x6 (fun t => goodT ar t ∧ 1 ≤ t.length ∧ t.length ≤ szT ((1 + ((u1))).toNat)) :: slH 2 1 v1 0 [] :: slH 27 1 ov m cs :: cellsH b3 [ov] 50 :: cellsH b2 [sN] 50 :: cellsH b1 [arv] 29 :: curH .i64 142 cb bsv bs.length :: L)
   refine XL.undraw [] rfl (fun t1 hq9 => ?_)
   obtain ⟨q1, q2, q3⟩ := hq9
   show XL _ _ _ _ _ _ _ (intsH 2 x6 t1 :: slH 2 1 v1 0 [] :: slH 27 1 ov m cs :: cellsH b3 [ov] 50 :: cellsH b2 [sN] 50 :: cellsH b1 [arv] 29 :: curH .i64 142 cb bsv bs.length :: L)
   have hz9 := szT_le (d := (1 + ((u1))).toNat) (e := 4) (by omega)
   have hz8 : szT 4 = 121 := rfl
   refine qh (x6) rfl (qb (qa (cX (qA (0) qo rfl qI (by decide) rfl rfl (cX (qn jv rfl (Rd.own [_, _, _] rfl rfl) (qf (x6) rfl (cX (qD (s := 1) [x6] [sN] [(0, [x6])] qJ qN jB rfl (by decide) rfl (.cons (cells_one hsl1) CellsAre.nil) rfl ?_)))))))))
   intro v2 hv2
   refine XL.freezeF [_] _ _ rfl (fun F7 le7 hz1 => ?_)
   replace hC := hC.mono le7
   have hf1 : IntsF F7 x6 t1 := intsH.fz (xs := t1) hz1.fz
   refine cX (XOp.append (m := 1) (bytes := 24) (cs := cs) [_, _] _ [x6] qJ typeInfo27 rfl rfl rfl rfl rfl rfl rfl (SlV.own [] rfl) rfl (Rd.lit [] rfl) (qw (qP (jc hf1)) qC) (by (try simp only [List.length_append, List.length_nil, List.length_cons, List.length_singleton]); omega) (by (try simp only [List.length_append, List.length_nil, List.length_cons, List.length_singleton]); omega) ?_)
   intro v3 hs1 hn1 hm1
   have hc1 := RowsC.snoc hC hf1
   refine cX (qA (0) qo rfl qI (by decide) rfl rfl (cX (jq [_, _, _] _ [v3] qI rfl rfl (qP hs1) rfl rfl rfl (qb (qa (qf (ii ((n : Int))) rfl (cX (qW (((n : Int)) - 1) rfl rfl (by omega) (by omega) (qh (ii (((n : Int)) - 1)) rfl (qb ?_))))))))))
   exact ⟨(n - 1, v3, os ++ [t1], cs ++ [x6], (m) + 1, F7), _, (qg (qg (qg leG1 le5) le6) le7), rF, ⟨rfl, rfl, rfl, rfl, (vI (by (try dsimp only); omega)), ⟨⟩⟩, (sD (sD (sC (sC (sC (sC (sC sR))))))), ⟨rfl, (qg (qg (qg leG1 le5) le6) le7), (hs1), (hc1), (by (try dsimp only); rw [List.length_append]; simp only [List.length_singleton]; omega), (by (try dsimp only); rw [List.length_append]; simp only [List.length_singleton]; omega), (rows_snoc hob (by (try simp only [List.length_nil]); omega))⟩, (by (try dsimp only); omega)⟩
  refine qv (qa (cX (qA (0) qo rfl qI (by decide) rfl rfl (cX (qn jv rfl (Rd.own [_, _] rfl rfl) (qf (v1) rfl (cX (qD (s := 1) [v1] [sN] [(0, [v1])] qJ qN jB rfl (by decide) rfl (.cons (cells_one (jo hv1)) CellsAre.nil) rfl ?_))))))))
  intro v4 hv3
  show XL _ _ _ _ _ _ _ (slH 27 1 v4 1 [v1] :: intsH 2 v1 ([] : List Int) :: slH 27 1 ov m cs :: cellsH b3 [ov] 50 :: cellsH b2 [sN] 50 :: cellsH b1 [arv] 29 :: curH .i64 142 cb bsv bs.length :: L)
  refine XL.freezeF [_] _ _ rfl (fun F8 le8 hz2 => ?_)
  replace hC := hC.mono le8
  have hf2 : IntsF F8 v1 ([]) := intsH.fz (xs := []) hz2.fz
  refine cX (XOp.append (m := 1) (bytes := 24) (cs := cs) [_] _ [v1] qJ typeInfo27 rfl rfl rfl rfl rfl rfl rfl (SlV.own [] rfl) rfl (Rd.lit [] rfl) (qw (qP (jc hf2)) qC) (by (try simp only [List.length_append, List.length_nil, List.length_cons, List.length_singleton]); omega) (by (try simp only [List.length_append, List.length_nil, List.length_cons, List.length_singleton]); omega) ?_)
  intro v5 hs2 hn2 hm2
  have hc2 := RowsC.snoc hC hf2
  refine cX (qA (0) qo rfl qI (by decide) rfl rfl (cX (jq [_, _] _ [v5] qI rfl rfl (qP hs2) rfl rfl rfl (qb (qa (qf (ii ((n : Int))) rfl (cX (qW (((n : Int)) - 1) rfl rfl (by omega) (by omega) (qh (ii (((n : Int)) - 1)) rfl (qb ?_))))))))))
  exact ⟨(n - 1, v5, os ++ [[]], cs ++ [v1], (m) + 1, F8), _, (qg leG1 le8), rF, ⟨rfl, rfl, rfl, rfl, (vI (by (try dsimp only); omega)), ⟨⟩⟩, (sD (sC (sC (sC (sC (sC sR)))))), ⟨rfl, (qg leG1 le8), (hs2), (hc2), (by (try dsimp only); rw [List.length_append]; simp only [List.length_singleton]; omega), (by (try dsimp only); rw [List.length_append]; simp only [List.length_singleton]; omega), (rows_snoc hob (by (try simp only [List.length_nil]); omega))⟩, (by (try dsimp only); omega)⟩
 refine jl (qE (qE (qS (qc (qa (cX (qr [ov] qK qm rfl rfl (Rd.ownN [_] rfl rfl) (cX (qt [_, _] _ [ov] qm rfl rfl rfl (qw (qP hov) qC) rfl rfl rfl (qb (qx (qp (L' := slH 27 1 ov os.length cs :: curH .i64 142 cb bsv bs.length :: L) [.agg #[ov]] (.agg #[ov]) (.cell rfl (ja [ov] qK qm rfl (Rd.ownN [_, _] rfl rfl)) .nil) rfl leG1 rF (jp (sC (sD (sD (sD (sC sR))))) (Sub.keep (fun l hl => by first | exact hl | (rw [show m = os.length from by first | rfl | assumption | omega] at hl; exact hl)) sR)) ?_))))))))))))
 exact ⟨_, os, _, ⟨rfl, hov, hC, by omega, hob⟩, rfl⟩

/- spec.l2DrawAny -/
set_option maxHeartbeats 1000000 in
set_option maxRecDepth 20000 in
theorem l2DrawAny_spec {F : FH} {L : List HP} {cb : Nat} {bsv : Value} {bs : List Int} (hbs : BytesF F bsv bs) (hbl : bs.length ≤ 4000000) {arv : Value} {ar : List Int} (har : IntsF F arv ar) (hal : ar.length ≤ 20) :
    Does prog 138 [ptr cb 0, .agg #[arv]] F (curH .i64 142 cb bsv bs.length :: L) (fun v F' L' => (∃ (a : Value), (.agg #[a] : Value) = v ∧ (SomeRowsF F' a (fun s => s.length ≤ 26 ∧ ∀ i, (s.getD i []).length ≤ 2000))) ∧ curH .i64 142 cb bsv bs.length :: L = L') := by
 refine qM func138 rfl rfl rfl (qc (qa (cX (jg [arv] rfl rfl ?_))))
 intro b1
 refine cX (jd [sN] qG rfl ?_)
 intro b2
 refine qb (qc (qc (qa (cX (qr [arv] qL qz rfl rfl (Rd.ownN [_] rfl rfl) (cX (ql (args := [.agg #[arv]]) call151 rfl (sSigOk_spec har (hla := (by first | assumption | rfl | omega | simp))) ?_)))))))
 rintro _ _ _ _ ⟨rfl, rfl, rfl⟩
 refine cX (jh rfl (qb ?_))
 refine jk (t := !(sigOk ar)) rfl (fun h1 => ?_) (fun h1 => ?_)
 ·refine qc (qa (cX (qY [sN] [sN] [(0, 1)] [] qo qG rfl (.cons rfl qI PlacesAre.nil) rfl CellsAre.nil (cX (qt [] _ [sN] qm rfl rfl rfl (qw rfl qC) rfl rfl rfl (qb (qx (qi (qp (L' := curH .i64 142 cb bsv bs.length :: L) [.agg #[sN]] (.agg #[sN]) (.cell rfl (ja [sN] qK qm rfl (Rd.ownN [] rfl rfl)) .nil) rfl rF rF (sD (sD (sC sR))) ?_)))))))))
  exact ⟨⟨_, rfl, ⟨[], SlOf.nilV, by simp, fun i => by simp⟩⟩, rfl⟩
 have hso : sigOk ar = true := by simpa using h1
 refine qv (qc (qa (qf (ptr cb 0) rfl (cX (qr [arv] qL qz rfl rfl (Rd.ownN [_] rfl rfl) (cX (ql (args := [ptr cb 0, .agg #[arv]]) call200 rfl ((Does.weaken (jy (A := [_, _])) (l2DrawO_spec hbs (by omega) har (hso := (by first | assumption | rfl | omega | simp))))) ?_)))))))
 rintro _ F1 _ le1 ⟨x1, os1, cs1, ⟨rfl, hsl1, hc1, h_1, h_2⟩, rfl⟩
 replace hbs := hbs.mono le1
 replace har := har.mono le1
 show XL _ _ _ _ _ _ _ (slH 27 1 x1 os1.length cs1 :: curH .i64 142 cb bsv bs.length :: cellsH b2 [sN] 50 :: cellsH b1 [arv] 29 :: L)
 refine cX (jd [sN] qG rfl ?_)
 intro b3
 refine cX (qt [] _ [x1] qm rfl rfl rfl (qw (qP hsl1) qC) rfl rfl rfl (qb (qc (qc (qa (qf (ptr cb 0) rfl (cX (ql (args := [ptr cb 0, ii (12)]) call137 rfl (jj [_, _] (l1Once_spec (n := 12) hbs (by omega) (hn := (by first | assumption | rfl | omega | simp)))) ?_))))))))
 rintro _ _ _ _ ⟨⟨rfl, x2, rfl⟩, rfl⟩
 show XL _ _ _ _ _ _ _ (cellsH b3 [x1] 50 :: slH 27 1 x1 os1.length cs1 :: curH .i64 142 cb bsv bs.length :: cellsH b2 [sN] 50 :: cellsH b1 [arv] 29 :: L)
 refine qb ?_
 refine jk (t := x2) rfl (fun h2 => ?_) (fun h2 => ?_)
 ·refine qc (qa (qf (ptr cb 0) rfl (cX (ql (args := [ptr cb 0, ii (3)]) jH rfl (jj [_, _] (l1Below_spec (n := 3) hbs (by omega) (hn := (by first | assumption | rfl | omega | simp)))) ?_))))
  rintro _ _ _ _ ⟨⟨rfl, x3, rfl, hr1⟩, rfl⟩
  show XL _ _ _ _ _ _ _ (cellsH b3 [x1] 50 :: slH 27 1 x1 os1.length cs1 :: curH .i64 142 cb bsv bs.length :: cellsH b2 [sN] 50 :: cellsH b1 [arv] 29 :: L)
  refine qb (qQ (qc (qa (cX (jt rfl rfl (qh (.bool (decide ((x3 : Int) = 0))) rfl (qb ?_)))))))
  refine qF (p := (x3 : Int) = 0) rfl (fun h3 => ?_) (fun h3 => ?_)
  ·refine X.drawG [cellsH b3 [x1] 50, slH 27 1 x1 os1.length cs1, curH .i64 142 cb bsv bs.length, cellsH b2 [sN] 50, cellsH b1 [arv] 29] L 6 [[], [], [], [], [], [4]] [[], [0], [], [], [2, 3], [4]] [] (phiG [pe (ptr b3 0), pe x1, pe (ptr cb 0), pe (.agg #[arv]), fun FF us v => ((v) : Value) = v ∧ (SomesF FF (v) (fun u => u.length ≤ 2000)), fun FF us v => ∃ b, v = .slice (some ⟨b, 0, none⟩) 1 1]) (ownL [o0, o0, o0, o0, o0, fun us v => [slH 27 1 v 1 [((us.getD 0 undef))]]]) mixed rfl rfl (by kernel_rfl) (by kernel_rfl) (MonoG.get (m1 (m1 (m1 (m1 (mC (fun le h => ⟨h.1, h.2.mono le⟩) (mC (fun le h => h) MonoG.nil))))))) ?_ ?_
   ·refine gD (fun W Fs R lF z9 => ?_) ?_
    ·refine qj (qA (0) qo rfl qI (by decide) rfl rfl ?_)
     exact ⟨rfl, rfl⟩
    refine gD (fun W Fs R lF z9 => ?_) ?_
    ·replace hbs := hbs.mono lF
     replace har := har.mono lF
     replace hc1 := hc1.mono lF
     rw [eS (l := [(0, _)]) ⟨z9 0 rfl, ⟨⟩⟩]
     refine qj (qn jv rfl (Rd.own [] rfl rfl) ?_)
     exact ⟨rfl, rfl⟩
    refine gD (fun W Fs R lF z9 => ?_) ?_
    ·refine qj (qk (ptr cb 0) rfl ?_)
     exact ⟨rfl, rfl⟩
    refine gD (fun W Fs R lF z9 => ?_) ?_
    ·replace hbs := hbs.mono lF
     replace har := har.mono lF
     replace hc1 := hc1.mono lF
     refine qj (qr [arv] qL qz rfl rfl (Rd.ownN [_, _, _, _] rfl rfl) ?_)
     exact ⟨rfl, rfl⟩
    refine gD (fun W Fs R lF z9 => ?_) ?_
    ·replace hbs := hbs.mono lF
     replace har := har.mono lF
     replace hc1 := hc1.mono lF
     rw [eS (l := [(2, _), (3, _)]) ⟨z9 2 rfl, z9 3 rfl, ⟨⟩⟩]
     refine qj (ql (args := [ptr cb 0, .agg #[arv]]) call136 rfl (jj [_, _] (l1DrawAny_spec hbs (by omega) har (hal := (by first | assumption | rfl | omega | simp)))) ?_)
     rintro _ F5 _ le5 ⟨⟨x5, rfl, hr3⟩, rfl⟩
     replace hbs := hbs.mono le5
     replace hc1 := hc1.mono le5
     exact ⟨⟨rfl, hr3⟩, rfl⟩
    refine gD (fun W Fs R lF z9 => ?_) ?_
    ·obtain ⟨e4, f4_1hp_a⟩ := z9 4 rfl
     obtain ⟨t4X1_a, f4_1hp_a, q4_1_a0⟩ := f4_1hp_a
     replace hbs := hbs.mono lF
     replace hc1 := hc1.mono lF
     rw [eS (l := [(4, ((W 4)))]) ⟨(e4).symm, ⟨⟩⟩]
     refine qj (qD (s := 1) [((W 4))] [sN] [(0, [((W 4))])] qJ qN jB rfl (by decide) rfl (.cons (cells_one (jc f4_1hp_a)) CellsAre.nil) rfl ?_)
     intro v2 hv2
     exact ⟨hv2, rfl⟩
    exact stepsG.nil
   intro W F6 le6 hphi
   obtain ⟨e4, f4_1hp_a⟩ := hphi 4 (by decide)
   obtain ⟨t4X1_a, f4_1hp_a, q4_1_a0⟩ := f4_1hp_a
   have f5 : ∃ b, (W 5) = .slice (some ⟨b, 0, none⟩) 1 1 := hphi 5 (by decide)
   generalize hu1 : ((W 4)) = u1 at e4 f4_1hp_a f5
   generalize hu5 : W 5 = u2 at e4 f4_1hp_a f5
   rw [eS (l := [(1, _), (4, u1), (5, u2)]) ⟨(hphi 1 (by decide)), hu1, hu5, ⟨⟩⟩]
   replace hbs := hbs.mono le6
   replace hc1 := hc1.mono le6
   show XL _ _ _ _ _ _ _ (slH 27 1 u2 1 [u1] :: cellsH b3 [x1] 50 :: slH 27 1 x1 os1.length cs1 :: curH .i64 142 cb bsv bs.length :: cellsH b2 [sN] 50 :: cellsH b1 [arv] 29 :: L)
   refine cX (XOp.append (m := 1) (bytes := 24) (cs := cs1) [_, _] _ [u1] qJ typeInfo27 rfl rfl rfl rfl rfl rfl rfl (SlV.own [] rfl) rfl (Rd.lit [] rfl) (qw (qP (jc f4_1hp_a)) qC) (by (try simp only [List.length_append, List.length_nil, List.length_cons, List.length_singleton]); omega) (by (try simp only [List.length_append, List.length_nil, List.length_cons, List.length_singleton]); omega) ?_)
   intro v3 hs1 hn1 hm1
   have hc2 := RowsC.snoc hc1 f4_1hp_a
   refine cX (qA (0) qo rfl qI (by decide) rfl rfl (cX (jq [_] _ [v3] qI rfl rfl (qP hs1) rfl rfl rfl (qb (qc (qa (cX (qr [v3] qK qm rfl rfl (Rd.ownN [_] rfl rfl) (cX (qt [_, _, _, _] _ [v3] qm rfl rfl rfl (qw (qP hs1) qC) rfl rfl rfl (qb (ji [_, _] _ _ rfl (fun F7 le7 hz1 => ?_)))))))))))))
   replace hbs := hbs.mono le7
   replace hc1 := hc1.mono le7
   replace hc2 := hc2.mono le7
   have hf1 : RowsF F7 v3 (os1 ++ [t4X1_a]) := CO.fz hc2 (by first | rfl | omega | (rw [List.length_set]; omega) | (simp; done)) hz1.fz
   refine qx (qp (L' := curH .i64 142 cb bsv bs.length :: L) [.agg #[v3]] (.agg #[v3]) (.cell rfl (ja [v3] qK qm rfl (Rd.ownN [_, _, _] rfl rfl)) .nil) rfl (qg (qg le1 le6) le7) rF (sD (sD (sC (sD (sD sR))))) ?_)
   exact ⟨⟨_, rfl, ⟨_, hf1, by rw [List.length_append]; simp only [List.length_singleton]; omega, rows_snoc h_2 (by first | omega | (have h9 := q; omega) | simp)⟩⟩, rfl⟩
  refine qc (qa (cX (jt rfl rfl (qh (.bool (decide ((x3 : Int) = 1))) rfl (qb ?_)))))
  refine qF (p := (x3 : Int) = 1) rfl (fun h4 => ?_) (fun h4 => ?_)
  ·refine qa (qf (ptr cb 0) rfl (cX (ql (args := [ptr cb 0, ii (2)]) jH rfl (jj [_, _] (l1Below_spec (n := 2) hbs (by omega) (hn := (by first | assumption | rfl | omega | simp)))) ?_)))
   rintro _ _ _ _ ⟨⟨rfl, x6, rfl, hr4⟩, rfl⟩
   show XL _ _ _ _ _ _ _ (cellsH b3 [x1] 50 :: slH 27 1 x1 os1.length cs1 :: curH .i64 142 cb bsv bs.length :: cellsH b2 [sN] 50 :: cellsH b1 [arv] 29 :: L)
   refine cX (qT (((24 + (x6).toNat : Nat) : Int)) rfl rfl (by omega) (by omega) (cX (XOp.makeSlice (n := 24 + (x6).toNat) (bytes := 24) [sN] qJ qN typeInfo27 rfl jB rfl rfl rfl rfl (by omega) (by omega) ?_)))
   intro v4 hv3
   rw [nils]
   have hc3 : RowsC F1 _ _ := RowsC.nils (24 + (x6).toNat)
   refine cX (qA (0) qo rfl qI (by decide) rfl rfl (cX (jq [_] _ [v4] qI rfl rfl (qP (jo hv3)) rfl rfl rfl (qb (qc (qa (cX (qr [v4] qK qm rfl rfl (Rd.ownN [_] rfl rfl) (cX (qt [_, _, _, _] _ [v4] qm rfl rfl rfl (qw (qP (jo hv3)) qC) rfl rfl rfl (qb (ji [] _ _ rfl (fun F9 le9 hz2 => ?_)))))))))))))
   replace hbs := hbs.mono le9
   replace hc1 := hc1.mono le9
   replace hc3 := hc3.mono le9
   have hf2 : RowsF F9 v4 ((List.replicate (24 + (x6).toNat) [] : List (List Int))) := CO.fz hc3 (by first | rfl | omega | (rw [List.length_set]; omega) | (simp; done)) hz2.fz
   refine qx (qp (L' := curH .i64 142 cb bsv bs.length :: L) [.agg #[v4]] (.agg #[v4]) (.cell rfl (ja [v4] qK qm rfl (Rd.ownN [_, _, _] rfl rfl)) .nil) rfl (qg le1 le9) rF (sD (sD (sC (sD (sD sR))))) ?_)
   exact ⟨⟨_, rfl, ⟨_, hf2, by rw [List.length_replicate]; omega, fun i => by rw [List.getD_eq_getElem?_getD, List.getElem?_replicate]; split <;> simp⟩⟩, rfl⟩
  refine qc (qa (cX (jt rfl rfl (qh (.bool (decide ((x3 : Int) = 2))) rfl (qb ?_)))))
  refine qF (p := (x3 : Int) = 2) rfl (fun h5 => ?_) (fun h5 => ?_)
  ·refine X.drawG [cellsH b3 [x1] 50, slH 27 1 x1 os1.length cs1, curH .i64 142 cb bsv bs.length, cellsH b2 [sN] 50, cellsH b1 [arv] 29] L 6 [[], [], [], [], [3], [4]] [[], [0], [], [2], [3], [3, 4]] [] (phiG [pe (ptr b3 0), pe x1, pe (ptr cb 0), fun FF us v => (ii (((intAt v))) : Value) = v, fun FF us v => ∃ b, v = .slice (some ⟨b, 0, none⟩) 1 1, fun FF us v => ∃ b, v = .slice (some ⟨b, 0, none⟩) 1 1]) (ownL [o0, o0, o0, o0, fun us v => [slH 2 1 v 1 [ii (((intAt (us.getD 0 undef))))]], fun us v => [slH 27 1 v 1 [(us.getD 0 undef)]]]) mixed rfl rfl (by kernel_rfl) (by kernel_rfl) (MonoG.get (m1 (m1 (m1 (mC (fun le h => h) (mC (fun le h => h) (mC (fun le h => h) MonoG.nil))))))) ?_ ?_
   ·refine gD (fun W Fs R lF z9 => ?_) ?_
    ·refine qj (qA (0) qo rfl qI (by decide) rfl rfl ?_)
     exact ⟨rfl, rfl⟩
    refine gD (fun W Fs R lF z9 => ?_) ?_
    ·replace hbs := hbs.mono lF
     replace hc1 := hc1.mono lF
     rw [eS (l := [(0, _)]) ⟨z9 0 rfl, ⟨⟩⟩]
     refine qj (qn jv rfl (Rd.own [] rfl rfl) ?_)
     exact ⟨rfl, rfl⟩
    refine gD (fun W Fs R lF z9 => ?_) ?_
    ·refine qj (qk (ptr cb 0) rfl ?_)
     exact ⟨rfl, rfl⟩
    refine gD (fun W Fs R lF z9 => ?_) ?_
    ·replace hbs := hbs.mono lF
     replace hc1 := hc1.mono lF
     rw [eS (l := [(2, _)]) ⟨z9 2 rfl, ⟨⟩⟩]
     refine qj (ql (args := [ptr cb 0]) call199 rfl (jj [_, _] (l1Odd_spec hbs (by omega))) ?_)
     rintro _ _ _ _ ⟨⟨rfl, x8, rfl⟩, rfl⟩
     exact ⟨rfl, rfl⟩
    refine gD (fun W Fs R lF z9 => ?_) ?_
    ·have e3 : (ii (((intAt (W 3)))) : Value) = (W 3) := z9 3 rfl
     replace hc1 := hc1.mono lF
     rw [eS (l := [(3, (ii (((intAt (W 3))))))]) ⟨(e3).symm, ⟨⟩⟩]
     refine qj (qD (s := 1) [ii (((intAt (W 3))))] [ii (0)] [(0, [ii (((intAt (W 3))))])] qd qy qU rfl (by decide) rfl (.cons rfl CellsAre.nil) rfl ?_)
     intro v7 hv6
     exact ⟨hv6, rfl⟩
    refine gD (fun W Fs R lF z9 => ?_) ?_
    ·have e3 : (ii (((intAt (W 3)))) : Value) = (W 3) := z9 3 rfl
     have f4 : ∃ b, (W 4) = .slice (some ⟨b, 0, none⟩) 1 1 := z9 4 rfl
     replace hc1 := hc1.mono lF
     rw [eS (l := [(3, (ii (((intAt (W 3))))))]) ⟨(e3).symm, ⟨⟩⟩]
     refine qj (qD (s := 1) [(W 4)] [sN] [(0, [(W 4)])] qJ qN jB rfl (by decide) rfl (.cons (cells_one (jo f4)) CellsAre.nil) rfl ?_)
     intro v8 hv7
     exact ⟨hv7, rfl⟩
    exact stepsG.nil
   intro W F12 le12 hphi
   have e3 : (ii (((intAt (W 3)))) : Value) = (W 3) := hphi 3 (by decide)
   have f4 : ∃ b, (W 4) = .slice (some ⟨b, 0, none⟩) 1 1 := hphi 4 (by decide)
   have f5 : ∃ b, (W 5) = .slice (some ⟨b, 0, none⟩) 1 1 := hphi 5 (by decide)
   generalize hu2 : (intAt (W 3)) = u3 at e3 f4 f5
   generalize hu4 : W 4 = u4 at e3 f4 f5
   generalize hu5 : W 5 = u5 at e3 f4 f5
   rw [eS (l := [(1, _), (3, (ii ((u3)))), (4, u4), (5, u5)]) ⟨(hphi 1 (by decide)), (e3).symm, hu4, hu5, ⟨⟩⟩]
   replace hc1 := hc1.mono le12
   show XL _ _ _ _ _ _ _ (slH 2 1 u4 1 [ii ((u3))] :: slH 27 1 u5 1 [u4] :: cellsH b3 [x1] 50 :: slH 27 1 x1 os1.length cs1 :: curH .i64 142 cb bsv bs.length :: cellsH b2 [sN] 50 :: cellsH b1 [arv] 29 :: L)
   show XL _ _ _ _ _ _ _ (intsH 2 u4 ([(u3)] : List Int) :: slH 27 1 u5 1 [u4] :: cellsH b3 [x1] 50 :: slH 27 1 x1 os1.length cs1 :: curH .i64 142 cb bsv bs.length :: cellsH b2 [sN] 50 :: cellsH b1 [arv] 29 :: L)
   refine XL.freezeF [] _ _ rfl (fun F13 le13 hz3 => ?_)
   replace hc1 := hc1.mono le13
   have hf3 : IntsF F13 u4 ([(u3)]) := intsH.fz (xs := [(u3)]) hz3.fz
   refine cX (XOp.append (m := 1) (bytes := 24) (cs := cs1) [_, _] _ [u4] qJ typeInfo27 rfl rfl rfl rfl rfl rfl rfl (SlV.own [] rfl) rfl (Rd.lit [] rfl) (qw (qP (jc hf3)) qC) (by (try simp only [List.length_append, List.length_nil, List.length_cons, List.length_singleton]); omega) (by (try simp only [List.length_append, List.length_nil, List.length_cons, List.length_singleton]); omega) ?_)
   intro v9 hs2 hn2 hm2
   have hc4 := RowsC.snoc hc1 hf3
   refine cX (qA (0) qo rfl qI (by decide) rfl rfl (cX (jq [_] _ [v9] qI rfl rfl (qP hs2) rfl rfl rfl (qb (qc (qa (cX (qr [v9] qK qm rfl rfl (Rd.ownN [_] rfl rfl) (cX (qt [_, _, _, _] _ [v9] qm rfl rfl rfl (qw (qP hs2) qC) rfl rfl rfl (qb (ji [_, _] _ _ rfl (fun F14 le14 hz4 => ?_)))))))))))))
   replace hc1 := hc1.mono le14
   replace hc4 := hc4.mono le14
   have hf4 : RowsF F14 v9 (os1 ++ [[(u3)]]) := CO.fz hc4 (by first | rfl | omega | (rw [List.length_set]; omega) | (simp; done)) hz4.fz
   refine qx (qp (L' := curH .i64 142 cb bsv bs.length :: L) [.agg #[v9]] (.agg #[v9]) (.cell rfl (ja [v9] qK qm rfl (Rd.ownN [_, _, _] rfl rfl)) .nil) rfl (qg (qg (qg le1 le12) le13) le14) rF (sD (sD (sC (sD (sD sR))))) ?_)
   exact ⟨⟨_, rfl, ⟨_, hf4, by rw [List.length_append]; simp only [List.length_singleton]; omega, rows_snoc h_2 (by first | omega | (have h9 := q; omega) | simp)⟩⟩, rfl⟩
  refine qv (qc (qa (cX (qr [x1] qK qm rfl rfl (Rd.ownN [] rfl rfl) (cX (qt [_, _, _] _ [x1] qm rfl rfl rfl (qw (qP hsl1) qC) rfl rfl rfl (qb (ji [_] _ _ rfl (fun F15 le15 hz5 => ?_)))))))))
  replace hc1 := hc1.mono le15
  have hf5 : RowsF F15 x1 os1 := CO.fz hc1 (by first | rfl | omega | (rw [List.length_set]; omega) | (simp; done)) hz5.fz
  refine qx (qp (L' := curH .i64 142 cb bsv bs.length :: L) [.agg #[x1]] (.agg #[x1]) (.cell rfl (ja [x1] qK qm rfl (Rd.ownN [_, _] rfl rfl)) .nil) rfl (qg le1 le15) rF (sD (sC (sD (sD sR)))) ?_)
  exact ⟨⟨_, rfl, ⟨_, hf5, by omega, h_2⟩⟩, rfl⟩
 refine qv (qc (qa (cX (qr [x1] qK qm rfl rfl (Rd.ownN [] rfl rfl) (cX (qt [_, _, _] _ [x1] qm rfl rfl rfl (qw (qP hsl1) qC) rfl rfl rfl (qb (ji [_] _ _ rfl (fun F16 le16 hz6 => ?_)))))))))
 replace hc1 := hc1.mono le16
 have hf6 : RowsF F16 x1 os1 := CO.fz hc1 (by first | rfl | omega | (rw [List.length_set]; omega) | (simp; done)) hz6.fz
 refine qx (qp (L' := curH .i64 142 cb bsv bs.length :: L) [.agg #[x1]] (.agg #[x1]) (.cell rfl (ja [x1] qK qm rfl (Rd.ownN [_, _] rfl rfl)) .nil) rfl (qg le1 le16) rF (sD (sC (sD (sD sR)))) ?_)
 exact ⟨⟨_, rfl, ⟨_, hf6, by omega, h_2⟩⟩, rfl⟩

/- impl.argsAt -/
theorem argsAt_spec {F : FH} {L : List HP} {arv : Value} {ar : List Int} (har : IntsF F arv ar) {tv : Value} {t : List Int} (ht : IntsF F tv t) {p : Nat} (ho : termOk ar t = true) (hp : p < t.length) :
    Does prog 222 [.agg #[arv], tv, ii ((p : Int))] F (L) (fun v F' L' => F = F' ∧ IsSl v ∧ intsH 3 v (argsL ar t p) :: L = L') := by
 refine qM func222 rfl rfl rfl ?_
 have hsl := sigOk_spec (termOk_sig ho)
 have htl := termOk_len ho
 have hsig := termOk_sig ho
 have hA := arity_le hsig (termOk_lt ho hp)
 have hge := termOk_ge ho hp
 have hlt := termOk_lt ho hp
 refine qc (qa (cX (jg [arv] rfl rfl ?_)))
 intro b1
 refine qh (sN) rfl (qb (qc (qa (qh (sN) rfl (qb (qc (qa (qf (ii ((p : Int))) rfl (cX (qT (((p + 1 : Nat) : Int)) rfl rfl (by omega) (by omega) (qh (ii (((p + 1 : Nat) : Int))) rfl (qb (qc (qc ?_))))))))))))))
 refine jz [cellsH b1 [arv] 29] L 5 [] [[], [], [], [1, 2], [3]] (phiL [qe (.agg #[arv]), qe tv, qe (ii ((p : Int)) : Value), qe (.pointer (some (elemA tv (p)))), qe (ii (t.getD p 0))]) (ownL []) mixed rfl rfl (by kernel_rfl) ?_ ?_
 ·refine pD (fun W R z9 => ?_) ?_
  ·refine qj (qr [arv] qL qz rfl rfl (Rd.ownN [] rfl rfl) ?_)
   exact ⟨rfl, rfl, rfl⟩
  refine pD (fun W R z9 => ?_) ?_
  ·refine qj (qk (tv) rfl ?_)
   exact ⟨rfl, rfl, rfl⟩
  refine pD (fun W R z9 => ?_) ?_
  ·refine qj (qk (ii ((p : Int))) rfl ?_)
   exact ⟨rfl, rfl, rfl⟩
  refine pD (fun W R z9 => ?_) ?_
  ·rw [eS (l := [(1, _), (2, _)]) ⟨z9 1 rfl, z9 2 rfl, ⟨⟩⟩]
   refine qj (qB p qd qy rfl rfl rfl ht.slv (by omega) (Nat.mul_one _) ?_)
   exact ⟨rfl, rfl, rfl⟩
  refine pD (fun W R z9 => ?_) ?_
  ·rw [eS (l := [(3, _)]) ⟨z9 3 rfl, ⟨⟩⟩]
   refine qj (qn qV rfl (ht.rd (by omega)) ?_)
   exact ⟨rfl, rfl, rfl⟩
  exact stepsP.nil
 intro W hphi
 rw [eS (l := [(0, _), (4, _)]) ⟨(hphi 0 (by decide)), (hphi 4 (by decide)), ⟨⟩⟩]
 show XL _ _ _ _ _ _ _ (cellsH b1 [arv] 29 :: L)
 refine cX (ql (args := [.agg #[arv], ii (t.getD p 0)]) call243 rfl (arityAt_spec (n := t.getD p 0) har (hn := (by first | assumption | rfl | omega | simp))) ?_)
 rintro _ _ _ _ ⟨rfl, rfl, rfl⟩
 refine qh (ii (arity ar (t.getD p 0))) rfl (qb (qQ (js (α := Nat × Nat × Value × List Int) (fun xQ => [(1, tv), (3, ptr b1 0), (7, xQ.2.2.1), (8, ii (((xQ.2.1 : Nat) : Int))), (9, ii (((xQ.1 : Nat) : Int)))]) (fun xQ => intsH 3 xQ.2.2.1 xQ.2.2.2 :: cellsH b1 [arv] 29 :: L) (fun xQ F' => F = F' ∧ (IsSl xQ.2.2.1) ∧ (Stand ar t xQ.1 xQ.2.1 (endN ar t p)) ∧ (argsL ar t p = xQ.2.2.2 ++ argsGo ar t xQ.1 xQ.2.1) ∧ (xQ.2.2.2.length + xQ.1 ≤ 3)) (fun xQ => xQ.1) ((arity ar (t.getD p 0)).toNat, p + 1, sN, []) ⟨rfl, rfl, rfl, rfl, (vI (by first | omega | (rw [sArity_eq (by omega)]; omega))), ⟨⟩⟩ (jp (intsH.addNil 3 none _) (sC (sC sR))) ⟨rfl, (⟨_, _, _, rfl⟩), (stand_start ho hp), (rfl), (by rw [List.length_nil]; omega)⟩ ?_)))
 rintro ⟨m, q, ov, os⟩ rE _ _ ⟨rfl, hov, hS, hos, hol⟩
 show X _ _ _ _ (envs [(1, tv), (3, ptr b1 0), (7, ov), (8, ii ((q : Int))), (9, ii ((m : Int)))] rE) _ (intsH 3 ov os :: cellsH b1 [arv] 29 :: L)
 dsimp only at hov hS hos hol
 have hst := fun (h : 1 ≤ m) => stand_step ho (n := m - 1) (by rw [Nat.sub_add_cancel h]; exact hS)
 refine qc (qc (qa (qf (ii ((m : Int))) rfl (cX (jF rfl rfl (qb ?_))))))
 refine qF (p := (m : Int) > 0) rfl (fun h1 => ?_) (fun h1 => ?_)
 ·refine qv (qc (qQ (qc (qa (qf (ov) rfl (qf (ii ((q : Int))) rfl (cX (qD (s := 1) [ii ((q : Int))] [ii (0)] [(0, [ii ((q : Int))])] runUnderlying128 sizeOf3 zeroValue3 rfl (by decide) rfl (.cons rfl CellsAre.nil) rfl ?_))))))))
  intro v1 hv1
  refine cX (jC (u := (q : Int)) [_] _ runUnderlying128 typeInfo3 rfl rfl rfl rfl rfl rfl (SlV.own [] rfl) (Rd.sl [] rfl rfl) (by (try simp only [List.length_append, List.length_nil, List.length_cons, List.length_singleton, List.length_take, List.length_drop]); omega) ?_)
  intro v2 hs1 hn1
  refine qh (v2) rfl (qb (qa (cX (qr [arv] qL qz rfl rfl (Rd.ownN [_, _] rfl rfl) (qf (tv) rfl (qf (ii ((q : Int))) rfl (cX (ql (args := [.agg #[arv], tv, ii (q : Int)]) call150 rfl (endAt_ok (p := q) har ht (ho := (by first | assumption | rfl | omega | (left; simp; done) | (right; simp; done))) (hp := (by first | assumption | rfl | omega | (left; simp; done) | (right; simp; done)))) ?_))))))))
  rintro _ _ _ _ ⟨rfl, rfl, rfl⟩
  refine qh (ii (((endN ar t q : Nat) : Int))) rfl (qb (qa (qf (ii ((m : Int))) rfl (cX (qW (((m : Int)) - 1) rfl rfl (by omega) (by omega) (qh (ii (((m : Int)) - 1)) rfl (qb ?_)))))))
  exact ⟨(m - 1, endN ar t q, v2, os ++ [(q : Int)]), _, FLe.refl _, rF, ⟨rfl, rfl, rfl, rfl, (vI (by omega)), ⟨⟩⟩, (sD (sC (sC sR))), ⟨rfl, (hs1), ((hst (by omega)).2.1), (args_next ho (by omega) hos), (by dsimp only; rw [List.length_append, List.length_singleton]; omega)⟩, (by omega)⟩
 refine jl (qE (qE (qS (qc (qa (qf (ov) rfl (qh (ov) rfl (qb (qx (qp (L' := intsH 3 ov os :: L) [ov] (ov) (.tmp rfl .nil) rfl rF rF (sC (sD sR)) ?_))))))))))
 refine ⟨rfl, hov, ?_⟩
 have hxs : (argsL ar t p : List Int) = os := by rw [hos, show m = 0 from by omega]; simp [argsGo]
 exact congrArg (fun z => intsH 3 _ z :: L) hxs

/- spec.l3Right -/
theorem l3Right_spec {F : FH} {L : List HP} {arv : Value} {ar : List Int} (har : IntsF F arv ar) {tv : Value} {t : List Int} (ht : IntsF F tv t) {n : Int} (hla : ar.length ≤ 4000000) (hlt : t.length ≤ 4000000) :
    Does prog 115 [.agg #[arv], tv, ii (n)] F (L) (fun v F' L' => (.bool (posOk ar t n) : Value) = v ∧ F = F' ∧ L = L') := by
 refine qM func115 rfl rfl rfl (qc (qa (cX (jg [arv] rfl rfl ?_))))
 intro b1
 refine qh (.bool (false)) rfl (qb (qc (qa (cX (qr [arv] qL qz rfl rfl (Rd.ownN [] rfl rfl) (qf (tv) rfl (cX (ql (args := [.agg #[arv], tv]) call81 rfl (sTermOk_spec har ht (hla := (by first | assumption | rfl | omega | simp)) (hlt := (by first | assumption | rfl | omega | simp))) ?_))))))))
 rintro _ _ _ _ ⟨rfl, rfl, rfl⟩
 refine qf (.bool (termOk ar t)) rfl ?_
 by_cases h1 : (termOk ar t) = true
 ·refine qq (t := 10) rfl (vB h1) (qk (tv) rfl (qq (t := 10) rfl (vB h1) (qk (ii (n)) rfl (qq (t := 10) rfl (vB h1) (ql (args := [tv, ii (n)]) call111 rfl (l1There_spec (n := n) ht (hbd := (by first | assumption | rfl | omega | simp))) ?_)))))
  rintro _ _ _ _ ⟨rfl, rfl, rfl⟩
  refine cX (qX (.bool (decide (0 ≤ n ∧ n < (t.length : Int)))) (vB h1) rfl (qh (.bool (decide (0 ≤ n ∧ n < (t.length : Int)))) rfl (qb (qx (qp (L' := L) [.bool (decide (0 ≤ n ∧ n < (t.length : Int)))] (.bool (decide (0 ≤ n ∧ n < (t.length : Int)))) (.tmp rfl .nil) rfl rF rF (sD sR) ?_)))))
  exact ⟨((by unfold posOk; simp_all)), rfl, rfl⟩
 rw [Bool.not_eq_true] at h1
 refine qu (t := 10) rfl (vB h1) (qu (t := 10) rfl (vB h1) (qu (t := 10) rfl (vB h1) (cX (qR (.bool (false)) (vB h1) rfl (qh (.bool (false)) rfl (qb (qx (qp (L' := L) [.bool (false)] (.bool (false)) (.tmp rfl .nil) rfl rF rF (sD sR) ?_))))))))
 exact ⟨((by unfold posOk; simp_all)), rfl, rfl⟩
end Go.Proofs.Ytcdjpapjjoldeaa
