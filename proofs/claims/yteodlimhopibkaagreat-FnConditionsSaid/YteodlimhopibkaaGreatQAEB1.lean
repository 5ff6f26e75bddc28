/-
  Walks, one after the other (part 2).
-/
import Derived.Test.YteodlimhopibkaaGreatQAEL1
import Derived.Test.YteodlimhopibkaaGreatQAEB0
set_option linter.unusedSimpArgs false
set_option linter.unusedVariables false
namespace Go.Proofs.YteodlimhopibkaaGreat
open Go X M Tryz

/- spec.l1New -/
theorem l1New_spec {F : FH} {L : List HP} {bsv : Value} {bs : List Int} (hbs : BytesF F bsv bs) (hlb : bs.length ≤ 4000000) :
    Does prog 18 [bsv] F (L) (fun v F' L' => ∃ cb : Nat, (ptr cb 0 : Value) = v ∧ F = F' ∧ curH .i64 75 cb bsv bs.length :: L = L') := by
 refine qL func18 rfl rfl rfl (qg (qd (qj ((.pointer none)) rfl (qf (qg (qd (qi (bsv) rfl (cX (qE runUnderlying22 rfl hbs.slv (cX (qS (((570029 + ((bs).length) : Nat) : Int)) rfl rfl (by omega) (by omega) (qj (ii (((570029 + ((bs).length) : Nat) : Int))) rfl (qf (qg (qg (qd (qj (ii (0)) rfl ?_)))))))))))))))))
 refine qf (qQ (jr (α := Nat × Int) (fun xQ => [(0, bsv), (3, ii (xQ.2)), (4, ii (((xQ.1 : Nat) : Int)))]) (fun xQ => L) (fun xQ F' => F = F' ∧ (xQ.1 ≤ bs.length) ∧ (0 ≤ xQ.2 ∧ xQ.2 ≤ 1073741823)) (fun xQ => bs.length - xQ.1) (0, ((570029 + ((bs).length) : Nat) : Int)) ⟨rfl, rfl, rfl, ⟨⟩⟩ sR ⟨rfl, (Nat.zero_le _), (by (try dsimp only) <;> omega)⟩ ?_))
 rintro ⟨k, h⟩ rE _ _ ⟨rfl, hk, hh⟩
 show X _ _ _ _ (envs [(0, bsv), (3, ii (h)), (4, ii ((k : Int)))] rE) _ (L)
 dsimp only at hk hh
 refine qg (qg (qd (qi (ii ((k : Int))) rfl (qi (bsv) rfl (cX (qE runUnderlying22 rfl hbs.slv (cX (jb rfl rfl (qf ?_)))))))))
 refine qH (p := (k : Int) < (bs.length : Int)) rfl (fun h1 => ?_) (fun h1 => ?_)
 ·have hrg := hbs.range (i := k) (by omega)
  refine qz (qg (qQ (qd (qi (ii (h)) rfl (cX (XOp.mulR (h * 317) rfl rfl (by omega) (by omega) (qi (bsv) rfl (qi (ii ((k : Int))) rfl (cX (qD k runUnderlying22 sizeOf5 rfl rfl rfl hbs.slv (by omega) (Nat.mul_one _) (cX (qm isAgg5 rfl (hbs.rd (by omega) _) (cX (XOp.convI (k' := .u8) (a := bs.getD k 0) (bs.getD k 0) runUnderlying5 runUnderlying2 rfl (IntWalk.i64_in _ (by omega)) (cX (qS ((h * 317) + (bs.getD k 0)) rfl rfl (by omega) (by omega) (cX (qS (((h * 317) + (bs.getD k 0)) + 11) rfl rfl (by omega) (by omega) ?_))))))))))))))))))
  refine cX (XOp.andW (a := ((h * 317) + (bs.getD k 0)) + 11) (b := 1073741823) rfl rfl rfl (by decide) ?_)
  intro r1 hr1
  refine qj (ii (r1)) rfl (qf (qd (qi (ii ((k : Int))) rfl (cX (qS (((k + 1 : Nat) : Int)) rfl rfl (by omega) (by omega) (qj (ii (((k + 1 : Nat) : Int))) rfl (qf ?_)))))))
  exact ⟨(k + 1, r1), _, FLe.refl _, rF, ⟨rfl, rfl, rfl, ⟨⟩⟩, sR, ⟨rfl, (by (try dsimp only) <;> omega), (hr1)⟩, (by omega)⟩
 refine jn (qA (qA (qV (qg (qd (qi (bsv) rfl (qi (ii (h)) rfl (cX (jk [bsv, ii (0), ii (h)] [sN, ii (0), ii (0)] [(0, 1), (1, 1), (2, 1)] [(0, [bsv]), (2, [ii (h)])] ya zeroValue75 rfl (.cons rfl sizeOf22 (.cons rfl sizeOf3 (.cons rfl qC PlacesAre.nil))) rfl (.cons (cells_one (BytesF.isSl hbs)) (.cons rfl CellsAre.nil)) (cX (je [bsv, ii (0), ii (h)] rfl rfl ?_)))))))))))
 intro b1
 refine qj (ptr b1 0) rfl (qf (qu (qt (L' := curH .i64 75 b1 bsv bs.length :: L) [ptr b1 0] (ptr b1 0) (.tmp rfl .nil) rfl rF rF (yc (curH.of (by omega) (by omega)) sR) ?_)))
 exact ⟨_, rfl, rfl, rfl⟩

/- spec.l1Byte -/
theorem l1Byte_spec0 {F : FH} {L : List HP} {cb : Nat} {bsv : Value} {bs : List Int} (hbs : BytesF F bsv bs) (hbl : bs.length ≤ 4000000) {i h : Int} (h0 : 0 ≤ i) (h1 : i ≤ bs.length) :
    Does prog 76 [ptr cb 0] F (cellsH cb [bsv, ii (i), ii (h)] 75 :: L) (fun v F' L' => (F = F' ∧ ∃ x : Int, (.int .i64 x : Value) = v ∧ (0 ≤ x ∧ x ≤ 255)) ∧ ∃ i' h' : Int, 0 ≤ i' ∧ i' ≤ bs.length ∧ cellsH cb [bsv, ii (i'), ii (h')] 75 :: L = L') := by
 refine qL func76 rfl rfl rfl (qg (qd (qj (ii (0)) rfl (qf (qg (qd (qi (ptr cb 0) rfl (qi (ptr cb 0) rfl (cX (jA rfl (cX (qq (2) ya rfl qC (by decide) rfl rfl (cX (qm jj rfl (Rd.own [] rfl rfl) (cX (XOp.mulW (a := h) (b := 6364136223846793005) rfl rfl ?_))))))))))))))))
 intro r1
 refine cX (XOp.addW (a := r1) (b := 1442695040888963407) rfl rfl ?_)
 intro r2
 refine cX (jA rfl (cX (qq (2) ya rfl qC (by decide) rfl rfl (cX (jL [] _ [bsv, ii (i), ii (r2)] qC rfl rfl rfl rfl rfl rfl (qf (qg ?_)))))))
 refine jG [cellsH cb [bsv, ii (i), ii (r2)] 75] L 10 [] [[], [0], [1], [2], [3], [], [5], [6], [7], [8]] [] (phiG [pe (ptr cb 0), pe (ptr cb 0), pe (ptr cb 2), pe (ii (r2)), fun FF us v => (ii ((intAt v)) : Value) = v, pe (ptr cb 0), pe (ptr cb 0), pe (ptr cb 2), pe (ii (r2)), fun FF us v => (ii ((intAt v)) : Value) = v]) (ownL []) mixed rfl rfl (by kernel_rfl) (by kernel_rfl) (MonoG.get (m1 (m1 (m1 (m1 (mC (fun le h => h) (m1 (m1 (m1 (m1 (mC (fun le h => h) MonoG.nil))))))))))) ?_ ?_
 ·refine gD (fun W Fs R lF z9 => ?_) ?_
  ·refine qk (qo (ptr cb 0) rfl ?_)
   exact ⟨rfl, rfl⟩
  refine gD (fun W Fs R lF z9 => ?_) ?_
  ·replace hbs := hbs.mono lF
   rw [zA 0 (z9 0 rfl)]
   refine qk (jA rfl ?_)
   exact ⟨rfl, rfl⟩
  refine gD (fun W Fs R lF z9 => ?_) ?_
  ·rw [zA 1 (z9 1 rfl)]
   refine qk (qq (2) ya rfl qC (by decide) rfl rfl ?_)
   exact ⟨rfl, rfl⟩
  refine gD (fun W Fs R lF z9 => ?_) ?_
  ·replace hbs := hbs.mono lF
   rw [zA 2 (z9 2 rfl)]
   refine qk (qm jj rfl (Rd.own [] rfl rfl) ?_)
   exact ⟨rfl, rfl⟩
  refine gD (fun W Fs R lF z9 => ?_) ?_
  ·rw [zA 3 (z9 3 rfl)]
   refine qk (XOp.shrW (a := r2) (b := 33) rfl rfl (by decide) ?_)
   intro r5
   exact ⟨rfl, rfl⟩
  refine gD (fun W Fs R lF z9 => ?_) ?_
  ·refine qk (qo (ptr cb 0) rfl ?_)
   exact ⟨rfl, rfl⟩
  refine gD (fun W Fs R lF z9 => ?_) ?_
  ·replace hbs := hbs.mono lF
   rw [zA 5 (z9 5 rfl)]
   refine qk (jA rfl ?_)
   exact ⟨rfl, rfl⟩
  refine gD (fun W Fs R lF z9 => ?_) ?_
  ·rw [zA 6 (z9 6 rfl)]
   refine qk (qq (2) ya rfl qC (by decide) rfl rfl ?_)
   exact ⟨rfl, rfl⟩
  refine gD (fun W Fs R lF z9 => ?_) ?_
  ·replace hbs := hbs.mono lF
   rw [zA 7 (z9 7 rfl)]
   refine qk (qm jj rfl (Rd.own [] rfl rfl) ?_)
   exact ⟨rfl, rfl⟩
  refine gD (fun W Fs R lF z9 => ?_) ?_
  ·rw [zA 8 (z9 8 rfl)]
   refine qk (XOp.shrW (a := r2) (b := 45) rfl rfl (by decide) ?_)
   intro r6
   exact ⟨rfl, rfl⟩
  exact stepsG.nil
 intro W F1 le1 hphi
 have e4 : (ii ((intAt (W 4))) : Value) = (W 4) := hphi 4 (by decide)
 have e9 : (ii ((intAt (W 9))) : Value) = (W 9) := hphi 9 (by decide)
 generalize hu1 : (intAt (W 4)) = u1 at e4 e9
 generalize hu2 : (intAt (W 9)) = u2 at e4 e9
 rw [eS (l := [(4, (ii (u1))), (9, (ii (u2)))]) ⟨(e4).symm, (e9).symm, ⟨⟩⟩]
 replace hbs := hbs.mono le1
 show XL _ _ _ _ _ _ _ (cellsH cb [bsv, ii (i), ii (r2)] 75 :: L)
 refine cX (XOp.xorW (a := u1) (b := u2) rfl rfl ?_)
 intro r7
 refine cX (XOp.andW (a := r7) (b := 255) rfl rfl rfl (by decide) ?_)
 intro r8 hr1
 refine qj (ii (r8)) rfl (qf (qg (qg ?_)))
 refine X.draw [cellsH cb [bsv, ii (i), ii (r2)] 75] L 9 [] [[], [0], [1], [2], [], [4], [5], [6], [7]] (phiL [qe (ptr cb 0), qe (ptr cb 0), qe (ptr cb 1), qe (ii (i)), qe (ptr cb 0), qe (ptr cb 0), qe (ptr cb 0), qe bsv, qe (ii ((bs.length : Int)) : Value)]) (ownL []) mixed rfl rfl (by kernel_rfl) ?_ ?_
 ·refine pD (fun W R z9 => ?_) ?_
  ·refine qk (qo (ptr cb 0) rfl ?_)
   exact ⟨rfl, rfl, rfl⟩
  refine pD (fun W R z9 => ?_) ?_
  ·rw [zA 0 (z9 0 rfl)]
   refine qk (jA rfl ?_)
   exact ⟨rfl, rfl, rfl⟩
  refine pD (fun W R z9 => ?_) ?_
  ·rw [zA 1 (z9 1 rfl)]
   refine qk (qq (1) ya rfl sizeOf3 (by decide) rfl rfl ?_)
   exact ⟨rfl, rfl, rfl⟩
  refine pD (fun W R z9 => ?_) ?_
  ·rw [zA 2 (z9 2 rfl)]
   refine qk (qm isAgg3 rfl (Rd.own [] rfl rfl) ?_)
   exact ⟨rfl, rfl, rfl⟩
  refine pD (fun W R z9 => ?_) ?_
  ·refine qk (qo (ptr cb 0) rfl ?_)
   exact ⟨rfl, rfl, rfl⟩
  refine pD (fun W R z9 => ?_) ?_
  ·rw [zA 4 (z9 4 rfl)]
   refine qk (jA rfl ?_)
   exact ⟨rfl, rfl, rfl⟩
  refine pD (fun W R z9 => ?_) ?_
  ·rw [zA 5 (z9 5 rfl)]
   refine qk (qq (0) ya rfl sizeOf22 (by decide) rfl rfl ?_)
   exact ⟨rfl, rfl, rfl⟩
  refine pD (fun W R z9 => ?_) ?_
  ·rw [zA 6 (z9 6 rfl)]
   refine qk (qm isAgg22 rfl (Rd.own [] rfl rfl) ?_)
   exact ⟨rfl, rfl, rfl⟩
  refine pD (fun W R z9 => ?_) ?_
  ·rw [zA 7 (z9 7 rfl)]
   refine qk (qE runUnderlying22 rfl hbs.slv ?_)
   exact ⟨rfl, rfl, rfl⟩
  exact stepsP.nil
 intro W hphi
 rw [zB 3 8 (hphi 3 (by decide)) (hphi 8 (by decide))]
 show XL _ _ _ _ _ _ _ (cellsH cb [bsv, ii (i), ii (r2)] 75 :: L)
 refine cX (jb rfl rfl (qf ?_))
 refine qH (p := (i : Int) < (bs.length : Int)) rfl (fun h1 => ?_) (fun h1 => ?_)
 ·have hrg := hbs.range (i := i.toNat) (by omega)
  refine qg ?_
  refine X.draw [cellsH cb [bsv, ii (i), ii (r2)] 75] L 12 [] [[], [], [1], [2], [3], [], [5], [6], [7], [4, 8], [9], [10]] (phiL [qe (ii (r8)), qe (ptr cb 0), qe (ptr cb 0), qe (ptr cb 0), qe bsv, qe (ptr cb 0), qe (ptr cb 0), qe (ptr cb 1), qe (ii (i)), qe (.pointer (some (elemA bsv ((i).toNat)))), qe (.int .u8 (bs.getD ((i).toNat) 0)), qe (ii (bs.getD ((i).toNat) 0))]) (ownL []) mixed rfl rfl (by kernel_rfl) ?_ ?_
  ·refine pD (fun W R z9 => ?_) ?_
   ·refine qk (qo (ii (r8)) rfl ?_)
    exact ⟨rfl, rfl, rfl⟩
   refine pD (fun W R z9 => ?_) ?_
   ·refine qk (qo (ptr cb 0) rfl ?_)
    exact ⟨rfl, rfl, rfl⟩
   refine pD (fun W R z9 => ?_) ?_
   ·rw [zA 1 (z9 1 rfl)]
    refine qk (jA rfl ?_)
    exact ⟨rfl, rfl, rfl⟩
   refine pD (fun W R z9 => ?_) ?_
   ·rw [zA 2 (z9 2 rfl)]
    refine qk (qq (0) ya rfl sizeOf22 (by decide) rfl rfl ?_)
    exact ⟨rfl, rfl, rfl⟩
   refine pD (fun W R z9 => ?_) ?_
   ·rw [zA 3 (z9 3 rfl)]
    refine qk (qm isAgg22 rfl (Rd.own [] rfl rfl) ?_)
    exact ⟨rfl, rfl, rfl⟩
   refine pD (fun W R z9 => ?_) ?_
   ·refine qk (qo (ptr cb 0) rfl ?_)
    exact ⟨rfl, rfl, rfl⟩
   refine pD (fun W R z9 => ?_) ?_
   ·rw [zA 5 (z9 5 rfl)]
    refine qk (jA rfl ?_)
    exact ⟨rfl, rfl, rfl⟩
   refine pD (fun W R z9 => ?_) ?_
   ·rw [zA 6 (z9 6 rfl)]
    refine qk (qq (1) ya rfl sizeOf3 (by decide) rfl rfl ?_)
    exact ⟨rfl, rfl, rfl⟩
   refine pD (fun W R z9 => ?_) ?_
   ·rw [zA 7 (z9 7 rfl)]
    refine qk (qm isAgg3 rfl (Rd.own [] rfl rfl) ?_)
    exact ⟨rfl, rfl, rfl⟩
   refine pD (fun W R z9 => ?_) ?_
   ·rw [zB 4 8 (z9 4 rfl) (z9 8 rfl)]
    refine qk (qD ((i).toNat) runUnderlying22 sizeOf5 rfl rfl (by omega) hbs.slv (by omega) (Nat.mul_one _) ?_)
    exact ⟨rfl, rfl, rfl⟩
   refine pD (fun W R z9 => ?_) ?_
   ·rw [zA 9 (z9 9 rfl)]
    refine qk (qm isAgg5 rfl (hbs.rd (by omega) _) ?_)
    exact ⟨rfl, rfl, rfl⟩
   refine pD (fun W R z9 => ?_) ?_
   ·rw [zA 10 (z9 10 rfl)]
    refine qk (XOp.convI (k' := .u8) (a := bs.getD ((i).toNat) 0) (bs.getD ((i).toNat) 0) runUnderlying5 runUnderlying2 rfl (IntWalk.i64_in _ (by omega)) ?_)
    exact ⟨rfl, rfl, rfl⟩
   exact stepsP.nil
  intro W hphi
  rw [zB 0 11 (hphi 0 (by decide)) (hphi 11 (by decide))]
  show XL _ _ _ _ _ _ _ (cellsH cb [bsv, ii (i), ii (r2)] 75 :: L)
  refine cX (qS (r8 + (bs.getD ((i).toNat) 0)) rfl rfl (by omega) (by omega) (cX (XOp.andW (a := r8 + (bs.getD ((i).toNat) 0)) (b := 255) rfl rfl rfl (by decide) ?_)))
  intro r9 hr2
  refine qj (ii (r9)) rfl (qf (qd (qi (ptr cb 0) rfl (qi (ptr cb 0) rfl (cX (jA rfl (cX (qq (1) ya rfl sizeOf3 (by decide) rfl rfl (cX (qm isAgg3 rfl (Rd.own [] rfl rfl) (cX (qS (i + 1) rfl rfl (by omega) (by omega) (cX (jA rfl (cX (qq (1) ya rfl sizeOf3 (by decide) rfl rfl ?_))))))))))))))))
  refine cX (jL [] _ [bsv, ii (i + 1), ii (r2)] sizeOf3 rfl rfl rfl rfl rfl rfl (qf (qg (qd (qi (ii (r9)) rfl (qj (ii (r9)) rfl (qf (qu (qt (L' := cellsH cb [bsv, ii (i + 1), ii (r2)] 75 :: L) [ii (r9)] (ii (r9)) (.tmp rfl .nil) rfl rF le1 (sC sR) ?_)))))))))
  exact ⟨⟨rfl, _, rfl, by omega⟩, _, _, by omega, by omega, rfl⟩
 refine qz (qg (qd (qi (ii (r8)) rfl (qj (ii (r8)) rfl (qf (qu (qt (L' := cellsH cb [bsv, ii (i), ii (r2)] 75 :: L) [ii (r8)] (ii (r8)) (.tmp rfl .nil) rfl rF le1 (sC sR) ?_)))))))
 exact ⟨⟨rfl, _, rfl, by omega⟩, _, _, by omega, by omega, rfl⟩
theorem l1Byte_spec {F : FH} {L : List HP} {cb : Nat} {bsv : Value} {bs : List Int} (hbs : BytesF F bsv bs) (hbl : bs.length ≤ 4000000) : Does prog 76 [ptr cb 0] F (curH .i64 75 cb bsv bs.length :: L) (fun v F' L' => (F = F' ∧ ∃ (x : Int), (.int .i64 x : Value) = v ∧ (0 ≤ x ∧ x ≤ 255)) ∧ curH .i64 75 cb bsv bs.length :: L = L') :=
  Does.cur (Q := fun v F' => F = F' ∧ ∃ (x : Int), (.int .i64 x : Value) = v ∧ (0 ≤ x ∧ x ≤ 255)) fun i h h0 h1 => l1Byte_spec0 hbs hbl h0 h1

/- spec.l1Below -/
theorem l1Below_spec {F : FH} {L : List HP} {cb : Nat} {bsv : Value} {bs : List Int} (hbs : BytesF F bsv bs) (hbl : bs.length ≤ 4000000) {n : Int} (hn : n ≤ 1000000) :
    Does prog 42 [ptr cb 0, ii (n)] F (curH .i64 75 cb bsv bs.length :: L) (fun v F' L' => (F = F' ∧ ∃ (x : Int), (ii (x) : Value) = v ∧ (0 ≤ x ∧ (x < n ∨ x = 0))) ∧ curH .i64 75 cb bsv bs.length :: L = L') := by
 refine qL func42 rfl rfl rfl (qg (qd (qj (ii (0)) rfl (qf (qg (qg (qd (qi (ii (n)) rfl (cX (XOp.leq rfl rfl (qf ?_)))))))))))
 refine qH (p := (n : Int) ≤ 0) rfl (fun h1 => ?_) (fun h1 => ?_)
 ·refine qg (qd (qj (ii (0)) rfl (qf (qu (ql (qt (L' := curH .i64 75 cb bsv bs.length :: L) [ii (0)] (ii (0)) (.tmp rfl .nil) rfl rF rF (sC sR) ?_))))))
  exact ⟨⟨rfl, _, rfl, by omega⟩, rfl⟩
 refine qz (qg (qg (qd (qi (ii (n)) rfl (cX (XOp.leq rfl rfl (qf ?_)))))))
 refine qH (p := (n : Int) ≤ 256) rfl (fun h2 => ?_) (fun h2 => ?_)
 ·refine qg (qd (qi (ptr cb 0) rfl (cX (qn (args := [ptr cb 0]) call76 rfl (qZ [] (l1Byte_spec hbs (by omega))) ?_))))
  rintro _ _ _ _ ⟨⟨rfl, x1, rfl, hr1⟩, rfl⟩
  show XL _ _ _ _ _ _ _ (curH .i64 75 cb bsv bs.length :: L)
  refine qi (ii (n)) rfl (cX (XOp.remV (a := x1) (b := n) rfl rfl (by omega) (by omega) ?_))
  intro r1 hr2
  refine qj (ii (r1)) rfl (qf (qu (ql (qt (L' := curH .i64 75 cb bsv bs.length :: L) [ii (r1)] (ii (r1)) (.tmp rfl .nil) rfl rF rF (sC sR) ?_))))
  exact ⟨⟨rfl, _, rfl, by omega⟩, rfl⟩
 refine qz (qg (qd (qi (ptr cb 0) rfl (cX (qn (args := [ptr cb 0]) call76 rfl (qZ [] (l1Byte_spec hbs (by omega))) ?_)))))
 rintro _ _ _ _ ⟨⟨rfl, x2, rfl, hr3⟩, rfl⟩
 show XL _ _ _ _ _ _ _ (curH .i64 75 cb bsv bs.length :: L)
 refine qj (ii (x2)) rfl (qf (qg (qd (qi (ptr cb 0) rfl (cX (qn (args := [ptr cb 0]) call76 rfl (qZ [] (l1Byte_spec hbs (by omega))) ?_))))))
 rintro _ _ _ _ ⟨⟨rfl, x3, rfl, hr4⟩, rfl⟩
 show XL _ _ _ _ _ _ _ (curH .i64 75 cb bsv bs.length :: L)
 refine qj (ii (x3)) rfl (qf (qg (qd (qi (ptr cb 0) rfl (cX (qn (args := [ptr cb 0]) call76 rfl (qZ [] (l1Byte_spec hbs (by omega))) ?_))))))
 rintro _ _ _ _ ⟨⟨rfl, x4, rfl, hr5⟩, rfl⟩
 show XL _ _ _ _ _ _ _ (curH .i64 75 cb bsv bs.length :: L)
 refine qj (ii (x4)) rfl (qf (qg (qd (qi (ptr cb 0) rfl (cX (qn (args := [ptr cb 0]) call76 rfl (qZ [] (l1Byte_spec hbs (by omega))) ?_))))))
 rintro _ _ _ _ ⟨⟨rfl, x5, rfl, hr6⟩, rfl⟩
 show XL _ _ _ _ _ _ _ (curH .i64 75 cb bsv bs.length :: L)
 refine qj (ii (x5)) rfl (qf (qg (qd (qi (ii (x2)) rfl (cX (XOp.mulR (x2 * 16777216) rfl rfl (by omega) (by omega) (qi (ii (x3)) rfl (cX (XOp.mulR (x3 * 65536) rfl rfl (by omega) (by omega) (cX (qS ((x2 * 16777216) + (x3 * 65536)) rfl rfl (by omega) (by omega) (qi (ii (x4)) rfl (cX (XOp.mulR (x4 * 256) rfl rfl (by omega) (by omega) (cX (qS (((x2 * 16777216) + (x3 * 65536)) + (x4 * 256)) rfl rfl (by omega) (by omega) ?_))))))))))))))))
 refine qi (ii (x5)) rfl (cX (qS ((((x2 * 16777216) + (x3 * 65536)) + (x4 * 256)) + x5) rfl rfl (by omega) (by omega) (qi (ii (n)) rfl (cX (XOp.remV (a := (((x2 * 16777216) + (x3 * 65536)) + (x4 * 256)) + x5) (b := n) rfl rfl (by omega) (by omega) ?_)))))
 intro r2 hr7
 refine qj (ii (r2)) rfl (qf (qu (qt (L' := curH .i64 75 cb bsv bs.length :: L) [ii (r2)] (ii (r2)) (.tmp rfl .nil) rfl rF rF (sC sR) ?_)))
 exact ⟨⟨rfl, _, rfl, by omega⟩, rfl⟩

/- spec.l1Once -/
theorem l1Once_spec {F : FH} {L : List HP} {cb : Nat} {bsv : Value} {bs : List Int} (hbs : BytesF F bsv bs) (hbl : bs.length ≤ 4000000) {n : Int} (hn : n ≤ 1000000) :
    Does prog 28 [ptr cb 0, ii (n)] F (curH .i64 75 cb bsv bs.length :: L) (fun v F' L' => (F = F' ∧ ∃ (b : Bool), (.bool (b) : Value) = v) ∧ curH .i64 75 cb bsv bs.length :: L = L') := by
 refine qL func28 rfl rfl rfl (qg (qd (qj (.bool (false)) rfl (qf (qg (qd (qi (ptr cb 0) rfl (qi (ii (n)) rfl (cX (qn (args := [ptr cb 0, ii (n)]) jO rfl (qZ [] (l1Below_spec (n := n) hbs (by omega) (hn := (by first | assumption | rfl | omega | simp)))) ?_))))))))))
 rintro _ _ _ _ ⟨⟨rfl, x1, rfl, hr1⟩, rfl⟩
 show XL _ _ _ _ _ _ _ (curH .i64 75 cb bsv bs.length :: L)
 refine cX (jD rfl rfl (qj (.bool (decide ((x1 : Int) = 0))) rfl (qf (qu (qt (L' := curH .i64 75 cb bsv bs.length :: L) [.bool (decide ((x1 : Int) = 0))] (.bool (decide ((x1 : Int) = 0))) (.tmp rfl .nil) rfl rF rF (sC sR) ?_)))))
 exact ⟨⟨rfl, _, rfl⟩, rfl⟩

/- spec.l1From -/
theorem l1From_spec {F : FH} {L : List HP} {cb : Nat} {bsv : Value} {bs : List Int} (hbs : BytesF F bsv bs) (hbl : bs.length ≤ 4000000) {lo : Int} {hi : Int} (hlo : -1000 ≤ lo ∧ lo ≤ 1000 ∧ -1000 ≤ hi ∧ hi ≤ 900000) :
    Does prog 43 [ptr cb 0, ii (lo), ii (hi)] F (curH .i64 75 cb bsv bs.length :: L) (fun v F' L' => (F = F' ∧ ∃ (x : Int), (ii (x) : Value) = v ∧ (lo ≤ x ∧ (x ≤ hi ∨ x = lo))) ∧ curH .i64 75 cb bsv bs.length :: L = L') := by
 refine qL func43 rfl rfl rfl (qg (qd (qj (ii (0)) rfl (qf (qg (qd (qi (ii (lo)) rfl (qi (ptr cb 0) rfl (qi (ii (hi)) rfl (qi (ii (lo)) rfl (cX (jl (hi - lo) rfl rfl (by omega) (by omega) (cX (qS ((hi - lo) + 1) rfl rfl (by omega) (by omega) ?_))))))))))))))
 refine cX (qn (args := [ptr cb 0, ii ((hi - lo) + 1)]) jO rfl (qZ [] (l1Below_spec (n := (hi - lo) + 1) hbs (by omega) (hn := (by first | assumption | rfl | omega | simp)))) ?_)
 rintro _ _ _ _ ⟨⟨rfl, x1, rfl, hr1⟩, rfl⟩
 show XL _ _ _ _ _ _ _ (curH .i64 75 cb bsv bs.length :: L)
 refine cX (qS (lo + x1) rfl rfl (by omega) (by omega) (qj (ii (lo + x1)) rfl (qf (qu (qt (L' := curH .i64 75 cb bsv bs.length :: L) [ii (lo + x1)] (ii (lo + x1)) (.tmp rfl .nil) rfl rF rF (sC sR) ?_)))))
 exact ⟨⟨rfl, _, rfl, by omega⟩, rfl⟩

/- spec.l1Odd -/
theorem l1Odd_spec {F : FH} {L : List HP} {cb : Nat} {bsv : Value} {bs : List Int} (hbs : BytesF F bsv bs) (hbl : bs.length ≤ 4000000) :
    Does prog 77 [ptr cb 0] F (curH .i64 75 cb bsv bs.length :: L) (fun v F' L' => (F = F' ∧ ∃ (x : Int), (ii (x) : Value) = v) ∧ curH .i64 75 cb bsv bs.length :: L = L') := by
 refine qL func77 rfl rfl rfl (qg (qd (qj (ii (0)) rfl (qf (qg (qd (cX (qx (s := 1) [ii (-1), ii (0), ii (1), ii (2147483648), ii (-2147483648), ii (1099511627776), ii (4611686018427387904), ii (-4611686018427387904), ii (9223372036854775807), ii (-9223372036854775808)] [ii (0)] [(0, [ii (-1)]), (1, [ii (0)]), (2, [ii (1)]), (3, [ii (2147483648)]), (4, [ii (-2147483648)]), (5, [ii (1099511627776)]), (6, [ii (4611686018427387904)]), (7, [ii (-4611686018427387904)]), (8, [ii (9223372036854775807)]), (9, [ii (-9223372036854775808)])] qh qC qP rfl (by decide) rfl (.cons rfl (.cons rfl (.cons rfl (.cons rfl (.cons rfl (.cons rfl (.cons rfl (.cons rfl (.cons rfl (.cons rfl CellsAre.nil)))))))))) rfl ?_))))))))
 intro v1 hv1
 show XL _ _ _ _ _ _ _ (intsH 2 v1 ([-1, 0, 1, 2147483648, -2147483648, 1099511627776, 4611686018427387904, -4611686018427387904, 9223372036854775807, -9223372036854775808] : List Int) :: curH .i64 75 cb bsv bs.length :: L)
 have hl10 : ([-1, 0, 1, 2147483648, -2147483648, 1099511627776, 4611686018427387904, -4611686018427387904, 9223372036854775807, -9223372036854775808] : List Int).length = 10 := rfl
 refine qi (ptr cb 0) rfl (cX (qn (args := [ptr cb 0, ii (10)]) jO rfl (qZ [_] (l1Below_spec (n := 10) hbs (by omega) (hn := (by first | assumption | rfl | omega | simp)))) ?_))
 rintro _ _ _ _ ⟨⟨rfl, x1, rfl, hr1⟩, rfl⟩
 show XL _ _ _ _ _ _ _ (intsH 2 v1 ([-1, 0, 1, 2147483648, -2147483648, 1099511627776, 4611686018427387904, -4611686018427387904, 9223372036854775807, -9223372036854775808] : List Int) :: curH .i64 75 cb bsv bs.length :: L)
 refine cX (qD ((x1).toNat) qh qC rfl rfl (by omega) (intsH.slv [] rfl) (by omega) (Nat.mul_one _) (cX (qm jj rfl (intsH.rd [] rfl (by omega)) (qj (ii (([-1, 0, 1, 2147483648, -2147483648, 1099511627776, 4611686018427387904, -4611686018427387904, 9223372036854775807, -9223372036854775808]).getD ((x1).toNat) 0)) rfl (qf (qu (qt (L' := curH .i64 75 cb bsv bs.length :: L) [ii (([-1, 0, 1, 2147483648, -2147483648, 1099511627776, 4611686018427387904, -4611686018427387904, 9223372036854775807, -9223372036854775808]).getD ((x1).toNat) 0)] (ii (([-1, 0, 1, 2147483648, -2147483648, 1099511627776, 4611686018427387904, -4611686018427387904, 9223372036854775807, -9223372036854775808]).getD ((x1).toNat) 0)) (.tmp rfl .nil) rfl rF rF (sD (sC sR)) ?_)))))))
 exact ⟨⟨rfl, _, rfl⟩, rfl⟩

/- spec.l1DrawSig -/
theorem l1DrawSig_spec {F : FH} {L : List HP} {cb : Nat} {bsv : Value} {bs : List Int} (hbs : BytesF F bsv bs) (hbl : bs.length ≤ 4000000) :
    Does prog 83 [ptr cb 0] F (curH .i64 75 cb bsv bs.length :: L) (fun v F' L' => ∃ a : Value, ((.agg #[a] : Value) = v ∧ IsSl a) ∧ drawnH 2 a (fun ar => sigOk ar = true) :: curH .i64 75 cb bsv bs.length :: L = L') := by
 refine qL func83 rfl rfl rfl (qg (qd (cX (jm [sN] zeroValue26 rfl ?_))))
 intro b1
 refine qf (qg (qd (cX (qx (s := 1) [ii (2), ii (1), ii (0)] [ii (0)] [(0, [ii (2)]), (1, [ii (1)]), (2, [ii (0)])] qh qC qP rfl (by decide) rfl (.cons rfl (.cons rfl (.cons rfl CellsAre.nil))) rfl ?_))))
 intro v1 hv1
 refine cX (jk [v1] [sN] [(0, 1)] [(0, [v1])] jc zeroValue26 rfl (.cons rfl qy PlacesAre.nil) rfl (.cons (cells_one (jE hv1)) CellsAre.nil) (cX (jm [sN] zeroValue26 rfl ?_)))
 intro b2
 refine cX (qO [] _ [v1] qB rfl rfl rfl (qw (qJ (jE hv1)) qT) rfl rfl rfl (qf (qg (qg (qd (qi (ptr cb 0) rfl (cX (qn (args := [ptr cb 0, ii (4)]) call28 rfl (qZ [_, _, _] (l1Once_spec (n := 4) hbs (by omega) (hn := (by first | assumption | rfl | omega | simp)))) ?_))))))))
 rintro _ _ _ _ ⟨⟨rfl, x1, rfl⟩, rfl⟩
 show XL _ _ _ _ _ _ _ (cellsH b2 [v1] 26 :: slH 2 1 v1 3 [ii (2), ii (1), ii (0)] :: cellsH b1 [sN] 26 :: curH .i64 75 cb bsv bs.length :: L)
 refine qf ?_
 refine js (t := x1) rfl (fun h1 => ?_) (fun h1 => ?_)
 ·refine qg (qd (cX (qx (s := 1) [ii (0)] [ii (0)] [(0, [ii (0)])] qh qC qP rfl (by decide) rfl (.cons rfl CellsAre.nil) rfl ?_)))
  intro v2 hv2
  refine cX (jk [v2] [sN] [(0, 1)] [(0, [v2])] jc zeroValue26 rfl (.cons rfl qy PlacesAre.nil) rfl (.cons (cells_one (jE hv2)) CellsAre.nil) (cX (qO [_] _ [v2] qB rfl rfl rfl (qw (qJ (jE hv2)) qT) rfl rfl rfl (qf (qg (qd ?_))))))
  show XL _ _ _ _ _ _ _ (intsH 2 v2 ([0] : List Int) :: cellsH b2 [v2] 26 :: slH 2 1 v1 3 [ii (2), ii (1), ii (0)] :: cellsH b1 [sN] 26 :: curH .i64 75 cb bsv bs.length :: L)
  skip
  refine qi (ptr cb 0) rfl (cX (qn (args := [ptr cb 0, ii (4)]) jO rfl (qZ [_, _, _, _] (l1Below_spec (n := 4) hbs (by omega) (hn := (by first | assumption | rfl | omega | simp)))) ?_))
  rintro _ _ _ _ ⟨⟨rfl, x2, rfl, hr1⟩, rfl⟩
  show XL _ _ _ _ _ _ _ (intsH 2 v2 ([0] : List Int) :: cellsH b2 [v2] 26 :: slH 2 1 v1 3 [ii (2), ii (1), ii (0)] :: cellsH b1 [sN] 26 :: curH .i64 75 cb bsv bs.length :: L)
  refine qj (ii (x2)) rfl (qf (qQ (jr (α := Nat × Value × List Int) (fun xQ => [(0, ptr cb 0), (2, ptr b1 0), (3, ptr b2 0), (4, ii (((xQ.1 : Nat) : Int)))]) (fun xQ => intsH 2 xQ.2.1 xQ.2.2 :: cellsH b2 [xQ.2.1] 26 :: slH 2 1 v1 3 [ii (2), ii (1), ii (0)] :: cellsH b1 [sN] 26 :: curH .i64 75 cb bsv bs.length :: L) (fun xQ F' => F = F' ∧ (IsSl xQ.2.1) ∧ (sigOk xQ.2.2 = true) ∧ (xQ.2.2.length + xQ.1 ≤ 4)) (fun xQ => xQ.1) (x2.toNat, v2, [0]) ⟨rfl, rfl, rfl, (vI (by omega)), ⟨⟩⟩ (sC (sC (sC (sC (sC sR))))) ⟨rfl, ((jE hv2)), ((show sigOk [0] = true from by decide)), (by (try simp only [List.length_cons, List.length_nil]); omega)⟩ ?_)))
  rintro ⟨n, ov, os⟩ rE _ _ ⟨rfl, hov, hso, hon⟩
  show X _ _ _ _ (envs [(0, ptr cb 0), (2, ptr b1 0), (3, ptr b2 0), (4, ii ((n : Int)))] rE) _ (intsH 2 ov os :: cellsH b2 [ov] 26 :: slH 2 1 v1 3 [ii (2), ii (1), ii (0)] :: cellsH b1 [sN] 26 :: curH .i64 75 cb bsv bs.length :: L)
  dsimp only at hov hso hon
  refine qg (qg (qd (qi (ii ((n : Int))) rfl (cX (jF rfl rfl (qf ?_))))))
  refine qH (p := (n : Int) > 0) rfl (fun h2 => ?_) (fun h2 => ?_)
  ·refine qz (qg (qQ ?_))
   refine jG [intsH 2 ov os, cellsH b2 [ov] 26, slH 2 1 v1 3 [ii (2), ii (1), ii (0)], cellsH b1 [sN] 26, curH .i64 75 cb bsv bs.length] L 5 [[], [], [], [], [3]] [[], [0], [], [2], [3]] [] (phiG [pe (ptr b2 0), pe ov, pe (ptr cb 0), fun FF us v => (ii (((intAt v))) : Value) = v ∧ (0 ≤ ((intAt v)) ∧ (((intAt v)) < 3 ∨ ((intAt v)) = 0)), fun FF us v => ∃ b, v = .slice (some ⟨b, 0, none⟩) 1 1]) (ownL [o0, o0, o0, o0, fun us v => [slH 2 1 v 1 [ii (((intAt (us.getD 0 undef))))]]]) mixed rfl rfl (by kernel_rfl) (by kernel_rfl) (MonoG.get (m1 (m1 (m1 (mC (fun le h => ⟨h.1, h.2⟩) (mC (fun le h => h) MonoG.nil)))))) ?_ ?_
   ·refine gD (fun W Fs R lF z9 => ?_) ?_
    ·refine qk (qq (0) jc rfl qy (by decide) rfl rfl ?_)
     exact ⟨rfl, rfl⟩
    refine gD (fun W Fs R lF z9 => ?_) ?_
    ·replace hbs := hbs.mono lF
     rw [zA 0 (z9 0 rfl)]
     refine qk (qm qX rfl (Rd.own [_] rfl rfl) ?_)
     exact ⟨rfl, rfl⟩
    refine gD (fun W Fs R lF z9 => ?_) ?_
    ·refine qk (qo (ptr cb 0) rfl ?_)
     exact ⟨rfl, rfl⟩
    refine gD (fun W Fs R lF z9 => ?_) ?_
    ·replace hbs := hbs.mono lF
     rw [zA 2 (z9 2 rfl)]
     refine qk (qn (args := [ptr cb 0, ii (3)]) jO rfl (qZ [_, _, _, _] (l1Below_spec (n := 3) hbs (by omega) (hn := (by first | assumption | rfl | omega | simp)))) ?_)
     rintro _ _ _ _ ⟨⟨rfl, x4, rfl, hr3⟩, rfl⟩
     exact ⟨⟨rfl, hr3⟩, rfl⟩
    refine gD (fun W Fs R lF z9 => ?_) ?_
    ·obtain ⟨e3, f3_1hx⟩ := z9 3 rfl
     rw [eS (l := [(3, (ii (((intAt (W 3))))))]) ⟨(e3).symm, ⟨⟩⟩]
     refine qk (qx (s := 1) [ii (((intAt (W 3))))] [ii (0)] [(0, [ii (((intAt (W 3))))])] qh qC qP rfl (by decide) rfl (.cons rfl CellsAre.nil) rfl ?_)
     intro v4 hv4
     exact ⟨hv4, rfl⟩
    exact stepsG.nil
   intro W F5 le5 hphi
   obtain ⟨e3, f3_1hx⟩ := hphi 3 (by decide)
   have f4 : ∃ b, (W 4) = .slice (some ⟨b, 0, none⟩) 1 1 := hphi 4 (by decide)
   generalize hu1 : (intAt (W 3)) = u1 at e3 f3_1hx f4
   generalize huu4 : W 4 = u2 at e3 f3_1hx f4
   rw [eS (l := [(1, _), (3, (ii ((u1)))), (4, u2)]) ⟨(hphi 1 (by decide)), (e3).symm, huu4, ⟨⟩⟩]
   show XL _ _ _ _ _ _ _ (slH 2 1 u2 1 [ii ((u1))] :: intsH 2 ov os :: cellsH b2 [ov] 26 :: slH 2 1 v1 3 [ii (2), ii (1), ii (0)] :: cellsH b1 [sN] 26 :: curH .i64 75 cb bsv bs.length :: L)
   refine cX (XOp.append1 (u := (u1)) [_] _ qh typeInfo2 rfl rfl rfl rfl rfl rfl (SlV.own [] rfl) (Rd.sl [] rfl rfl) (by (try simp only [List.length_append, List.length_nil, List.length_cons, List.length_singleton, List.length_take, List.length_drop]); omega) ?_)
   intro v5 hs1 hn1
   refine cX (qq (0) jc rfl qy (by decide) rfl rfl (cX (jL [_, _] _ [v5] qy rfl rfl (qJ hs1) rfl rfl rfl (qf (qd (qi (ii ((n : Int))) rfl (cX (jl (((n : Int)) - 1) rfl rfl (by omega) (by omega) (qj (ii (((n : Int)) - 1)) rfl (qf ?_))))))))))
   exact ⟨(n - 1, v5, os ++ [(u1)]), _, FLe.refl _, le5, ⟨rfl, rfl, rfl, (vI (by (try dsimp only); omega)), ⟨⟩⟩, (sD (sC (sC (sC (sC (sC sR)))))), ⟨rfl, (hs1), (sigOk_snoc hso (by omega) (by omega)), (by (try dsimp only); rw [List.length_append]; simp only [List.length_singleton]; omega)⟩, (by (try dsimp only); omega)⟩
  refine jn (qA (qA (qV (qg (qd (cX (qs [ov] qW qB rfl rfl (Rd.ownN [_] rfl rfl) (cX (qO [_, _, _] _ [ov] qB rfl rfl rfl (qw (qJ hov) qT) rfl rfl rfl (qf (qu (qt (L' := drawnH 2 ov (fun ar => sigOk ar = true) :: curH .i64 75 cb bsv bs.length :: L) [.agg #[ov]] (.agg #[ov]) (.cell rfl (jt [ov] qW qB rfl (Rd.ownN [_, _, _] rfl rfl)) .nil) rfl rF rF (jN (sC (sD (sD (sD (sC sR))))) (yc (drawnH.of (t := os) hso) sR)) ?_))))))))))))
  exact ⟨_, ⟨rfl, hov⟩, rfl⟩
 refine qz (qg (qd (cX (qs [v1] qW qB rfl rfl (Rd.ownN [] rfl rfl) (cX (qO [_, _] _ [v1] qB rfl rfl rfl (qw (qJ (jE hv1)) qT) rfl rfl rfl (qf (qu (qt (L' := drawnH 2 v1 (fun ar => sigOk ar = true) :: curH .i64 75 cb bsv bs.length :: L) [.agg #[v1]] (.agg #[v1]) (.cell rfl (jt [v1] qW qB rfl (Rd.ownN [_, _] rfl rfl)) .nil) rfl rF rF (jN (sD (sC (sD (sC sR)))) (yc (drawnH.of (t := [2, 1, 0]) ((by decide))) sR)) ?_)))))))))
 exact ⟨_, ⟨rfl, (jE hv1)⟩, rfl⟩

/- spec.l1DrawSigAny -/
theorem l1DrawSigAny_spec {F : FH} {L : List HP} {cb : Nat} {bsv : Value} {bs : List Int} (hbs : BytesF F bsv bs) (hbl : bs.length ≤ 4000000) :
    Does prog 52 [ptr cb 0] F (curH .i64 75 cb bsv bs.length :: L) (fun v F' L' => (∃ (a : Value), ∃ (ar : List Int), (.agg #[a] : Value) = v ∧ (IntsF F' a ar) ∧ (ar.length ≤ 20)) ∧ curH .i64 75 cb bsv bs.length :: L = L') := by
 refine qL func52 rfl rfl rfl (qg (qd (cX (jm [sN] zeroValue26 rfl ?_))))
 intro b1
 refine qf (qg (qd (qi (ptr cb 0) rfl (cX (qn (args := [ptr cb 0]) call83 rfl (Does.atO [_] (l1DrawSig_spec hbs (by omega))) ?_)))))
 rintro _ F1 _ le1 ⟨x2, ⟨rfl, hsl1⟩, rfl⟩
 replace hbs := hbs.mono le1
 show XL _ _ _ _ _ _ _ (drawnH 2 x2 (fun ar => sigOk ar = true) :: cellsH b1 [sN] 26 :: curH .i64 75 cb bsv bs.length :: L)
 refine XL.undraw [] rfl (fun t1 hq9 => ?_)
 have q1 := hq9
 show XL _ _ _ _ _ _ _ (intsH 2 x2 t1 :: cellsH b1 [sN] 26 :: curH .i64 75 cb bsv bs.length :: L)
 have hsl9 := sigOk_spec q1
 refine cX (jm [sN] zeroValue26 rfl ?_)
 intro b2
 refine cX (qO [] _ [x2] qB rfl rfl rfl (qw (qJ hsl1) qT) rfl rfl rfl (qf (qg (qg (qd (qi (ptr cb 0) rfl (cX (qn (args := [ptr cb 0, ii (15)]) call28 rfl (qZ [_, _, _] (l1Once_spec (n := 15) hbs (by omega) (hn := (by first | assumption | rfl | omega | simp)))) ?_))))))))
 rintro _ _ _ _ ⟨⟨rfl, x3, rfl⟩, rfl⟩
 show XL _ _ _ _ _ _ _ (cellsH b2 [x2] 26 :: intsH 2 x2 t1 :: cellsH b1 [sN] 26 :: curH .i64 75 cb bsv bs.length :: L)
 refine qf ?_
 refine js (t := x3) rfl (fun h1 => ?_) (fun h1 => ?_)
 ·refine qg (qd (qi (ptr cb 0) rfl (cX (qn (args := [ptr cb 0, ii (3)]) jO rfl (qZ [_, _, _] (l1Below_spec (n := 3) hbs (by omega) (hn := (by first | assumption | rfl | omega | simp)))) ?_))))
  rintro _ _ _ _ ⟨⟨rfl, x4, rfl, hr1⟩, rfl⟩
  show XL _ _ _ _ _ _ _ (cellsH b2 [x2] 26 :: intsH 2 x2 t1 :: cellsH b1 [sN] 26 :: curH .i64 75 cb bsv bs.length :: L)
  refine qf (qQ (qg (qd (cX (jD rfl rfl (qj (.bool (decide ((x4 : Int) = 0))) rfl (qf ?_)))))))
  refine qH (p := (x4 : Int) = 0) rfl (fun h2 => ?_) (fun h2 => ?_)
  ·refine jG [cellsH b2 [x2] 26, intsH 2 x2 t1, cellsH b1 [sN] 26, curH .i64 75 cb bsv bs.length] L 5 [[], [], [], [], [3]] [[], [0], [], [2], [3]] [] (phiG [pe (ptr b2 0), pe x2, pe (ptr cb 0), fun FF us v => (ii (((intAt v))) : Value) = v ∧ ((-1) ≤ ((intAt v)) ∧ (((intAt v)) ≤ 4 ∨ ((intAt v)) = (-1))), fun FF us v => ∃ b, v = .slice (some ⟨b, 0, none⟩) 1 1]) (ownL [o0, o0, o0, o0, fun us v => [slH 2 1 v 1 [ii (((intAt (us.getD 0 undef))))]]]) mixed rfl rfl (by kernel_rfl) (by kernel_rfl) (MonoG.get (m1 (m1 (m1 (mC (fun le h => ⟨h.1, h.2⟩) (mC (fun le h => h) MonoG.nil)))))) ?_ ?_
   ·refine gD (fun W Fs R lF z9 => ?_) ?_
    ·refine qk (qq (0) jc rfl qy (by decide) rfl rfl ?_)
     exact ⟨rfl, rfl⟩
    refine gD (fun W Fs R lF z9 => ?_) ?_
    ·replace hbs := hbs.mono lF
     rw [zA 0 (z9 0 rfl)]
     refine qk (qm qX rfl (Rd.own [] rfl rfl) ?_)
     exact ⟨rfl, rfl⟩
    refine gD (fun W Fs R lF z9 => ?_) ?_
    ·refine qk (qo (ptr cb 0) rfl ?_)
     exact ⟨rfl, rfl⟩
    refine gD (fun W Fs R lF z9 => ?_) ?_
    ·replace hbs := hbs.mono lF
     rw [zA 2 (z9 2 rfl)]
     refine qk (qn (args := [ptr cb 0, ii (-1), ii (4)]) call43 rfl (qZ [_, _, _] (l1From_spec (lo := -1) (hi := 4) hbs (by omega) (hlo := (by first | assumption | rfl | omega | simp)))) ?_)
     rintro _ _ _ _ ⟨⟨rfl, x6, rfl, hr3⟩, rfl⟩
     exact ⟨⟨rfl, hr3⟩, rfl⟩
    refine gD (fun W Fs R lF z9 => ?_) ?_
    ·obtain ⟨e3, f3_1hx⟩ := z9 3 rfl
     replace hbs := hbs.mono lF
     rw [eS (l := [(3, (ii (((intAt (W 3))))))]) ⟨(e3).symm, ⟨⟩⟩]
     refine qk (qx (s := 1) [ii (((intAt (W 3))))] [ii (0)] [(0, [ii (((intAt (W 3))))])] qh qC qP rfl (by decide) rfl (.cons rfl CellsAre.nil) rfl ?_)
     intro v2 hv2
     exact ⟨hv2, rfl⟩
    exact stepsG.nil
   intro W F6 le6 hphi
   obtain ⟨e3, f3_1hx⟩ := hphi 3 (by decide)
   have f4 : ∃ b, (W 4) = .slice (some ⟨b, 0, none⟩) 1 1 := hphi 4 (by decide)
   generalize hu1 : (intAt (W 3)) = u1 at e3 f3_1hx f4
   generalize huu4 : W 4 = u2 at e3 f3_1hx f4
   rw [eS (l := [(1, _), (3, (ii ((u1)))), (4, u2)]) ⟨(hphi 1 (by decide)), (e3).symm, huu4, ⟨⟩⟩]
   replace hbs := hbs.mono le6
   show XL _ _ _ _ _ _ _ (slH 2 1 u2 1 [ii ((u1))] :: cellsH b2 [x2] 26 :: intsH 2 x2 t1 :: cellsH b1 [sN] 26 :: curH .i64 75 cb bsv bs.length :: L)
   refine cX (XOp.append1 (u := (u1)) [_, _] _ qh typeInfo2 rfl rfl rfl rfl rfl rfl (SlV.own [] rfl) (Rd.sl [] rfl rfl) (by (try simp only [List.length_append, List.length_nil, List.length_cons, List.length_singleton, List.length_take, List.length_drop]); omega) ?_)
   intro v3 hs1 hn1
   refine cX (qq (0) jc rfl qy (by decide) rfl rfl (cX (jL [_] _ [v3] qy rfl rfl (qJ hs1) rfl rfl rfl (qf (qg (qd (cX (qs [v3] qW qB rfl rfl (Rd.ownN [_] rfl rfl) (cX (qO [_, _, _] _ [v3] qB rfl rfl rfl (qw (qJ hs1) qT) rfl rfl rfl (qf (ji [_, _] _ _ rfl (fun F7 le7 hz1 => ?_)))))))))))))
   replace hbs := hbs.mono le7
   have hf1 : IntsF F7 v3 (t1 ++ [(u1)]) := intsH.fz (xs := t1 ++ [(u1)]) hz1.fz
   refine qu (qt (L' := curH .i64 75 cb bsv bs.length :: L) [.agg #[v3]] (.agg #[v3]) (.cell rfl (jt [v3] qW qB rfl (Rd.ownN [_, _] rfl rfl)) .nil) rfl (qc (qc le1 le6) le7) rF (sD (sD (sD (sC sR)))) ?_)
   exact ⟨⟨_, _, rfl, hf1, by (have h9 := sigOk_spec q1); (try simp only [List.length_append, List.length_cons, List.length_nil, List.length_replicate]); omega⟩, rfl⟩
  refine qg (qd (cX (jD rfl rfl (qj (.bool (decide ((x4 : Int) = 1))) rfl (qf ?_)))))
  refine qH (p := (x4 : Int) = 1) rfl (fun h3 => ?_) (fun h3 => ?_)
  ·refine qd (cX (qx (s := 1) [] [ii (0)] [] qh qC qP rfl (by decide) rfl CellsAre.nil rfl ?_))
   intro v4 hv3
   refine cX (qq (0) jc rfl qy (by decide) rfl rfl (cX (jL [_] _ [v4] qy rfl rfl (qJ (jE hv3)) rfl rfl rfl (qf (qg (qd (cX (qs [v4] qW qB rfl rfl (Rd.ownN [_] rfl rfl) (cX (qO [_, _, _] _ [v4] qB rfl rfl rfl (qw (qJ (jE hv3)) qT) rfl rfl rfl (qf ?_)))))))))))
   show X _ _ _ _ _ _ (intsH 2 v4 ([] : List Int) :: cellsH b2 [v4] 26 :: intsH 2 x2 t1 :: cellsH b1 [v4] 26 :: curH .i64 75 cb bsv bs.length :: L)
   refine ji [] _ _ rfl (fun F8 le8 hz2 => ?_)
   replace hbs := hbs.mono le8
   have hf2 : IntsF F8 v4 ([]) := intsH.fz (xs := []) hz2.fz
   refine qu (qt (L' := curH .i64 75 cb bsv bs.length :: L) [.agg #[v4]] (.agg #[v4]) (.cell rfl (jt [v4] qW qB rfl (Rd.ownN [_, _] rfl rfl)) .nil) rfl (qc le1 le8) rF (sD (sD (sD (sC sR)))) ?_)
   exact ⟨⟨_, _, rfl, hf2, by (have h9 := sigOk_spec q1); (try simp only [List.length_append, List.length_cons, List.length_nil, List.length_replicate]); omega⟩, rfl⟩
  refine qg (qd (cX (jD rfl rfl (qj (.bool (decide ((x4 : Int) = 2))) rfl (qf ?_)))))
  refine qH (p := (x4 : Int) = 2) rfl (fun h4 => ?_) (fun h4 => ?_)
  ·refine qd (qi (ptr cb 0) rfl (cX (qn (args := [ptr cb 0, ii (2)]) jO rfl (qZ [_, _, _] (l1Below_spec (n := 2) hbs (by omega) (hn := (by first | assumption | rfl | omega | simp)))) ?_)))
   rintro _ _ _ _ ⟨⟨rfl, x7, rfl, hr4⟩, rfl⟩
   show XL _ _ _ _ _ _ _ (cellsH b2 [x2] 26 :: intsH 2 x2 t1 :: cellsH b1 [sN] 26 :: curH .i64 75 cb bsv bs.length :: L)
   refine cX (qS (((8 + (x7).toNat : Nat) : Int)) rfl rfl (by omega) (by omega) (cX (XOp.makeSlice (n := 8 + (x7).toNat) (bytes := 8) [ii (0)] qh qC typeInfo2 rfl qP rfl rfl rfl rfl (by omega) (by omega) ?_)))
   intro v5 hv4
   rw [intsH_zeros]
   refine cX (qq (0) jc rfl qy (by decide) rfl rfl (cX (jL [_] _ [v5] qy rfl rfl (qJ (jE hv4)) rfl rfl rfl (qf (qg (qd (cX (qs [v5] qW qB rfl rfl (Rd.ownN [_] rfl rfl) (cX (qO [_, _, _] _ [v5] qB rfl rfl rfl (qw (qJ (jE hv4)) qT) rfl rfl rfl (qf (ji [] _ _ rfl (fun F10 le10 hz3 => ?_)))))))))))))
   have hf3 : IntsF F10 v5 ((List.replicate (8 + (x7).toNat) 0)) := intsH.fz (xs := (List.replicate (8 + (x7).toNat) 0)) hz3.fz
   refine qu (qt (L' := curH .i64 75 cb bsv bs.length :: L) [.agg #[v5]] (.agg #[v5]) (.cell rfl (jt [v5] qW qB rfl (Rd.ownN [_, _] rfl rfl)) .nil) rfl (qc le1 le10) rF (sD (sD (sD (sC sR)))) ?_)
   exact ⟨⟨_, _, rfl, hf3, by (have h9 := sigOk_spec q1); (try simp only [List.length_append, List.length_cons, List.length_nil, List.length_replicate]); omega⟩, rfl⟩
  refine qz (qg (qd (cX (qs [x2] qW qB rfl rfl (Rd.ownN [] rfl rfl) (cX (qO [_, _] _ [x2] qB rfl rfl rfl (qw (qJ hsl1) qT) rfl rfl rfl (qf (ji [_] _ _ rfl (fun F11 le11 hz4 => ?_)))))))))
  have hf4 : IntsF F11 x2 t1 := intsH.fz (xs := t1) hz4.fz
  refine qu (qt (L' := curH .i64 75 cb bsv bs.length :: L) [.agg #[x2]] (.agg #[x2]) (.cell rfl (jt [x2] qW qB rfl (Rd.ownN [_] rfl rfl)) .nil) rfl (qc le1 le11) rF (sD (sD (sC sR))) ?_)
  exact ⟨⟨_, _, rfl, hf4, by (have h9 := sigOk_spec q1); (try simp only [List.length_append, List.length_cons, List.length_nil, List.length_replicate]); omega⟩, rfl⟩
 refine qz (qg (qd (cX (qs [x2] qW qB rfl rfl (Rd.ownN [] rfl rfl) (cX (qO [_, _] _ [x2] qB rfl rfl rfl (qw (qJ hsl1) qT) rfl rfl rfl (qf (ji [_] _ _ rfl (fun F12 le12 hz5 => ?_)))))))))
 have hf5 : IntsF F12 x2 t1 := intsH.fz (xs := t1) hz5.fz
 refine qu (qt (L' := curH .i64 75 cb bsv bs.length :: L) [.agg #[x2]] (.agg #[x2]) (.cell rfl (jt [x2] qW qB rfl (Rd.ownN [_] rfl rfl)) .nil) rfl (qc le1 le12) rF (sD (sD (sC sR))) ?_)
 exact ⟨⟨_, _, rfl, hf5, by (have h9 := sigOk_spec q1); (try simp only [List.length_append, List.length_cons, List.length_nil, List.length_replicate]); omega⟩, rfl⟩

/- spec.l1DrawTerm -/
theorem l1DrawTerm_spec_step {dp : Nat} (ih : ∀ m : Nat, m < dp → ∀ {F : FH} {L : List HP} {cb : Nat} {bsv : Value} {bs : List Int} (hbs : BytesF F bsv bs) (hbl : bs.length ≤ 4000000) {arv : Value} {ar : List Int} (har : IntsF F arv ar) {vs : Int} (hso : sigOk ar = true) (hdp : m ≤ 5) (hvs : 0 ≤ vs ∧ vs ≤ 24), Does prog 75 [ptr cb 0, .agg #[arv], ii ((m : Int)), ii (vs)] F (curH .i64 75 cb bsv bs.length :: L) (fun v F' L' => ∃ a : Value, ((a : Value) = v ∧ IsSl a) ∧ drawnH 2 a (fun t => goodT ar t ∧ 1 ≤ t.length ∧ t.length ≤ szT m) :: curH .i64 75 cb bsv bs.length :: L = L')) {F : FH} {L : List HP} {cb : Nat} {bsv : Value} {bs : List Int} (hbs : BytesF F bsv bs) (hbl : bs.length ≤ 4000000) {arv : Value} {ar : List Int} (har : IntsF F arv ar) {vs : Int} (hso : sigOk ar = true) (hdp : dp ≤ 5) (hvs : 0 ≤ vs ∧ vs ≤ 24) :
    Does prog 75 [ptr cb 0, .agg #[arv], ii (((dp : Nat) : Int)), ii (vs)] F (curH .i64 75 cb bsv bs.length :: L) (fun v F' L' => ∃ a : Value, ((a : Value) = v ∧ IsSl a) ∧ drawnH 2 a (fun t => goodT ar t ∧ 1 ≤ t.length ∧ t.length ≤ szT dp) :: curH .i64 75 cb bsv bs.length :: L = L') := by
 refine qL func75 rfl rfl rfl ?_
 have hz9 := szT_le (d := dp - 1) (e := 4) (by omega)
 have hz8 : szT 4 = 121 := rfl
 have hz7 := szT_pos (dp - 1)
 have hsl := sigOk_spec hso
 refine qg (qd (cX (je [arv] rfl rfl ?_)))
 intro b1
 refine qj (sN) rfl (qf (qg (qg (qd (qi (ii (((dp : Nat) : Int))) rfl (cX (XOp.leq rfl rfl (qi (.bool (decide ((((dp : Nat) : Int) : Int) ≤ 1))) rfl ?_))))))))
 by_cases h1 : (((dp : Nat) : Int) : Int) ≤ 1
 ·refine qp (t := 15) rfl (vT h1) (qp (t := 15) rfl (vT h1) (cX (qN (.bool (true)) (vT h1) rfl (qf (jH rfl (qg (qg (qd (qi (ii (vs)) rfl (cX (jF rfl rfl (qi (.bool (decide ((vs : Int) > 0))) rfl ?_))))))))))))
  by_cases h2 : (vs : Int) > 0
  ·refine qr (t := 21) rfl (vT h2) (qo (ptr cb 0) rfl (qr (t := 21) rfl (vT h2) (qn (args := [ptr cb 0, ii (2)]) call28 rfl (qZ [_] (l1Once_spec (n := 2) hbs (by omega) (hn := (by first | assumption | rfl | omega | simp)))) ?_)))
   rintro _ _ _ _ ⟨⟨rfl, x1, rfl⟩, rfl⟩
   show XL _ _ _ _ _ _ _ (cellsH b1 [arv] 26 :: curH .i64 75 cb bsv bs.length :: L)
   refine cX (qN (.bool (x1)) (vT h2) rfl (qf ?_))
   refine js (t := x1) rfl (fun h3 => ?_) (fun h3 => ?_)
   ·refine qg (qd (qi (ptr cb 0) rfl (qi (ii (vs)) rfl (cX (qn (args := [ptr cb 0, ii (vs)]) jO rfl (qZ [_] (l1Below_spec (n := vs) hbs (by omega) (hn := (by first | assumption | rfl | omega | simp)))) ?_)))))
    rintro _ _ _ _ ⟨⟨rfl, x2, rfl, hr1⟩, rfl⟩
    show XL _ _ _ _ _ _ _ (cellsH b1 [arv] 26 :: curH .i64 75 cb bsv bs.length :: L)
    refine cX (jl ((-1) - x2) rfl rfl (by omega) (by omega) (cX (qx (s := 1) [ii ((-1) - x2)] [ii (0)] [(0, [ii ((-1) - x2)])] qh qC qP rfl (by decide) rfl (.cons rfl CellsAre.nil) rfl ?_)))
    intro v1 hv1
    refine qj (v1) rfl (qf (qu (ql (ql (qt (L' := drawnH 2 v1 (fun t => goodT ar t ∧ 1 ≤ t.length ∧ t.length ≤ szT dp) :: curH .i64 75 cb bsv bs.length :: L) [v1] (v1) (.tmp rfl .nil) rfl rF rF (jN (sC (sD (sC sR))) (yc (drawnH.of (t := [(-1) - x2]) (⟨goodT.var (by omega) (by omega), Nat.le_refl _, szT_pos dp⟩)) sR)) ?_)))))
    exact ⟨_, ⟨rfl, (jE hv1)⟩, rfl⟩
   refine qz (qg (qg (qd (cX (qq (0) jc rfl qy (by decide) rfl rfl (cX (qm qX rfl (Rd.own [] rfl rfl) (cX (qE qh rfl har.slv (cX (jl (((((ar).length) - 1 : Nat) : Int)) rfl rfl (by omega) (by omega) (qj (ii (((((ar).length) - 1 : Nat) : Int))) rfl (qf (qQ (jr (α := Nat) (fun j => [(5, ptr b1 0), (9, ii ((j : Int) - 1))]) (fun j => cellsH b1 [arv] 26 :: curH .i64 75 cb bsv bs.length :: L) (fun j F' => F = F' ∧ (j ≤ ar.length)) (fun j => j) ar.length ⟨rfl, (vI (by omega)), ⟨⟩⟩ (sC (sC sR)) ⟨rfl, (Nat.le_refl _)⟩ ?_)))))))))))))))
   rintro j rE _ _ ⟨rfl, hj⟩
   show X _ _ _ _ (envs [(5, ptr b1 0), (9, ii ((j : Int) - 1))] rE) _ (cellsH b1 [arv] 26 :: curH .i64 75 cb bsv bs.length :: L)
   refine qg (qg (qd (qi (ii ((j : Int) - 1)) rfl (cX (jW rfl rfl (qf ?_))))))
   refine qH (p := ((j : Int) - 1 : Int) ≥ 0) rfl (fun h4 => ?_) (fun h4 => ?_)
   ·refine qz (qg (qQ (qg (qd (cX (qq (0) jc rfl qy (by decide) rfl rfl (cX (qm qX rfl (Rd.own [] rfl rfl) (qi (ii ((j : Int) - 1)) rfl (cX (qD (((j : Int) - 1).toNat) qh qC rfl rfl (by omega) har.slv (by omega) (Nat.mul_one _) (cX (qm jj rfl (har.rd (by omega)) (cX (jD rfl rfl (qf ?_))))))))))))))))
    refine qH (p := (ar.getD (((j : Int) - 1).toNat) 0 : Int) = 0) rfl (fun h5 => ?_) (fun h5 => ?_)
    ·refine qg (qd (qi (ii ((j : Int) - 1)) rfl (cX (qx (s := 1) [ii ((j : Int) - 1)] [ii (0)] [(0, [ii ((j : Int) - 1)])] qh qC qP rfl (by decide) rfl (.cons rfl CellsAre.nil) rfl ?_))))
     intro v2 hv2
     refine qj (v2) rfl (qf (qu (qI (ql (ql (qI (ql (ql (qt (L' := drawnH 2 v2 (fun t => goodT ar t ∧ 1 ≤ t.length ∧ t.length ≤ szT dp) :: curH .i64 75 cb bsv bs.length :: L) [v2] (v2) (.tmp rfl .nil) rfl rF rF (jN (sC (sD (sC sR))) (yc (drawnH.of (t := [(j : Int) - 1]) (⟨goodT.one (by omega) (by omega) (by rw [arity, if_neg (by omega)]; omega), Nat.le_refl _, szT_pos dp⟩)) sR)) ?_)))))))))
     exact ⟨_, ⟨rfl, (jE hv2)⟩, rfl⟩
    refine qz (qd (qi (ii ((j : Int) - 1)) rfl (cX (jl (((j : Int) - 1) - 1) rfl rfl (by omega) (by omega) (qj (ii (((j : Int) - 1) - 1)) rfl (qf ?_))))))
    exact ⟨j - 1, _, FLe.refl _, rF, ⟨rfl, (vI (by (try dsimp only); omega)), ⟨⟩⟩, (sC (sC sR)), ⟨rfl, (by (try dsimp only) <;> omega)⟩, (by (try dsimp only); omega)⟩
   refine jn (qA (qA (qV (qg (qd (cX (qx (s := 1) [ii (-1)] [ii (0)] [(0, [ii (-1)])] qh qC qP rfl (by decide) rfl (.cons rfl CellsAre.nil) rfl ?_)))))))
   intro v3 hv3
   refine qj (v3) rfl (qf (qu (ql (qt (L' := drawnH 2 v3 (fun t => goodT ar t ∧ 1 ≤ t.length ∧ t.length ≤ szT dp) :: curH .i64 75 cb bsv bs.length :: L) [v3] (v3) (.tmp rfl .nil) rfl rF rF (jN (sC (sD (sC sR))) (yc (drawnH.of (t := [-1]) (⟨goodT.var (by omega) (by omega), Nat.le_refl _, szT_pos dp⟩)) sR)) ?_))))
   exact ⟨_, ⟨rfl, (jE hv3)⟩, rfl⟩
  refine qp (t := 21) rfl (vF h2) (qp (t := 21) rfl (vF h2) (cX (qM (.bool (false)) (vF h2) rfl (qf (jS rfl (qz (qg (qg (qd (cX (qq (0) jc rfl qy (by decide) rfl rfl (cX (qm qX rfl (Rd.own [] rfl rfl) (cX (qE qh rfl har.slv (cX (jl (((((ar).length) - 1 : Nat) : Int)) rfl rfl (by omega) (by omega) ?_)))))))))))))))))
  refine qj (ii (((((ar).length) - 1 : Nat) : Int))) rfl (qf (qQ (jr (α := Nat) (fun j => [(5, ptr b1 0), (9, ii ((j : Int) - 1))]) (fun j => cellsH b1 [arv] 26 :: curH .i64 75 cb bsv bs.length :: L) (fun j F' => F = F' ∧ (j ≤ ar.length)) (fun j => j) ar.length ⟨rfl, (vI (by omega)), ⟨⟩⟩ (sC (sC sR)) ⟨rfl, (Nat.le_refl _)⟩ ?_)))
  rintro j rE _ _ ⟨rfl, hj⟩
  show X _ _ _ _ (envs [(5, ptr b1 0), (9, ii ((j : Int) - 1))] rE) _ (cellsH b1 [arv] 26 :: curH .i64 75 cb bsv bs.length :: L)
  refine qg (qg (qd (qi (ii ((j : Int) - 1)) rfl (cX (jW rfl rfl (qf ?_))))))
  refine qH (p := ((j : Int) - 1 : Int) ≥ 0) rfl (fun h6 => ?_) (fun h6 => ?_)
  ·refine qz (qg (qQ (qg (qd (cX (qq (0) jc rfl qy (by decide) rfl rfl (cX (qm qX rfl (Rd.own [] rfl rfl) (qi (ii ((j : Int) - 1)) rfl (cX (qD (((j : Int) - 1).toNat) qh qC rfl rfl (by omega) har.slv (by omega) (Nat.mul_one _) (cX (qm jj rfl (har.rd (by omega)) (cX (jD rfl rfl (qf ?_))))))))))))))))
   refine qH (p := (ar.getD (((j : Int) - 1).toNat) 0 : Int) = 0) rfl (fun h7 => ?_) (fun h7 => ?_)
   ·refine qg (qd (qi (ii ((j : Int) - 1)) rfl (cX (qx (s := 1) [ii ((j : Int) - 1)] [ii (0)] [(0, [ii ((j : Int) - 1)])] qh qC qP rfl (by decide) rfl (.cons rfl CellsAre.nil) rfl ?_))))
    intro v4 hv4
    refine qj (v4) rfl (qf (qu (qI (ql (ql (qI (ql (ql (qt (L' := drawnH 2 v4 (fun t => goodT ar t ∧ 1 ≤ t.length ∧ t.length ≤ szT dp) :: curH .i64 75 cb bsv bs.length :: L) [v4] (v4) (.tmp rfl .nil) rfl rF rF (jN (sC (sD (sC sR))) (yc (drawnH.of (t := [(j : Int) - 1]) (⟨goodT.one (by omega) (by omega) (by rw [arity, if_neg (by omega)]; omega), Nat.le_refl _, szT_pos dp⟩)) sR)) ?_)))))))))
    exact ⟨_, ⟨rfl, (jE hv4)⟩, rfl⟩
   refine qz (qd (qi (ii ((j : Int) - 1)) rfl (cX (jl (((j : Int) - 1) - 1) rfl rfl (by omega) (by omega) (qj (ii (((j : Int) - 1) - 1)) rfl (qf ?_))))))
   exact ⟨j - 1, _, FLe.refl _, rF, ⟨rfl, (vI (by (try dsimp only); omega)), ⟨⟩⟩, (sC (sC sR)), ⟨rfl, (by (try dsimp only) <;> omega)⟩, (by (try dsimp only); omega)⟩
  refine jn (qA (qA (qV (qg (qd (cX (qx (s := 1) [ii (-1)] [ii (0)] [(0, [ii (-1)])] qh qC qP rfl (by decide) rfl (.cons rfl CellsAre.nil) rfl ?_)))))))
  intro v5 hv5
  refine qj (v5) rfl (qf (qu (ql (qt (L' := drawnH 2 v5 (fun t => goodT ar t ∧ 1 ≤ t.length ∧ t.length ≤ szT dp) :: curH .i64 75 cb bsv bs.length :: L) [v5] (v5) (.tmp rfl .nil) rfl rF rF (jN (sC (sD (sC sR))) (yc (drawnH.of (t := [-1]) (⟨goodT.var (by omega) (by omega), Nat.le_refl _, szT_pos dp⟩)) sR)) ?_))))
  exact ⟨_, ⟨rfl, (jE hv5)⟩, rfl⟩
 refine qr (t := 15) rfl (vF h1) (qo (ptr cb 0) rfl (qr (t := 15) rfl (vF h1) (qn (args := [ptr cb 0, ii (4)]) call28 rfl (qZ [_] (l1Once_spec (n := 4) hbs (by omega) (hn := (by first | assumption | rfl | omega | simp)))) ?_)))
 rintro _ _ _ _ ⟨⟨rfl, x3, rfl⟩, rfl⟩
 show XL _ _ _ _ _ _ _ (cellsH b1 [arv] 26 :: curH .i64 75 cb bsv bs.length :: L)
 refine cX (qM (.bool (x3)) (vF h1) rfl (qf ?_))
 refine js (t := x3) rfl (fun h8 => ?_) (fun h8 => ?_)
 ·refine qg (qg (qd (qi (ii (vs)) rfl (cX (jF rfl rfl (qi (.bool (decide ((vs : Int) > 0))) rfl ?_))))))
  by_cases h9 : (vs : Int) > 0
  ·refine qr (t := 21) rfl (vT h9) (qo (ptr cb 0) rfl (qr (t := 21) rfl (vT h9) (qn (args := [ptr cb 0, ii (2)]) call28 rfl (qZ [_] (l1Once_spec (n := 2) hbs (by omega) (hn := (by first | assumption | rfl | omega | simp)))) ?_)))
   rintro _ _ _ _ ⟨⟨rfl, x4, rfl⟩, rfl⟩
   show XL _ _ _ _ _ _ _ (cellsH b1 [arv] 26 :: curH .i64 75 cb bsv bs.length :: L)
   refine cX (qN (.bool (x4)) (vT h9) rfl (qf ?_))
   refine js (t := x4) rfl (fun h10 => ?_) (fun h10 => ?_)
   ·refine qg (qd (qi (ptr cb 0) rfl (qi (ii (vs)) rfl (cX (qn (args := [ptr cb 0, ii (vs)]) jO rfl (qZ [_] (l1Below_spec (n := vs) hbs (by omega) (hn := (by first | assumption | rfl | omega | simp)))) ?_)))))
    rintro _ _ _ _ ⟨⟨rfl, x5, rfl, hr2⟩, rfl⟩
    show XL _ _ _ _ _ _ _ (cellsH b1 [arv] 26 :: curH .i64 75 cb bsv bs.length :: L)
    refine cX (jl ((-1) - x5) rfl rfl (by omega) (by omega) (cX (qx (s := 1) [ii ((-1) - x5)] [ii (0)] [(0, [ii ((-1) - x5)])] qh qC qP rfl (by decide) rfl (.cons rfl CellsAre.nil) rfl ?_)))
    intro v6 hv6
    refine qj (v6) rfl (qf (qu (ql (ql (qt (L' := drawnH 2 v6 (fun t => goodT ar t ∧ 1 ≤ t.length ∧ t.length ≤ szT dp) :: curH .i64 75 cb bsv bs.length :: L) [v6] (v6) (.tmp rfl .nil) rfl rF rF (jN (sC (sD (sC sR))) (yc (drawnH.of (t := [(-1) - x5]) (⟨goodT.var (by omega) (by omega), Nat.le_refl _, szT_pos dp⟩)) sR)) ?_)))))
    exact ⟨_, ⟨rfl, (jE hv6)⟩, rfl⟩
   refine qz (qg (qg (qd (cX (qq (0) jc rfl qy (by decide) rfl rfl (cX (qm qX rfl (Rd.own [] rfl rfl) (cX (qE qh rfl har.slv (cX (jl (((((ar).length) - 1 : Nat) : Int)) rfl rfl (by omega) (by omega) (qj (ii (((((ar).length) - 1 : Nat) : Int))) rfl (qf (qQ (jr (α := Nat) (fun j => [(5, ptr b1 0), (9, ii ((j : Int) - 1))]) (fun j => cellsH b1 [arv] 26 :: curH .i64 75 cb bsv bs.length :: L) (fun j F' => F = F' ∧ (j ≤ ar.length)) (fun j => j) ar.length ⟨rfl, (vI (by omega)), ⟨⟩⟩ (sC (sC sR)) ⟨rfl, (Nat.le_refl _)⟩ ?_)))))))))))))))
   rintro j rE _ _ ⟨rfl, hj⟩
   show X _ _ _ _ (envs [(5, ptr b1 0), (9, ii ((j : Int) - 1))] rE) _ (cellsH b1 [arv] 26 :: curH .i64 75 cb bsv bs.length :: L)
   refine qg (qg (qd (qi (ii ((j : Int) - 1)) rfl (cX (jW rfl rfl (qf ?_))))))
   refine qH (p := ((j : Int) - 1 : Int) ≥ 0) rfl (fun h11 => ?_) (fun h11 => ?_)
   ·refine qz (qg (qQ (qg (qd (cX (qq (0) jc rfl qy (by decide) rfl rfl (cX (qm qX rfl (Rd.own [] rfl rfl) (qi (ii ((j : Int) - 1)) rfl (cX (qD (((j : Int) - 1).toNat) qh qC rfl rfl (by omega) har.slv (by omega) (Nat.mul_one _) (cX (qm jj rfl (har.rd (by omega)) (cX (jD rfl rfl (qf ?_))))))))))))))))
    refine qH (p := (ar.getD (((j : Int) - 1).toNat) 0 : Int) = 0) rfl (fun h12 => ?_) (fun h12 => ?_)
    ·refine qg (qd (qi (ii ((j : Int) - 1)) rfl (cX (qx (s := 1) [ii ((j : Int) - 1)] [ii (0)] [(0, [ii ((j : Int) - 1)])] qh qC qP rfl (by decide) rfl (.cons rfl CellsAre.nil) rfl ?_))))
     intro v7 hv7
     refine qj (v7) rfl (qf (qu (qI (ql (ql (qI (ql (ql (qt (L' := drawnH 2 v7 (fun t => goodT ar t ∧ 1 ≤ t.length ∧ t.length ≤ szT dp) :: curH .i64 75 cb bsv bs.length :: L) [v7] (v7) (.tmp rfl .nil) rfl rF rF (jN (sC (sD (sC sR))) (yc (drawnH.of (t := [(j : Int) - 1]) (⟨goodT.one (by omega) (by omega) (by rw [arity, if_neg (by omega)]; omega), Nat.le_refl _, szT_pos dp⟩)) sR)) ?_)))))))))
     exact ⟨_, ⟨rfl, (jE hv7)⟩, rfl⟩
    refine qz (qd (qi (ii ((j : Int) - 1)) rfl (cX (jl (((j : Int) - 1) - 1) rfl rfl (by omega) (by omega) (qj (ii (((j : Int) - 1) - 1)) rfl (qf ?_))))))
    exact ⟨j - 1, _, FLe.refl _, rF, ⟨rfl, (vI (by (try dsimp only); omega)), ⟨⟩⟩, (sC (sC sR)), ⟨rfl, (by (try dsimp only) <;> omega)⟩, (by (try dsimp only); omega)⟩
   refine jn (qA (qA (qV (qg (qd (cX (qx (s := 1) [ii (-1)] [ii (0)] [(0, [ii (-1)])] qh qC qP rfl (by decide) rfl (.cons rfl CellsAre.nil) rfl ?_)))))))
   intro v8 hv8
   refine qj (v8) rfl (qf (qu (ql (qt (L' := drawnH 2 v8 (fun t => goodT ar t ∧ 1 ≤ t.length ∧ t.length ≤ szT dp) :: curH .i64 75 cb bsv bs.length :: L) [v8] (v8) (.tmp rfl .nil) rfl rF rF (jN (sC (sD (sC sR))) (yc (drawnH.of (t := [-1]) (⟨goodT.var (by omega) (by omega), Nat.le_refl _, szT_pos dp⟩)) sR)) ?_))))
   exact ⟨_, ⟨rfl, (jE hv8)⟩, rfl⟩
  refine qp (t := 21) rfl (vF h9) (qp (t := 21) rfl (vF h9) (cX (qM (.bool (false)) (vF h9) rfl (qf (jS rfl (qz (qg (qg (qd (cX (qq (0) jc rfl qy (by decide) rfl rfl (cX (qm qX rfl (Rd.own [] rfl rfl) (cX (qE qh rfl har.slv (cX (jl (((((ar).length) - 1 : Nat) : Int)) rfl rfl (by omega) (by omega) ?_)))))))))))))))))
  refine qj (ii (((((ar).length) - 1 : Nat) : Int))) rfl (qf (qQ (jr (α := Nat) (fun j => [(5, ptr b1 0), (9, ii ((j : Int) - 1))]) (fun j => cellsH b1 [arv] 26 :: curH .i64 75 cb bsv bs.length :: L) (fun j F' => F = F' ∧ (j ≤ ar.length)) (fun j => j) ar.length ⟨rfl, (vI (by omega)), ⟨⟩⟩ (sC (sC sR)) ⟨rfl, (Nat.le_refl _)⟩ ?_)))
  rintro j rE _ _ ⟨rfl, hj⟩
  show X _ _ _ _ (envs [(5, ptr b1 0), (9, ii ((j : Int) - 1))] rE) _ (cellsH b1 [arv] 26 :: curH .i64 75 cb bsv bs.length :: L)
  refine qg (qg (qd (qi (ii ((j : Int) - 1)) rfl (cX (jW rfl rfl (qf ?_))))))
  refine qH (p := ((j : Int) - 1 : Int) ≥ 0) rfl (fun h13 => ?_) (fun h13 => ?_)
  ·refine qz (qg (qQ (qg (qd (cX (qq (0) jc rfl qy (by decide) rfl rfl (cX (qm qX rfl (Rd.own [] rfl rfl) (qi (ii ((j : Int) - 1)) rfl (cX (qD (((j : Int) - 1).toNat) qh qC rfl rfl (by omega) har.slv (by omega) (Nat.mul_one _) (cX (qm jj rfl (har.rd (by omega)) (cX (jD rfl rfl (qf ?_))))))))))))))))
   refine qH (p := (ar.getD (((j : Int) - 1).toNat) 0 : Int) = 0) rfl (fun h14 => ?_) (fun h14 => ?_)
   ·refine qg (qd (qi (ii ((j : Int) - 1)) rfl (cX (qx (s := 1) [ii ((j : Int) - 1)] [ii (0)] [(0, [ii ((j : Int) - 1)])] qh qC qP rfl (by decide) rfl (.cons rfl CellsAre.nil) rfl ?_))))
    intro v9 hv9
    refine qj (v9) rfl (qf (qu (qI (ql (ql (qI (ql (ql (qt (L' := drawnH 2 v9 (fun t => goodT ar t ∧ 1 ≤ t.length ∧ t.length ≤ szT dp) :: curH .i64 75 cb bsv bs.length :: L) [v9] (v9) (.tmp rfl .nil) rfl rF rF (jN (sC (sD (sC sR))) (yc (drawnH.of (t := [(j : Int) - 1]) (⟨goodT.one (by omega) (by omega) (by rw [arity, if_neg (by omega)]; omega), Nat.le_refl _, szT_pos dp⟩)) sR)) ?_)))))))))
    exact ⟨_, ⟨rfl, (jE hv9)⟩, rfl⟩
   refine qz (qd (qi (ii ((j : Int) - 1)) rfl (cX (jl (((j : Int) - 1) - 1) rfl rfl (by omega) (by omega) (qj (ii (((j : Int) - 1) - 1)) rfl (qf ?_))))))
   exact ⟨j - 1, _, FLe.refl _, rF, ⟨rfl, (vI (by (try dsimp only); omega)), ⟨⟩⟩, (sC (sC sR)), ⟨rfl, (by (try dsimp only) <;> omega)⟩, (by (try dsimp only); omega)⟩
  refine jn (qA (qA (qV (qg (qd (cX (qx (s := 1) [ii (-1)] [ii (0)] [(0, [ii (-1)])] qh qC qP rfl (by decide) rfl (.cons rfl CellsAre.nil) rfl ?_)))))))
  intro v10 hv10
  refine qj (v10) rfl (qf (qu (ql (qt (L' := drawnH 2 v10 (fun t => goodT ar t ∧ 1 ≤ t.length ∧ t.length ≤ szT dp) :: curH .i64 75 cb bsv bs.length :: L) [v10] (v10) (.tmp rfl .nil) rfl rF rF (jN (sC (sD (sC sR))) (yc (drawnH.of (t := [-1]) (⟨goodT.var (by omega) (by omega), Nat.le_refl _, szT_pos dp⟩)) sR)) ?_))))
  exact ⟨_, ⟨rfl, (jE hv10)⟩, rfl⟩
 refine qz (qg (qd (qi (ptr cb 0) rfl (cX (qq (0) jc rfl qy (by decide) rfl rfl (cX (qm qX rfl (Rd.own [] rfl rfl) (cX (qE qh rfl har.slv (cX (qn (args := [ptr cb 0, ii ((ar.length : Int))]) jO rfl (qZ [_] (l1Below_spec (n := (ar.length : Int)) hbs (by omega) (hn := (by first | assumption | rfl | omega | simp)))) ?_)))))))))))
 rintro _ _ _ _ ⟨⟨rfl, x6, rfl, hr3⟩, rfl⟩
 show XL _ _ _ _ _ _ _ (cellsH b1 [arv] 26 :: curH .i64 75 cb bsv bs.length :: L)
 refine qj (ii (x6)) rfl (qf (qg (qd (qi (ii (x6)) rfl (cX (qx (s := 1) [ii (x6)] [ii (0)] [(0, [ii (x6)])] qh qC qP rfl (by decide) rfl (.cons rfl CellsAre.nil) rfl ?_))))))
 intro v11 hv11
 refine qj (v11) rfl (qf (qg (qg (qd ?_))))
 show XL _ _ _ _ _ _ _ (intsH 2 v11 ([x6] : List Int) :: cellsH b1 [arv] 26 :: curH .i64 75 cb bsv bs.length :: L)
 skip
 refine cX (qq (0) jc rfl qy (by decide) rfl rfl (cX (qm qX rfl (Rd.own [_] rfl rfl) (qi (ii (x6)) rfl (cX (qD ((x6).toNat) qh qC rfl rfl (by omega) har.slv (by omega) (Nat.mul_one _) (cX (qm jj rfl (har.rd (by omega)) (qj (ii (ar.getD ((x6).toNat) 0)) rfl ?_)))))))))
 have hfr : 0 ≤ x6 ∧ x6 < (ar.length : Int) := by omega
 have hsp := (sigOk_spec hso).2.2 (x6).toNat (by omega)
 obtain ⟨haK, hKe⟩ : ∃ q : Nat, q = (ar.getD ((x6).toNat) 0).toNat := ⟨_, rfl⟩
 have hK3 : haK ≤ 3 := by omega
 have hKa : arity ar x6 = (haK : Int) := by rw [arity, if_neg (by omega)]; omega
 refine qf (qQ (jr (α := Nat × Value × List Int × List Int × FH) (fun xQ => [(0, ptr cb 0), (2, ii (((dp : Nat) : Int))), (3, ii (vs)), (5, ptr b1 0), (11, xQ.2.1), (12, ii (((xQ.1 : Nat) : Int)))]) (fun xQ => intsH 2 xQ.2.1 xQ.2.2.1 :: cellsH b1 [arv] 26 :: curH .i64 75 cb bsv bs.length :: L) (fun xQ F' => xQ.2.2.2.2 = F' ∧ F ≤ xQ.2.2.2.2 ∧ (IsSl xQ.2.1) ∧ (xQ.2.2.1 = x6 :: xQ.2.2.2.1) ∧ (xQ.1 + (haK - xQ.1) = haK ∧ xQ.1 ≤ haK) ∧ (goodN ar xQ.2.2.2.1 (haK - xQ.1)) ∧ (xQ.2.2.2.1.length ≤ (haK - xQ.1) * szT (dp - 1))) (fun xQ => xQ.1) ((ar.getD ((x6).toNat) 0).toNat, v11, [x6], [], F) ⟨rfl, rfl, rfl, rfl, rfl, (vI (by omega)), ⟨⟩⟩ (sC (sC (sC sR))) ⟨rfl, FLe.refl _, ((jE hv11)), (rfl), (by (try dsimp only); omega), (by (try dsimp only); rw [show haK - (ar.getD ((x6).toNat) 0).toNat = 0 from by omega]; exact goodN.nil), (by (try dsimp only); simp)⟩ ?_))
 rintro ⟨n, ov, os, ot, G1⟩ rE _ _ ⟨rfl, leG, hov, hoe, hn3, hgo, hol⟩
 show X _ _ _ _ (envs [(0, ptr cb 0), (2, ii (((dp : Nat) : Int))), (3, ii (vs)), (5, ptr b1 0), (11, ov), (12, ii ((n : Int)))] rE) _ (intsH 2 ov os :: cellsH b1 [arv] 26 :: curH .i64 75 cb bsv bs.length :: L)
 replace leG : F ≤ G1 := leG
 dsimp only at hov hoe hn3 hgo hol
 have hm9 : (haK - n) * szT (dp - 1) ≤ 3 * szT (dp - 1) := Nat.mul_le_mul_right _ (by omega)
 have hool : os.length = ot.length + 1 := by rw [hoe]; rfl
 have leG1 := leG
 replace hbs := hbs.mono leG1
 replace har := har.mono leG1
 refine qg (qg (qd (qi (ii ((n : Int))) rfl (cX (jF rfl rfl (qf ?_))))))
 refine qH (p := (n : Int) > 0) rfl (fun h15 => ?_) (fun h15 => ?_)
 ·refine qz (qg (qQ (qd (qi (ov) rfl (qi (ptr cb 0) rfl (cX (qs [arv] qW qB rfl rfl (Rd.ownN [_] rfl rfl) (qi (ii (((dp : Nat) : Int))) rfl (cX (jl (((dp - 1 : Nat) : Int)) rfl rfl (by omega) (by omega) (qi (ii (vs)) rfl (cX (qn (args := [ptr cb 0, .agg #[arv], ii ((dp - 1 : Nat) : Int), ii (vs)]) call75 rfl (Does.atO [_, _] (ih (dp - 1) (by omega) (vs := vs) hbs (by omega) har (hso := (by first | assumption | rfl | omega | simp)) (hdp := (by first | assumption | rfl | omega | simp)) (hvs := (by first | assumption | rfl | omega | simp)))) ?_)))))))))))))
  rintro _ F7 _ le7 ⟨x8, ⟨rfl, hsl1⟩, rfl⟩
  show XL _ _ _ _ _ _ _ (drawnH 2 x8 (fun t => goodT ar t ∧ 1 ≤ t.length ∧ t.length ≤ szT (dp - 1)) :: intsH 2 ov os :: cellsH b1 [arv] 26 :: curH .i64 75 cb bsv bs.length :: L)
  refine XL.undraw [] rfl (fun t1 hq9 => ?_)
  obtain ⟨q1, q2, q3⟩ := hq9
  show XL _ _ _ _ _ _ _ (intsH 2 x8 t1 :: intsH 2 ov os :: cellsH b1 [arv] 26 :: curH .i64 75 cb bsv bs.length :: L)
  refine jf [] _ _ rfl (fun F8 le8 hz1 => ?_)
  have hf1 : IntsF F8 x8 t1 := intsH.fz (xs := t1) hz1.fz
  refine cX (yd [] _ qh typeInfo2 rfl rfl rfl rfl rfl rfl hf1 (by (try simp only [List.length_append, List.length_nil, List.length_cons, List.length_singleton, List.length_take, List.length_drop]); omega) ?_)
  intro v12 hs1 hn1 hm1
  refine qj (v12) rfl (qf (qd (qi (ii ((n : Int))) rfl (cX (jl (((n - 1 : Nat) : Int)) rfl rfl (by omega) (by omega) (qj (ii (((n - 1 : Nat) : Int))) rfl (qf ?_)))))))
  exact ⟨(n - 1, v12, os ++ t1, (ot ++ t1), F8), _, (qc (qc leG1 le7) le8), rF, ⟨rfl, rfl, rfl, rfl, rfl, rfl, ⟨⟩⟩, (sC (sC (sC sR))), ⟨rfl, (qc (qc leG1 le7) le8), (hs1), (by (try dsimp only); rw [hoe] <;> rfl), (by (try dsimp only); omega), (by (try dsimp only); rw [show haK - (n - 1) = haK - n + 1 from by omega]; exact hgo.snoc q1), (by (try dsimp only); rw [show haK - (n - 1) = haK - n + 1 from by omega, Nat.succ_mul, List.length_append]; omega)⟩, (by (try dsimp only); omega)⟩
 refine jn (qA (qA (qV (qg (qd (qi (ov) rfl (qj (ov) rfl (qf (qu (qt (L' := drawnH 2 ov (fun t => goodT ar t ∧ 1 ≤ t.length ∧ t.length ≤ szT dp) :: curH .i64 75 cb bsv bs.length :: L) [ov] (ov) (.tmp rfl .nil) rfl leG1 rF (jN (sC (sD (sC sR))) (yc (drawnH.of (t := os) ((show goodT ar os ∧ 1 ≤ os.length ∧ os.length ≤ szT dp from ⟨by rw [hoe]; exact goodT.node hfr.1 (by omega) hKa (by have h9 := hgo; rwa [show haK - n = haK from by omega] at h9), by omega, by have h9 := szT_next (d := dp) (by omega); omega⟩))) sR)) ?_))))))))))
 exact ⟨_, ⟨rfl, hov⟩, rfl⟩

theorem l1DrawTerm_spec (dp : Nat) : ∀ {F : FH} {L : List HP} {cb : Nat} {bsv : Value} {bs : List Int} (hbs : BytesF F bsv bs) (hbl : bs.length ≤ 4000000) {arv : Value} {ar : List Int} (har : IntsF F arv ar) {vs : Int} (hso : sigOk ar = true) (hdp : dp ≤ 5) (hvs : 0 ≤ vs ∧ vs ≤ 24), Does prog 75 [ptr cb 0, .agg #[arv], ii (((dp : Nat) : Int)), ii (vs)] F (curH .i64 75 cb bsv bs.length :: L) (fun v F' L' => ∃ a : Value, ((a : Value) = v ∧ IsSl a) ∧ drawnH 2 a (fun t => goodT ar t ∧ 1 ≤ t.length ∧ t.length ≤ szT dp) :: curH .i64 75 cb bsv bs.length :: L = L') := by
  induction dp using Nat.strongRecOn with
  | _ dp ih =>
    intros
    exact l1DrawTerm_spec_step ih (by assumption) (by assumption) (by assumption) (by assumption) (by assumption) (by assumption)

/- spec.l1DrawAny -/
set_option maxHeartbeats 1000000 in
theorem l1DrawAny_spec {F : FH} {L : List HP} {cb : Nat} {bsv : Value} {bs : List Int} (hbs : BytesF F bsv bs) (hbl : bs.length ≤ 4000000) {arv : Value} {ar : List Int} (har : IntsF F arv ar) (hal : ar.length ≤ 4000000) :
    Does prog 74 [ptr cb 0, .agg #[arv]] F (curH .i64 75 cb bsv bs.length :: L) (fun v F' L' => (∃ (a : Value), (a : Value) = v ∧ (SomesF F' a (fun u => u.length ≤ 2000))) ∧ curH .i64 75 cb bsv bs.length :: L = L') := by
 refine qL func74 rfl rfl rfl (qg (qd (cX (je [arv] rfl rfl ?_))))
 intro b1
 refine qj (sN) rfl (qf (qg (qg (qd (cX (qq (0) jc rfl qy (by decide) rfl rfl (cX (qm qX rfl (Rd.own [] rfl rfl) (cX (qE qh rfl har.slv (cX (jD rfl rfl (qi (.bool (decide (((ar.length : Int) : Int) = 0))) rfl ?_)))))))))))))
 by_cases h1 : ((ar.length : Int) : Int) = 0
 ·refine qp (t := 10) rfl (vT h1) (qp (t := 10) rfl (vT h1) (qp (t := 10) rfl (vT h1) (cX (qN (.bool (true)) (vT h1) rfl (qf (jH rfl (qg (qd (qi (ptr cb 0) rfl (cX (qn (args := [ptr cb 0, ii (-2), ii (2)]) call43 rfl (qZ [_] (l1From_spec (lo := -2) (hi := 2) hbs (by omega) (hlo := (by first | assumption | rfl | omega | simp)))) ?_)))))))))))
  rintro _ _ _ _ ⟨⟨rfl, x1, rfl, hr1⟩, rfl⟩
  show XL _ _ _ _ _ _ _ (cellsH b1 [arv] 26 :: curH .i64 75 cb bsv bs.length :: L)
  refine cX (qx (s := 1) [ii (x1)] [ii (0)] [(0, [ii (x1)])] qh qC qP rfl (by decide) rfl (.cons rfl CellsAre.nil) rfl ?_)
  intro v1 hv1
  refine qj (v1) rfl (qf ?_)
  show X _ _ _ _ _ _ (intsH 2 v1 ([x1] : List Int) :: cellsH b1 [arv] 26 :: curH .i64 75 cb bsv bs.length :: L)
  refine ji [] _ _ rfl (fun F2 le2 hz1 => ?_)
  replace hbs := hbs.mono le2
  replace har := har.mono le2
  have hf1 : IntsF F2 v1 ([x1]) := intsH.fz (xs := [x1]) hz1.fz
  refine qu (ql (qt (L' := curH .i64 75 cb bsv bs.length :: L) [v1] (v1) (.tmp rfl .nil) rfl le2 rF (sD (sC sR)) ?_))
  exact ⟨⟨_, rfl, ⟨_, hf1, by (try simp only [List.length_append, List.length_cons, List.length_nil, List.length_set, List.length_take, List.length_drop]); omega⟩⟩, rfl⟩
 refine qr (t := 10) rfl (vF h1) (qs [arv] qW qB rfl rfl (Rd.ownN [] rfl rfl) (qr (t := 10) rfl (vF h1) (qn (args := [.agg #[arv]]) call56 rfl (sSigOk_spec har (hla := (by first | assumption | rfl | omega | simp))) ?_)))
 rintro _ _ _ _ ⟨rfl, rfl, rfl⟩
 refine qr (t := 10) rfl (vF h1) (jg rfl (cX (qM (.bool (!(sigOk ar))) (vF h1) rfl (qf ?_))))
 refine js (t := !(sigOk ar)) rfl (fun h2 => ?_) (fun h2 => ?_)
 ·refine qg (qd (qi (ptr cb 0) rfl (cX (qn (args := [ptr cb 0, ii (-2), ii (2)]) call43 rfl (qZ [_] (l1From_spec (lo := -2) (hi := 2) hbs (by omega) (hlo := (by first | assumption | rfl | omega | simp)))) ?_))))
  rintro _ _ _ _ ⟨⟨rfl, x2, rfl, hr2⟩, rfl⟩
  show XL _ _ _ _ _ _ _ (cellsH b1 [arv] 26 :: curH .i64 75 cb bsv bs.length :: L)
  refine cX (qx (s := 1) [ii (x2)] [ii (0)] [(0, [ii (x2)])] qh qC qP rfl (by decide) rfl (.cons rfl CellsAre.nil) rfl ?_)
  intro v2 hv2
  refine qj (v2) rfl (qf ?_)
  show X _ _ _ _ _ _ (intsH 2 v2 ([x2] : List Int) :: cellsH b1 [arv] 26 :: curH .i64 75 cb bsv bs.length :: L)
  refine ji [] _ _ rfl (fun F4 le4 hz2 => ?_)
  replace hbs := hbs.mono le4
  replace har := har.mono le4
  have hf2 : IntsF F4 v2 ([x2]) := intsH.fz (xs := [x2]) hz2.fz
  refine qu (ql (qt (L' := curH .i64 75 cb bsv bs.length :: L) [v2] (v2) (.tmp rfl .nil) rfl le4 rF (sD (sC sR)) ?_))
  exact ⟨⟨_, rfl, ⟨_, hf2, by (try simp only [List.length_append, List.length_cons, List.length_nil, List.length_set, List.length_take, List.length_drop]); omega⟩⟩, rfl⟩
 have hso : sigOk ar = true := by simpa using h2
 refine qz (qg ?_)
 refine jG [cellsH b1 [arv] 26, curH .i64 75 cb bsv bs.length] L 5 [[], [], [], [], [3]] [[], [], [], [2], [3]] [] (phiG [pe (ptr cb 0), pe (.agg #[arv]), pe (ptr cb 0), fun FF us v => (ii (((intAt v))) : Value) = v ∧ (0 ≤ ((intAt v)) ∧ (((intAt v)) < 4 ∨ ((intAt v)) = 0)), fun FF us v => v = (ii (1 + (((intAt (us.getD 0 undef))))) : Value)]) (ownL []) mixed rfl rfl (by kernel_rfl) (by kernel_rfl) (MonoG.get (m1 (m1 (m1 (mC (fun le h => ⟨h.1, h.2⟩) (mC (fun le h => h) MonoG.nil)))))) ?_ ?_
 ·refine gD (fun W Fs R lF z9 => ?_) ?_
  ·refine qk (qo (ptr cb 0) rfl ?_)
   exact ⟨rfl, rfl⟩
  refine gD (fun W Fs R lF z9 => ?_) ?_
  ·replace hbs := hbs.mono lF
   replace har := har.mono lF
   refine qk (qs [arv] qW qB rfl rfl (Rd.ownN [] rfl rfl) ?_)
   exact ⟨rfl, rfl⟩
  refine gD (fun W Fs R lF z9 => ?_) ?_
  ·refine qk (qo (ptr cb 0) rfl ?_)
   exact ⟨rfl, rfl⟩
  refine gD (fun W Fs R lF z9 => ?_) ?_
  ·replace hbs := hbs.mono lF
   replace har := har.mono lF
   rw [zA 2 (z9 2 rfl)]
   refine qk (qn (args := [ptr cb 0, ii (4)]) jO rfl (qZ [_] (l1Below_spec (n := 4) hbs (by omega) (hn := (by first | assumption | rfl | omega | simp)))) ?_)
   rintro _ _ _ _ ⟨⟨rfl, x4, rfl, hr4⟩, rfl⟩
   exact ⟨⟨rfl, hr4⟩, rfl⟩
  refine gD (fun W Fs R lF z9 => ?_) ?_
  ·obtain ⟨e3, f3_1hx⟩ := z9 3 rfl
   rw [eS (l := [(3, (ii (((intAt (W 3))))))]) ⟨(e3).symm, ⟨⟩⟩]
   refine qk (qS (1 + (((intAt (W 3))))) rfl rfl (by omega) (by omega) ?_)
   exact ⟨rfl, rfl⟩
  exact stepsG.nil
 intro W F7 le7 hphi
 obtain ⟨e3, f3_1hx⟩ := hphi 3 (by decide)
 have e4 : W 4 = (ii (1 + (((intAt (W 3))))) : Value) := hphi 4 (by decide)
 generalize hu1 : (intAt (W 3)) = u1 at e3 f3_1hx e4
 rw [eS (l := [(0, _), (1, _), (3, (ii ((u1)))), (4, (ii (1 + ((u1)))))]) ⟨(hphi 0 (by decide)), (hphi 1 (by decide)), (e3).symm, e4, ⟨⟩⟩]
 replace hbs := hbs.mono le7
 replace har := har.mono le7
 show XL _ _ _ _ _ _ _ (cellsH b1 [arv] 26 :: curH .i64 75 cb bsv bs.length :: L)
 refine cX (qn (args := [ptr cb 0, .agg #[arv], ii (((1 + ((u1))).toNat : Nat) : Int), ii (3)]) call75 (by rw [show (((1 + ((u1))).toNat : Nat) : Int) = 1 + ((u1)) from by omega]; rfl) (Does.atO [_] (l1DrawTerm_spec ((1 + ((u1))).toNat) (vs := 3) hbs (by omega) har (hso := (by first | assumption | rfl | omega | simp)) (hdp := (by first | assumption | rfl | omega | simp)) (hvs := (by first | assumption | rfl | omega | simp)))) ?_)
 rintro _ F8 _ le8 ⟨x6, ⟨rfl, hsl1⟩, rfl⟩
 replace hbs := hbs.mono le8
 show XL _ _ _ _ _ _ _ (drawnH 2 x6 (fun t => goodT ar t ∧ 1 ≤ t.length ∧ t.length ≤ szT ((1 + ((u1))).toNat)) :: cellsH b1 [arv] 26 :: curH .i64 75 cb bsv bs.length :: L)
 refine XL.undraw [] rfl (fun t1 hq9 => ?_)
 obtain ⟨q1, q2, q3⟩ := hq9
 show XL _ _ _ _ _ _ _ (intsH 2 x6 t1 :: cellsH b1 [arv] 26 :: curH .i64 75 cb bsv bs.length :: L)
 have hz9 := szT_le (d := (1 + ((u1))).toNat) (e := 4) (by omega)
 have hz8 : szT 4 = 121 := rfl
 refine qj (x6) rfl (qf (qg (qg (qd (qi (ptr cb 0) rfl (cX (qn (args := [ptr cb 0, ii (12)]) call28 rfl (qZ [_, _] (l1Once_spec (n := 12) hbs (by omega) (hn := (by first | assumption | rfl | omega | simp)))) ?_)))))))
 rintro _ _ _ _ ⟨⟨rfl, x7, rfl⟩, rfl⟩
 show XL _ _ _ _ _ _ _ (intsH 2 x6 t1 :: cellsH b1 [arv] 26 :: curH .i64 75 cb bsv bs.length :: L)
 refine qf ?_
 refine js (t := x7) rfl (fun h3 => ?_) (fun h3 => ?_)
 ·refine qg (qd (qi (ptr cb 0) rfl (cX (qn (args := [ptr cb 0, ii (4)]) jO rfl (qZ [_, _] (l1Below_spec (n := 4) hbs (by omega) (hn := (by first | assumption | rfl | omega | simp)))) ?_))))
  rintro _ _ _ _ ⟨⟨rfl, x8, rfl, hr5⟩, rfl⟩
  show XL _ _ _ _ _ _ _ (intsH 2 x6 t1 :: cellsH b1 [arv] 26 :: curH .i64 75 cb bsv bs.length :: L)
  refine qf (qQ (qg (qd (cX (jD rfl rfl (qj (.bool (decide ((x8 : Int) = 0))) rfl (qf ?_)))))))
  refine qH (p := (x8 : Int) = 0) rfl (fun h4 => ?_) (fun h4 => ?_)
  ·refine qd (qi (x6) rfl (qi (ptr cb 0) rfl (cX (qn (args := [ptr cb 0, ii (-2), ii (3)]) call43 rfl (qZ [_, _] (l1From_spec (lo := -2) (hi := 3) hbs (by omega) (hlo := (by first | assumption | rfl | omega | simp)))) ?_))))
   rintro _ _ _ _ ⟨⟨rfl, x9, rfl, hr6⟩, rfl⟩
   show XL _ _ _ _ _ _ _ (intsH 2 x6 t1 :: cellsH b1 [arv] 26 :: curH .i64 75 cb bsv bs.length :: L)
   refine cX (qx (s := 1) [ii (x9)] [ii (0)] [(0, [ii (x9)])] qh qC qP rfl (by decide) rfl (.cons rfl CellsAre.nil) rfl ?_)
   intro v3 hv3
   refine cX (XOp.append1 (u := x9) [_] _ qh typeInfo2 rfl rfl rfl rfl rfl rfl (SlV.own [] rfl) (Rd.sl [] rfl rfl) (by (try simp only [List.length_append, List.length_nil, List.length_cons, List.length_singleton, List.length_take, List.length_drop]); omega) ?_)
   intro v4 hs1 hn1
   refine qj (v4) rfl (qf (qg (qd (qi (v4) rfl (qj (v4) rfl (qf (ji [_] _ _ rfl (fun F12 le12 hz3 => ?_))))))))
   replace hbs := hbs.mono le12
   have hf3 : IntsF F12 v4 (t1 ++ [x9]) := intsH.fz (xs := t1 ++ [x9]) hz3.fz
   refine qu (qt (L' := curH .i64 75 cb bsv bs.length :: L) [v4] (v4) (.tmp rfl .nil) rfl (qc (qc le7 le8) le12) rF (sD (sD (sC sR))) ?_)
   exact ⟨⟨_, rfl, ⟨_, hf3, by (try simp only [List.length_append, List.length_cons, List.length_nil, List.length_set, List.length_take, List.length_drop]); omega⟩⟩, rfl⟩
  refine qg (qd (cX (jD rfl rfl (qj (.bool (decide ((x8 : Int) = 1))) rfl (qf ?_)))))
  refine qH (p := (x8 : Int) = 1) rfl (fun h5 => ?_) (fun h5 => ?_)
  ·refine qd (qi (x6) rfl (qi (ptr cb 0) rfl (qi (x6) rfl (cX (qE qh rfl (intsH.slv [] rfl) (cX (qn (args := [ptr cb 0, ii ((t1.length : Int))]) jO rfl (qZ [_, _] (l1Below_spec (n := (t1.length : Int)) hbs (by omega) (hn := (by first | assumption | rfl | omega | simp)))) ?_)))))))
   rintro _ _ _ _ ⟨⟨rfl, x10, rfl, hr7⟩, rfl⟩
   show XL _ _ _ _ _ _ _ (intsH 2 x6 t1 :: cellsH b1 [arv] 26 :: curH .i64 75 cb bsv bs.length :: L)
   refine qi (ptr cb 0) rfl (cX (qn (args := [ptr cb 0, ii (-3), ii (4)]) call43 rfl (qZ [_, _] (l1From_spec (lo := -3) (hi := 4) hbs (by omega) (hlo := (by first | assumption | rfl | omega | simp)))) ?_))
   rintro _ _ _ _ ⟨⟨rfl, x11, rfl, hr8⟩, rfl⟩
   show XL _ _ _ _ _ _ _ (intsH 2 x6 t1 :: cellsH b1 [arv] 26 :: curH .i64 75 cb bsv bs.length :: L)
   refine cX (qD ((x10).toNat) qh qC rfl rfl (by omega) (intsH.slv [] rfl) (by omega) (Nat.mul_one _) (cX (intsH.storeX (i := (x10).toNat) (v := x6) [] _ (t1.set ((x10).toNat) x11) qC rfl rfl rfl (by omega) rfl (qf (qg (qd (qi (x6) rfl (qj (x6) rfl (qf (ji [] _ _ rfl (fun F15 le15 hz4 => ?_)))))))))))
   replace hbs := hbs.mono le15
   have hf4 : IntsF F15 x6 ((t1.set ((x10).toNat) x11)) := intsH.fz (xs := (t1.set ((x10).toNat) x11)) hz4.fz
   refine qu (qt (L' := curH .i64 75 cb bsv bs.length :: L) [x6] (x6) (.tmp rfl .nil) rfl (qc (qc le7 le8) le15) rF (sD (sC sR)) ?_)
   exact ⟨⟨_, rfl, ⟨_, hf4, by (try simp only [List.length_append, List.length_cons, List.length_nil, List.length_set, List.length_take, List.length_drop]); omega⟩⟩, rfl⟩
  refine qg (qd (cX (jD rfl rfl (qj (.bool (decide ((x8 : Int) = 2))) rfl (qf ?_)))))
  refine qH (p := (x8 : Int) = 2) rfl (fun h6 => ?_) (fun h6 => ?_)
  ·refine qd (jf [] _ _ rfl (fun F16 le16 hz5 => ?_))
   replace hbs := hbs.mono le16
   have hf5 : IntsF F16 x6 t1 := intsH.fz (xs := t1) hz5.fz
   skip
   refine qi (x6) rfl (cX (XOp.sliceI 1 ((t1).length) qh qC rfl hf5 ⟨_, rfl⟩ rfl (by omega) (by omega) ?_))
   intro v5 hv4 hn2
   refine qj (v5) rfl (qf (qg (qd (qi (v5) rfl (qj (v5) rfl (qf (qu (qt (L' := curH .i64 75 cb bsv bs.length :: L) [v5] (v5) (.tmp rfl .nil) rfl (qc (qc le7 le8) le16) rF (sD (sC sR)) ?_))))))))
   exact ⟨⟨_, rfl, ⟨_, hv4, by (try simp only [List.length_append, List.length_cons, List.length_nil, List.length_set, List.length_take, List.length_drop]); omega⟩⟩, rfl⟩
  refine qg (qd (cX (jD rfl rfl (qj (.bool (decide ((x8 : Int) = 3))) rfl (qf ?_)))))
  refine qH (p := (x8 : Int) = 3) rfl (fun h7 => ?_) (fun h7 => ?_)
  ·refine qd (qi (x6) rfl (qi (ptr cb 0) rfl (cX (qn (args := [ptr cb 0]) call77 rfl (qZ [_, _] (l1Odd_spec hbs (by omega))) ?_))))
   rintro _ _ _ _ ⟨⟨rfl, x12, rfl⟩, rfl⟩
   show XL _ _ _ _ _ _ _ (intsH 2 x6 t1 :: cellsH b1 [arv] 26 :: curH .i64 75 cb bsv bs.length :: L)
   refine cX (qx (s := 1) [ii (x12)] [ii (0)] [(0, [ii (x12)])] qh qC qP rfl (by decide) rfl (.cons rfl CellsAre.nil) rfl ?_)
   intro v6 hv5
   refine cX (XOp.append1 (u := x12) [_] _ qh typeInfo2 rfl rfl rfl rfl rfl rfl (SlV.own [] rfl) (Rd.sl [] rfl rfl) (by (try simp only [List.length_append, List.length_nil, List.length_cons, List.length_singleton, List.length_take, List.length_drop]); omega) ?_)
   intro v7 hs2 hn3
   refine qj (v7) rfl (qf (qg (qd (qi (v7) rfl (qj (v7) rfl (qf (ji [_] _ _ rfl (fun F18 le18 hz6 => ?_))))))))
   have hf6 : IntsF F18 v7 (t1 ++ [x12]) := intsH.fz (xs := t1 ++ [x12]) hz6.fz
   refine qu (qt (L' := curH .i64 75 cb bsv bs.length :: L) [v7] (v7) (.tmp rfl .nil) rfl (qc (qc le7 le8) le18) rF (sD (sD (sC sR))) ?_)
   exact ⟨⟨_, rfl, ⟨_, hf6, by (try simp only [List.length_append, List.length_cons, List.length_nil, List.length_set, List.length_take, List.length_drop]); omega⟩⟩, rfl⟩
  refine qz (qg (qd (qi (x6) rfl (qj (x6) rfl (qf (ji [] _ _ rfl (fun F19 le19 hz7 => ?_)))))))
  have hf7 : IntsF F19 x6 t1 := intsH.fz (xs := t1) hz7.fz
  refine qu (qt (L' := curH .i64 75 cb bsv bs.length :: L) [x6] (x6) (.tmp rfl .nil) rfl (qc (qc le7 le8) le19) rF (sD (sC sR)) ?_)
  exact ⟨⟨_, rfl, ⟨_, hf7, by (try simp only [List.length_append, List.length_cons, List.length_nil, List.length_set, List.length_take, List.length_drop]); omega⟩⟩, rfl⟩
 refine qz (qg (qd (qi (x6) rfl (qj (x6) rfl (qf (ji [] _ _ rfl (fun F20 le20 hz8 => ?_)))))))
 have hf8 : IntsF F20 x6 t1 := intsH.fz (xs := t1) hz8.fz
 refine qu (qt (L' := curH .i64 75 cb bsv bs.length :: L) [x6] (x6) (.tmp rfl .nil) rfl (qc (qc le7 le8) le20) rF (sD (sC sR)) ?_)
 exact ⟨⟨_, rfl, ⟨_, hf8, by (try simp only [List.length_append, List.length_cons, List.length_nil, List.length_set, List.length_take, List.length_drop]); omega⟩⟩, rfl⟩

/- spec.l2Order -/
theorem l2Order_spec {F : FH} {L : List HP}  {tv : Value} {t : List Int} (ht : IntsF F tv t) (hlt : t.length ≤ 4000000) :
    Does prog 100 [tv] F (L) (fun v F' L' => (∃ (a : Value), ∃ (os : List Int), (a : Value) = v ∧ (IntsF F' a os) ∧ (os.length ≤ t.length)) ∧ L = L') := by
 refine qL func100 rfl rfl rfl (qg (qd (qj (sN) rfl (qf (qg (qd (cX (qx (s := 1) [] [ii (0)] [] qh qC qP rfl (by decide) rfl CellsAre.nil rfl ?_))))))))
 intro v1 hv1
 refine qj (v1) rfl (qf (qg (qg (qd (qj (ii (0)) rfl (qf (qQ (jr (α := Nat × Value × List Int × FH) (fun xQ => [(0, tv), (3, xQ.2.1), (4, ii (((xQ.1 : Nat) : Int)))]) (fun xQ => intsH 2 xQ.2.1 xQ.2.2.1 :: L) (fun xQ F' => xQ.2.2.2 = F' ∧ F ≤ xQ.2.2.2 ∧ (IsSl xQ.2.1) ∧ (xQ.1 ≤ t.length) ∧ (xQ.2.2.1.length ≤ xQ.1)) (fun xQ => t.length - xQ.1) (0, v1, [], F) ⟨rfl, rfl, rfl, ⟨⟩⟩ (sC sR) ⟨rfl, FLe.refl _, ((jE hv1)), (Nat.zero_le _), (Nat.le_refl _)⟩ ?_))))))))
 rintro ⟨k, ov, os, G1⟩ rE _ _ ⟨rfl, leG, hov, hk, hok⟩
 show X _ _ _ _ (envs [(0, tv), (3, ov), (4, ii ((k : Int)))] rE) _ (intsH 2 ov os :: L)
 replace leG : F ≤ G1 := leG
 dsimp only at hov hk hok
 have leG1 := leG
 replace ht := ht.mono leG1
 refine qg (qg (qd (qi (ii ((k : Int))) rfl (qi (tv) rfl (cX (qE qh rfl ht.slv (cX (jb rfl rfl (qf ?_)))))))))
 refine qH (p := (k : Int) < (t.length : Int)) rfl (fun h1 => ?_) (fun h1 => ?_)
 ·refine qz (qg (qQ (qg (qd (qi (tv) rfl (qi (ii ((k : Int))) rfl (cX (qD k qh qC rfl rfl rfl ht.slv (by omega) (Nat.mul_one _) (cX (qm jj rfl (ht.rd (by omega)) (cX (jb rfl rfl (qi (.bool (decide ((t.getD k 0 : Int) < 0))) rfl ?_)))))))))))))
  by_cases h2 : (t.getD k 0 : Int) < 0
  ·refine qr (t := 17) rfl (vT h2) (qo (ov) rfl (qr (t := 17) rfl (vT h2) (qo (tv) rfl (qr (t := 17) rfl (vT h2) (qo (ii ((k : Int))) rfl (qr (t := 17) rfl (vT h2) (qD k qh qC rfl rfl rfl ht.slv (by omega) (Nat.mul_one _) (qr (t := 17) rfl (vT h2) (qm jj rfl (ht.rd (by omega)) (qr (t := 17) rfl (vT h2) (XOp.lend [] _ _ rfl (fun F1 le1 hz1 => ?_))))))))))))
   have hf1 : IntsF _ ov os := intsH.fz (xs := os) hz1
   refine id (qn (args := [ov, ii (t.getD k 0)]) call102 rfl (l1Has_spec (n := t.getD k 0) hf1 (hbd := (by first | assumption | rfl | omega | simp))) ?_)
   rintro _ _ _ _ ⟨rfl, rfl, rfl⟩
   show XL _ _ _ _ _ _ _ (intsH 2 ov os :: L)
   refine qr (t := 17) rfl (vT h2) (XOp.notD rfl (cX (qN (.bool (decide (¬((t.getD k 0) ∈ os)))) (vT h2) rfl (qf ?_))))
   refine qH (p := ¬((t.getD k 0) ∈ os)) rfl (fun h3 => ?_) (fun h3 => ?_)
   ·refine qd (qi (ov) rfl (qi (tv) rfl (qi (ii ((k : Int))) rfl (cX (qD k qh qC rfl rfl rfl ht.slv (by omega) (Nat.mul_one _) (cX (qm jj rfl (ht.rd (by omega)) (cX (qx (s := 1) [ii (t.getD k 0)] [ii (0)] [(0, [ii (t.getD k 0)])] qh qC qP rfl (by decide) rfl (.cons rfl CellsAre.nil) rfl ?_)))))))))
    intro v2 hv2
    refine cX (XOp.append1 (u := t.getD k 0) [_] _ qh typeInfo2 rfl rfl rfl rfl rfl rfl (SlV.own [] rfl) (Rd.sl [] rfl rfl) (by (try simp only [List.length_append, List.length_nil, List.length_cons, List.length_singleton, List.length_take, List.length_drop]); omega) ?_)
    intro v3 hs1 hn1
    refine qj (v3) rfl (qf (qd (qi (ii ((k : Int))) rfl (cX (qS (((k + 1 : Nat) : Int)) rfl rfl (by omega) (by omega) (qj (ii (((k + 1 : Nat) : Int))) rfl (qf ?_)))))))
    exact ⟨(k + 1, v3, os ++ [t.getD k 0], G1), _, leG1, rF, ⟨rfl, rfl, rfl, ⟨⟩⟩, (sD (sC sR)), ⟨rfl, leG1, (hs1), (by (try dsimp only) <;> omega), (by (try dsimp only); (try rw [List.length_append]); (try simp only [List.length_singleton]); omega)⟩, (by omega)⟩
   refine qz (qd (qi (ii ((k : Int))) rfl (cX (qS (((k + 1 : Nat) : Int)) rfl rfl (by omega) (by omega) (qj (ii (((k + 1 : Nat) : Int))) rfl (qf ?_))))))
   exact ⟨(k + 1, ov, os, G1), _, leG1, rF, ⟨rfl, rfl, rfl, ⟨⟩⟩, (sC sR), ⟨rfl, leG1, (hov), (by (try dsimp only) <;> omega), (by (try dsimp only); (try rw [List.length_append]); (try simp only [List.length_singleton]); omega)⟩, (by omega)⟩
  refine qp (t := 17) rfl (vF h2) (qp (t := 17) rfl (vF h2) (qp (t := 17) rfl (vF h2) (qp (t := 17) rfl (vF h2) (qp (t := 17) rfl (vF h2) (qp (t := 17) rfl (vF h2) (qp (t := 17) rfl (vF h2) (cX (qM (.bool (false)) (vF h2) rfl (qf (jS rfl ?_))))))))))
  refine qz (qd (qi (ii ((k : Int))) rfl (cX (qS (((k + 1 : Nat) : Int)) rfl rfl (by omega) (by omega) (qj (ii (((k + 1 : Nat) : Int))) rfl (qf ?_))))))
  exact ⟨(k + 1, ov, os, G1), _, leG1, rF, ⟨rfl, rfl, rfl, ⟨⟩⟩, (sC sR), ⟨rfl, leG1, (hov), (by (try dsimp only) <;> omega), (by (try dsimp only); (try rw [List.length_append]); (try simp only [List.length_singleton]); omega)⟩, (by omega)⟩
 refine jn (qA (qA (qV (qg (qd (qi (ov) rfl (qj (ov) rfl (qf (ji [] _ _ rfl (fun F2 le2 hz2 => ?_))))))))))
 have hf2 : IntsF F2 ov os := intsH.fz (xs := os) hz2.fz
 refine qu (qt (L' := L) [ov] (ov) (.tmp rfl .nil) rfl (qc leG1 le2) rF sR ?_)
 exact ⟨⟨_, _, rfl, hf2, by omega⟩, rfl⟩

/- spec.l6DrawRule -/
set_option maxHeartbeats 2000000 in
set_option maxRecDepth 20000 in
theorem l2FilledW_spec {F : FH} {L : List HP} {sv : Value} {s : List (List Int)} (hs : RowsF F sv s) {tv : Value} {t : List Int} (ht : IntsF F tv t) (hsl : s.length ≤ 4000000) (hsb : ∀ i, (s.getD i []).length ≤ 4000000) (htl : t.length ≤ 4000000) (htg : ∀ k, k < t.length → -4000000 ≤ t.getD k 0) :
    Does prog 66 [.agg #[sv], tv] F (L) (fun v F' L' => (∃ (a : Value) (b : Bool), (.tuple #[a, .bool b] : Value) = v ∧ (SomesF F' a (fun u => u.length ≤ 60))) ∧ L = L') :=
  (l2Filled_spec hs ht hsl hsb htl htg).mono (by rintro _ F' L' le ⟨a, rfl, h, rfl⟩; exact ⟨⟨a, _, rfl, ⟨_, h, fill_le60⟩⟩, rfl⟩)

/- spec.l1Min -/
theorem l1Min_spec {F : FH} {L : List HP} {a : Int} {b : Int} :
    Does prog 78 [ii (a), ii (b)] F (L) (fun v F' L' => (ii (min a b) : Value) = v ∧ F = F' ∧ L = L') := by
 refine qL func78 rfl rfl rfl (qg (qd (qj (ii (0)) rfl (qf (qg (qg (qd (qi (ii (a)) rfl (qi (ii (b)) rfl (cX (jb rfl rfl (qf ?_))))))))))))
 refine qH (p := (a : Int) < b) rfl (fun h1 => ?_) (fun h1 => ?_)
 ·refine qg (qd (qi (ii (a)) rfl (qj (ii (a)) rfl (qf (qu (ql (qt (L' := L) [ii (a)] (ii (a)) (.tmp rfl .nil) rfl rF rF sR ?_)))))))
  exact ⟨(vI (by omega)), rfl, rfl⟩
 refine qz (qg (qd (qi (ii (b)) rfl (qj (ii (b)) rfl (qf (qu (qt (L' := L) [ii (b)] (ii (b)) (.tmp rfl .nil) rfl rF rF sR ?_)))))))
 exact ⟨(vI (by omega)), rfl, rfl⟩

/- spec.l1Num -/

/- impl.EqOk -/

/- laws.big -/
theorem big_spec {F : FH} {L : List HP} {bsv : Value} {bs : List Int} (hbs : BytesF F bsv bs) :
    Does prog 4 [bsv] F (L) (fun v F' L' => (.bool (decide ((bs.length : Int) > 4096)) : Value) = v ∧ F = F' ∧ L = L') := by
 refine qL func4 rfl rfl rfl (qg (qd (qj (.bool (false)) rfl (qf (qg (qd (qi (bsv) rfl (cX (qE runUnderlying22 rfl hbs.slv (cX (jF rfl rfl (qj (.bool (decide (((bs.length : Int) : Int) > 4096))) rfl (qf (qu (qt (L' := L) [.bool (decide (((bs.length : Int) : Int) > 4096))] (.bool (decide (((bs.length : Int) : Int) > 4096))) (.tmp rfl .nil) rfl rF rF sR ?_)))))))))))))))
 exact ⟨rfl, rfl, rfl⟩

/- spec.ArgsAt -/
theorem ArgsAt_spec {F : FH} {L : List HP} {arv : Value} {ar : List Int} (har : IntsF F arv ar) {tv : Value} {t : List Int} (ht : IntsF F tv t) {p : Nat} (ho : termOk ar t = true) (hp : p < t.length) :
    Does prog 105 [.agg #[arv], tv, ii ((p : Int))] F (L) (fun v F' L' => F = F' ∧ IsSl v ∧ intsH 2 v (argsL ar t p) :: L = L') := by
 refine qL func105 rfl rfl rfl ?_
 have hsl := sigOk_spec (termOk_sig ho)
 have htl := termOk_len ho
 refine qg (qd (cX (je [arv] rfl rfl ?_)))
 intro b1
 refine qj (sN) rfl (qf (qg (qg (qd (cX (qs [arv] qW qB rfl rfl (Rd.ownN [] rfl rfl) (qi (tv) rfl (cX (qn (args := [.agg #[arv], tv]) call44 rfl (sTermOk_spec har ht (hla := (by first | assumption | rfl | omega | simp)) (hlt := (by first | assumption | rfl | omega | simp))) ?_)))))))))
 rintro _ _ _ _ ⟨rfl, rfl, rfl⟩
 refine cX (jg rfl (qi (.bool (!(termOk ar t))) rfl ?_))
 by_cases h1 : (!(termOk ar t)) = true
 ·exact absurd h1 (by rw [ho]; simp)
 rw [Bool.not_eq_true] at h1
 refine qr (t := 11) rfl (vB h1) (qo (tv) rfl (qr (t := 11) rfl (vB h1) (qo (ii ((p : Int))) rfl (qr (t := 11) rfl (vB h1) (qn (args := [tv, ii ((p : Int))]) call34 rfl (l1There_spec (n := (p : Int)) ht (hbd := (by first | assumption | rfl | omega | simp))) ?_)))))
 rintro _ _ _ _ ⟨rfl, rfl, rfl⟩
 refine qr (t := 11) rfl (vB h1) (XOp.notD rfl (cX (qM (.bool (decide (¬(0 ≤ ((p : Int)) ∧ ((p : Int)) < (t.length : Int))))) (vB h1) rfl (qf ?_))))
 refine qH (p := ¬(0 ≤ ((p : Int)) ∧ ((p : Int)) < (t.length : Int))) rfl (fun h2 => ?_) (fun h2 => ?_)
 ·exact absurd h2 (by simp; omega)
 refine qz (qg (qd (cX (qs [arv] qW qB rfl rfl (Rd.ownN [] rfl rfl) (qi (tv) rfl (qi (ii ((p : Int))) rfl (cX (qn (args := [.agg #[arv], tv, ii (p : Int)]) call108 rfl (l1Args_spec (p := p) har ht (ho := (by first | assumption | rfl | omega | simp)) (hp := (by first | assumption | rfl | omega | simp))) ?_))))))))
 rintro v1 _ _ _ ⟨rfl, hs1, rfl⟩
 refine qj (v1) rfl (qf (qu (qt (L' := intsH 2 v1 ((argsL ar t p)) :: L) [v1] (v1) (.tmp rfl .nil) rfl rF rF (sC (sD sR)) ?_)))
 refine ⟨rfl, hs1, ?_⟩
 have hxs : (argsL ar t p : List Int) = (argsL ar t p) := rfl
 exact congrArg (fun z => intsH 2 _ z :: L) hxs

/- spec.SubAt -/
theorem sSubAtO_spec {F : FH} {L : List HP} {arv : Value} {ar : List Int} (har : IntsF F arv ar) {tv : Value} {t : List Int} (ht : IntsF F tv t) {p : Nat} (ho : termOk ar t = true) (hp : p < t.length) :
    Does prog 106 [.agg #[arv], tv, ii ((p : Int))] F (L) (fun v F' L' => ∃ (a : Value), (a : Value) = v ∧ (IntsF F' a (sub ar t p)) ∧ L = L') := by
 refine qL func106 rfl rfl rfl ?_
 have hsl := sigOk_spec (termOk_sig ho)
 have htl := termOk_len ho
 refine qg (qd (cX (je [arv] rfl rfl ?_)))
 intro b1
 refine qj (sN) rfl (qf (qg (qg (qd (cX (qs [arv] qW qB rfl rfl (Rd.ownN [] rfl rfl) (qi (tv) rfl (cX (qn (args := [.agg #[arv], tv]) call44 rfl (sTermOk_spec har ht (hla := (by first | assumption | rfl | omega | simp)) (hlt := (by first | assumption | rfl | omega | simp))) ?_)))))))))
 rintro _ _ _ _ ⟨rfl, rfl, rfl⟩
 refine cX (jg rfl (qi (.bool (!(termOk ar t))) rfl ?_))
 by_cases h1 : (!(termOk ar t)) = true
 ·exact absurd h1 (by rw [ho]; simp)
 rw [Bool.not_eq_true] at h1
 refine qr (t := 11) rfl (vB h1) (qo (tv) rfl (qr (t := 11) rfl (vB h1) (qo (ii ((p : Int))) rfl (qr (t := 11) rfl (vB h1) (qn (args := [tv, ii ((p : Int))]) call34 rfl (l1There_spec (n := (p : Int)) ht (hbd := (by first | assumption | rfl | omega | simp))) ?_)))))
 rintro _ _ _ _ ⟨rfl, rfl, rfl⟩
 refine qr (t := 11) rfl (vB h1) (XOp.notD rfl (cX (qM (.bool (decide (¬(0 ≤ ((p : Int)) ∧ ((p : Int)) < (t.length : Int))))) (vB h1) rfl (qf ?_))))
 refine qH (p := ¬(0 ≤ ((p : Int)) ∧ ((p : Int)) < (t.length : Int))) rfl (fun h2 => ?_) (fun h2 => ?_)
 ·exact absurd h2 (by simp; omega)
 refine qz (qg (qd (cX (qs [arv] qW qB rfl rfl (Rd.ownN [] rfl rfl) (qi (tv) rfl (qi (ii ((p : Int))) rfl (cX (jR <| qn (args := [.agg #[arv], tv, ii (p : Int)]) call65 rfl (l1Sub_spec (p := p) har ht (ho := (by first | assumption | rfl | omega | simp)) (hp := (by first | assumption | rfl | omega | simp))) ?_))))))))
 rintro v1 _ _ _ ⟨rfl, hs1, rfl⟩
 refine ⟨_, _, rfl, fun F1 le1 hz1 => ?_⟩
 have hf1 : IntsF F1 v1 ((sub ar t p)) := intsH.fz (xs := (sub ar t p)) hz1.fz
 refine qj (v1) rfl (qf (qu (qt (L' := L) [v1] (v1) (.tmp rfl .nil) rfl le1 rF (sD sR) ?_)))
 exact ⟨_, rfl, hf1, rfl⟩

/- spec.l3Put -/
theorem l3PutH_spec {F : FH} {L : List HP} {arv : Value} {ar : List Int} (har : IntsF F arv ar) {tv : Value} {t : List Int} (ht : IntsF F tv t) {p : Nat} {uv : Value} {u : List Int} (hu : IntsF F uv u) (ho : termOk ar t = true) (hp : p < t.length) (hul : u.length ≤ 4000000) :
    Does prog 67 [.agg #[arv], tv, ii ((p : Int)), uv] F (L) (fun v F' L' => ∃ (a : Value), (.tuple #[a, .bool ((putL ar t p u).isSome)] : Value) = v ∧ (IntsF F' a ((putL ar t p u).getD [])) ∧ (Fresh F F' (intsH 2 a ((putL ar t p u).getD []))) ∧ L = L') := by
 refine qL func67 rfl rfl rfl ?_
 have hsig := termOk_sig ho
 have hsl := sigOk_spec hsig
 have htl := termOk_len ho
 have hee := endN_spec ho hp
 refine qg (qd (cX (je [arv] rfl rfl ?_)))
 intro b1
 refine qj (sN) rfl (qj (.bool (false)) rfl (qf (qg (qd (qi (tv) rfl (qi (ii ((p : Int))) rfl (cX (XOp.sliceI 0 p qh qC rfl ht rfl ⟨_, rfl⟩ (by omega) (by omega) ?_))))))))
 intro v1 hv1 hn1
 refine cX (qn (args := [v1]) call31 rfl (l1Copy_spec hv1 (hlt := (by simp; omega))) ?_)
 rintro v2 _ _ _ ⟨rfl, hs1, rfl⟩
 refine qi (uv) rfl (cX (yd [] _ qh typeInfo2 rfl rfl rfl rfl rfl rfl hu (by (try simp only [List.length_append, List.length_nil, List.length_cons, List.length_singleton, List.length_take, List.length_drop]); omega) ?_))
 intro v3 hs2 hn2 hm1
 refine qj (v3) rfl (qf (qg (qd (qi (v3) rfl (qi (tv) rfl (cX (qs [arv] qW qB rfl rfl (Rd.ownN [_] rfl rfl) (qi (tv) rfl (qi (ii ((p : Int))) rfl (cX (qn (args := [.agg #[arv], tv, ii (p : Int)]) call50 rfl (l1End_ok (p := p) har ht (ho := (by first | assumption | rfl | omega | (left; simp; done) | (right; simp; done))) (hp := (by first | assumption | rfl | omega | (left; simp; done) | (right; simp; done)))) ?_)))))))))))
 rintro _ _ _ _ ⟨rfl, rfl, rfl⟩
 refine cX (XOp.sliceI (endN ar t p) ((t).length) qh qC rfl ht ⟨_, rfl⟩ rfl (by omega) (by omega) ?_)
 intro v4 hv2 hn3
 refine cX (yd [] _ qh typeInfo2 rfl rfl rfl rfl rfl rfl hv2 (by (try simp only [List.length_append, List.length_nil, List.length_cons, List.length_singleton, List.length_take, List.length_drop]); omega) ?_)
 intro v5 hs3 hn4 hm2
 refine qj (v5) rfl (qf (qg (qg (qd (qi (v5) rfl (cX (qE qh rfl (intsH.slv [] rfl) (cX (jF rfl rfl (qf ?_))))))))))
 refine qH (p := ((((((((((t.drop 0).take (p - 0))))) ++ u) ++ (((t.drop (endN ar t p)).take (((t).length) - (endN ar t p))))).length : Nat) : Int) : Int) > 60) rfl (fun h1 => ?_) (fun h1 => ?_)
 ·refine qg (qd (cX (qx (s := 1) [] [ii (0)] [] qh qC qP rfl (by decide) rfl CellsAre.nil rfl ?_)))
  intro v6 hv3
  refine qj (v6) rfl (qj (.bool (false)) rfl (qf ?_))
  show X _ _ _ _ _ _ (intsH 2 v6 ([] : List Int) :: intsH 2 v5 (((((((t.drop 0).take (p - 0))))) ++ u) ++ (((t.drop (endN ar t p)).take (((t).length) - (endN ar t p))))) :: cellsH b1 [arv] 26 :: L)
  refine ji [] _ _ rfl (fun F1 le1 hz1 => ?_)
  have hf1 : IntsF F1 v6 ([]) := intsH.fz (xs := []) hz1.fz
  refine qu (ql (qt (L' := L) [v6, .bool (false)] (.tuple #[v6, .bool (false)]) (.tmp rfl (.tmp rfl .nil)) rfl le1 rF (sD (sD sR)) ?_))
  have hz : putL ar t p u = none := putL_none put_three (by omega)
  exact ⟨_, by rw [hz]; rfl, by rw [hz]; exact hf1, by rw [hz]; exact hz1, rfl⟩
 refine qz (qg (qd (qi (v5) rfl (qj (v5) rfl (qj (.bool (true)) rfl (qf (ji [] _ _ rfl (fun F2 le2 hz2 => ?_))))))))
 have hf2 : IntsF F2 v5 (((((((t.drop 0).take (p - 0))))) ++ u) ++ (((t.drop (endN ar t p)).take (((t).length) - (endN ar t p))))) := intsH.fz (xs := ((((((t.drop 0).take (p - 0))))) ++ u) ++ (((t.drop (endN ar t p)).take (((t).length) - (endN ar t p))))) hz2.fz
 refine qu (qt (L' := L) [v5, .bool (true)] (.tuple #[v5, .bool (true)]) (.tmp rfl (.tmp rfl .nil)) rfl le2 rF (sD sR) ?_)
 have hz := putL_some (ar := ar) (t := t) (p := p) (u := u) put_three (by omega)
 exact ⟨_, by rw [hz]; rfl, by rw [hz]; exact hf2, by rw [hz]; exact hz2, rfl⟩

/- spec.l7Step -/
set_option maxHeartbeats 1000000 in
set_option maxRecDepth 20000 in
theorem l20Match_spec_step {n : Nat} (ih : ∀ m : Nat, m < n → ∀ {F : FH} {L : List HP}  {arv : Value} {ar : List Int} (har : IntsF F arv ar) {gv : Value} {g : List (List Int)} (hg : RowsF F gv g) {pv : Value} {p : List Int} (hp : IntsF F pv p) {tv : Value} {t : List Int} (ht : IntsF F tv t) (hn : p.length ≤ m) (hop : termOk ar p = true) (hot : termOk ar t = true) (hgl : g.length = 24), Does prog 97 [.agg #[arv], gv, pv, tv] F L (fun v F' L' => (∃ (a : Value), (.tuple #[a, .bool ((mGo ar t p 0 g).isSome)] : Value) = v ∧ (SomeRowsF F' a (fun g2 => g2.length = 24 ∧ ∀ x, mGo ar t p 0 g = some x → g2 = x))) ∧ L = L')) {F : FH} {L : List HP}  {arv : Value} {ar : List Int} (har : IntsF F arv ar) {gv : Value} {g : List (List Int)} (hg : RowsF F gv g) {pv : Value} {p : List Int} (hp : IntsF F pv p) {tv : Value} {t : List Int} (ht : IntsF F tv t) (hn : p.length ≤ n) (hop : termOk ar p = true) (hot : termOk ar t = true) (hgl : g.length = 24) :
    Does prog 97 [.agg #[arv], gv, pv, tv] F (L) (fun v F' L' => (∃ (a : Value), (.tuple #[a, .bool ((mGo ar t p 0 g).isSome)] : Value) = v ∧ (SomeRowsF F' a (fun g2 => g2.length = 24 ∧ ∀ x, mGo ar t p 0 g = some x → g2 = x))) ∧ L = L') := by
 refine qL func97 rfl rfl rfl ?_
 have hpl := termOk_len hop
 have htl := termOk_len hot
 have hp0 := termOk_ge hop (p := 0) (by omega)
 have hal3 := argsL_le hop (p := 0) (by omega)
 have hap : (([] : List (List Int)) ++ g).length = g.length := rfl
 refine qg (qd (cX (je [arv] rfl rfl ?_)))
 intro b1
 refine qj (sN) rfl (qj (.bool (false)) rfl (qf (qg (qg (qd (qi (pv) rfl (cX (qE qh rfl hp.slv (cX (jD rfl rfl (qi (.bool (decide (((p.length : Int) : Int) = 0))) rfl ?_)))))))))))
 by_cases h1 : ((p.length : Int) : Int) = 0
 ·omega
 refine qr (t := 20) rfl (vF h1) (qo (tv) rfl (qr (t := 20) rfl (vF h1) (qE qh rfl ht.slv (qr (t := 20) rfl (vF h1) (jD rfl rfl (cX (qM (.bool (decide (((t.length : Int) : Int) = 0))) (vF h1) rfl (qf ?_))))))))
 refine qH (p := ((t.length : Int) : Int) = 0) rfl (fun h2 => ?_) (fun h2 => ?_)
 ·omega
 refine qz (qg (qg (qd (qi (pv) rfl (cX (qD 0 qh qC rfl rfl rfl hp.slv (by omega) (Nat.mul_one _) (cX (qm jj rfl (hp.rd (by omega)) (cX (jb rfl rfl (qf ?_)))))))))))
 refine qH (p := (p.getD 0 0 : Int) < 0) rfl (fun h3 => ?_) (fun h3 => ?_)
 ·refine qg (qd (qi (pv) rfl (cX (qD 0 qh qC rfl rfl rfl hp.slv (by omega) (Nat.mul_one _) (cX (qm jj rfl (hp.rd (by omega)) (cX (jl ((-1) - (p.getD 0 0)) rfl rfl (by omega) (by omega) (qj (ii ((-1) - (p.getD 0 0))) rfl (qf (qg (qg (qd (qi (gv) rfl (qi (ii ((-1) - (p.getD 0 0))) rfl (cX (qD (((-1) - (p.getD 0 0)).toNat) ja qy rfl rfl (by omega) hg.slv (by omega) (Nat.mul_one _) ?_)))))))))))))))))
  obtain ⟨a1, ha1, hr1⟩ := hg.rd (i := ((-1) - (p.getD 0 0)).toNat) (by omega)
  refine cX (qm qX rfl (hr1 _) (cX (qE qh rfl ha1.slv (cX (jF rfl rfl (qf ?_))))))
  refine qH (p := (((((g.getD (((-1) - (p.getD 0 0)).toNat) [])).length : Nat) : Int) : Int) > 0) rfl (fun h4 => ?_) (fun h4 => ?_)
  ·refine qg (qd ?_)
   have hnz : 0 < (g.getD (varIx (p.getD 0 0)) []).length := by unfold varIx; omega
   refine qi (gv) rfl (qi (gv) rfl (qi (ii ((-1) - (p.getD 0 0))) rfl (cX (qD (((-1) - (p.getD 0 0)).toNat) ja qy rfl rfl (by omega) hg.slv (by omega) (Nat.mul_one _) (cX (qm qX rfl (hr1 _) (qi (tv) rfl (cX (qn (args := [a1, tv]) call10 rfl (SameTerm_spec ha1 ht (hbd := (by first | assumption | rfl | omega | (left; simp; done) | (right; simp; done)))) ?_)))))))))
   rintro _ _ _ _ ⟨rfl, rfl, rfl⟩
   refine qj (gv) rfl (qj (.bool (decide (((g.getD (((-1) - (p.getD 0 0)).toNat) [])) = t))) rfl (qf (qu (ql (ql (qt (L' := L) [gv, .bool (decide (((g.getD (((-1) - (p.getD 0 0)).toNat) [])) = t))] (.tuple #[gv, .bool (decide (((g.getD (((-1) - (p.getD 0 0)).toNat) [])) = t))]) (.tmp rfl (.tmp rfl .nil)) rfl rF rF (sD sR) ?_))))))
   have e : mGo ar t p 0 g = if g.getD (varIx (p.getD 0 0)) [] = t then some g else none := by rw [mGo_var hop hot (by omega), if_neg (fun q => by rw [q] at hnz; simp at hnz)]
   exact ⟨⟨_, by rw [e]; split <;> simp_all [varIx], ⟨_, hg, hgl, fun x hx => (by rw [e] at hx; split at hx <;> first | exact Option.some.inj hx | cases hx)⟩⟩, rfl⟩
  refine qz (qg (qd (cX (qx (s := 1) [] [sN] [] ja qy zeroValue24 rfl (by decide) rfl CellsAre.nil rfl ?_))))
  intro v1 hv1
  refine qi (gv) rfl ?_
  have hc1 : RowsC F [] ([] : List (List Int)) := (CO.nil : RowsC F [] [])
  refine cX (XOp.appendRows (bytes := 24) (cs := []) [] _ ja typeInfo24 rfl rfl rfl rfl rfl rfl rfl hc1 hg (by omega) (by omega) ?_)
  intro v2 ds1 hs1 hc2
  refine qj (v2) rfl (qf (qg (qd (qi (v2) rfl (qi (ii ((-1) - (p.getD 0 0))) rfl (qi (tv) rfl (cX (qD (((-1) - (p.getD 0 0)).toNat) ja qy rfl rfl (by omega) (SlV.own [] rfl) (by omega) (Nat.mul_one _) (cX (XOp.storeS (i := ((-1) - (p.getD 0 0)).toNat) (cs := ([] ++ ds1)) [] _ qy rfl rfl (qJ (qv ht)) rfl (by have h9 := CO.len hc2; (try simp only [List.length_set, List.length_replicate] at h9 ⊢) <;> omega) ?_))))))))))
  have hc3 := hc2.set (((-1) - (p.getD 0 0)).toNat) ht
  refine qf (qg (qd (qi (v2) rfl (qj (v2) rfl (qj (.bool (true)) rfl (qf (ji [] _ _ rfl (fun F1 le1 hz1 => ?_))))))))
  replace har := har.mono le1
  replace hg := hg.mono le1
  replace hp := hp.mono le1
  replace ht := ht.mono le1
  replace hc3 := hc3.mono le1
  have hf1 : RowsF F1 v2 ((((([] : List (List Int)) ++ g)).set (((-1) - (p.getD 0 0)).toNat) t)) := CO.fz hc3 (by first | rfl | omega | (rw [List.length_set]; omega) | (simp; done)) hz1.fz
  refine qu (ql (qt (L' := L) [v2, .bool (true)] (.tuple #[v2, .bool (true)]) (.tmp rfl (.tmp rfl .nil)) rfl le1 rF (sD sR) ?_))
  have e : mGo ar t p 0 g = some (g.set (varIx (p.getD 0 0)) t) := by rw [mGo_var hop hot (by omega), if_pos (show g.getD (varIx (p.getD 0 0)) [] = [] from len_nil (by unfold varIx; omega))]
  exact ⟨⟨_, by rw [e]; rfl, ⟨_, hf1, by simp; omega, fun x hx => (by rw [e] at hx; exact Option.some.inj hx)⟩⟩, rfl⟩
 refine qz (qg (qg ?_))
 refine X.draw [cellsH b1 [arv] 26] L 6 [] [[], [0], [1], [], [3], [4]] (phiL [qe pv, qe (.pointer (some (elemA pv (0)))), qe (ii (p.getD 0 0)), qe tv, qe (.pointer (some (elemA tv (0)))), qe (ii (t.getD 0 0))]) (ownL []) mixed rfl rfl (by kernel_rfl) ?_ ?_
 ·refine pD (fun W R z9 => ?_) ?_
  ·refine qk (qo (pv) rfl ?_)
   exact ⟨rfl, rfl, rfl⟩
  refine pD (fun W R z9 => ?_) ?_
  ·rw [zA 0 (z9 0 rfl)]
   refine qk (qD 0 qh qC rfl rfl rfl hp.slv (by omega) (Nat.mul_one _) ?_)
   exact ⟨rfl, rfl, rfl⟩
  refine pD (fun W R z9 => ?_) ?_
  ·rw [zA 1 (z9 1 rfl)]
   refine qk (qm jj rfl (hp.rd (by omega)) ?_)
   exact ⟨rfl, rfl, rfl⟩
  refine pD (fun W R z9 => ?_) ?_
  ·refine qk (qo (tv) rfl ?_)
   exact ⟨rfl, rfl, rfl⟩
  refine pD (fun W R z9 => ?_) ?_
  ·rw [zA 3 (z9 3 rfl)]
   refine qk (qD 0 qh qC rfl rfl rfl ht.slv (by omega) (Nat.mul_one _) ?_)
   exact ⟨rfl, rfl, rfl⟩
  refine pD (fun W R z9 => ?_) ?_
  ·rw [zA 4 (z9 4 rfl)]
   refine qk (qm jj rfl (ht.rd (by omega)) ?_)
   exact ⟨rfl, rfl, rfl⟩
  exact stepsP.nil
 intro W hphi
 rw [zB 2 5 (hphi 2 (by decide)) (hphi 5 (by decide))]
 show XL _ _ _ _ _ _ _ (cellsH b1 [arv] 26 :: L)
 refine cX (XOp.neq rfl rfl (qf ?_))
 refine qH (p := (p.getD 0 0 : Int) ≠ t.getD 0 0) rfl (fun h5 => ?_) (fun h5 => ?_)
 ·have hd : ¬ p.getD 0 0 = t.getD 0 0 := h5
  refine qg (qd (qi (gv) rfl (qj (gv) rfl (qj (.bool (false)) rfl (qf (qu (ql (qt (L' := L) [gv, .bool (false)] (.tuple #[gv, .bool (false)]) (.tmp rfl (.tmp rfl .nil)) rfl rF rF (sD sR) ?_))))))))
  have e : mGo ar t p 0 g = none := mGo_symN hop (by omega) hd
  exact ⟨⟨_, by rw [e]; rfl, ⟨_, hg, by omega, fun x hx => (by rw [e] at hx; cases hx)⟩⟩, rfl⟩
 have hd0 : p.getD 0 0 = t.getD 0 0 := Classical.not_not.1 h5
 have hll : (argsL ar p 0).length = (argsL ar t 0).length := by rw [argsL_len, argsL_len, hd0]
 refine qz (qg (qd (cX (qs [arv] qW qB rfl rfl (Rd.ownN [] rfl rfl) (qi (pv) rfl (cX (jR <| qn (args := [.agg #[arv], pv, ii ((0 : Nat) : Int)]) call105 rfl (ArgsAt_spec (p := 0) har hp (ho := (by first | assumption | rfl | omega | simp)) (hp := (by first | assumption | rfl | omega | simp))) ?_)))))))
 rintro v3 _ _ _ ⟨rfl, hs2, rfl⟩
 refine ⟨_, _, rfl, fun F2 le2 hz2 => ?_⟩
 replace har := har.mono le2
 replace hg := hg.mono le2
 replace hp := hp.mono le2
 replace ht := ht.mono le2
 have hf2 : IntsF F2 v3 ((argsL ar p 0)) := intsH.fz (xs := (argsL ar p 0)) hz2.fz
 refine qj (v3) rfl (qf (qg (qd (cX (qs [arv] qW qB rfl rfl (Rd.ownN [] rfl rfl) (qi (tv) rfl (cX (jR <| qn (args := [.agg #[arv], tv, ii ((0 : Nat) : Int)]) call105 rfl (ArgsAt_spec (p := 0) har ht (ho := (by first | assumption | rfl | omega | simp)) (hp := (by first | assumption | rfl | omega | simp))) ?_))))))))
 rintro v4 _ _ _ ⟨rfl, hs3, rfl⟩
 refine ⟨_, _, rfl, fun F3 le3 hz3 => ?_⟩
 replace har := har.mono le3
 replace hg := hg.mono le3
 replace hp := hp.mono le3
 replace ht := ht.mono le3
 replace hf2 := hf2.mono le3
 have hf3 : IntsF F3 v4 ((argsL ar t 0)) := intsH.fz (xs := (argsL ar t 0)) hz3.fz
 refine qj (v4) rfl (qf (qg (qg (qd (qj (ii (0)) rfl (qf (qQ (jr (α := Nat × Nat × Nat × Nat × Value × List (List Int) × FH) (fun xQ => [(1, xQ.2.2.2.2.1), (2, pv), (3, tv), (4, ptr b1 0), (12, v3), (13, v4), (14, ii (((xQ.1 : Nat) : Int)))]) (fun xQ => cellsH b1 [arv] 26 :: L) (fun xQ F' => xQ.2.2.2.2.2.2 = F' ∧ F3 ≤ xQ.2.2.2.2.2.2 ∧ (RowsF xQ.2.2.2.2.2.2 xQ.2.2.2.2.1 xQ.2.2.2.2.2.1) ∧ (xQ.2.2.2.2.2.1.length = 24) ∧ (ArgAt ar p xQ.1 xQ.2.1 xQ.2.2.1) ∧ (ArgAt ar t xQ.1 xQ.2.1 xQ.2.2.2.1) ∧ (xQ.2.1 + xQ.1 = (argsL ar p 0).length) ∧ (1 ≤ xQ.2.2.1) ∧ (mGo ar t p 0 g = mGo ar t (p.drop xQ.2.2.1) xQ.2.2.2.1 xQ.2.2.2.2.2.1)) (fun xQ => (argsL ar p 0).length - xQ.1) (0, (argsL ar p 0).length, 1, 1, gv, g, F3) ⟨rfl, rfl, rfl, rfl, rfl, rfl, rfl, ⟨⟩⟩ (sC sR) ⟨rfl, FLe.refl _, (hg), (hgl), (ArgAt.start hop), (by rw [hll]; exact ArgAt.start hot), (rfl), (Nat.le_refl _), (mGo_symS hop hot (by omega) hd0)⟩ ?_))))))))
 rintro ⟨k, m, qa, qb, gv2, gs, G1⟩ rE _ _ ⟨rfl, leG, hgv, hgn, hA, hB, hkm, hqa1, hgo⟩
 show X _ _ _ _ (envs [(1, gv2), (2, pv), (3, tv), (4, ptr b1 0), (12, v3), (13, v4), (14, ii ((k : Int)))] rE) _ (cellsH b1 [arv] 26 :: L)
 replace leG : F3 ≤ G1 := leG
 dsimp only at hgv hgn hA hB hkm hqa1 hgo
 have hxa := fun (h : 1 ≤ m) => ArgAt.next hop (m := m - 1) (by rw [Nat.sub_add_cancel h]; exact hA)
 have hxb := fun (h : 1 ≤ m) => ArgAt.next hot (m := m - 1) (by rw [Nat.sub_add_cancel h]; exact hB)
 have hsa := fun (h : 1 ≤ m) => sub_ok hop (hxa h).2.1
 have hsb := fun (h : 1 ≤ m) => sub_ok hot (hxb h).2.1
 have leG1 := leG
 replace har := har.mono leG1
 replace hp := hp.mono leG1
 replace ht := ht.mono leG1
 replace hf2 := hf2.mono leG1
 replace hf3 := hf3.mono leG1
 refine qg (qg (qd (qi (ii ((k : Int))) rfl (qi (v3) rfl (cX (qE qh rfl hf2.slv (cX (jb rfl rfl (qf ?_)))))))))
 refine qH (p := (k : Int) < ((((argsL ar p 0)).length : Nat) : Int)) rfl (fun h6 => ?_) (fun h6 => ?_)
 ·have h1m : 1 ≤ m := by omega
  have hq1 : ((argsL ar p 0).getD k 0).toNat = qa := by have h9 := (hxa h1m).1; omega
  have hq2 : ((argsL ar t 0).getD k 0).toNat = qb := by have h9 := (hxb h1m).1; omega
  have hq3 : 0 ≤ (argsL ar p 0).getD k 0 := by have h9 := (hxa h1m).1; omega
  have hq4 : 0 ≤ (argsL ar t 0).getD k 0 := by have h9 := (hxb h1m).1; omega
  have hq5 : ((argsL ar p 0).getD k 0).toNat < p.length := by rw [hq1]; exact (hxa h1m).2.1
  have hq6 : ((argsL ar t 0).getD k 0).toNat < t.length := by rw [hq2]; exact (hxb h1m).2.1
  have hq7 : (sub ar p ((argsL ar p 0).getD k 0).toNat).length < p.length := by rw [hq1]; exact argAt_less hop (hxa h1m).2.1 hqa1
  have hq8 : termOk ar (sub ar p ((argsL ar p 0).getD k 0).toNat) = true := sub_ok hop hq5
  have hq9 : termOk ar (sub ar t ((argsL ar t 0).getD k 0).toNat) = true := sub_ok hot hq6
  refine qz (qg (qQ (qg ?_)))
  refine jG [cellsH b1 [arv] 26] L 21 [[], [], [], [], [], [], [], [], [], [], [], [], [], [], [], [], [], [16], [16], [], [16]] [[], [], [], [], [], [], [4, 5], [6], [2, 3, 7], [], [], [], [], [11, 12], [13], [9, 10, 14], [0, 1, 8, 15], [16], [16, 17], [16, 17], [16, 18]] [] (phiG [pe (.agg #[arv]), pe gv2, pe (.agg #[arv]), pe pv, pe v3, pe (ii ((k : Int)) : Value), pe (.pointer (some (elemA v3 (k)))), pe (ii (((argsL ar p 0)).getD k 0)), fun FF us v => ((v) : Value) = v ∧ (IntsF FF (v) (sub ar p ((((argsL ar p 0)).getD k 0).toNat))), pe (.agg #[arv]), pe tv, pe v4, pe (ii ((k : Int)) : Value), pe (.pointer (some (elemA v4 (k)))), pe (ii (((argsL ar t 0)).getD k 0)), fun FF us v => ((v) : Value) = v ∧ (IntsF FF (v) (sub ar t ((((argsL ar t 0)).getD k 0).toNat))), fun FF us v => (.tuple #[((tupAt v 0)), .bool ((mGo ar (sub ar t ((((argsL ar t 0)).getD k 0).toNat)) (sub ar p ((((argsL ar p 0)).getD k 0).toNat)) 0 gs).isSome)] : Value) = v ∧ (SomeRowsF FF ((tupAt v 0)) (fun g2 => g2.length = 24 ∧ ∀ x, mGo ar (sub ar t ((((argsL ar t 0)).getD k 0).toNat)) (sub ar p ((((argsL ar p 0)).getD k 0).toNat)) 0 gs = some x → g2 = x)), fun FF us v => v = (.tuple #[((tupAt (us.getD 0 undef) 0)), .bool ((mGo ar (sub ar t ((((argsL ar t 0)).getD k 0).toNat)) (sub ar p ((((argsL ar p 0)).getD k 0).toNat)) 0 gs).isSome)] : Value), fun FF us v => v = ((tupAt (us.getD 0 undef) 0)), pe (.bool ((mGo ar (sub ar t ((((argsL ar t 0)).getD k 0).toNat)) (sub ar p ((((argsL ar p 0)).getD k 0).toNat)) 0 gs).isSome)), fun FF us v => v = ((tupAt (us.getD 0 undef) 0))]) (ownL []) mixed rfl rfl (by kernel_rfl) (by kernel_rfl) (MonoG.get (m1 (m1 (m1 (m1 (m1 (m1 (m1 (m1 (mC (fun le h => ⟨h.1, h.2.mono le⟩) (m1 (m1 (m1 (m1 (m1 (m1 (mC (fun le h => ⟨h.1, h.2.mono le⟩) (mC (fun le h => ⟨h.1, h.2.mono le⟩) (mC (fun le h => h) (mC (fun le h => h) (m1 (mC (fun le h => h) MonoG.nil)))))))))))))))))))))) ?_ ?_
  ·refine gD (fun W Fs R lF z9 => ?_) ?_
   ·replace har := har.mono lF
    replace hp := hp.mono lF
    replace ht := ht.mono lF
    replace hf2 := hf2.mono lF
    replace hf3 := hf3.mono lF
    replace hgv := hgv.mono lF
    refine qk (qs [arv] qW qB rfl rfl (Rd.ownN [] rfl rfl) ?_)
    exact ⟨rfl, rfl⟩
   refine gD (fun W Fs R lF z9 => ?_) ?_
   ·refine qk (qo (gv2) rfl ?_)
    exact ⟨rfl, rfl⟩
   refine gD (fun W Fs R lF z9 => ?_) ?_
   ·replace har := har.mono lF
    replace hp := hp.mono lF
    replace ht := ht.mono lF
    replace hf2 := hf2.mono lF
    replace hf3 := hf3.mono lF
    replace hgv := hgv.mono lF
    refine qk (qs [arv] qW qB rfl rfl (Rd.ownN [] rfl rfl) ?_)
    exact ⟨rfl, rfl⟩
   refine gD (fun W Fs R lF z9 => ?_) ?_
   ·refine qk (qo (pv) rfl ?_)
    exact ⟨rfl, rfl⟩
   refine gD (fun W Fs R lF z9 => ?_) ?_
   ·refine qk (qo (v3) rfl ?_)
    exact ⟨rfl, rfl⟩
   refine gD (fun W Fs R lF z9 => ?_) ?_
   ·refine qk (qo (ii ((k : Int))) rfl ?_)
    exact ⟨rfl, rfl⟩
   refine gD (fun W Fs R lF z9 => ?_) ?_
   ·replace har := har.mono lF
    replace hp := hp.mono lF
    replace ht := ht.mono lF
    replace hf2 := hf2.mono lF
    replace hf3 := hf3.mono lF
    replace hgv := hgv.mono lF
    rw [zB 4 5 (z9 4 rfl) (z9 5 rfl)]
    refine qk (qD k qh qC rfl rfl rfl hf2.slv (by omega) (Nat.mul_one _) ?_)
    exact ⟨rfl, rfl⟩
   refine gD (fun W Fs R lF z9 => ?_) ?_
   ·replace har := har.mono lF
    replace hp := hp.mono lF
    replace ht := ht.mono lF
    replace hf2 := hf2.mono lF
    replace hf3 := hf3.mono lF
    replace hgv := hgv.mono lF
    rw [zA 6 (z9 6 rfl)]
    refine qk (qm jj rfl (hf2.rd (by omega)) ?_)
    exact ⟨rfl, rfl⟩
   refine gD (fun W Fs R lF z9 => ?_) ?_
   ·replace har := har.mono lF
    replace hp := hp.mono lF
    replace ht := ht.mono lF
    replace hf3 := hf3.mono lF
    replace hgv := hgv.mono lF
    rw [eS (l := [(2, _), (3, _), (7, _)]) ⟨z9 2 rfl, z9 3 rfl, z9 7 rfl, ⟨⟩⟩]
    refine qk (qn (args := [.agg #[arv], pv, ii (((((argsL ar p 0)).getD k 0).toNat : Nat) : Int)]) call106 (by rw [show (((((argsL ar p 0)).getD k 0).toNat : Nat) : Int) = ((argsL ar p 0)).getD k 0 from by omega]; rfl) (sSubAtO_spec (p := (((argsL ar p 0)).getD k 0).toNat) har hp (ho := (by first | assumption | rfl | omega | simp)) (hp := (by first | assumption | rfl | omega | simp))) ?_)
    rintro _ F7 _ le7 ⟨x4, rfl, hr5, rfl⟩
    replace har := har.mono le7
    replace hp := hp.mono le7
    replace ht := ht.mono le7
    replace hf3 := hf3.mono le7
    replace hgv := hgv.mono le7
    exact ⟨⟨rfl, hr5⟩, rfl⟩
   refine gD (fun W Fs R lF z9 => ?_) ?_
   ·replace har := har.mono lF
    replace hp := hp.mono lF
    replace ht := ht.mono lF
    replace hf3 := hf3.mono lF
    replace hgv := hgv.mono lF
    refine qk (qs [arv] qW qB rfl rfl (Rd.ownN [] rfl rfl) ?_)
    exact ⟨rfl, rfl⟩
   refine gD (fun W Fs R lF z9 => ?_) ?_
   ·refine qk (qo (tv) rfl ?_)
    exact ⟨rfl, rfl⟩
   refine gD (fun W Fs R lF z9 => ?_) ?_
   ·refine qk (qo (v4) rfl ?_)
    exact ⟨rfl, rfl⟩
   refine gD (fun W Fs R lF z9 => ?_) ?_
   ·refine qk (qo (ii ((k : Int))) rfl ?_)
    exact ⟨rfl, rfl⟩
   refine gD (fun W Fs R lF z9 => ?_) ?_
   ·replace har := har.mono lF
    replace hp := hp.mono lF
    replace ht := ht.mono lF
    replace hf3 := hf3.mono lF
    replace hgv := hgv.mono lF
    rw [zB 11 12 (z9 11 rfl) (z9 12 rfl)]
    refine qk (qD k qh qC rfl rfl rfl hf3.slv (by omega) (Nat.mul_one _) ?_)
    exact ⟨rfl, rfl⟩
   refine gD (fun W Fs R lF z9 => ?_) ?_
   ·replace har := har.mono lF
    replace hp := hp.mono lF
    replace ht := ht.mono lF
    replace hf3 := hf3.mono lF
    replace hgv := hgv.mono lF
    rw [zA 13 (z9 13 rfl)]
    refine qk (qm jj rfl (hf3.rd (by omega)) ?_)
    exact ⟨rfl, rfl⟩
   refine gD (fun W Fs R lF z9 => ?_) ?_
   ·replace har := har.mono lF
    replace hp := hp.mono lF
    replace ht := ht.mono lF
    replace hgv := hgv.mono lF
    rw [eS (l := [(9, _), (10, _), (14, _)]) ⟨z9 9 rfl, z9 10 rfl, z9 14 rfl, ⟨⟩⟩]
    refine qk (qn (args := [.agg #[arv], tv, ii (((((argsL ar t 0)).getD k 0).toNat : Nat) : Int)]) call106 (by rw [show (((((argsL ar t 0)).getD k 0).toNat : Nat) : Int) = ((argsL ar t 0)).getD k 0 from by omega]; rfl) (sSubAtO_spec (p := (((argsL ar t 0)).getD k 0).toNat) har ht (ho := (by first | assumption | rfl | omega | simp)) (hp := (by first | assumption | rfl | omega | simp))) ?_)
    rintro _ F8 _ le8 ⟨x5, rfl, hr6, rfl⟩
    replace har := har.mono le8
    replace hgv := hgv.mono le8
    exact ⟨⟨rfl, hr6⟩, rfl⟩
   refine gD (fun W Fs R lF z9 => ?_) ?_
   ·obtain ⟨e8, f8_2hr⟩ := z9 8 rfl
    obtain ⟨e15, f15_2hr⟩ := z9 15 rfl
    replace har := har.mono lF
    replace hgv := hgv.mono lF
    rw [eS (l := [(0, _), (1, _), (8, ((W 8))), (15, ((W 15)))]) ⟨z9 0 rfl, z9 1 rfl, (e8).symm, (e15).symm, ⟨⟩⟩]
    refine qk (qn (args := [.agg #[arv], gv2, ((W 8)), ((W 15))]) call97 rfl (ih (((sub ar p ((((argsL ar p 0)).getD k 0).toNat))).length) (by omega) har hgv f8_2hr f15_2hr (hn := (by first | assumption | rfl | omega | simp)) (hop := (by first | assumption | rfl | omega | simp)) (hot := (by first | assumption | rfl | omega | simp)) (hgl := (by first | assumption | rfl | omega | simp))) ?_)
    rintro _ F9 _ le9 ⟨⟨x6, rfl, hr7⟩, rfl⟩
    replace hgv := hgv.mono le9
    replace f8_2hr := f8_2hr.mono le9
    replace f15_2hr := f15_2hr.mono le9
    exact ⟨⟨rfl, hr7⟩, rfl⟩
   refine gD (fun W Fs R lF z9 => ?_) ?_
   ·obtain ⟨e16, f16_2hp_a⟩ := z9 16 rfl
    obtain ⟨t16X2_a, f16_2hp_a, q16_2_a0, q16_2_a1⟩ := f16_2hp_a
    rw [eS (l := [(16, (.tuple #[((tupAt (W 16) 0)), .bool ((mGo ar (sub ar t ((((argsL ar t 0)).getD k 0).toNat)) (sub ar p ((((argsL ar p 0)).getD k 0).toNat)) 0 gs).isSome)]))]) ⟨(e16).symm, ⟨⟩⟩]
    refine qk (qo (.tuple #[((tupAt (W 16) 0)), .bool ((mGo ar (sub ar t ((((argsL ar t 0)).getD k 0).toNat)) (sub ar p ((((argsL ar p 0)).getD k 0).toNat)) 0 gs).isSome)]) rfl ?_)
    exact ⟨rfl, rfl⟩
   refine gD (fun W Fs R lF z9 => ?_) ?_
   ·obtain ⟨e16, f16_2hp_a⟩ := z9 16 rfl
    obtain ⟨t16X2_a, f16_2hp_a, q16_2_a0, q16_2_a1⟩ := f16_2hp_a
    have e17 : W 17 = (.tuple #[((tupAt (W 16) 0)), .bool ((mGo ar (sub ar t ((((argsL ar t 0)).getD k 0).toNat)) (sub ar p ((((argsL ar p 0)).getD k 0).toNat)) 0 gs).isSome)] : Value) := z9 17 rfl
    rw [eS (l := [(16, (.tuple #[((tupAt (W 16) 0)), .bool ((mGo ar (sub ar t ((((argsL ar t 0)).getD k 0).toNat)) (sub ar p ((((argsL ar p 0)).getD k 0).toNat)) 0 gs).isSome)])), (17, (.tuple #[((tupAt (W 16) 0)), .bool ((mGo ar (sub ar t ((((argsL ar t 0)).getD k 0).toNat)) (sub ar p ((((argsL ar p 0)).getD k 0).toNat)) 0 gs).isSome)]))]) ⟨(e16).symm, e17, ⟨⟩⟩]
    refine qk (qG (((tupAt (W 16) 0))) rfl rfl ?_)
    exact ⟨rfl, rfl⟩
   refine gD (fun W Fs R lF z9 => ?_) ?_
   ·obtain ⟨e16, f16_2hp_a⟩ := z9 16 rfl
    obtain ⟨t16X2_a, f16_2hp_a, q16_2_a0, q16_2_a1⟩ := f16_2hp_a
    have e17 : W 17 = (.tuple #[((tupAt (W 16) 0)), .bool ((mGo ar (sub ar t ((((argsL ar t 0)).getD k 0).toNat)) (sub ar p ((((argsL ar p 0)).getD k 0).toNat)) 0 gs).isSome)] : Value) := z9 17 rfl
    rw [eS (l := [(16, (.tuple #[((tupAt (W 16) 0)), .bool ((mGo ar (sub ar t ((((argsL ar t 0)).getD k 0).toNat)) (sub ar p ((((argsL ar p 0)).getD k 0).toNat)) 0 gs).isSome)])), (17, (.tuple #[((tupAt (W 16) 0)), .bool ((mGo ar (sub ar t ((((argsL ar t 0)).getD k 0).toNat)) (sub ar p ((((argsL ar p 0)).getD k 0).toNat)) 0 gs).isSome)]))]) ⟨(e16).symm, e17, ⟨⟩⟩]
    refine qk (qG (.bool ((mGo ar (sub ar t ((((argsL ar t 0)).getD k 0).toNat)) (sub ar p ((((argsL ar p 0)).getD k 0).toNat)) 0 gs).isSome)) rfl rfl ?_)
    exact ⟨rfl, rfl⟩
   refine gD (fun W Fs R lF z9 => ?_) ?_
   ·obtain ⟨e16, f16_2hp_a⟩ := z9 16 rfl
    obtain ⟨t16X2_a, f16_2hp_a, q16_2_a0, q16_2_a1⟩ := f16_2hp_a
    have e18 : W 18 = ((tupAt (W 16) 0)) := z9 18 rfl
    rw [eS (l := [(16, (.tuple #[((tupAt (W 16) 0)), .bool ((mGo ar (sub ar t ((((argsL ar t 0)).getD k 0).toNat)) (sub ar p ((((argsL ar p 0)).getD k 0).toNat)) 0 gs).isSome)])), (18, ((tupAt (W 16) 0)))]) ⟨(e16).symm, e18, ⟨⟩⟩]
    refine qk (jo (((tupAt (W 16) 0))) rfl ?_)
    exact ⟨rfl, rfl⟩
   exact stepsG.nil
  intro W F10 le10 hphi
  obtain ⟨e8, f8_2hr⟩ := hphi 8 (by decide)
  obtain ⟨e15, f15_2hr⟩ := hphi 15 (by decide)
  obtain ⟨e16, f16_2hp_a⟩ := hphi 16 (by decide)
  obtain ⟨t16X2_a, f16_2hp_a, q16_2_a0, q16_2_a1⟩ := f16_2hp_a
  have e17 : W 17 = (.tuple #[((tupAt (W 16) 0)), .bool ((mGo ar (sub ar t ((((argsL ar t 0)).getD k 0).toNat)) (sub ar p ((((argsL ar p 0)).getD k 0).toNat)) 0 gs).isSome)] : Value) := hphi 17 (by decide)
  have e18 : W 18 = ((tupAt (W 16) 0)) := hphi 18 (by decide)
  have e20 : W 20 = ((tupAt (W 16) 0)) := hphi 20 (by decide)
  generalize hu1 : ((W 8)) = u1 at e8 f8_2hr e15 f15_2hr e16 f16_2hp_a e17 e18 e20
  generalize hu2 : ((W 15)) = u2 at e8 f8_2hr e15 f15_2hr e16 f16_2hp_a e17 e18 e20
  generalize hu3 : ((tupAt (W 16) 0)) = u3 at e8 f8_2hr e15 f15_2hr e16 f16_2hp_a e17 e18 e20
  rw [eS (l := [(16, (.tuple #[u3, .bool ((mGo ar (sub ar t ((((argsL ar t 0)).getD k 0).toNat)) (sub ar p ((((argsL ar p 0)).getD k 0).toNat)) 0 gs).isSome)])), (19, _), (20, u3)]) ⟨(e16).symm, (hphi 19 (by decide)), e20, ⟨⟩⟩]
  replace hgv := hgv.mono le10
  show XL _ _ _ _ _ _ _ (cellsH b1 [arv] 26 :: L)
  refine qj (.bool ((mGo ar (sub ar t ((((argsL ar t 0)).getD k 0).toNat)) (sub ar p ((((argsL ar p 0)).getD k 0).toNat)) 0 gs).isSome)) rfl (qf (qg (qg (qd (qi (.bool ((mGo ar (sub ar t ((((argsL ar t 0)).getD k 0).toNat)) (sub ar p ((((argsL ar p 0)).getD k 0).toNat)) 0 gs).isSome)) rfl (cX (jg rfl (qf ?_))))))))
  refine js (t := !((mGo ar (sub ar t ((((argsL ar t 0)).getD k 0).toNat)) (sub ar p ((((argsL ar p 0)).getD k 0).toNat)) 0 gs).isSome)) rfl (fun h7 => ?_) (fun h7 => ?_)
  ·have hmf : (mGo ar (sub ar t qb) (sub ar p qa) 0 gs).isSome = false := by have h9 := Bool.not_inj (y := false) h7; rw [hq1, hq2] at h9; exact h9
   refine qg (qd (qi (gv2) rfl (qj (gv2) rfl (qj (.bool (false)) rfl (qf (qu (ql (qI (ql (ql (qI (ql (qt (L' := L) [gv2, .bool (false)] (.tuple #[gv2, .bool (false)]) (.tmp rfl (.tmp rfl .nil)) rfl (qc (qc (qc le2 le3) leG1) le10) rF (sD sR) ?_)))))))))))))
   have e : mGo ar t p 0 g = none := hgo.trans (mGo_argN hop hot (hxa h1m).2.1 (hxb h1m).2.1 hmf)
   exact ⟨⟨_, by rw [e]; rfl, ⟨_, hgv, by omega, fun x hx => (by rw [e] at hx; cases hx)⟩⟩, rfl⟩
  have hms : mGo ar (sub ar t qb) (sub ar p qa) 0 gs = some t16X2_a := opt_is (by have h9 := Bool.not_inj (y := true) h7; rw [hq1, hq2] at h9; exact h9) (fun r hr => q16_2_a1 r (by rw [hq1, hq2]; exact hr))
  refine qz (qd (qi (u3) rfl (qj (u3) rfl (qf (qd (qi (ii ((k : Int))) rfl (cX (qS (((k + 1 : Nat) : Int)) rfl rfl (by omega) (by omega) (qj (ii (((k + 1 : Nat) : Int))) rfl (qf ?_))))))))))
  exact ⟨(k + 1, m - 1, endN ar p qa, endN ar t qb, u3, t16X2_a, F10), _, (qc leG1 le10), rF, ⟨rfl, rfl, rfl, rfl, rfl, rfl, rfl, ⟨⟩⟩, (sC sR), ⟨rfl, (qc leG1 le10), (f16_2hp_a), (q16_2_a0), ((hxa (by omega)).2.2), ((hxb (by omega)).2.2), (by (try dsimp only) <;> omega), (by have h9 := endN_spec hop (hxa h1m).2.1; (try dsimp only); omega), (hgo.trans (mGo_argS hop hot (hxa (by omega)).2.1 (hxb (by omega)).2.1 hms))⟩, (by omega)⟩
 have h0m : m = 0 := by omega
 subst h0m
 have hqa := ArgAt.done hA
 have hqb := ArgAt.done hB
 refine jn (qA (qA (qV (qg (qd (qi (gv2) rfl (qj (gv2) rfl (qj (.bool (true)) rfl (qf (qu (qt (L' := L) [gv2, .bool (true)] (.tuple #[gv2, .bool (true)]) (.tmp rfl (.tmp rfl .nil)) rfl (qc (qc le2 le3) leG1) rF (sD sR) ?_)))))))))))
 have e : mGo ar t p 0 g = some gs := hgo.trans (mGo_done (by omega))
 exact ⟨⟨_, by rw [e]; rfl, ⟨_, hgv, hgn, fun x hx => (by rw [e] at hx; exact Option.some.inj hx)⟩⟩, rfl⟩

theorem l20Match_spec (n : Nat) : ∀ {F : FH} {L : List HP}  {arv : Value} {ar : List Int} (har : IntsF F arv ar) {gv : Value} {g : List (List Int)} (hg : RowsF F gv g) {pv : Value} {p : List Int} (hp : IntsF F pv p) {tv : Value} {t : List Int} (ht : IntsF F tv t) (hn : p.length ≤ n) (hop : termOk ar p = true) (hot : termOk ar t = true) (hgl : g.length = 24), Does prog 97 [.agg #[arv], gv, pv, tv] F L (fun v F' L' => (∃ (a : Value), (.tuple #[a, .bool ((mGo ar t p 0 g).isSome)] : Value) = v ∧ (SomeRowsF F' a (fun g2 => g2.length = 24 ∧ ∀ x, mGo ar t p 0 g = some x → g2 = x))) ∧ L = L') := by
  induction n using Nat.strongRecOn with
  | _ n ih =>
    intros
    exact l20Match_spec_step ih (by assumption) (by assumption) (by assumption) (by assumption) (by assumption) (by assumption) (by assumption) (by assumption)
end Go.Proofs.YteodlimhopibkaaGreat
