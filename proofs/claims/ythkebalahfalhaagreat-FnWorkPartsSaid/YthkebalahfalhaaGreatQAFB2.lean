/-
  Walks, one after the other (part 3).
-/
import Derived.Test.YthkebalahfalhaaGreatQAFL1
import Derived.Test.YthkebalahfalhaaGreatQAFB0
import Derived.Test.YthkebalahfalhaaGreatQAFB1
set_option linter.unusedSimpArgs false
set_option linter.unusedVariables false
namespace Go.Proofs.YthkebalahfalhaaGreat
open Go X M Tryz

/- impl.normalOf -/
theorem normalOf_spec {F : FH} {L : List HP} {arv : Value} {ar : List Int} (har : IntsF F arv ar) {rsv : Value} {rs : List (List Int × List Int)} (hrs : PairsF F rsv rs) {tv : Value} {t : List Int} (ht : IntsF F tv t) {n : Nat} (hsys : sysOk ar rs = true) (ho : termOk ar t = true) (hn : n ≤ 60) :
    Does prog 43 [.agg #[arv, rsv], tv, ii ((n : Int))] F (L) (fun v F' L' => ∃ (a : Value), (.tuple #[a, .bool ((walkGo ar rs 1 n t).2)] : Value) = v ∧ (IntsF F' a (endL t (walkGo ar rs 1 n t).1)) ∧ L = L') := by
 refine qH func43 rfl rfl rfl ?_
 have hwl := walkGo_len (ar := ar) (rs := rs) (st := 1) n t
 refine qc (qa (cX (qY [arv, rsv] rfl rfl ?_)))
 intro b1
 refine qh (sN) rfl (qh (.bool (false)) rfl (qb (qc (qa (cX (qv [arv, rsv] yj jQ rfl rfl (Rd.ownN [] rfl rfl) (qd (tv) rfl (qd (ii ((n : Int))) rfl (cX (qt (args := [.agg #[arv, rsv], tv, ii (1), ii (n : Int)]) call56 rfl (walkBy_spec (st := 1) (n := n) har hrs ht (hsys := (by first | assumption | rfl | omega | simp)) (ho := (by first | assumption | rfl | omega | simp)) (hst := (by first | assumption | rfl | omega | simp)) (hn := (by first | assumption | rfl | omega | simp))) ?_))))))))))
 rintro _ F1 _ le1 ⟨x1, x2, rfl, hr1, hr2, hr3, rfl⟩
 refine qd (.tuple #[.agg #[x1, x2], .bool ((walkGo ar rs 1 n t).2)]) rfl (cX (qK (.agg #[x1, x2]) rfl rfl (cX (qK (.bool ((walkGo ar rs 1 n t).2)) rfl rfl (cX (je [sN, sN] zeroValue99 rfl ?_))))))
 intro b2
 refine cX (qI [] _ [x1, x2] sizeOf99 rfl rfl rfl (qm (qy (qp hr1)) (qm (qy (StepsF.isSl hr2)) qO)) rfl rfl rfl (qh (.bool ((walkGo ar rs 1 n t).2)) rfl (qb (qc (qa (cX (qv [x1, x2] isAgg99 sizeOf99 rfl rfl (Rd.ownN [] rfl rfl) (cX (qt (args := [.agg #[x1, x2]]) call57 rfl (walkEnd_spec hr1 hr2 (hlss := (by first | assumption | rfl | omega | simp))) ?_)))))))))
 rintro _ _ _ _ ⟨rfl, x3, rfl, hr4, rfl⟩
 refine qd (.bool ((walkGo ar rs 1 n t).2)) rfl (qh (x3) rfl (qh (.bool ((walkGo ar rs 1 n t).2)) rfl (qb (qw (qu (L' := L) [x3, .bool ((walkGo ar rs 1 n t).2)] (.tuple #[x3, .bool ((walkGo ar rs 1 n t).2)]) (.tmp rfl (.tmp rfl .nil)) rfl le1 rF (sD (sD sR)) ?_)))))
 exact ⟨_, rfl, hr4, rfl⟩

/- impl.TrivialPeak -/
theorem TrivialPeak_spec {F : FH} {L : List HP} {tpv : Value} {tp : List Int} (htp : IntsF F tpv tp) {lfv : Value} {lf : List Int} (hlf : IntsF F lfv lf) {rtv : Value} {rt : List Int} (hrt : IntsF F rtv rt) {i1 : Int} {i2 : Int} {i3 : Int} (hb2 : lf.length ≤ 4000000) (hb3 : rt.length ≤ 4000000) :
    Does prog 61 [.agg #[tpv, lfv, rtv, ii (i1), ii (i2), ii (i3)]] F (L) (fun v F' L' => (.bool (trivB (tp, lf, rt, i1, i2, i3)) : Value) = v ∧ F = F' ∧ L = L') := by
 refine qH func61 rfl rfl rfl (qc (qa (cX (qY [tpv, lfv, rtv, ii (i1), ii (i2), ii (i3)] rfl rfl ?_))))
 intro b1
 refine qh (.bool (false)) rfl (qb (qc (qa (cX (qn (1) jI rfl qr (by decide) rfl rfl (cX (qj qN rfl (Rd.own [] rfl rfl) (cX (qn (2) jI rfl qr (by decide) rfl rfl (cX (qj qN rfl (Rd.own [] rfl rfl) (cX (qt (args := [lfv, rtv]) call46 rfl (Equal_spec hlf hrt (hbd := (by first | assumption | rfl | omega | (left; simp; done) | (right; simp; done)))) ?_)))))))))))))
 rintro _ _ _ _ ⟨rfl, rfl, rfl⟩
 refine qh (.bool (decide (lf = rt))) rfl (qb (qw (qu (L' := L) [.bool (decide (lf = rt))] (.bool (decide (lf = rt))) (.tmp rfl .nil) rfl rF rF (sD sR) ?_)))
 exact ⟨rfl, rfl, rfl⟩

/- spec.l1New -/
theorem l1New_spec {F : FH} {L : List HP} {bsv : Value} {bs : List Int} (hbs : BytesF F bsv bs) (hlb : bs.length ≤ 4000000) :
    Does prog 12 [bsv] F (L) (fun v F' L' => ∃ cb : Nat, (ptr cb 0 : Value) = v ∧ F = F' ∧ curH .i64 63 cb bsv bs.length :: L = L') := by
 refine qH func12 rfl rfl rfl (qc (qa (qh ((.pointer none)) rfl (qb (qc (qa (qd (bsv) rfl (cX (qG ye rfl hbs.slv (cX (qM (((570029 + ((bs).length) : Nat) : Int)) rfl rfl (by omega) (by omega) (qh (ii (((570029 + ((bs).length) : Nat) : Int))) rfl (qb (qc (qc (qa (qh (ii (0)) rfl ?_)))))))))))))))))
 refine qb (qJ (jv (α := Nat × Int) (fun xQ => [(0, bsv), (3, ii (xQ.2)), (4, ii (((xQ.1 : Nat) : Int)))]) (fun xQ => L) (fun xQ F' => F = F' ∧ (xQ.1 ≤ bs.length) ∧ (0 ≤ xQ.2 ∧ xQ.2 ≤ 1073741823)) (fun xQ => bs.length - xQ.1) (0, ((570029 + ((bs).length) : Nat) : Int)) ⟨rfl, rfl, rfl, ⟨⟩⟩ sR ⟨rfl, (Nat.zero_le _), (by (try dsimp only) <;> omega)⟩ ?_))
 rintro ⟨k, h⟩ rE _ _ ⟨rfl, hk, hh⟩
 show X _ _ _ _ (envs [(0, bsv), (3, ii (h)), (4, ii ((k : Int)))] rE) _ (L)
 dsimp only at hk hh
 refine qc (qc (qa (qd (ii ((k : Int))) rfl (qd (bsv) rfl (cX (qG ye rfl hbs.slv (cX (qX rfl rfl (qb ?_)))))))))
 refine qE (p := (k : Int) < (bs.length : Int)) rfl (fun h1 => ?_) (fun h1 => ?_)
 ·have hrg := hbs.range (i := k) (by omega)
  refine qA (qc (qJ (qa (qd (ii (h)) rfl (cX (XOp.mulR (h * 317) rfl rfl (by omega) (by omega) (qd (bsv) rfl (qd (ii ((k : Int))) rfl (cX (qx k ye sizeOf5 rfl rfl rfl hbs.slv (by omega) (Nat.mul_one _) (cX (qj isAgg5 rfl (hbs.rd (by omega) _) (cX (XOp.convI (k' := .u8) (a := bs.getD k 0) (bs.getD k 0) runUnderlying5 runUnderlying2 rfl (IntWalk.i64_in _ (by omega)) (cX (qM ((h * 317) + (bs.getD k 0)) rfl rfl (by omega) (by omega) (cX (qM (((h * 317) + (bs.getD k 0)) + 11) rfl rfl (by omega) (by omega) ?_))))))))))))))))))
  refine cX (XOp.andW (a := ((h * 317) + (bs.getD k 0)) + 11) (b := 1073741823) rfl rfl rfl (by decide) ?_)
  intro r1 hr1
  refine qh (ii (r1)) rfl (qb (qa (qd (ii ((k : Int))) rfl (cX (qM (((k + 1 : Nat) : Int)) rfl rfl (by omega) (by omega) (qh (ii (((k + 1 : Nat) : Int))) rfl (qb ?_)))))))
  exact ⟨(k + 1, r1), _, FLe.refl _, rF, ⟨rfl, rfl, rfl, ⟨⟩⟩, sR, ⟨rfl, (by (try dsimp only) <;> omega), (hr1)⟩, (by omega)⟩
 refine jn (qz (qz (qR (qc (qa (qd (bsv) rfl (qd (ii (h)) rfl (cX (qZ [bsv, ii (0), ii (h)] [sN, ii (0), ii (0)] [(0, 1), (1, 1), (2, 1)] [(0, [bsv]), (2, [ii (h)])] yf zeroValue63 rfl (.cons rfl sizeOf22 (.cons rfl jC (.cons rfl qC PlacesAre.nil))) rfl (.cons (cells_one (BytesF.isSl hbs)) (.cons rfl CellsAre.nil)) (cX (qY [bsv, ii (0), ii (h)] rfl rfl ?_)))))))))))
 intro b1
 refine qh (ptr b1 0) rfl (qb (qw (qu (L' := curH .i64 63 b1 bsv bs.length :: L) [ptr b1 0] (ptr b1 0) (.tmp rfl .nil) rfl rF rF (Sub.keep (curH.of (by omega) (by omega)) sR) ?_)))
 exact ⟨_, rfl, rfl, rfl⟩

/- spec.l1Byte -/
theorem l1Byte_spec0 {F : FH} {L : List HP} {cb : Nat} {bsv : Value} {bs : List Int} (hbs : BytesF F bsv bs) (hbl : bs.length ≤ 4000000) {i h : Int} (h0 : 0 ≤ i) (h1 : i ≤ bs.length) :
    Does prog 29 [ptr cb 0] F (cellsH cb [bsv, ii (i), ii (h)] 63 :: L) (fun v F' L' => (F = F' ∧ ∃ x : Int, (.int .i64 x : Value) = v ∧ (0 ≤ x ∧ x ≤ 255)) ∧ ∃ i' h' : Int, 0 ≤ i' ∧ i' ≤ bs.length ∧ cellsH cb [bsv, ii (i'), ii (h')] 63 :: L = L') := by
 refine qH func29 rfl rfl rfl (qc (qa (qh (ii (0)) rfl (qb (qc (qa (qd (ptr cb 0) rfl (qd (ptr cb 0) rfl (cX (qL rfl (cX (qn (2) yf rfl qC (by decide) rfl rfl (cX (qj jh rfl (Rd.own [] rfl rfl) (cX (XOp.mulW (a := h) (b := 6364136223846793005) rfl rfl ?_))))))))))))))))
 intro r1
 refine cX (XOp.addW (a := r1) (b := 1442695040888963407) rfl rfl ?_)
 intro r2
 refine cX (qL rfl (cX (qn (2) yf rfl qC (by decide) rfl rfl (cX (jz [] _ [bsv, ii (i), ii (r2)] qC rfl rfl rfl rfl rfl rfl (qb (qc ?_)))))))
 refine yc [cellsH cb [bsv, ii (i), ii (r2)] 63] L 10 [] [[], [0], [1], [2], [3], [], [5], [6], [7], [8]] [] (phiG [pe (ptr cb 0), pe (ptr cb 0), pe (ptr cb 2), pe (ii (r2)), fun FF us v => (ii ((intAt v)) : Value) = v, pe (ptr cb 0), pe (ptr cb 0), pe (ptr cb 2), pe (ii (r2)), fun FF us v => (ii ((intAt v)) : Value) = v]) (ownL []) mixed rfl rfl (by kernel_rfl) (by kernel_rfl) (MonoG.get (m1 (m1 (m1 (m1 (mC (fun le h => h) (m1 (m1 (m1 (m1 (mC (fun le h => h) MonoG.nil))))))))))) ?_ ?_
 ·refine gD (fun W Fs R lF z9 => ?_) ?_
  ·refine qg (ql (ptr cb 0) rfl ?_)
   exact ⟨rfl, rfl⟩
  refine gD (fun W Fs R lF z9 => ?_) ?_
  ·replace hbs := hbs.mono lF
   rw [zA 0 (z9 0 rfl)]
   refine qg (qL rfl ?_)
   exact ⟨rfl, rfl⟩
  refine gD (fun W Fs R lF z9 => ?_) ?_
  ·rw [zA 1 (z9 1 rfl)]
   refine qg (qn (2) yf rfl qC (by decide) rfl rfl ?_)
   exact ⟨rfl, rfl⟩
  refine gD (fun W Fs R lF z9 => ?_) ?_
  ·replace hbs := hbs.mono lF
   rw [zA 2 (z9 2 rfl)]
   refine qg (qj jh rfl (Rd.own [] rfl rfl) ?_)
   exact ⟨rfl, rfl⟩
  refine gD (fun W Fs R lF z9 => ?_) ?_
  ·rw [zA 3 (z9 3 rfl)]
   refine qg (XOp.shrW (a := r2) (b := 33) rfl rfl (by decide) ?_)
   intro r5
   exact ⟨rfl, rfl⟩
  refine gD (fun W Fs R lF z9 => ?_) ?_
  ·refine qg (ql (ptr cb 0) rfl ?_)
   exact ⟨rfl, rfl⟩
  refine gD (fun W Fs R lF z9 => ?_) ?_
  ·replace hbs := hbs.mono lF
   rw [zA 5 (z9 5 rfl)]
   refine qg (qL rfl ?_)
   exact ⟨rfl, rfl⟩
  refine gD (fun W Fs R lF z9 => ?_) ?_
  ·rw [zA 6 (z9 6 rfl)]
   refine qg (qn (2) yf rfl qC (by decide) rfl rfl ?_)
   exact ⟨rfl, rfl⟩
  refine gD (fun W Fs R lF z9 => ?_) ?_
  ·replace hbs := hbs.mono lF
   rw [zA 7 (z9 7 rfl)]
   refine qg (qj jh rfl (Rd.own [] rfl rfl) ?_)
   exact ⟨rfl, rfl⟩
  refine gD (fun W Fs R lF z9 => ?_) ?_
  ·rw [zA 8 (z9 8 rfl)]
   refine qg (XOp.shrW (a := r2) (b := 45) rfl rfl (by decide) ?_)
   intro r6
   exact ⟨rfl, rfl⟩
  exact stepsG.nil
 intro W F1 le1 hphi
 have e4 : (ii ((intAt (W 4))) : Value) = (W 4) := hphi 4 (by decide)
 have e9 : (ii ((intAt (W 9))) : Value) = (W 9) := hphi 9 (by decide)
 generalize hu1 : (intAt (W 4)) = u1 at e4 e9
 generalize hu2 : (intAt (W 9)) = u2 at e4 e9
 rw [eS (l := [(4, (ii (u1))), (9, (ii (u2)))]) ⟨(e4).symm, (e9).symm, ⟨⟩⟩]
 replace hbs := hbs.mono le1
 show XL _ _ _ _ _ _ _ (cellsH cb [bsv, ii (i), ii (r2)] 63 :: L)
 refine cX (XOp.xorW (a := u1) (b := u2) rfl rfl ?_)
 intro r7
 refine cX (XOp.andW (a := r7) (b := 255) rfl rfl rfl (by decide) ?_)
 intro r8 hr1
 refine qh (ii (r8)) rfl (qb (qc (qc ?_)))
 refine jL [cellsH cb [bsv, ii (i), ii (r2)] 63] L 9 [] [[], [0], [1], [2], [], [4], [5], [6], [7]] (phiL [qe (ptr cb 0), qe (ptr cb 0), qe (ptr cb 1), qe (ii (i)), qe (ptr cb 0), qe (ptr cb 0), qe (ptr cb 0), qe bsv, qe (ii ((bs.length : Int)) : Value)]) (ownL []) mixed rfl rfl (by kernel_rfl) ?_ ?_
 ·refine pD (fun W R z9 => ?_) ?_
  ·refine qg (ql (ptr cb 0) rfl ?_)
   exact ⟨rfl, rfl, rfl⟩
  refine pD (fun W R z9 => ?_) ?_
  ·rw [zA 0 (z9 0 rfl)]
   refine qg (qL rfl ?_)
   exact ⟨rfl, rfl, rfl⟩
  refine pD (fun W R z9 => ?_) ?_
  ·rw [zA 1 (z9 1 rfl)]
   refine qg (qn (1) yf rfl jC (by decide) rfl rfl ?_)
   exact ⟨rfl, rfl, rfl⟩
  refine pD (fun W R z9 => ?_) ?_
  ·rw [zA 2 (z9 2 rfl)]
   refine qg (qj yd rfl (Rd.own [] rfl rfl) ?_)
   exact ⟨rfl, rfl, rfl⟩
  refine pD (fun W R z9 => ?_) ?_
  ·refine qg (ql (ptr cb 0) rfl ?_)
   exact ⟨rfl, rfl, rfl⟩
  refine pD (fun W R z9 => ?_) ?_
  ·rw [zA 4 (z9 4 rfl)]
   refine qg (qL rfl ?_)
   exact ⟨rfl, rfl, rfl⟩
  refine pD (fun W R z9 => ?_) ?_
  ·rw [zA 5 (z9 5 rfl)]
   refine qg (qn (0) yf rfl sizeOf22 (by decide) rfl rfl ?_)
   exact ⟨rfl, rfl, rfl⟩
  refine pD (fun W R z9 => ?_) ?_
  ·rw [zA 6 (z9 6 rfl)]
   refine qg (qj isAgg22 rfl (Rd.own [] rfl rfl) ?_)
   exact ⟨rfl, rfl, rfl⟩
  refine pD (fun W R z9 => ?_) ?_
  ·rw [zA 7 (z9 7 rfl)]
   refine qg (qG ye rfl hbs.slv ?_)
   exact ⟨rfl, rfl, rfl⟩
  exact stepsP.nil
 intro W hphi
 rw [zB 3 8 (hphi 3 (by decide)) (hphi 8 (by decide))]
 show XL _ _ _ _ _ _ _ (cellsH cb [bsv, ii (i), ii (r2)] 63 :: L)
 refine cX (qX rfl rfl (qb ?_))
 refine qE (p := (i : Int) < (bs.length : Int)) rfl (fun h1 => ?_) (fun h1 => ?_)
 ·have hrg := hbs.range (i := i.toNat) (by omega)
  refine qc ?_
  refine jL [cellsH cb [bsv, ii (i), ii (r2)] 63] L 12 [] [[], [], [1], [2], [3], [], [5], [6], [7], [4, 8], [9], [10]] (phiL [qe (ii (r8)), qe (ptr cb 0), qe (ptr cb 0), qe (ptr cb 0), qe bsv, qe (ptr cb 0), qe (ptr cb 0), qe (ptr cb 1), qe (ii (i)), qe (.pointer (some (elemA bsv ((i).toNat)))), qe (.int .u8 (bs.getD ((i).toNat) 0)), qe (ii (bs.getD ((i).toNat) 0))]) (ownL []) mixed rfl rfl (by kernel_rfl) ?_ ?_
  ·refine pD (fun W R z9 => ?_) ?_
   ·refine qg (ql (ii (r8)) rfl ?_)
    exact ⟨rfl, rfl, rfl⟩
   refine pD (fun W R z9 => ?_) ?_
   ·refine qg (ql (ptr cb 0) rfl ?_)
    exact ⟨rfl, rfl, rfl⟩
   refine pD (fun W R z9 => ?_) ?_
   ·rw [zA 1 (z9 1 rfl)]
    refine qg (qL rfl ?_)
    exact ⟨rfl, rfl, rfl⟩
   refine pD (fun W R z9 => ?_) ?_
   ·rw [zA 2 (z9 2 rfl)]
    refine qg (qn (0) yf rfl sizeOf22 (by decide) rfl rfl ?_)
    exact ⟨rfl, rfl, rfl⟩
   refine pD (fun W R z9 => ?_) ?_
   ·rw [zA 3 (z9 3 rfl)]
    refine qg (qj isAgg22 rfl (Rd.own [] rfl rfl) ?_)
    exact ⟨rfl, rfl, rfl⟩
   refine pD (fun W R z9 => ?_) ?_
   ·refine qg (ql (ptr cb 0) rfl ?_)
    exact ⟨rfl, rfl, rfl⟩
   refine pD (fun W R z9 => ?_) ?_
   ·rw [zA 5 (z9 5 rfl)]
    refine qg (qL rfl ?_)
    exact ⟨rfl, rfl, rfl⟩
   refine pD (fun W R z9 => ?_) ?_
   ·rw [zA 6 (z9 6 rfl)]
    refine qg (qn (1) yf rfl jC (by decide) rfl rfl ?_)
    exact ⟨rfl, rfl, rfl⟩
   refine pD (fun W R z9 => ?_) ?_
   ·rw [zA 7 (z9 7 rfl)]
    refine qg (qj yd rfl (Rd.own [] rfl rfl) ?_)
    exact ⟨rfl, rfl, rfl⟩
   refine pD (fun W R z9 => ?_) ?_
   ·rw [zB 4 8 (z9 4 rfl) (z9 8 rfl)]
    refine qg (qx ((i).toNat) ye sizeOf5 rfl rfl (by omega) hbs.slv (by omega) (Nat.mul_one _) ?_)
    exact ⟨rfl, rfl, rfl⟩
   refine pD (fun W R z9 => ?_) ?_
   ·rw [zA 9 (z9 9 rfl)]
    refine qg (qj isAgg5 rfl (hbs.rd (by omega) _) ?_)
    exact ⟨rfl, rfl, rfl⟩
   refine pD (fun W R z9 => ?_) ?_
   ·rw [zA 10 (z9 10 rfl)]
    refine qg (XOp.convI (k' := .u8) (a := bs.getD ((i).toNat) 0) (bs.getD ((i).toNat) 0) runUnderlying5 runUnderlying2 rfl (IntWalk.i64_in _ (by omega)) ?_)
    exact ⟨rfl, rfl, rfl⟩
   exact stepsP.nil
  intro W hphi
  rw [zB 0 11 (hphi 0 (by decide)) (hphi 11 (by decide))]
  show XL _ _ _ _ _ _ _ (cellsH cb [bsv, ii (i), ii (r2)] 63 :: L)
  refine cX (qM (r8 + (bs.getD ((i).toNat) 0)) rfl rfl (by omega) (by omega) (cX (XOp.andW (a := r8 + (bs.getD ((i).toNat) 0)) (b := 255) rfl rfl rfl (by decide) ?_)))
  intro r9 hr2
  refine qh (ii (r9)) rfl (qb (qa (qd (ptr cb 0) rfl (qd (ptr cb 0) rfl (cX (qL rfl (cX (qn (1) yf rfl jC (by decide) rfl rfl (cX (qj yd rfl (Rd.own [] rfl rfl) (cX (qM (i + 1) rfl rfl (by omega) (by omega) (cX (qL rfl (cX (qn (1) yf rfl jC (by decide) rfl rfl ?_))))))))))))))))
  refine cX (jz [] _ [bsv, ii (i + 1), ii (r2)] jC rfl rfl rfl rfl rfl rfl (qb (qc (qa (qd (ii (r9)) rfl (qh (ii (r9)) rfl (qb (qw (qu (L' := cellsH cb [bsv, ii (i + 1), ii (r2)] 63 :: L) [ii (r9)] (ii (r9)) (.tmp rfl .nil) rfl rF le1 (sC sR) ?_)))))))))
  exact ⟨⟨rfl, _, rfl, by omega⟩, _, _, by omega, by omega, rfl⟩
 refine qA (qc (qa (qd (ii (r8)) rfl (qh (ii (r8)) rfl (qb (qw (qu (L' := cellsH cb [bsv, ii (i), ii (r2)] 63 :: L) [ii (r8)] (ii (r8)) (.tmp rfl .nil) rfl rF le1 (sC sR) ?_)))))))
 exact ⟨⟨rfl, _, rfl, by omega⟩, _, _, by omega, by omega, rfl⟩
theorem l1Byte_spec {F : FH} {L : List HP} {cb : Nat} {bsv : Value} {bs : List Int} (hbs : BytesF F bsv bs) (hbl : bs.length ≤ 4000000) : Does prog 29 [ptr cb 0] F (curH .i64 63 cb bsv bs.length :: L) (fun v F' L' => (F = F' ∧ ∃ (x : Int), (.int .i64 x : Value) = v ∧ (0 ≤ x ∧ x ≤ 255)) ∧ curH .i64 63 cb bsv bs.length :: L = L') :=
  Does.cur (Q := fun v F' => F = F' ∧ ∃ (x : Int), (.int .i64 x : Value) = v ∧ (0 ≤ x ∧ x ≤ 255)) fun i h h0 h1 => l1Byte_spec0 hbs hbl h0 h1

/- spec.l1Below -/
theorem l1Below_spec {F : FH} {L : List HP} {cb : Nat} {bsv : Value} {bs : List Int} (hbs : BytesF F bsv bs) (hbl : bs.length ≤ 4000000) {n : Int} (hn : n ≤ 1000000) :
    Does prog 15 [ptr cb 0, ii (n)] F (curH .i64 63 cb bsv bs.length :: L) (fun v F' L' => (F = F' ∧ ∃ (x : Int), (ii (x) : Value) = v ∧ (0 ≤ x ∧ (x < n ∨ x = 0))) ∧ curH .i64 63 cb bsv bs.length :: L = L') := by
 refine qH func15 rfl rfl rfl (qc (qa (qh (ii (0)) rfl (qb (qc (qc (qa (qd (ii (n)) rfl (cX (XOp.leq rfl rfl (qb ?_)))))))))))
 refine qE (p := (n : Int) ≤ 0) rfl (fun h1 => ?_) (fun h1 => ?_)
 ·refine qc (qa (qh (ii (0)) rfl (qb (qw (qo (qu (L' := curH .i64 63 cb bsv bs.length :: L) [ii (0)] (ii (0)) (.tmp rfl .nil) rfl rF rF (sC sR) ?_))))))
  exact ⟨⟨rfl, _, rfl, by omega⟩, rfl⟩
 refine qA (qc (qc (qa (qd (ii (n)) rfl (cX (XOp.leq rfl rfl (qb ?_)))))))
 refine qE (p := (n : Int) ≤ 256) rfl (fun h2 => ?_) (fun h2 => ?_)
 ·refine qc (qa (qd (ptr cb 0) rfl (cX (qt (args := [ptr cb 0]) call29 rfl (jD [] (l1Byte_spec hbs (by omega))) ?_))))
  rintro _ _ _ _ ⟨⟨rfl, x1, rfl, hr1⟩, rfl⟩
  show XL _ _ _ _ _ _ _ (curH .i64 63 cb bsv bs.length :: L)
  refine qd (ii (n)) rfl (cX (XOp.remV (a := x1) (b := n) rfl rfl (by omega) (by omega) ?_))
  intro r1 hr2
  refine qh (ii (r1)) rfl (qb (qw (qo (qu (L' := curH .i64 63 cb bsv bs.length :: L) [ii (r1)] (ii (r1)) (.tmp rfl .nil) rfl rF rF (sC sR) ?_))))
  exact ⟨⟨rfl, _, rfl, by omega⟩, rfl⟩
 refine qA (qc (qa (qd (ptr cb 0) rfl (cX (qt (args := [ptr cb 0]) call29 rfl (jD [] (l1Byte_spec hbs (by omega))) ?_)))))
 rintro _ _ _ _ ⟨⟨rfl, x2, rfl, hr3⟩, rfl⟩
 show XL _ _ _ _ _ _ _ (curH .i64 63 cb bsv bs.length :: L)
 refine qh (ii (x2)) rfl (qb (qc (qa (qd (ptr cb 0) rfl (cX (qt (args := [ptr cb 0]) call29 rfl (jD [] (l1Byte_spec hbs (by omega))) ?_))))))
 rintro _ _ _ _ ⟨⟨rfl, x3, rfl, hr4⟩, rfl⟩
 show XL _ _ _ _ _ _ _ (curH .i64 63 cb bsv bs.length :: L)
 refine qh (ii (x3)) rfl (qb (qc (qa (qd (ptr cb 0) rfl (cX (qt (args := [ptr cb 0]) call29 rfl (jD [] (l1Byte_spec hbs (by omega))) ?_))))))
 rintro _ _ _ _ ⟨⟨rfl, x4, rfl, hr5⟩, rfl⟩
 show XL _ _ _ _ _ _ _ (curH .i64 63 cb bsv bs.length :: L)
 refine qh (ii (x4)) rfl (qb (qc (qa (qd (ptr cb 0) rfl (cX (qt (args := [ptr cb 0]) call29 rfl (jD [] (l1Byte_spec hbs (by omega))) ?_))))))
 rintro _ _ _ _ ⟨⟨rfl, x5, rfl, hr6⟩, rfl⟩
 show XL _ _ _ _ _ _ _ (curH .i64 63 cb bsv bs.length :: L)
 refine qh (ii (x5)) rfl (qb (qc (qa (qd (ii (x2)) rfl (cX (XOp.mulR (x2 * 16777216) rfl rfl (by omega) (by omega) (qd (ii (x3)) rfl (cX (XOp.mulR (x3 * 65536) rfl rfl (by omega) (by omega) (cX (qM ((x2 * 16777216) + (x3 * 65536)) rfl rfl (by omega) (by omega) (qd (ii (x4)) rfl (cX (XOp.mulR (x4 * 256) rfl rfl (by omega) (by omega) (cX (qM (((x2 * 16777216) + (x3 * 65536)) + (x4 * 256)) rfl rfl (by omega) (by omega) ?_))))))))))))))))
 refine qd (ii (x5)) rfl (cX (qM ((((x2 * 16777216) + (x3 * 65536)) + (x4 * 256)) + x5) rfl rfl (by omega) (by omega) (qd (ii (n)) rfl (cX (XOp.remV (a := (((x2 * 16777216) + (x3 * 65536)) + (x4 * 256)) + x5) (b := n) rfl rfl (by omega) (by omega) ?_)))))
 intro r2 hr7
 refine qh (ii (r2)) rfl (qb (qw (qu (L' := curH .i64 63 cb bsv bs.length :: L) [ii (r2)] (ii (r2)) (.tmp rfl .nil) rfl rF rF (sC sR) ?_)))
 exact ⟨⟨rfl, _, rfl, by omega⟩, rfl⟩

/- spec.l1Once -/
theorem l1Once_spec {F : FH} {L : List HP} {cb : Nat} {bsv : Value} {bs : List Int} (hbs : BytesF F bsv bs) (hbl : bs.length ≤ 4000000) {n : Int} (hn : n ≤ 1000000) :
    Does prog 14 [ptr cb 0, ii (n)] F (curH .i64 63 cb bsv bs.length :: L) (fun v F' L' => (F = F' ∧ ∃ (b : Bool), (.bool (b) : Value) = v) ∧ curH .i64 63 cb bsv bs.length :: L = L') := by
 refine qH func14 rfl rfl rfl (qc (qa (qh (.bool (false)) rfl (qb (qc (qa (qd (ptr cb 0) rfl (qd (ii (n)) rfl (cX (qt (args := [ptr cb 0, ii (n)]) call15 rfl (jD [] (l1Below_spec (n := n) hbs (by omega) (hn := (by first | assumption | rfl | omega | simp)))) ?_))))))))))
 rintro _ _ _ _ ⟨⟨rfl, x1, rfl, hr1⟩, rfl⟩
 show XL _ _ _ _ _ _ _ (curH .i64 63 cb bsv bs.length :: L)
 refine cX (jo rfl rfl (qh (.bool (decide ((x1 : Int) = 0))) rfl (qb (qw (qu (L' := curH .i64 63 cb bsv bs.length :: L) [.bool (decide ((x1 : Int) = 0))] (.bool (decide ((x1 : Int) = 0))) (.tmp rfl .nil) rfl rF rF (sC sR) ?_)))))
 exact ⟨⟨rfl, _, rfl⟩, rfl⟩

/- spec.l1DrawSig -/
theorem l1DrawSig_spec {F : FH} {L : List HP} {cb : Nat} {bsv : Value} {bs : List Int} (hbs : BytesF F bsv bs) (hbl : bs.length ≤ 4000000) :
    Does prog 26 [ptr cb 0] F (curH .i64 63 cb bsv bs.length :: L) (fun v F' L' => ∃ a : Value, ((.agg #[a] : Value) = v ∧ IsSl a) ∧ drawnH 2 a (fun ar => sigOk ar = true) :: curH .i64 63 cb bsv bs.length :: L = L') := by
 refine qH func26 rfl rfl rfl (qc (qa (cX (je [sN] yl rfl ?_))))
 intro b1
 refine qb (qc (qa (cX (qD (s := 1) [ii (2), ii (1), ii (0)] [ii (0)] [(0, [ii (2)]), (1, [ii (1)]), (2, [ii (0)])] qf qC jj rfl (by decide) rfl (.cons rfl (.cons rfl (.cons rfl CellsAre.nil))) rfl ?_))))
 intro v1 hv1
 refine cX (qZ [v1] [sN] [(0, 1)] [(0, [v1])] jk yl rfl (.cons rfl qr PlacesAre.nil) rfl (.cons (cells_one (js hv1)) CellsAre.nil) (cX (je [sN] yl rfl ?_)))
 intro b2
 refine cX (qI [] _ [v1] qB rfl rfl rfl (qm (qy (js hv1)) qO) rfl rfl rfl (qb (qc (qc (qa (qd (ptr cb 0) rfl (cX (qt (args := [ptr cb 0, ii (4)]) call14 rfl (jD [_, _, _] (l1Once_spec (n := 4) hbs (by omega) (hn := (by first | assumption | rfl | omega | simp)))) ?_))))))))
 rintro _ _ _ _ ⟨⟨rfl, x1, rfl⟩, rfl⟩
 show XL _ _ _ _ _ _ _ (cellsH b2 [v1] 26 :: slH 2 1 v1 3 [ii (2), ii (1), ii (0)] :: cellsH b1 [sN] 26 :: curH .i64 63 cb bsv bs.length :: L)
 refine qb ?_
 refine jG (t := x1) rfl (fun h1 => ?_) (fun h1 => ?_)
 ·refine qc (qa (cX (qD (s := 1) [ii (0)] [ii (0)] [(0, [ii (0)])] qf qC jj rfl (by decide) rfl (.cons rfl CellsAre.nil) rfl ?_)))
  intro v2 hv2
  refine cX (qZ [v2] [sN] [(0, 1)] [(0, [v2])] jk yl rfl (.cons rfl qr PlacesAre.nil) rfl (.cons (cells_one (js hv2)) CellsAre.nil) (cX (qI [_] _ [v2] qB rfl rfl rfl (qm (qy (js hv2)) qO) rfl rfl rfl (qb (qc (qa ?_))))))
  show XL _ _ _ _ _ _ _ (intsH 2 v2 ([0] : List Int) :: cellsH b2 [v2] 26 :: slH 2 1 v1 3 [ii (2), ii (1), ii (0)] :: cellsH b1 [sN] 26 :: curH .i64 63 cb bsv bs.length :: L)
  skip
  refine qd (ptr cb 0) rfl (cX (qt (args := [ptr cb 0, ii (4)]) call15 rfl (jD [_, _, _, _] (l1Below_spec (n := 4) hbs (by omega) (hn := (by first | assumption | rfl | omega | simp)))) ?_))
  rintro _ _ _ _ ⟨⟨rfl, x2, rfl, hr1⟩, rfl⟩
  show XL _ _ _ _ _ _ _ (intsH 2 v2 ([0] : List Int) :: cellsH b2 [v2] 26 :: slH 2 1 v1 3 [ii (2), ii (1), ii (0)] :: cellsH b1 [sN] 26 :: curH .i64 63 cb bsv bs.length :: L)
  refine qh (ii (x2)) rfl (qb (qJ (jv (α := Nat × Value × List Int) (fun xQ => [(0, ptr cb 0), (2, ptr b1 0), (3, ptr b2 0), (4, ii (((xQ.1 : Nat) : Int)))]) (fun xQ => intsH 2 xQ.2.1 xQ.2.2 :: cellsH b2 [xQ.2.1] 26 :: slH 2 1 v1 3 [ii (2), ii (1), ii (0)] :: cellsH b1 [sN] 26 :: curH .i64 63 cb bsv bs.length :: L) (fun xQ F' => F = F' ∧ (IsSl xQ.2.1) ∧ (sigOk xQ.2.2 = true) ∧ (xQ.2.2.length + xQ.1 ≤ 4)) (fun xQ => xQ.1) (x2.toNat, v2, [0]) ⟨rfl, rfl, rfl, (vI (by omega)), ⟨⟩⟩ (sC (sC (sC (sC (sC sR))))) ⟨rfl, ((js hv2)), ((show sigOk [0] = true from by decide)), (by (try simp only [List.length_cons, List.length_nil]); omega)⟩ ?_)))
  rintro ⟨n, ov, os⟩ rE _ _ ⟨rfl, hov, hso, hon⟩
  show X _ _ _ _ (envs [(0, ptr cb 0), (2, ptr b1 0), (3, ptr b2 0), (4, ii ((n : Int)))] rE) _ (intsH 2 ov os :: cellsH b2 [ov] 26 :: slH 2 1 v1 3 [ii (2), ii (1), ii (0)] :: cellsH b1 [sN] 26 :: curH .i64 63 cb bsv bs.length :: L)
  dsimp only at hov hso hon
  refine qc (qc (qa (qd (ii ((n : Int))) rfl (cX (jU rfl rfl (qb ?_))))))
  refine qE (p := (n : Int) > 0) rfl (fun h2 => ?_) (fun h2 => ?_)
  ·refine qA (qc (qJ ?_))
   refine yc [intsH 2 ov os, cellsH b2 [ov] 26, slH 2 1 v1 3 [ii (2), ii (1), ii (0)], cellsH b1 [sN] 26, curH .i64 63 cb bsv bs.length] L 5 [[], [], [], [], [3]] [[], [0], [], [2], [3]] [] (phiG [pe (ptr b2 0), pe ov, pe (ptr cb 0), fun FF us v => (ii (((intAt v))) : Value) = v ∧ (0 ≤ ((intAt v)) ∧ (((intAt v)) < 3 ∨ ((intAt v)) = 0)), fun FF us v => ∃ b, v = .slice (some ⟨b, 0, none⟩) 1 1]) (ownL [o0, o0, o0, o0, fun us v => [slH 2 1 v 1 [ii (((intAt (us.getD 0 undef))))]]]) mixed rfl rfl (by kernel_rfl) (by kernel_rfl) (MonoG.get (m1 (m1 (m1 (mC (fun le h => ⟨h.1, h.2⟩) (mC (fun le h => h) MonoG.nil)))))) ?_ ?_
   ·refine gD (fun W Fs R lF z9 => ?_) ?_
    ·refine qg (qn (0) jk rfl qr (by decide) rfl rfl ?_)
     exact ⟨rfl, rfl⟩
    refine gD (fun W Fs R lF z9 => ?_) ?_
    ·replace hbs := hbs.mono lF
     rw [zA 0 (z9 0 rfl)]
     refine qg (qj qN rfl (Rd.own [_] rfl rfl) ?_)
     exact ⟨rfl, rfl⟩
    refine gD (fun W Fs R lF z9 => ?_) ?_
    ·refine qg (ql (ptr cb 0) rfl ?_)
     exact ⟨rfl, rfl⟩
    refine gD (fun W Fs R lF z9 => ?_) ?_
    ·replace hbs := hbs.mono lF
     rw [zA 2 (z9 2 rfl)]
     refine qg (qt (args := [ptr cb 0, ii (3)]) call15 rfl (jD [_, _, _, _] (l1Below_spec (n := 3) hbs (by omega) (hn := (by first | assumption | rfl | omega | simp)))) ?_)
     rintro _ _ _ _ ⟨⟨rfl, x4, rfl, hr3⟩, rfl⟩
     exact ⟨⟨rfl, hr3⟩, rfl⟩
    refine gD (fun W Fs R lF z9 => ?_) ?_
    ·obtain ⟨e3, f3_1hx⟩ := z9 3 rfl
     rw [eS (l := [(3, (ii (((intAt (W 3))))))]) ⟨(e3).symm, ⟨⟩⟩]
     refine qg (qD (s := 1) [ii (((intAt (W 3))))] [ii (0)] [(0, [ii (((intAt (W 3))))])] qf qC jj rfl (by decide) rfl (.cons rfl CellsAre.nil) rfl ?_)
     intro v4 hv4
     exact ⟨hv4, rfl⟩
    exact stepsG.nil
   intro W F5 le5 hphi
   obtain ⟨e3, f3_1hx⟩ := hphi 3 (by decide)
   have f4 : ∃ b, (W 4) = .slice (some ⟨b, 0, none⟩) 1 1 := hphi 4 (by decide)
   generalize hu1 : (intAt (W 3)) = u1 at e3 f3_1hx f4
   generalize huu4 : W 4 = u2 at e3 f3_1hx f4
   rw [eS (l := [(1, _), (3, (ii ((u1)))), (4, u2)]) ⟨(hphi 1 (by decide)), (e3).symm, huu4, ⟨⟩⟩]
   show XL _ _ _ _ _ _ _ (slH 2 1 u2 1 [ii ((u1))] :: intsH 2 ov os :: cellsH b2 [ov] 26 :: slH 2 1 v1 3 [ii (2), ii (1), ii (0)] :: cellsH b1 [sN] 26 :: curH .i64 63 cb bsv bs.length :: L)
   refine cX (XOp.append1 (u := (u1)) [_] _ qf typeInfo2 rfl rfl rfl rfl rfl rfl (SlV.own [] rfl) (Rd.sl [] rfl rfl) (by (try simp only [List.length_append, List.length_nil, List.length_cons, List.length_singleton, List.length_take, List.length_drop]); omega) ?_)
   intro v5 hs1 hn1
   refine cX (qn (0) jk rfl qr (by decide) rfl rfl (cX (jz [_, _] _ [v5] qr rfl rfl (qy hs1) rfl rfl rfl (qb (qa (qd (ii ((n : Int))) rfl (cX (jq (((n : Int)) - 1) rfl rfl (by omega) (by omega) (qh (ii (((n : Int)) - 1)) rfl (qb ?_))))))))))
   exact ⟨(n - 1, v5, os ++ [(u1)]), _, FLe.refl _, le5, ⟨rfl, rfl, rfl, (vI (by (try dsimp only); omega)), ⟨⟩⟩, (sD (sC (sC (sC (sC (sC sR)))))), ⟨rfl, (hs1), (sigOk_snoc hso (by omega) (by omega)), (by (try dsimp only); rw [List.length_append]; simp only [List.length_singleton]; omega)⟩, (by (try dsimp only); omega)⟩
  refine jn (qz (qz (qR (qc (qa (cX (qv [ov] qU qB rfl rfl (Rd.ownN [_] rfl rfl) (cX (qI [_, _, _] _ [ov] qB rfl rfl rfl (qm (qy hov) qO) rfl rfl rfl (qb (qw (qu (L' := drawnH 2 ov (fun ar => sigOk ar = true) :: curH .i64 63 cb bsv bs.length :: L) [.agg #[ov]] (.agg #[ov]) (.cell rfl (jA [ov] qU qB rfl (Rd.ownN [_, _, _] rfl rfl)) .nil) rfl rF rF (qW (sC (sD (sD (sD (sC sR))))) (Sub.keep (drawnH.of (t := os) hso) sR)) ?_))))))))))))
  exact ⟨_, ⟨rfl, hov⟩, rfl⟩
 refine qA (qc (qa (cX (qv [v1] qU qB rfl rfl (Rd.ownN [] rfl rfl) (cX (qI [_, _] _ [v1] qB rfl rfl rfl (qm (qy (js hv1)) qO) rfl rfl rfl (qb (qw (qu (L' := drawnH 2 v1 (fun ar => sigOk ar = true) :: curH .i64 63 cb bsv bs.length :: L) [.agg #[v1]] (.agg #[v1]) (.cell rfl (jA [v1] qU qB rfl (Rd.ownN [_, _] rfl rfl)) .nil) rfl rF rF (qW (sD (sC (sD (sC sR)))) (Sub.keep (drawnH.of (t := [2, 1, 0]) ((by decide))) sR)) ?_)))))))))
 exact ⟨_, ⟨rfl, (js hv1)⟩, rfl⟩

/- spec.l1DrawTerm -/
theorem l1DrawTerm_spec_step {dp : Nat} (ih : ∀ m : Nat, m < dp → ∀ {F : FH} {L : List HP} {cb : Nat} {bsv : Value} {bs : List Int} (hbs : BytesF F bsv bs) (hbl : bs.length ≤ 4000000) {arv : Value} {ar : List Int} (har : IntsF F arv ar) {vs : Int} (hso : sigOk ar = true) (hdp : m ≤ 5) (hvs : 0 ≤ vs ∧ vs ≤ 24), Does prog 49 [ptr cb 0, .agg #[arv], ii ((m : Int)), ii (vs)] F (curH .i64 63 cb bsv bs.length :: L) (fun v F' L' => ∃ a : Value, ((a : Value) = v ∧ IsSl a) ∧ drawnH 2 a (fun t => goodT ar t ∧ 1 ≤ t.length ∧ t.length ≤ szT m) :: curH .i64 63 cb bsv bs.length :: L = L')) {F : FH} {L : List HP} {cb : Nat} {bsv : Value} {bs : List Int} (hbs : BytesF F bsv bs) (hbl : bs.length ≤ 4000000) {arv : Value} {ar : List Int} (har : IntsF F arv ar) {vs : Int} (hso : sigOk ar = true) (hdp : dp ≤ 5) (hvs : 0 ≤ vs ∧ vs ≤ 24) :
    Does prog 49 [ptr cb 0, .agg #[arv], ii (((dp : Nat) : Int)), ii (vs)] F (curH .i64 63 cb bsv bs.length :: L) (fun v F' L' => ∃ a : Value, ((a : Value) = v ∧ IsSl a) ∧ drawnH 2 a (fun t => goodT ar t ∧ 1 ≤ t.length ∧ t.length ≤ szT dp) :: curH .i64 63 cb bsv bs.length :: L = L') := by
 refine qH func49 rfl rfl rfl ?_
 have hz9 := szT_le (d := dp - 1) (e := 4) (by omega)
 have hz8 : szT 4 = 121 := rfl
 have hz7 := szT_pos (dp - 1)
 have hsl := sigOk_spec hso
 refine qc (qa (cX (qY [arv] rfl rfl ?_)))
 intro b1
 refine qh (sN) rfl (qb (qc (qc (qa (qd (ii (((dp : Nat) : Int))) rfl (cX (XOp.leq rfl rfl (qd (.bool (decide ((((dp : Nat) : Int) : Int) ≤ 1))) rfl ?_))))))))
 by_cases h1 : (((dp : Nat) : Int) : Int) ≤ 1
 ·refine qq (t := 15) rfl (vT h1) (qq (t := 15) rfl (vT h1) (cX (qT (.bool (true)) (vT h1) rfl (qb (jO rfl (qc (qc (qa (qd (ii (vs)) rfl (cX (jU rfl rfl (qd (.bool (decide ((vs : Int) > 0))) rfl ?_))))))))))))
  by_cases h2 : (vs : Int) > 0
  ·refine qs (t := 21) rfl (vT h2) (ql (ptr cb 0) rfl (qs (t := 21) rfl (vT h2) (qt (args := [ptr cb 0, ii (2)]) call14 rfl (jD [_] (l1Once_spec (n := 2) hbs (by omega) (hn := (by first | assumption | rfl | omega | simp)))) ?_)))
   rintro _ _ _ _ ⟨⟨rfl, x1, rfl⟩, rfl⟩
   show XL _ _ _ _ _ _ _ (cellsH b1 [arv] 26 :: curH .i64 63 cb bsv bs.length :: L)
   refine cX (qT (.bool (x1)) (vT h2) rfl (qb ?_))
   refine jG (t := x1) rfl (fun h3 => ?_) (fun h3 => ?_)
   ·refine qc (qa (qd (ptr cb 0) rfl (qd (ii (vs)) rfl (cX (qt (args := [ptr cb 0, ii (vs)]) call15 rfl (jD [_] (l1Below_spec (n := vs) hbs (by omega) (hn := (by first | assumption | rfl | omega | simp)))) ?_)))))
    rintro _ _ _ _ ⟨⟨rfl, x2, rfl, hr1⟩, rfl⟩
    show XL _ _ _ _ _ _ _ (cellsH b1 [arv] 26 :: curH .i64 63 cb bsv bs.length :: L)
    refine cX (jq ((-1) - x2) rfl rfl (by omega) (by omega) (cX (qD (s := 1) [ii ((-1) - x2)] [ii (0)] [(0, [ii ((-1) - x2)])] qf qC jj rfl (by decide) rfl (.cons rfl CellsAre.nil) rfl ?_)))
    intro v1 hv1
    refine qh (v1) rfl (qb (qw (qo (qo (qu (L' := drawnH 2 v1 (fun t => goodT ar t ∧ 1 ≤ t.length ∧ t.length ≤ szT dp) :: curH .i64 63 cb bsv bs.length :: L) [v1] (v1) (.tmp rfl .nil) rfl rF rF (qW (sC (sD (sC sR))) (Sub.keep (drawnH.of (t := [(-1) - x2]) (⟨goodT.var (by omega) (by omega), Nat.le_refl _, szT_pos dp⟩)) sR)) ?_)))))
    exact ⟨_, ⟨rfl, (js hv1)⟩, rfl⟩
   refine qA (qc (qc (qa (cX (qn (0) jk rfl qr (by decide) rfl rfl (cX (qj qN rfl (Rd.own [] rfl rfl) (cX (qG qf rfl har.slv (cX (jq (((((ar).length) - 1 : Nat) : Int)) rfl rfl (by omega) (by omega) (qh (ii (((((ar).length) - 1 : Nat) : Int))) rfl (qb (qJ (jv (α := Nat) (fun j => [(5, ptr b1 0), (9, ii ((j : Int) - 1))]) (fun j => cellsH b1 [arv] 26 :: curH .i64 63 cb bsv bs.length :: L) (fun j F' => F = F' ∧ (j ≤ ar.length)) (fun j => j) ar.length ⟨rfl, (vI (by omega)), ⟨⟩⟩ (sC (sC sR)) ⟨rfl, (Nat.le_refl _)⟩ ?_)))))))))))))))
   rintro j rE _ _ ⟨rfl, hj⟩
   show X _ _ _ _ (envs [(5, ptr b1 0), (9, ii ((j : Int) - 1))] rE) _ (cellsH b1 [arv] 26 :: curH .i64 63 cb bsv bs.length :: L)
   refine qc (qc (qa (qd (ii ((j : Int) - 1)) rfl (cX (jV rfl rfl (qb ?_))))))
   refine qE (p := ((j : Int) - 1 : Int) ≥ 0) rfl (fun h4 => ?_) (fun h4 => ?_)
   ·refine qA (qc (qJ (qc (qa (cX (qn (0) jk rfl qr (by decide) rfl rfl (cX (qj qN rfl (Rd.own [] rfl rfl) (qd (ii ((j : Int) - 1)) rfl (cX (qx (((j : Int) - 1).toNat) qf qC rfl rfl (by omega) har.slv (by omega) (Nat.mul_one _) (cX (qj jh rfl (har.rd (by omega)) (cX (jo rfl rfl (qb ?_))))))))))))))))
    refine qE (p := (ar.getD (((j : Int) - 1).toNat) 0 : Int) = 0) rfl (fun h5 => ?_) (fun h5 => ?_)
    ·refine qc (qa (qd (ii ((j : Int) - 1)) rfl (cX (qD (s := 1) [ii ((j : Int) - 1)] [ii (0)] [(0, [ii ((j : Int) - 1)])] qf qC jj rfl (by decide) rfl (.cons rfl CellsAre.nil) rfl ?_))))
     intro v2 hv2
     refine qh (v2) rfl (qb (qw (qF (qo (qo (qF (qo (qo (qu (L' := drawnH 2 v2 (fun t => goodT ar t ∧ 1 ≤ t.length ∧ t.length ≤ szT dp) :: curH .i64 63 cb bsv bs.length :: L) [v2] (v2) (.tmp rfl .nil) rfl rF rF (qW (sC (sD (sC sR))) (Sub.keep (drawnH.of (t := [(j : Int) - 1]) (⟨goodT.one (by omega) (by omega) (by rw [arity, if_neg (by omega)]; omega), Nat.le_refl _, szT_pos dp⟩)) sR)) ?_)))))))))
     exact ⟨_, ⟨rfl, (js hv2)⟩, rfl⟩
    refine qA (qa (qd (ii ((j : Int) - 1)) rfl (cX (jq (((j : Int) - 1) - 1) rfl rfl (by omega) (by omega) (qh (ii (((j : Int) - 1) - 1)) rfl (qb ?_))))))
    exact ⟨j - 1, _, FLe.refl _, rF, ⟨rfl, (vI (by (try dsimp only); omega)), ⟨⟩⟩, (sC (sC sR)), ⟨rfl, (by (try dsimp only) <;> omega)⟩, (by (try dsimp only); omega)⟩
   refine jn (qz (qz (qR (qc (qa (cX (qD (s := 1) [ii (-1)] [ii (0)] [(0, [ii (-1)])] qf qC jj rfl (by decide) rfl (.cons rfl CellsAre.nil) rfl ?_)))))))
   intro v3 hv3
   refine qh (v3) rfl (qb (qw (qo (qu (L' := drawnH 2 v3 (fun t => goodT ar t ∧ 1 ≤ t.length ∧ t.length ≤ szT dp) :: curH .i64 63 cb bsv bs.length :: L) [v3] (v3) (.tmp rfl .nil) rfl rF rF (qW (sC (sD (sC sR))) (Sub.keep (drawnH.of (t := [-1]) (⟨goodT.var (by omega) (by omega), Nat.le_refl _, szT_pos dp⟩)) sR)) ?_))))
   exact ⟨_, ⟨rfl, (js hv3)⟩, rfl⟩
  refine qq (t := 21) rfl (vF h2) (qq (t := 21) rfl (vF h2) (cX (qP (.bool (false)) (vF h2) rfl (qb (jW rfl (qA (qc (qc (qa (cX (qn (0) jk rfl qr (by decide) rfl rfl (cX (qj qN rfl (Rd.own [] rfl rfl) (cX (qG qf rfl har.slv (cX (jq (((((ar).length) - 1 : Nat) : Int)) rfl rfl (by omega) (by omega) ?_)))))))))))))))))
  refine qh (ii (((((ar).length) - 1 : Nat) : Int))) rfl (qb (qJ (jv (α := Nat) (fun j => [(5, ptr b1 0), (9, ii ((j : Int) - 1))]) (fun j => cellsH b1 [arv] 26 :: curH .i64 63 cb bsv bs.length :: L) (fun j F' => F = F' ∧ (j ≤ ar.length)) (fun j => j) ar.length ⟨rfl, (vI (by omega)), ⟨⟩⟩ (sC (sC sR)) ⟨rfl, (Nat.le_refl _)⟩ ?_)))
  rintro j rE _ _ ⟨rfl, hj⟩
  show X _ _ _ _ (envs [(5, ptr b1 0), (9, ii ((j : Int) - 1))] rE) _ (cellsH b1 [arv] 26 :: curH .i64 63 cb bsv bs.length :: L)
  refine qc (qc (qa (qd (ii ((j : Int) - 1)) rfl (cX (jV rfl rfl (qb ?_))))))
  refine qE (p := ((j : Int) - 1 : Int) ≥ 0) rfl (fun h6 => ?_) (fun h6 => ?_)
  ·refine qA (qc (qJ (qc (qa (cX (qn (0) jk rfl qr (by decide) rfl rfl (cX (qj qN rfl (Rd.own [] rfl rfl) (qd (ii ((j : Int) - 1)) rfl (cX (qx (((j : Int) - 1).toNat) qf qC rfl rfl (by omega) har.slv (by omega) (Nat.mul_one _) (cX (qj jh rfl (har.rd (by omega)) (cX (jo rfl rfl (qb ?_))))))))))))))))
   refine qE (p := (ar.getD (((j : Int) - 1).toNat) 0 : Int) = 0) rfl (fun h7 => ?_) (fun h7 => ?_)
   ·refine qc (qa (qd (ii ((j : Int) - 1)) rfl (cX (qD (s := 1) [ii ((j : Int) - 1)] [ii (0)] [(0, [ii ((j : Int) - 1)])] qf qC jj rfl (by decide) rfl (.cons rfl CellsAre.nil) rfl ?_))))
    intro v4 hv4
    refine qh (v4) rfl (qb (qw (qF (qo (qo (qF (qo (qo (qu (L' := drawnH 2 v4 (fun t => goodT ar t ∧ 1 ≤ t.length ∧ t.length ≤ szT dp) :: curH .i64 63 cb bsv bs.length :: L) [v4] (v4) (.tmp rfl .nil) rfl rF rF (qW (sC (sD (sC sR))) (Sub.keep (drawnH.of (t := [(j : Int) - 1]) (⟨goodT.one (by omega) (by omega) (by rw [arity, if_neg (by omega)]; omega), Nat.le_refl _, szT_pos dp⟩)) sR)) ?_)))))))))
    exact ⟨_, ⟨rfl, (js hv4)⟩, rfl⟩
   refine qA (qa (qd (ii ((j : Int) - 1)) rfl (cX (jq (((j : Int) - 1) - 1) rfl rfl (by omega) (by omega) (qh (ii (((j : Int) - 1) - 1)) rfl (qb ?_))))))
   exact ⟨j - 1, _, FLe.refl _, rF, ⟨rfl, (vI (by (try dsimp only); omega)), ⟨⟩⟩, (sC (sC sR)), ⟨rfl, (by (try dsimp only) <;> omega)⟩, (by (try dsimp only); omega)⟩
  refine jn (qz (qz (qR (qc (qa (cX (qD (s := 1) [ii (-1)] [ii (0)] [(0, [ii (-1)])] qf qC jj rfl (by decide) rfl (.cons rfl CellsAre.nil) rfl ?_)))))))
  intro v5 hv5
  refine qh (v5) rfl (qb (qw (qo (qu (L' := drawnH 2 v5 (fun t => goodT ar t ∧ 1 ≤ t.length ∧ t.length ≤ szT dp) :: curH .i64 63 cb bsv bs.length :: L) [v5] (v5) (.tmp rfl .nil) rfl rF rF (qW (sC (sD (sC sR))) (Sub.keep (drawnH.of (t := [-1]) (⟨goodT.var (by omega) (by omega), Nat.le_refl _, szT_pos dp⟩)) sR)) ?_))))
  exact ⟨_, ⟨rfl, (js hv5)⟩, rfl⟩
 refine qs (t := 15) rfl (vF h1) (ql (ptr cb 0) rfl (qs (t := 15) rfl (vF h1) (qt (args := [ptr cb 0, ii (4)]) call14 rfl (jD [_] (l1Once_spec (n := 4) hbs (by omega) (hn := (by first | assumption | rfl | omega | simp)))) ?_)))
 rintro _ _ _ _ ⟨⟨rfl, x3, rfl⟩, rfl⟩
 show XL _ _ _ _ _ _ _ (cellsH b1 [arv] 26 :: curH .i64 63 cb bsv bs.length :: L)
 refine cX (qP (.bool (x3)) (vF h1) rfl (qb ?_))
 refine jG (t := x3) rfl (fun h8 => ?_) (fun h8 => ?_)
 ·refine qc (qc (qa (qd (ii (vs)) rfl (cX (jU rfl rfl (qd (.bool (decide ((vs : Int) > 0))) rfl ?_))))))
  by_cases h9 : (vs : Int) > 0
  ·refine qs (t := 21) rfl (vT h9) (ql (ptr cb 0) rfl (qs (t := 21) rfl (vT h9) (qt (args := [ptr cb 0, ii (2)]) call14 rfl (jD [_] (l1Once_spec (n := 2) hbs (by omega) (hn := (by first | assumption | rfl | omega | simp)))) ?_)))
   rintro _ _ _ _ ⟨⟨rfl, x4, rfl⟩, rfl⟩
   show XL _ _ _ _ _ _ _ (cellsH b1 [arv] 26 :: curH .i64 63 cb bsv bs.length :: L)
   refine cX (qT (.bool (x4)) (vT h9) rfl (qb ?_))
   refine jG (t := x4) rfl (fun h10 => ?_) (fun h10 => ?_)
   ·refine qc (qa (qd (ptr cb 0) rfl (qd (ii (vs)) rfl (cX (qt (args := [ptr cb 0, ii (vs)]) call15 rfl (jD [_] (l1Below_spec (n := vs) hbs (by omega) (hn := (by first | assumption | rfl | omega | simp)))) ?_)))))
    rintro _ _ _ _ ⟨⟨rfl, x5, rfl, hr2⟩, rfl⟩
    show XL _ _ _ _ _ _ _ (cellsH b1 [arv] 26 :: curH .i64 63 cb bsv bs.length :: L)
    refine cX (jq ((-1) - x5) rfl rfl (by omega) (by omega) (cX (qD (s := 1) [ii ((-1) - x5)] [ii (0)] [(0, [ii ((-1) - x5)])] qf qC jj rfl (by decide) rfl (.cons rfl CellsAre.nil) rfl ?_)))
    intro v6 hv6
    refine qh (v6) rfl (qb (qw (qo (qo (qu (L' := drawnH 2 v6 (fun t => goodT ar t ∧ 1 ≤ t.length ∧ t.length ≤ szT dp) :: curH .i64 63 cb bsv bs.length :: L) [v6] (v6) (.tmp rfl .nil) rfl rF rF (qW (sC (sD (sC sR))) (Sub.keep (drawnH.of (t := [(-1) - x5]) (⟨goodT.var (by omega) (by omega), Nat.le_refl _, szT_pos dp⟩)) sR)) ?_)))))
    exact ⟨_, ⟨rfl, (js hv6)⟩, rfl⟩
   refine qA (qc (qc (qa (cX (qn (0) jk rfl qr (by decide) rfl rfl (cX (qj qN rfl (Rd.own [] rfl rfl) (cX (qG qf rfl har.slv (cX (jq (((((ar).length) - 1 : Nat) : Int)) rfl rfl (by omega) (by omega) (qh (ii (((((ar).length) - 1 : Nat) : Int))) rfl (qb (qJ (jv (α := Nat) (fun j => [(5, ptr b1 0), (9, ii ((j : Int) - 1))]) (fun j => cellsH b1 [arv] 26 :: curH .i64 63 cb bsv bs.length :: L) (fun j F' => F = F' ∧ (j ≤ ar.length)) (fun j => j) ar.length ⟨rfl, (vI (by omega)), ⟨⟩⟩ (sC (sC sR)) ⟨rfl, (Nat.le_refl _)⟩ ?_)))))))))))))))
   rintro j rE _ _ ⟨rfl, hj⟩
   show X _ _ _ _ (envs [(5, ptr b1 0), (9, ii ((j : Int) - 1))] rE) _ (cellsH b1 [arv] 26 :: curH .i64 63 cb bsv bs.length :: L)
   refine qc (qc (qa (qd (ii ((j : Int) - 1)) rfl (cX (jV rfl rfl (qb ?_))))))
   refine qE (p := ((j : Int) - 1 : Int) ≥ 0) rfl (fun h11 => ?_) (fun h11 => ?_)
   ·refine qA (qc (qJ (qc (qa (cX (qn (0) jk rfl qr (by decide) rfl rfl (cX (qj qN rfl (Rd.own [] rfl rfl) (qd (ii ((j : Int) - 1)) rfl (cX (qx (((j : Int) - 1).toNat) qf qC rfl rfl (by omega) har.slv (by omega) (Nat.mul_one _) (cX (qj jh rfl (har.rd (by omega)) (cX (jo rfl rfl (qb ?_))))))))))))))))
    refine qE (p := (ar.getD (((j : Int) - 1).toNat) 0 : Int) = 0) rfl (fun h12 => ?_) (fun h12 => ?_)
    ·refine qc (qa (qd (ii ((j : Int) - 1)) rfl (cX (qD (s := 1) [ii ((j : Int) - 1)] [ii (0)] [(0, [ii ((j : Int) - 1)])] qf qC jj rfl (by decide) rfl (.cons rfl CellsAre.nil) rfl ?_))))
     intro v7 hv7
     refine qh (v7) rfl (qb (qw (qF (qo (qo (qF (qo (qo (qu (L' := drawnH 2 v7 (fun t => goodT ar t ∧ 1 ≤ t.length ∧ t.length ≤ szT dp) :: curH .i64 63 cb bsv bs.length :: L) [v7] (v7) (.tmp rfl .nil) rfl rF rF (qW (sC (sD (sC sR))) (Sub.keep (drawnH.of (t := [(j : Int) - 1]) (⟨goodT.one (by omega) (by omega) (by rw [arity, if_neg (by omega)]; omega), Nat.le_refl _, szT_pos dp⟩)) sR)) ?_)))))))))
     exact ⟨_, ⟨rfl, (js hv7)⟩, rfl⟩
    refine qA (qa (qd (ii ((j : Int) - 1)) rfl (cX (jq (((j : Int) - 1) - 1) rfl rfl (by omega) (by omega) (qh (ii (((j : Int) - 1) - 1)) rfl (qb ?_))))))
    exact ⟨j - 1, _, FLe.refl _, rF, ⟨rfl, (vI (by (try dsimp only); omega)), ⟨⟩⟩, (sC (sC sR)), ⟨rfl, (by (try dsimp only) <;> omega)⟩, (by (try dsimp only); omega)⟩
   refine jn (qz (qz (qR (qc (qa (cX (qD (s := 1) [ii (-1)] [ii (0)] [(0, [ii (-1)])] qf qC jj rfl (by decide) rfl (.cons rfl CellsAre.nil) rfl ?_)))))))
   intro v8 hv8
   refine qh (v8) rfl (qb (qw (qo (qu (L' := drawnH 2 v8 (fun t => goodT ar t ∧ 1 ≤ t.length ∧ t.length ≤ szT dp) :: curH .i64 63 cb bsv bs.length :: L) [v8] (v8) (.tmp rfl .nil) rfl rF rF (qW (sC (sD (sC sR))) (Sub.keep (drawnH.of (t := [-1]) (⟨goodT.var (by omega) (by omega), Nat.le_refl _, szT_pos dp⟩)) sR)) ?_))))
   exact ⟨_, ⟨rfl, (js hv8)⟩, rfl⟩
  refine qq (t := 21) rfl (vF h9) (qq (t := 21) rfl (vF h9) (cX (qP (.bool (false)) (vF h9) rfl (qb (jW rfl (qA (qc (qc (qa (cX (qn (0) jk rfl qr (by decide) rfl rfl (cX (qj qN rfl (Rd.own [] rfl rfl) (cX (qG qf rfl har.slv (cX (jq (((((ar).length) - 1 : Nat) : Int)) rfl rfl (by omega) (by omega) ?_)))))))))))))))))
  refine qh (ii (((((ar).length) - 1 : Nat) : Int))) rfl (qb (qJ (jv (α := Nat) (fun j => [(5, ptr b1 0), (9, ii ((j : Int) - 1))]) (fun j => cellsH b1 [arv] 26 :: curH .i64 63 cb bsv bs.length :: L) (fun j F' => F = F' ∧ (j ≤ ar.length)) (fun j => j) ar.length ⟨rfl, (vI (by omega)), ⟨⟩⟩ (sC (sC sR)) ⟨rfl, (Nat.le_refl _)⟩ ?_)))
  rintro j rE _ _ ⟨rfl, hj⟩
  show X _ _ _ _ (envs [(5, ptr b1 0), (9, ii ((j : Int) - 1))] rE) _ (cellsH b1 [arv] 26 :: curH .i64 63 cb bsv bs.length :: L)
  refine qc (qc (qa (qd (ii ((j : Int) - 1)) rfl (cX (jV rfl rfl (qb ?_))))))
  refine qE (p := ((j : Int) - 1 : Int) ≥ 0) rfl (fun h13 => ?_) (fun h13 => ?_)
  ·refine qA (qc (qJ (qc (qa (cX (qn (0) jk rfl qr (by decide) rfl rfl (cX (qj qN rfl (Rd.own [] rfl rfl) (qd (ii ((j : Int) - 1)) rfl (cX (qx (((j : Int) - 1).toNat) qf qC rfl rfl (by omega) har.slv (by omega) (Nat.mul_one _) (cX (qj jh rfl (har.rd (by omega)) (cX (jo rfl rfl (qb ?_))))))))))))))))
   refine qE (p := (ar.getD (((j : Int) - 1).toNat) 0 : Int) = 0) rfl (fun h14 => ?_) (fun h14 => ?_)
   ·refine qc (qa (qd (ii ((j : Int) - 1)) rfl (cX (qD (s := 1) [ii ((j : Int) - 1)] [ii (0)] [(0, [ii ((j : Int) - 1)])] qf qC jj rfl (by decide) rfl (.cons rfl CellsAre.nil) rfl ?_))))
    intro v9 hv9
    refine qh (v9) rfl (qb (qw (qF (qo (qo (qF (qo (qo (qu (L' := drawnH 2 v9 (fun t => goodT ar t ∧ 1 ≤ t.length ∧ t.length ≤ szT dp) :: curH .i64 63 cb bsv bs.length :: L) [v9] (v9) (.tmp rfl .nil) rfl rF rF (qW (sC (sD (sC sR))) (Sub.keep (drawnH.of (t := [(j : Int) - 1]) (⟨goodT.one (by omega) (by omega) (by rw [arity, if_neg (by omega)]; omega), Nat.le_refl _, szT_pos dp⟩)) sR)) ?_)))))))))
    exact ⟨_, ⟨rfl, (js hv9)⟩, rfl⟩
   refine qA (qa (qd (ii ((j : Int) - 1)) rfl (cX (jq (((j : Int) - 1) - 1) rfl rfl (by omega) (by omega) (qh (ii (((j : Int) - 1) - 1)) rfl (qb ?_))))))
   exact ⟨j - 1, _, FLe.refl _, rF, ⟨rfl, (vI (by (try dsimp only); omega)), ⟨⟩⟩, (sC (sC sR)), ⟨rfl, (by (try dsimp only) <;> omega)⟩, (by (try dsimp only); omega)⟩
  refine jn (qz (qz (qR (qc (qa (cX (qD (s := 1) [ii (-1)] [ii (0)] [(0, [ii (-1)])] qf qC jj rfl (by decide) rfl (.cons rfl CellsAre.nil) rfl ?_)))))))
  intro v10 hv10
  refine qh (v10) rfl (qb (qw (qo (qu (L' := drawnH 2 v10 (fun t => goodT ar t ∧ 1 ≤ t.length ∧ t.length ≤ szT dp) :: curH .i64 63 cb bsv bs.length :: L) [v10] (v10) (.tmp rfl .nil) rfl rF rF (qW (sC (sD (sC sR))) (Sub.keep (drawnH.of (t := [-1]) (⟨goodT.var (by omega) (by omega), Nat.le_refl _, szT_pos dp⟩)) sR)) ?_))))
  exact ⟨_, ⟨rfl, (js hv10)⟩, rfl⟩
 refine qA (qc (qa (qd (ptr cb 0) rfl (cX (qn (0) jk rfl qr (by decide) rfl rfl (cX (qj qN rfl (Rd.own [] rfl rfl) (cX (qG qf rfl har.slv (cX (qt (args := [ptr cb 0, ii ((ar.length : Int))]) call15 rfl (jD [_] (l1Below_spec (n := (ar.length : Int)) hbs (by omega) (hn := (by first | assumption | rfl | omega | simp)))) ?_)))))))))))
 rintro _ _ _ _ ⟨⟨rfl, x6, rfl, hr3⟩, rfl⟩
 show XL _ _ _ _ _ _ _ (cellsH b1 [arv] 26 :: curH .i64 63 cb bsv bs.length :: L)
 refine qh (ii (x6)) rfl (qb (qc (qa (qd (ii (x6)) rfl (cX (qD (s := 1) [ii (x6)] [ii (0)] [(0, [ii (x6)])] qf qC jj rfl (by decide) rfl (.cons rfl CellsAre.nil) rfl ?_))))))
 intro v11 hv11
 refine qh (v11) rfl (qb (qc (qc (qa ?_))))
 show XL _ _ _ _ _ _ _ (intsH 2 v11 ([x6] : List Int) :: cellsH b1 [arv] 26 :: curH .i64 63 cb bsv bs.length :: L)
 skip
 refine cX (qn (0) jk rfl qr (by decide) rfl rfl (cX (qj qN rfl (Rd.own [_] rfl rfl) (qd (ii (x6)) rfl (cX (qx ((x6).toNat) qf qC rfl rfl (by omega) har.slv (by omega) (Nat.mul_one _) (cX (qj jh rfl (har.rd (by omega)) (qh (ii (ar.getD ((x6).toNat) 0)) rfl ?_)))))))))
 have hfr : 0 ≤ x6 ∧ x6 < (ar.length : Int) := by omega
 have hsp := (sigOk_spec hso).2.2 (x6).toNat (by omega)
 obtain ⟨haK, hKe⟩ : ∃ q : Nat, q = (ar.getD ((x6).toNat) 0).toNat := ⟨_, rfl⟩
 have hK3 : haK ≤ 3 := by omega
 have hKa : arity ar x6 = (haK : Int) := by rw [arity, if_neg (by omega)]; omega
 refine qb (qJ (jv (α := Nat × Value × List Int × List Int × FH) (fun xQ => [(0, ptr cb 0), (2, ii (((dp : Nat) : Int))), (3, ii (vs)), (5, ptr b1 0), (11, xQ.2.1), (12, ii (((xQ.1 : Nat) : Int)))]) (fun xQ => intsH 2 xQ.2.1 xQ.2.2.1 :: cellsH b1 [arv] 26 :: curH .i64 63 cb bsv bs.length :: L) (fun xQ F' => xQ.2.2.2.2 = F' ∧ F ≤ xQ.2.2.2.2 ∧ (IsSl xQ.2.1) ∧ (xQ.2.2.1 = x6 :: xQ.2.2.2.1) ∧ (xQ.1 + (haK - xQ.1) = haK ∧ xQ.1 ≤ haK) ∧ (goodN ar xQ.2.2.2.1 (haK - xQ.1)) ∧ (xQ.2.2.2.1.length ≤ (haK - xQ.1) * szT (dp - 1))) (fun xQ => xQ.1) ((ar.getD ((x6).toNat) 0).toNat, v11, [x6], [], F) ⟨rfl, rfl, rfl, rfl, rfl, (vI (by omega)), ⟨⟩⟩ (sC (sC (sC sR))) ⟨rfl, FLe.refl _, ((js hv11)), (rfl), (by (try dsimp only); omega), (by (try dsimp only); rw [show haK - (ar.getD ((x6).toNat) 0).toNat = 0 from by omega]; exact goodN.nil), (by (try dsimp only); simp)⟩ ?_))
 rintro ⟨n, ov, os, ot, G1⟩ rE _ _ ⟨rfl, leG, hov, hoe, hn3, hgo, hol⟩
 show X _ _ _ _ (envs [(0, ptr cb 0), (2, ii (((dp : Nat) : Int))), (3, ii (vs)), (5, ptr b1 0), (11, ov), (12, ii ((n : Int)))] rE) _ (intsH 2 ov os :: cellsH b1 [arv] 26 :: curH .i64 63 cb bsv bs.length :: L)
 replace leG : F ≤ G1 := leG
 dsimp only at hov hoe hn3 hgo hol
 have hm9 : (haK - n) * szT (dp - 1) ≤ 3 * szT (dp - 1) := Nat.mul_le_mul_right _ (by omega)
 have hool : os.length = ot.length + 1 := by rw [hoe]; rfl
 have leG1 := leG
 replace hbs := hbs.mono leG1
 replace har := har.mono leG1
 refine qc (qc (qa (qd (ii ((n : Int))) rfl (cX (jU rfl rfl (qb ?_))))))
 refine qE (p := (n : Int) > 0) rfl (fun h15 => ?_) (fun h15 => ?_)
 ·refine qA (qc (qJ (qa (qd (ov) rfl (qd (ptr cb 0) rfl (cX (qv [arv] qU qB rfl rfl (Rd.ownN [_] rfl rfl) (qd (ii (((dp : Nat) : Int))) rfl (cX (jq (((dp - 1 : Nat) : Int)) rfl rfl (by omega) (by omega) (qd (ii (vs)) rfl (cX (qt (args := [ptr cb 0, .agg #[arv], ii ((dp - 1 : Nat) : Int), ii (vs)]) call49 rfl (Does.atO [_, _] (ih (dp - 1) (by omega) (vs := vs) hbs (by omega) har (hso := (by first | assumption | rfl | omega | simp)) (hdp := (by first | assumption | rfl | omega | simp)) (hvs := (by first | assumption | rfl | omega | simp)))) ?_)))))))))))))
  rintro _ F7 _ le7 ⟨x8, ⟨rfl, hsl1⟩, rfl⟩
  show XL _ _ _ _ _ _ _ (drawnH 2 x8 (fun t => goodT ar t ∧ 1 ≤ t.length ∧ t.length ≤ szT (dp - 1)) :: intsH 2 ov os :: cellsH b1 [arv] 26 :: curH .i64 63 cb bsv bs.length :: L)
  refine XL.undraw [] rfl (fun t1 hq9 => ?_)
  obtain ⟨q1, q2, q3⟩ := hq9
  show XL _ _ _ _ _ _ _ (intsH 2 x8 t1 :: intsH 2 ov os :: cellsH b1 [arv] 26 :: curH .i64 63 cb bsv bs.length :: L)
  refine XL.freezeF [] _ _ rfl (fun F8 le8 hz1 => ?_)
  have hf1 : IntsF F8 x8 t1 := intsH.fz (xs := t1) hz1.fz
  refine cX (XOp.appendI [] _ qf typeInfo2 rfl rfl rfl rfl rfl rfl hf1 (by (try simp only [List.length_append, List.length_nil, List.length_cons, List.length_singleton, List.length_take, List.length_drop]); omega) ?_)
  intro v12 hs1 hn1 hm1
  refine qh (v12) rfl (qb (qa (qd (ii ((n : Int))) rfl (cX (jq (((n - 1 : Nat) : Int)) rfl rfl (by omega) (by omega) (qh (ii (((n - 1 : Nat) : Int))) rfl (qb ?_)))))))
  exact ⟨(n - 1, v12, os ++ t1, (ot ++ t1), F8), _, (qi (qi leG1 le7) le8), rF, ⟨rfl, rfl, rfl, rfl, rfl, rfl, ⟨⟩⟩, (sC (sC (sC sR))), ⟨rfl, (qi (qi leG1 le7) le8), (hs1), (by (try dsimp only); rw [hoe] <;> rfl), (by (try dsimp only); omega), (by (try dsimp only); rw [show haK - (n - 1) = haK - n + 1 from by omega]; exact hgo.snoc q1), (by (try dsimp only); rw [show haK - (n - 1) = haK - n + 1 from by omega, Nat.succ_mul, List.length_append]; omega)⟩, (by (try dsimp only); omega)⟩
 refine jn (qz (qz (qR (qc (qa (qd (ov) rfl (qh (ov) rfl (qb (qw (qu (L' := drawnH 2 ov (fun t => goodT ar t ∧ 1 ≤ t.length ∧ t.length ≤ szT dp) :: curH .i64 63 cb bsv bs.length :: L) [ov] (ov) (.tmp rfl .nil) rfl leG1 rF (qW (sC (sD (sC sR))) (Sub.keep (drawnH.of (t := os) ((show goodT ar os ∧ 1 ≤ os.length ∧ os.length ≤ szT dp from ⟨by rw [hoe]; exact goodT.node hfr.1 (by omega) hKa (by have h9 := hgo; rwa [show haK - n = haK from by omega] at h9), by omega, by have h9 := szT_next (d := dp) (by omega); omega⟩))) sR)) ?_))))))))))
 exact ⟨_, ⟨rfl, hov⟩, rfl⟩

theorem l1DrawTerm_spec (dp : Nat) : ∀ {F : FH} {L : List HP} {cb : Nat} {bsv : Value} {bs : List Int} (hbs : BytesF F bsv bs) (hbl : bs.length ≤ 4000000) {arv : Value} {ar : List Int} (har : IntsF F arv ar) {vs : Int} (hso : sigOk ar = true) (hdp : dp ≤ 5) (hvs : 0 ≤ vs ∧ vs ≤ 24), Does prog 49 [ptr cb 0, .agg #[arv], ii (((dp : Nat) : Int)), ii (vs)] F (curH .i64 63 cb bsv bs.length :: L) (fun v F' L' => ∃ a : Value, ((a : Value) = v ∧ IsSl a) ∧ drawnH 2 a (fun t => goodT ar t ∧ 1 ≤ t.length ∧ t.length ≤ szT dp) :: curH .i64 63 cb bsv bs.length :: L = L') := by
  induction dp using Nat.strongRecOn with
  | _ dp ih =>
    intros
    exact l1DrawTerm_spec_step ih (by assumption) (by assumption) (by assumption) (by assumption) (by assumption) (by assumption)

/- laws.big -/
theorem big_spec {F : FH} {L : List HP} {bsv : Value} {bs : List Int} (hbs : BytesF F bsv bs) :
    Does prog 4 [bsv] F (L) (fun v F' L' => (.bool (decide ((bs.length : Int) > 4096)) : Value) = v ∧ F = F' ∧ L = L') := by
 refine qH func4 rfl rfl rfl (qc (qa (qh (.bool (false)) rfl (qb (qc (qa (qd (bsv) rfl (cX (qG ye rfl hbs.slv (cX (jU rfl rfl (qh (.bool (decide (((bs.length : Int) : Int) > 4096))) rfl (qb (qw (qu (L' := L) [.bool (decide (((bs.length : Int) : Int) > 4096))] (.bool (decide (((bs.length : Int) : Int) > 4096))) (.tmp rfl .nil) rfl rF rF sR ?_)))))))))))))))
 exact ⟨rfl, rfl, rfl⟩

/- laws.roll -/
theorem roll_spec {F : FH} {L : List HP} {bsv : Value} {bs : List Int} (hbs : BytesF F bsv bs) (hlb : bs.length ≤ 4000000) {s : Int} :
    Does prog 9 [bsv, .int .u64 (s)] F (L) (fun v F' L' => ∃ cb : Nat, (ptr cb 0 : Value) = v ∧ F = F' ∧ curH .u64 56 cb bsv bs.length :: L = L') := by
 refine qH func9 rfl rfl rfl (qc (qa (qh ((.pointer none)) rfl (qb (qc (qa (qd (bsv) rfl (qd (.int .u64 (s)) rfl (cX (XOp.mulW (a := s) (b := 7919) rfl rfl ?_))))))))))
 intro r1
 refine qd (bsv) rfl (cX (qG ye rfl hbs.slv (cX (XOp.convW (k' := .i64) (a := (bs.length : Int)) runUnderlying3 runUnderlying39 rfl ?_))))
 intro r2
 refine cX (XOp.addW (a := r1) (b := r2) rfl rfl ?_)
 intro r3
 refine cX (qZ [bsv, ii (0), .int .u64 (r3)] [sN, ii (0), .int .u64 (0)] [(0, 1), (1, 1), (2, 1)] [(0, [bsv]), (2, [.int .u64 (r3)])] jX zeroValue56 rfl (.cons rfl sizeOf22 (.cons rfl jC (.cons rfl sizeOf39 PlacesAre.nil))) rfl (.cons (cells_one (BytesF.isSl hbs)) (.cons rfl CellsAre.nil)) (cX (qY [bsv, ii (0), .int .u64 (r3)] rfl rfl ?_)))
 intro b1
 refine qh (ptr b1 0) rfl (qb (qc (qc (qa (qh (ii (0)) rfl (qb (qJ (jv (α := Nat × Int) (fun xQ => [(0, bsv), (5, ptr b1 0), (6, ii (((xQ.1 : Nat) : Int)))]) (fun xQ => cellsH b1 [bsv, ii (0), .int .u64 (xQ.2)] 56 :: L) (fun xQ F' => F = F' ∧ (xQ.1 ≤ bs.length)) (fun xQ => bs.length - xQ.1) (0, r3) ⟨rfl, rfl, rfl, ⟨⟩⟩ (sC sR) ⟨rfl, (Nat.zero_le _)⟩ ?_))))))))
 rintro ⟨k, h⟩ rE _ _ ⟨rfl, hk⟩
 show X _ _ _ _ (envs [(0, bsv), (5, ptr b1 0), (6, ii ((k : Int)))] rE) _ (cellsH b1 [bsv, ii (0), .int .u64 (h)] 56 :: L)
 dsimp only at hk
 refine qc (qc (qa (qd (ii ((k : Int))) rfl (qd (bsv) rfl (cX (qG ye rfl hbs.slv (cX (qX rfl rfl (qb ?_)))))))))
 refine qE (p := (k : Int) < (bs.length : Int)) rfl (fun h1 => ?_) (fun h1 => ?_)
 ·refine qA (qc (qJ ?_))
  refine yc [cellsH b1 [bsv, ii (0), .int .u64 (h)] 56] L 13 [] [[], [], [1], [2], [3], [4], [], [], [6, 7], [8], [9], [5, 10], [11]] [] (phiG [pe (ptr b1 0), pe (ptr b1 0), pe (ptr b1 0), pe (ptr b1 2), pe (.int .u64 (h)), fun FF us v => (.int .u64 ((intAt v)) : Value) = v, pe bsv, pe (ii ((k : Int)) : Value), pe (.pointer (some (elemA bsv (k)))), pe (.int .u8 (bs.getD k 0)), fun FF us v => (.int .u64 ((intAt v)) : Value) = v, fun FF us v => (.int .u64 ((intAt v)) : Value) = v, fun FF us v => (.int .u64 ((intAt v)) : Value) = v]) (ownL []) mixed rfl rfl (by kernel_rfl) (by kernel_rfl) (MonoG.get (m1 (m1 (m1 (m1 (m1 (mC (fun le h => h) (m1 (m1 (m1 (m1 (mC (fun le h => h) (mC (fun le h => h) (mC (fun le h => h) MonoG.nil)))))))))))))) ?_ ?_
  ·refine gD (fun W Fs R lF z9 => ?_) ?_
   ·refine qg (ql (ptr b1 0) rfl ?_)
    exact ⟨rfl, rfl⟩
   refine gD (fun W Fs R lF z9 => ?_) ?_
   ·refine qg (ql (ptr b1 0) rfl ?_)
    exact ⟨rfl, rfl⟩
   refine gD (fun W Fs R lF z9 => ?_) ?_
   ·replace hbs := hbs.mono lF
    rw [zA 1 (z9 1 rfl)]
    refine qg (qL rfl ?_)
    exact ⟨rfl, rfl⟩
   refine gD (fun W Fs R lF z9 => ?_) ?_
   ·rw [zA 2 (z9 2 rfl)]
    refine qg (qn (2) jX rfl sizeOf39 (by decide) rfl rfl ?_)
    exact ⟨rfl, rfl⟩
   refine gD (fun W Fs R lF z9 => ?_) ?_
   ·replace hbs := hbs.mono lF
    rw [zA 3 (z9 3 rfl)]
    refine qg (qj isAgg39 rfl (Rd.own [] rfl rfl) ?_)
    exact ⟨rfl, rfl⟩
   refine gD (fun W Fs R lF z9 => ?_) ?_
   ·rw [zA 4 (z9 4 rfl)]
    refine qg (XOp.mulW (a := h) (b := 1099511628211) rfl rfl ?_)
    intro r8
    exact ⟨rfl, rfl⟩
   refine gD (fun W Fs R lF z9 => ?_) ?_
   ·refine qg (ql (bsv) rfl ?_)
    exact ⟨rfl, rfl⟩
   refine gD (fun W Fs R lF z9 => ?_) ?_
   ·refine qg (ql (ii ((k : Int))) rfl ?_)
    exact ⟨rfl, rfl⟩
   refine gD (fun W Fs R lF z9 => ?_) ?_
   ·replace hbs := hbs.mono lF
    rw [zB 6 7 (z9 6 rfl) (z9 7 rfl)]
    refine qg (qx k ye sizeOf5 rfl rfl rfl hbs.slv (by omega) (Nat.mul_one _) ?_)
    exact ⟨rfl, rfl⟩
   refine gD (fun W Fs R lF z9 => ?_) ?_
   ·replace hbs := hbs.mono lF
    rw [zA 8 (z9 8 rfl)]
    refine qg (qj isAgg5 rfl (hbs.rd (by omega) _) ?_)
    exact ⟨rfl, rfl⟩
   refine gD (fun W Fs R lF z9 => ?_) ?_
   ·replace hbs := hbs.mono lF
    rw [zA 9 (z9 9 rfl)]
    refine qg (XOp.convW (k' := .u8) (a := bs.getD k 0) runUnderlying5 runUnderlying39 rfl ?_)
    intro r9
    exact ⟨rfl, rfl⟩
   refine gD (fun W Fs R lF z9 => ?_) ?_
   ·have e5 : (.int .u64 ((intAt (W 5))) : Value) = (W 5) := z9 5 rfl
    have e10 : (.int .u64 ((intAt (W 10))) : Value) = (W 10) := z9 10 rfl
    rw [eS (l := [(5, (.int .u64 ((intAt (W 5))))), (10, (.int .u64 ((intAt (W 10)))))]) ⟨(e5).symm, (e10).symm, ⟨⟩⟩]
    refine qg (XOp.addW (a := (intAt (W 5))) (b := (intAt (W 10))) rfl rfl ?_)
    intro r10
    exact ⟨rfl, rfl⟩
   refine gD (fun W Fs R lF z9 => ?_) ?_
   ·have e11 : (.int .u64 ((intAt (W 11))) : Value) = (W 11) := z9 11 rfl
    rw [eS (l := [(11, (.int .u64 ((intAt (W 11)))))]) ⟨(e11).symm, ⟨⟩⟩]
    refine qg (XOp.addW (a := (intAt (W 11))) (b := 3) rfl rfl ?_)
    intro r11
    exact ⟨rfl, rfl⟩
   exact stepsG.nil
  intro W F1 le1 hphi
  have e5 : (.int .u64 ((intAt (W 5))) : Value) = (W 5) := hphi 5 (by decide)
  have e10 : (.int .u64 ((intAt (W 10))) : Value) = (W 10) := hphi 10 (by decide)
  have e11 : (.int .u64 ((intAt (W 11))) : Value) = (W 11) := hphi 11 (by decide)
  have e12 : (.int .u64 ((intAt (W 12))) : Value) = (W 12) := hphi 12 (by decide)
  generalize hu1 : (intAt (W 5)) = u1 at e5 e10 e11 e12
  generalize hu2 : (intAt (W 10)) = u2 at e5 e10 e11 e12
  generalize hu3 : (intAt (W 11)) = u3 at e5 e10 e11 e12
  generalize hu4 : (intAt (W 12)) = u4 at e5 e10 e11 e12
  rw [eS (l := [(0, _), (12, (.int .u64 (u4)))]) ⟨(hphi 0 (by decide)), (e12).symm, ⟨⟩⟩]
  show XL _ _ _ _ _ _ _ (cellsH b1 [bsv, ii (0), .int .u64 (h)] 56 :: L)
  refine cX (qL rfl (cX (qn (2) jX rfl sizeOf39 (by decide) rfl rfl (cX (jz [] _ [bsv, ii (0), .int .u64 (u4)] sizeOf39 rfl rfl rfl rfl rfl rfl (qb (qa (qd (ii ((k : Int))) rfl (cX (qM (((k + 1 : Nat) : Int)) rfl rfl (by omega) (by omega) (qh (ii (((k + 1 : Nat) : Int))) rfl (qb ?_))))))))))))
  exact ⟨(k + 1, u4), _, FLe.refl _, le1, ⟨rfl, rfl, rfl, ⟨⟩⟩, (sC sR), ⟨rfl, (by (try dsimp only) <;> omega)⟩, (by omega)⟩
 refine jn (qz (qz (qR (qc (qa (qd (ptr b1 0) rfl (qh (ptr b1 0) rfl (qb (qw (qu (L' := curH .u64 56 b1 bsv bs.length :: L) [ptr b1 0] (ptr b1 0) (.tmp rfl .nil) rfl rF rF (Sub.keep (curH.of (by omega) (by omega)) sR) ?_))))))))))
 exact ⟨_, rfl, rfl, rfl⟩

/- (*laws.dice).below -/
theorem below_spec0 {F : FH} {L : List HP} {cb : Nat} {bsv : Value} {bs : List Int} (hbs : BytesF F bsv bs) (hbl : bs.length ≤ 4000000) {i h n : Int} (h0 : 0 ≤ i) (h1 : i ≤ bs.length) (hn : 1 ≤ n ∧ n ≤ 1000000) :
    Does prog 10 [ptr cb 0, ii (n)] F (cellsH cb [bsv, ii (i), .int .u64 (h)] 56 :: L) (fun v F' L' => (F = F' ∧ ∃ x : Int, (.int .i64 x : Value) = v ∧ (0 ≤ x ∧ x < n)) ∧ ∃ i' h' : Int, 0 ≤ i' ∧ i' ≤ bs.length ∧ cellsH cb [bsv, ii (i'), .int .u64 (h')] 56 :: L = L') := by
 refine qH func10 rfl rfl rfl (qc (qa (qh (ii (0)) rfl (qb (qc (qa (qd (ptr cb 0) rfl (qd (ptr cb 0) rfl (cX (qL rfl (cX (qn (2) jX rfl sizeOf39 (by decide) rfl rfl (cX (qj isAgg39 rfl (Rd.own [] rfl rfl) (cX (XOp.mulW (a := h) (b := 6364136223846793005) rfl rfl ?_))))))))))))))))
 intro r1
 refine cX (XOp.addW (a := r1) (b := 1442695040888963407) rfl rfl ?_)
 intro r2
 refine cX (qL rfl (cX (qn (2) jX rfl sizeOf39 (by decide) rfl rfl (cX (jz [] _ [bsv, ii (i), .int .u64 (r2)] sizeOf39 rfl rfl rfl rfl rfl rfl (qb (qc (qa (qd (ptr cb 0) rfl (cX (qL rfl (cX (qn (2) jX rfl sizeOf39 (by decide) rfl rfl (cX (qj isAgg39 rfl (Rd.own [] rfl rfl) (cX (XOp.shrW (a := r2) (b := 33) rfl rfl (by decide) ?_)))))))))))))))))
 intro r3
 refine cX (XOp.andW (a := r3) (b := 16777215) rfl rfl rfl (by decide) ?_)
 intro r4 hr1
 refine cX (XOp.convI (k' := .u64) (a := r4) (r4) runUnderlying39 runUnderlying2 rfl (IntWalk.i64_in _ (by omega)) (qh (ii (r4)) rfl (qb (qc (qc ?_)))))
 refine jL [cellsH cb [bsv, ii (i), .int .u64 (r2)] 56] L 9 [] [[], [0], [1], [2], [], [4], [5], [6], [7]] (phiL [qe (ptr cb 0), qe (ptr cb 0), qe (ptr cb 1), qe (ii (i)), qe (ptr cb 0), qe (ptr cb 0), qe (ptr cb 0), qe bsv, qe (ii ((bs.length : Int)) : Value)]) (ownL []) mixed rfl rfl (by kernel_rfl) ?_ ?_
 ·refine pD (fun W R z9 => ?_) ?_
  ·refine qg (ql (ptr cb 0) rfl ?_)
   exact ⟨rfl, rfl, rfl⟩
  refine pD (fun W R z9 => ?_) ?_
  ·rw [zA 0 (z9 0 rfl)]
   refine qg (qL rfl ?_)
   exact ⟨rfl, rfl, rfl⟩
  refine pD (fun W R z9 => ?_) ?_
  ·rw [zA 1 (z9 1 rfl)]
   refine qg (qn (1) jX rfl jC (by decide) rfl rfl ?_)
   exact ⟨rfl, rfl, rfl⟩
  refine pD (fun W R z9 => ?_) ?_
  ·rw [zA 2 (z9 2 rfl)]
   refine qg (qj yd rfl (Rd.own [] rfl rfl) ?_)
   exact ⟨rfl, rfl, rfl⟩
  refine pD (fun W R z9 => ?_) ?_
  ·refine qg (ql (ptr cb 0) rfl ?_)
   exact ⟨rfl, rfl, rfl⟩
  refine pD (fun W R z9 => ?_) ?_
  ·rw [zA 4 (z9 4 rfl)]
   refine qg (qL rfl ?_)
   exact ⟨rfl, rfl, rfl⟩
  refine pD (fun W R z9 => ?_) ?_
  ·rw [zA 5 (z9 5 rfl)]
   refine qg (qn (0) jX rfl sizeOf22 (by decide) rfl rfl ?_)
   exact ⟨rfl, rfl, rfl⟩
  refine pD (fun W R z9 => ?_) ?_
  ·rw [zA 6 (z9 6 rfl)]
   refine qg (qj isAgg22 rfl (Rd.own [] rfl rfl) ?_)
   exact ⟨rfl, rfl, rfl⟩
  refine pD (fun W R z9 => ?_) ?_
  ·rw [zA 7 (z9 7 rfl)]
   refine qg (qG ye rfl hbs.slv ?_)
   exact ⟨rfl, rfl, rfl⟩
  exact stepsP.nil
 intro W hphi
 rw [zB 3 8 (hphi 3 (by decide)) (hphi 8 (by decide))]
 show XL _ _ _ _ _ _ _ (cellsH cb [bsv, ii (i), .int .u64 (r2)] 56 :: L)
 refine cX (qX rfl rfl (qb ?_))
 refine qE (p := (i : Int) < (bs.length : Int)) rfl (fun h1 => ?_) (fun h1 => ?_)
 ·have hrg := hbs.range (i := i.toNat) (by omega)
  refine qc ?_
  refine jL [cellsH cb [bsv, ii (i), .int .u64 (r2)] 56] L 12 [] [[], [], [1], [2], [3], [], [5], [6], [7], [4, 8], [9], [10]] (phiL [qe (ii (r4)), qe (ptr cb 0), qe (ptr cb 0), qe (ptr cb 0), qe bsv, qe (ptr cb 0), qe (ptr cb 0), qe (ptr cb 1), qe (ii (i)), qe (.pointer (some (elemA bsv ((i).toNat)))), qe (.int .u8 (bs.getD ((i).toNat) 0)), qe (ii (bs.getD ((i).toNat) 0))]) (ownL []) mixed rfl rfl (by kernel_rfl) ?_ ?_
  ·refine pD (fun W R z9 => ?_) ?_
   ·refine qg (ql (ii (r4)) rfl ?_)
    exact ⟨rfl, rfl, rfl⟩
   refine pD (fun W R z9 => ?_) ?_
   ·refine qg (ql (ptr cb 0) rfl ?_)
    exact ⟨rfl, rfl, rfl⟩
   refine pD (fun W R z9 => ?_) ?_
   ·rw [zA 1 (z9 1 rfl)]
    refine qg (qL rfl ?_)
    exact ⟨rfl, rfl, rfl⟩
   refine pD (fun W R z9 => ?_) ?_
   ·rw [zA 2 (z9 2 rfl)]
    refine qg (qn (0) jX rfl sizeOf22 (by decide) rfl rfl ?_)
    exact ⟨rfl, rfl, rfl⟩
   refine pD (fun W R z9 => ?_) ?_
   ·rw [zA 3 (z9 3 rfl)]
    refine qg (qj isAgg22 rfl (Rd.own [] rfl rfl) ?_)
    exact ⟨rfl, rfl, rfl⟩
   refine pD (fun W R z9 => ?_) ?_
   ·refine qg (ql (ptr cb 0) rfl ?_)
    exact ⟨rfl, rfl, rfl⟩
   refine pD (fun W R z9 => ?_) ?_
   ·rw [zA 5 (z9 5 rfl)]
    refine qg (qL rfl ?_)
    exact ⟨rfl, rfl, rfl⟩
   refine pD (fun W R z9 => ?_) ?_
   ·rw [zA 6 (z9 6 rfl)]
    refine qg (qn (1) jX rfl jC (by decide) rfl rfl ?_)
    exact ⟨rfl, rfl, rfl⟩
   refine pD (fun W R z9 => ?_) ?_
   ·rw [zA 7 (z9 7 rfl)]
    refine qg (qj yd rfl (Rd.own [] rfl rfl) ?_)
    exact ⟨rfl, rfl, rfl⟩
   refine pD (fun W R z9 => ?_) ?_
   ·rw [zB 4 8 (z9 4 rfl) (z9 8 rfl)]
    refine qg (qx ((i).toNat) ye sizeOf5 rfl rfl (by omega) hbs.slv (by omega) (Nat.mul_one _) ?_)
    exact ⟨rfl, rfl, rfl⟩
   refine pD (fun W R z9 => ?_) ?_
   ·rw [zA 9 (z9 9 rfl)]
    refine qg (qj isAgg5 rfl (hbs.rd (by omega) _) ?_)
    exact ⟨rfl, rfl, rfl⟩
   refine pD (fun W R z9 => ?_) ?_
   ·rw [zA 10 (z9 10 rfl)]
    refine qg (XOp.convI (k' := .u8) (a := bs.getD ((i).toNat) 0) (bs.getD ((i).toNat) 0) runUnderlying5 runUnderlying2 rfl (IntWalk.i64_in _ (by omega)) ?_)
    exact ⟨rfl, rfl, rfl⟩
   exact stepsP.nil
  intro W hphi
  rw [zB 0 11 (hphi 0 (by decide)) (hphi 11 (by decide))]
  show XL _ _ _ _ _ _ _ (cellsH cb [bsv, ii (i), .int .u64 (r2)] 56 :: L)
  refine cX (qM (r4 + (bs.getD ((i).toNat) 0)) rfl rfl (by omega) (by omega) (qh (ii (r4 + (bs.getD ((i).toNat) 0))) rfl (qb (qa (qd (ptr cb 0) rfl (qd (ptr cb 0) rfl (cX (qL rfl (cX (qn (1) jX rfl jC (by decide) rfl rfl (cX (qj yd rfl (Rd.own [] rfl rfl) (cX (qM (i + 1) rfl rfl (by omega) (by omega) (cX (qL rfl ?_))))))))))))))))
  refine cX (qn (1) jX rfl jC (by decide) rfl rfl (cX (jz [] _ [bsv, ii (i + 1), .int .u64 (r2)] jC rfl rfl rfl rfl rfl rfl (qb (qc (qa (qd (ii (r4 + (bs.getD ((i).toNat) 0))) rfl (qd (ii (n)) rfl (cX (XOp.remV (a := r4 + (bs.getD ((i).toNat) 0)) (b := n) rfl rfl (by omega) (by omega) ?_))))))))))
  intro r5 hr2
  refine qh (ii (r5)) rfl (qb (qw (qu (L' := cellsH cb [bsv, ii (i + 1), .int .u64 (r2)] 56 :: L) [ii (r5)] (ii (r5)) (.tmp rfl .nil) rfl rF rF (sC sR) ?_)))
  exact ⟨⟨rfl, _, rfl, hr2⟩, _, _, by omega, by omega, rfl⟩
 refine qA (qc (qa (qd (ii (r4)) rfl (qd (ii (n)) rfl (cX (XOp.remV (a := r4) (b := n) rfl rfl (by omega) (by omega) ?_))))))
 intro r6 hr3
 refine qh (ii (r6)) rfl (qb (qw (qu (L' := cellsH cb [bsv, ii (i), .int .u64 (r2)] 56 :: L) [ii (r6)] (ii (r6)) (.tmp rfl .nil) rfl rF rF (sC sR) ?_)))
 exact ⟨⟨rfl, _, rfl, hr3⟩, _, _, by omega, by omega, rfl⟩
theorem below_spec {F : FH} {L : List HP} {cb : Nat} {bsv : Value} {bs : List Int} (hbs : BytesF F bsv bs) (hbl : bs.length ≤ 4000000) {n : Int} (hn : 1 ≤ n ∧ n ≤ 1000000) : Does prog 10 [ptr cb 0, .int .i64 n] F (curH .u64 56 cb bsv bs.length :: L) (fun v F' L' => (F = F' ∧ ∃ (x : Int), (.int .i64 x : Value) = v ∧ (0 ≤ x ∧ x < n)) ∧ curH .u64 56 cb bsv bs.length :: L = L') :=
  Does.cur (Q := fun v F' => F = F' ∧ ∃ (x : Int), (.int .i64 x : Value) = v ∧ (0 ≤ x ∧ x < n)) fun i h h0 h1 => below_spec0 hbs hbl h0 h1 hn


/- impl.EqOk -/
theorem EqOk_spec {F : FH} {L : List HP} {arv : Value} {ar : List Int} (har : IntsF F arv ar) {lv : Value} {l : List Int} (hl : IntsF F lv l) {rv : Value} {r : List Int} (hr : IntsF F rv r) :
    Does prog 33 [.agg #[arv], .agg #[lv, rv]] F (L) (fun v F' L' => (.bool (eqOkL ar (l, r)) : Value) = v ∧ F = F' ∧ L = L') := by
 refine qH func33 rfl rfl rfl (qc (qa (cX (qY [arv] rfl rfl ?_))))
 intro b1
 refine cX (qY [lv, rv] rfl rfl ?_)
 intro b2
 refine qh (.bool (false)) rfl (qb (qc (qa (cX (qv [arv] qU qB rfl rfl (Rd.ownN [_] rfl rfl) (cX (qn (0) jd rfl qr (by decide) rfl rfl (cX (qj qN rfl (Rd.own [] rfl rfl) (cX (qt (args := [.agg #[arv], lv]) call51 rfl (TermOk_spec har hl) ?_)))))))))))
 rintro _ _ _ _ ⟨rfl, rfl, rfl⟩
 refine qd (.bool (termOk ar l)) rfl ?_
 by_cases h1 : (termOk ar l) = true
 ·refine qs (t := 9) rfl (vB h1) (qv [arv] qU qB rfl rfl (Rd.ownN [_] rfl rfl) (qs (t := 9) rfl (vB h1) (qn (1) jd rfl qr (by decide) rfl rfl (qs (t := 9) rfl (vB h1) (qj qN rfl (Rd.own [] rfl rfl) (qs (t := 9) rfl (vB h1) (qt (args := [.agg #[arv], rv]) call51 rfl (TermOk_spec har hr) ?_)))))))
  rintro _ _ _ _ ⟨rfl, rfl, rfl⟩
  refine cX (qT (.bool (termOk ar r)) (vB h1) rfl (qh (.bool (termOk ar r)) rfl (qb (qw (qu (L' := L) [.bool (termOk ar r)] (.bool (termOk ar r)) (.tmp rfl .nil) rfl rF rF (sD (sD sR)) ?_)))))
  exact ⟨(vB (by unfold eqOkL; simp_all)), rfl, rfl⟩
 rw [Bool.not_eq_true] at h1
 refine qq (t := 9) rfl (vB h1) (qq (t := 9) rfl (vB h1) (qq (t := 9) rfl (vB h1) (qq (t := 9) rfl (vB h1) (cX (qP (.bool (false)) (vB h1) rfl (qh (.bool (false)) rfl (qb (qw (qu (L' := L) [.bool (false)] (.bool (false)) (.tmp rfl .nil) rfl rF rF (sD (sD sR)) ?_)))))))))
 exact ⟨(vB (by unfold eqOkL; simp_all)), rfl, rfl⟩

/- impl.EqsOk$1 -/
theorem EqsOk1_spec {F : FH} {L : List HP} {lv : Value} {l : List Int} (hl : IntsF F lv l) {rv : Value} {r : List Int} (hr : IntsF F rv r) {arv : Value} {ar : List Int} (har : IntsF F arv ar) {b : Nat} (hzb : FzC F b [arv]) :
    Does prog 32 [.agg #[lv, rv], ptr b 0] F (L) (fun v F' L' => (.bool (!(eqOkL ar (l, r))) : Value) = v ∧ F = F' ∧ L = L') := by
 refine qH func32 rfl rfl rfl (qc (qa (cX (qY [lv, rv] rfl rfl ?_))))
 intro b1
 refine qh (.bool (false)) rfl (qb (qc (qa (cX (qv [arv] qU qB rfl rfl (FzC.rd hzb rfl) (cX (qv [lv, rv] isAgg53 jF rfl rfl (Rd.ownN [] rfl rfl) (cX (qt (args := [.agg #[arv], .agg #[lv, rv]]) call33 rfl (EqOk_spec har hl hr) ?_)))))))))
 rintro _ _ _ _ ⟨rfl, rfl, rfl⟩
 refine cX (ju rfl (qh (.bool (!(eqOkL ar (l, r)))) rfl (qb (qw (qu (L' := L) [.bool (!(eqOkL ar (l, r)))] (.bool (!(eqOkL ar (l, r)))) (.tmp rfl .nil) rfl rF rF (sD sR) ?_)))))
 exact ⟨rfl, rfl, rfl⟩

/- slices.IndexFunc[[]impl.Eq,impl.Eq] -/
theorem IndexFuncEq_spec {F : FH} {L : List HP} {esv : Value} {es : List (List Int × List Int)} (hes : PairsF F esv es) {arv : Value} {ar : List Int} (har : IntsF F arv ar) {b : Nat} (hzb : FzC F b [arv]) (hlt : es.length ≤ 4000000) :
    Does prog 50 [esv, .func (.func 32) #[] #[ptr b 0]] F (L) (fun v F' L' => (ii (badG (eqOkL ar) es) : Value) = v ∧ F = F' ∧ L = L') := by
 refine qH func50 rfl rfl rfl (qc (qa (qh (ii (0)) rfl (qb (qc (qc (qa (qd (esv) rfl (cX (qG qQ rfl hes.slv (qd (ii (0)) rfl (qb (qJ (jv (α := Nat) (fun k => [(0, esv), (1, .func (.func 32) #[] #[ptr b 0]), (7, ii ((es.length : Int))), (8, ii ((k : Int)))]) (fun k => L) (fun k F' => F = F' ∧ (k ≤ es.length) ∧ (∀ i, i < k → eqOkL ar (es.getD i ([], [])) = true)) (fun k => es.length - k) 0 ⟨rfl, rfl, rfl, rfl, ⟨⟩⟩ sR ⟨rfl, (by (try dsimp only) <;> omega), (fun i hi => absurd hi (by omega))⟩ ?_))))))))))))))
 rintro k rE _ _ ⟨rfl, hk, hall⟩
 show X _ _ _ _ (envs [(0, esv), (1, .func (.func 32) #[] #[ptr b 0]), (7, ii ((es.length : Int))), (8, ii ((k : Int)))] rE) _ (L)
 refine qc (qa (cX (qX rfl rfl (qb (qc ?_)))))
 refine qE (p := (k : Int) < (es.length : Int)) rfl (fun h1 => ?_) (fun h1 => ?_)
 ·refine qA (qc (qJ (qc (qa (qd (ii ((k : Int))) rfl (qh (ii ((k : Int))) rfl (qb (qc (qa (qd (.func (.func 32) #[] #[ptr b 0]) rfl (qd (esv) rfl (qd (ii ((k : Int))) rfl (cX (qx k qQ jF rfl rfl rfl hes.slv (by omega) rfl ?_))))))))))))))
  obtain ⟨a1, a2, ha1, ha2, hr1, hr2⟩ := hes.rd (i := k) (by omega)
  refine cX (qv [a1, a2] isAgg53 jF rfl rfl (Rd.two (hr1 _) (hr2 _)) (cX (XOp.callV (first := []) (captured := [ptr b 0]) (args := [.agg #[a1, a2], ptr b 0]) call32 rfl rfl (EqsOk1_spec ha1 ha2 har hzb) ?_)))
  rintro _ _ _ _ ⟨rfl, rfl, rfl⟩
  refine qb ?_
  refine jG (t := !(eqOkL ar (((es.getD k ([], [])).1), ((es.getD k ([], [])).2)))) rfl (fun h2 => ?_) (fun h2 => ?_)
  ·refine qc (qa (qd (ii ((k : Int))) rfl (qh (ii ((k : Int))) rfl (qb (qw (qF (qo (qo (qF (qo (qu (L' := L) [ii ((k : Int))] (ii ((k : Int))) (.tmp rfl .nil) rfl rF rF sR ?_)))))))))))
   exact ⟨(vI (badG_at ([], []) (by omega) (by simp_all) hall)), rfl, rfl⟩
  refine qA (qa (cX (qM (((k + 1 : Nat) : Int)) rfl rfl (by omega) (by omega) (qd (ii (((k + 1 : Nat) : Int))) rfl (qb ?_)))))
  exact ⟨k + 1, _, FLe.refl _, rF, ⟨rfl, rfl, rfl, rfl, ⟨⟩⟩, sR, ⟨rfl, (by (try dsimp only) <;> omega), (fun i hi => (Nat.lt_or_ge i k).elim (fun h => hall i h) (fun h => by obtain rfl : i = k := (by omega); simp_all))⟩, (by omega)⟩
 refine jn (qz (qz (qR (qc (qa (qh (ii (-1)) rfl (qb (qw (qu (L' := L) [ii (-1)] (ii (-1)) (.tmp rfl .nil) rfl rF rF sR ?_)))))))))
 exact ⟨(vI (badG_none ([], []) (fun i hi => hall i (by omega)))), rfl, rfl⟩

/- slices.ContainsFunc[[]impl.Eq,impl.Eq] -/
theorem ContainsFuncEq_spec {F : FH} {L : List HP} {esv : Value} {es : List (List Int × List Int)} (hes : PairsF F esv es) {arv : Value} {ar : List Int} (har : IntsF F arv ar) {b : Nat} (hzb : FzC F b [arv]) (hlt : es.length ≤ 4000000) :
    Does prog 31 [esv, .func (.func 32) #[] #[ptr b 0]] F (L) (fun v F' L' => (.bool (decide (badG (eqOkL ar) es ≥ 0)) : Value) = v ∧ F = F' ∧ L = L') := by
 refine qH func31 rfl rfl rfl (qc (qa (qh (.bool (false)) rfl (qb (qc (qa (qd (esv) rfl (qd (.func (.func 32) #[] #[ptr b 0]) rfl (cX (qt (args := [esv, .func (.func 32) #[] #[ptr b 0]]) call50 rfl (IndexFuncEq_spec hes har hzb (hlt := (by first | assumption | rfl | omega | simp))) ?_))))))))))
 rintro _ _ _ _ ⟨rfl, rfl, rfl⟩
 refine cX (jV rfl rfl (qh (.bool (decide ((badG (eqOkL ar) es : Int) ≥ 0))) rfl (qb (qw (qu (L' := L) [.bool (decide ((badG (eqOkL ar) es : Int) ≥ 0))] (.bool (decide ((badG (eqOkL ar) es : Int) ≥ 0))) (.tmp rfl .nil) rfl rF rF sR ?_)))))
 exact ⟨rfl, rfl, rfl⟩

/- impl.EqsOk -/
theorem EqsOk_spec {F : FH} {L : List HP} {arv : Value} {ar : List Int} (har : IntsF F arv ar) {esv : Value} {es : List (List Int × List Int)} (hes : PairsF F esv es) :
    Does prog 16 [.agg #[arv], esv] F (L) (fun v F' L' => (.bool (eqsOkL ar es) : Value) = v ∧ F = F' ∧ L = L') := by
 refine qH func16 rfl rfl rfl (qc (qa (cX (qY [arv] rfl rfl ?_))))
 intro b1
 refine qh (.bool (false)) rfl (qb (qc (qc (qa (cX (qv [arv] qU qB rfl rfl (Rd.ownN [] rfl rfl) (cX (qt (args := [.agg #[arv]]) call30 rfl (SigOk_spec har) ?_))))))))
 rintro _ _ _ _ ⟨rfl, rfl, rfl⟩
 refine cX (ju rfl (qd (.bool (!(sigOk ar))) rfl ?_))
 by_cases h1 : (!(sigOk ar)) = true
 ·refine qq (t := 8) rfl (vB h1) (qq (t := 8) rfl (vB h1) (qq (t := 8) rfl (vB h1) (cX (qT (.bool (true)) (vB h1) rfl (qb (jO rfl (qc (qa (qh (.bool (false)) rfl (qb (qw (qo (qu (L' := L) [.bool (false)] (.bool (false)) (.tmp rfl .nil) rfl rF rF (sD sR) ?_)))))))))))))
  exact ⟨(vB (by unfold eqsOkL; simp_all <;> omega)), rfl, rfl⟩
 rw [Bool.not_eq_true] at h1
 refine qs (t := 8) rfl (vB h1) (ql (esv) rfl (qs (t := 8) rfl (vB h1) (qG qQ rfl hes.slv (qs (t := 8) rfl (vB h1) (jU rfl rfl (cX (qP (.bool (decide (((es.length : Int) : Int) > 12))) (vB h1) rfl (qb ?_))))))))
 refine qE (p := ((es.length : Int) : Int) > 12) rfl (fun h2 => ?_) (fun h2 => ?_)
 ·refine qc (qa (qh (.bool (false)) rfl (qb (qw (qo (qu (L' := L) [.bool (false)] (.bool (false)) (.tmp rfl .nil) rfl rF rF (sD sR) ?_))))))
  exact ⟨(vB (by unfold eqsOkL; simp_all <;> omega)), rfl, rfl⟩
 refine qA (qc (qa (qd (esv) rfl (cX (yg [] [ptr b1 0] rfl rfl (XL.freeze [] _ _ rfl (fun F1 le1 hz1 => ?_)))))))
 replace har := har.mono le1
 replace hes := hes.mono le1
 have hf1 : FzC F1 b1 [arv] := Fz.cells hz1
 refine cX (qt (args := [esv, .func (.func 32) #[] #[ptr b1 0]]) call31 rfl (ContainsFuncEq_spec hes har hf1 (hlt := (by first | assumption | rfl | omega | simp))) ?_)
 rintro _ _ _ _ ⟨rfl, rfl, rfl⟩
 refine cX (XOp.notD rfl (qh (.bool (decide (¬(badG (eqOkL ar) es ≥ 0)))) rfl (qb (qw (qu (L' := L) [.bool (decide (¬(badG (eqOkL ar) es ≥ 0)))] (.bool (decide (¬(badG (eqOkL ar) es ≥ 0)))) (.tmp rfl .nil) rfl rF le1 sR ?_)))))
 exact ⟨(vB (by unfold eqsOkL; have hb := badG_iff (q := eqOkL ar) (l := es); cases hA : es.all (eqOkL ar) <;> simp_all <;> omega)), rfl, rfl⟩

/- spec.EqOk -/
theorem sEqOk_spec {F : FH} {L : List HP} {arv : Value} {ar : List Int} (har : IntsF F arv ar) {lv : Value} {l : List Int} (hl : IntsF F lv l) {rv : Value} {r : List Int} (hr : IntsF F rv r) (hla : ar.length ≤ 4000000) (hll : l.length ≤ 4000000) (hlr : r.length ≤ 4000000) :
    Does prog 20 [.agg #[arv], .agg #[lv, rv]] F (L) (fun v F' L' => (.bool (eqOkL ar (l, r)) : Value) = v ∧ F = F' ∧ L = L') := by
 refine qH func20 rfl rfl rfl (qc (qa (cX (qY [arv] rfl rfl ?_))))
 intro b1
 refine cX (qY [lv, rv] rfl rfl ?_)
 intro b2
 refine qh (.bool (false)) rfl (qb (qc (qa (cX (qv [arv] qU qB rfl rfl (Rd.ownN [_] rfl rfl) (cX (qn (0) jd rfl qr (by decide) rfl rfl (cX (qj qN rfl (Rd.own [] rfl rfl) (cX (qt (args := [.agg #[arv], lv]) call38 rfl (sTermOk_spec har hl (hla := (by first | assumption | rfl | omega | simp)) (hlt := (by first | assumption | rfl | omega | simp))) ?_)))))))))))
 rintro _ _ _ _ ⟨rfl, rfl, rfl⟩
 refine qd (.bool (termOk ar l)) rfl ?_
 by_cases h1 : (termOk ar l) = true
 ·refine qs (t := 9) rfl (vB h1) (qv [arv] qU qB rfl rfl (Rd.ownN [_] rfl rfl) (qs (t := 9) rfl (vB h1) (qn (1) jd rfl qr (by decide) rfl rfl (qs (t := 9) rfl (vB h1) (qj qN rfl (Rd.own [] rfl rfl) (qs (t := 9) rfl (vB h1) (qt (args := [.agg #[arv], rv]) call38 rfl (sTermOk_spec har hr (hla := (by first | assumption | rfl | omega | simp)) (hlt := (by first | assumption | rfl | omega | simp))) ?_)))))))
  rintro _ _ _ _ ⟨rfl, rfl, rfl⟩
  refine cX (qT (.bool (termOk ar r)) (vB h1) rfl (qh (.bool (termOk ar r)) rfl (qb (qw (qu (L' := L) [.bool (termOk ar r)] (.bool (termOk ar r)) (.tmp rfl .nil) rfl rF rF (sD (sD sR)) ?_)))))
  exact ⟨(vB (by unfold eqOkL; simp_all)), rfl, rfl⟩
 rw [Bool.not_eq_true] at h1
 refine qq (t := 9) rfl (vB h1) (qq (t := 9) rfl (vB h1) (qq (t := 9) rfl (vB h1) (qq (t := 9) rfl (vB h1) (cX (qP (.bool (false)) (vB h1) rfl (qh (.bool (false)) rfl (qb (qw (qu (L' := L) [.bool (false)] (.bool (false)) (.tmp rfl .nil) rfl rF rF (sD (sD sR)) ?_)))))))))
 exact ⟨(vB (by unfold eqOkL; simp_all)), rfl, rfl⟩

/- spec.EqsOk -/
theorem sEqsOk_spec {F : FH} {L : List HP} {arv : Value} {ar : List Int} (har : IntsF F arv ar) {esv : Value} {es : List (List Int × List Int)} (hes : PairsF F esv es) (hla : ar.length ≤ 4000000) (hel : es.length ≤ 4000000) (heb : ∀ i, i < es.length → (es.getD i ([], [])).1.length ≤ 4000000 ∧ (es.getD i ([], [])).2.length ≤ 4000000) :
    Does prog 7 [.agg #[arv], esv] F (L) (fun v F' L' => (.bool (eqsOkL ar es) : Value) = v ∧ F = F' ∧ L = L') := by
 refine qH func7 rfl rfl rfl (qc (qa (cX (qY [arv] rfl rfl ?_))))
 intro b1
 refine qh (.bool (false)) rfl (qb (qc (qc (qa (cX (qv [arv] qU qB rfl rfl (Rd.ownN [] rfl rfl) (cX (qt (args := [.agg #[arv]]) call19 rfl (sSigOk_spec har (hla := (by first | assumption | rfl | omega | simp))) ?_))))))))
 rintro _ _ _ _ ⟨rfl, rfl, rfl⟩
 refine cX (ju rfl (qd (.bool (!(sigOk ar))) rfl ?_))
 by_cases h1 : (!(sigOk ar)) = true
 ·refine qq (t := 9) rfl (vB h1) (qq (t := 9) rfl (vB h1) (qq (t := 9) rfl (vB h1) (cX (qT (.bool (true)) (vB h1) rfl (qb (jO rfl (qc (qa (qh (.bool (false)) rfl (qb (qw (qo (qu (L' := L) [.bool (false)] (.bool (false)) (.tmp rfl .nil) rfl rF rF (sD sR) ?_)))))))))))))
  exact ⟨(vB (by unfold eqsOkL; simp_all <;> omega)), rfl, rfl⟩
 rw [Bool.not_eq_true] at h1
 refine qs (t := 9) rfl (vB h1) (ql (esv) rfl (qs (t := 9) rfl (vB h1) (qG qQ rfl hes.slv (qs (t := 9) rfl (vB h1) (jU rfl rfl (cX (qP (.bool (decide (((es.length : Int) : Int) > 12))) (vB h1) rfl (qb ?_))))))))
 refine qE (p := ((es.length : Int) : Int) > 12) rfl (fun h2 => ?_) (fun h2 => ?_)
 ·refine qc (qa (qh (.bool (false)) rfl (qb (qw (qo (qu (L' := L) [.bool (false)] (.bool (false)) (.tmp rfl .nil) rfl rF rF (sD sR) ?_))))))
  exact ⟨(vB (by unfold eqsOkL; simp_all <;> omega)), rfl, rfl⟩
 refine qA (qc (qc (qa (qh (ii (0)) rfl (qb (qJ (jv (α := Nat) (fun k => [(1, esv), (2, ptr b1 0), (5, ii ((k : Int)))]) (fun k => cellsH b1 [arv] 26 :: L) (fun k F' => F = F' ∧ (k ≤ es.length) ∧ (∀ i, i < k → eqOkL ar (es.getD i ([], [])) = true)) (fun k => es.length - k) 0 ⟨rfl, rfl, rfl, ⟨⟩⟩ (sC sR) ⟨rfl, (by (try dsimp only) <;> omega), (fun i hi => absurd hi (by omega))⟩ ?_)))))))
 rintro k rE _ _ ⟨rfl, hk, hall⟩
 show X _ _ _ _ (envs [(1, esv), (2, ptr b1 0), (5, ii ((k : Int)))] rE) _ (cellsH b1 [arv] 26 :: L)
 have hebk := heb k
 refine qc (qc (qa (qd (ii ((k : Int))) rfl (qd (esv) rfl (cX (qG qQ rfl hes.slv (cX (qX rfl rfl (qb ?_)))))))))
 refine qE (p := (k : Int) < (es.length : Int)) rfl (fun h3 => ?_) (fun h3 => ?_)
 ·refine qA (qc (qJ (qc ?_)))
  obtain ⟨a1, a2, ha1, ha2, hr1, hr2⟩ := hes.rd (i := k) (by omega)
  refine jL [cellsH b1 [arv] 26] L 5 [] [[], [], [], [1, 2], [3]] (phiL [qe (.agg #[arv]), qe esv, qe (ii ((k : Int)) : Value), qe (.pointer (some (elemA esv (k * 2)))), qe (.agg #[a1, a2])]) (ownL []) mixed rfl rfl (by kernel_rfl) ?_ ?_
  ·refine pD (fun W R z9 => ?_) ?_
   ·refine qg (qv [arv] qU qB rfl rfl (Rd.ownN [] rfl rfl) ?_)
    exact ⟨rfl, rfl, rfl⟩
   refine pD (fun W R z9 => ?_) ?_
   ·refine qg (ql (esv) rfl ?_)
    exact ⟨rfl, rfl, rfl⟩
   refine pD (fun W R z9 => ?_) ?_
   ·refine qg (ql (ii ((k : Int))) rfl ?_)
    exact ⟨rfl, rfl, rfl⟩
   refine pD (fun W R z9 => ?_) ?_
   ·rw [zB 1 2 (z9 1 rfl) (z9 2 rfl)]
    refine qg (qx k qQ jF rfl rfl rfl hes.slv (by omega) rfl ?_)
    exact ⟨rfl, rfl, rfl⟩
   refine pD (fun W R z9 => ?_) ?_
   ·rw [zA 3 (z9 3 rfl)]
    refine qg (qv [a1, a2] isAgg53 jF rfl rfl (Rd.two (hr1 _) (hr2 _)) ?_)
    exact ⟨rfl, rfl, rfl⟩
   exact stepsP.nil
  intro W hphi
  rw [zB 0 4 (hphi 0 (by decide)) (hphi 4 (by decide))]
  show XL _ _ _ _ _ _ _ (cellsH b1 [arv] 26 :: L)
  refine cX (qt (args := [.agg #[arv], .agg #[a1, a2]]) call20 rfl (sEqOk_spec har ha1 ha2 (hla := (by first | assumption | rfl | omega | simp)) (hll := (by first | assumption | rfl | omega | simp)) (hlr := (by first | assumption | rfl | omega | simp))) ?_)
  rintro _ _ _ _ ⟨rfl, rfl, rfl⟩
  refine cX (ju rfl (qb ?_))
  refine jG (t := !(eqOkL ar (((es.getD k ([], [])).1), ((es.getD k ([], [])).2)))) rfl (fun h4 => ?_) (fun h4 => ?_)
  ·refine qc (qa (qh (.bool (false)) rfl (qb (qw (qF (qo (qo (qF (qo (qu (L' := L) [.bool (false)] (.bool (false)) (.tmp rfl .nil) rfl rF rF (sD sR) ?_))))))))))
   exact ⟨(vB (by rw [eqsOkL, all_fail ([], []) (k := k) (by omega) (by simp_all), Bool.and_false])), rfl, rfl⟩
  refine qA (qa (qd (ii ((k : Int))) rfl (cX (qM (((k + 1 : Nat) : Int)) rfl rfl (by omega) (by omega) (qh (ii (((k + 1 : Nat) : Int))) rfl (qb ?_))))))
  exact ⟨k + 1, _, FLe.refl _, rF, ⟨rfl, rfl, rfl, ⟨⟩⟩, (sC sR), ⟨rfl, (by (try dsimp only) <;> omega), (fun i hi => (Nat.lt_or_ge i k).elim (fun h => hall i h) (fun h => by obtain rfl : i = k := (by omega); simp_all))⟩, (by omega)⟩
 refine jn (qz (qz (qR (qc (qa (qh (.bool (true)) rfl (qb (qw (qu (L' := L) [.bool (true)] (.bool (true)) (.tmp rfl .nil) rfl rF rF (sD sR) ?_)))))))))
 exact ⟨(vB (by rw [eqsOkL, (all_getD_iff ([], [])).2 (fun i hi => hall i (by omega))]; simp_all <;> omega)), rfl, rfl⟩

/- (*impl.paths).same -/
theorem pathSame_spec {F : FH} {L : List HP} {xb : Nat} {arv rkv tv sv : Value} {ar rk t s : List Int} (har : IntsF F arv ar) (hrk : IntsF F rkv rk) (ht : IntsF F tv t) (hs : IntsF F sv s) (hot : termOk ar t = true) (hos : termOk ar s = true) (hrb : rankB ar rk = true) {p : Nat} {q : Nat} (hp : p < t.length) (hq : q < s.length) :
    Does prog 91 [ptr xb 0, ii ((p : Int)), ii ((q : Int))] F (pathH 96 121 xb arv rkv tv sv ar rk t s :: L) (fun v F' L' => ((.bool (decide (sub ar t p = sub ar s q)) : Value) = v) ∧ pathH 96 121 xb arv rkv tv sv ar rk t s :: L = L') := by
 refine qH func91 rfl rfl rfl ?_
 have hT := termW_of hot
 have hS := termW_of hos
 have htl := termOk_len hot
 have hsl := termOk_len hos
 refine qc (qa (qh (.bool (false)) rfl (qb (qc ?_))))
 refine yc [pathH 96 121 xb arv rkv tv sv ar rk t s] L 19 [] [[], [0], [1], [2], [], [4], [5], [6], [], [3, 7, 8], [], [10], [11], [12], [], [14], [15], [16]] [] (phiG [pe (ptr xb 0), pe (ptr xb 0), pe (ptr xb 0), pe (.agg #[arv]), pe (ptr xb 0), pe (ptr xb 0), pe (ptr xb 3), pe tv, pe (ii ((p : Int)) : Value), fun FF us v => ((v) : Value) = v ∧ (IntsF FF (v) (sub ar t p)) ∧ (isNil (v) = false), pe (ptr xb 0), pe (ptr xb 0), pe (ptr xb 0), pe (.agg #[arv]), pe (ptr xb 0), pe (ptr xb 0), pe (ptr xb 4), pe sv, pe (ii ((q : Int)) : Value)]) (ownL []) mixed rfl rfl (by kernel_rfl) (by kernel_rfl) (MonoG.get (m1 (m1 (m1 (m1 (m1 (m1 (m1 (m1 (m1 (mC (fun le h => ⟨h.1, h.2.1.mono le, h.2.2⟩) (m1 (m1 (m1 (m1 (m1 (m1 (m1 (m1 (m1 MonoG.nil)))))))))))))))))))) ?_ ?_
 ·refine gD (fun W Fs R lF z9 => ?_) ?_
  ·refine qg (ql (ptr xb 0) rfl ?_)
   exact ⟨rfl, rfl⟩
  refine gD (fun W Fs R lF z9 => ?_) ?_
  ·replace har := har.mono lF
   replace ht := ht.mono lF
   replace hs := hs.mono lF
   rw [zA 0 (z9 0 rfl)]
   refine qg (qL rfl ?_)
   exact ⟨rfl, rfl⟩
  refine gD (fun W Fs R lF z9 => ?_) ?_
  ·rw [zA 1 (z9 1 rfl)]
   refine qg (qn (0) jr rfl qB (by decide) rfl rfl ?_)
   exact ⟨rfl, rfl⟩
  refine gD (fun W Fs R lF z9 => ?_) ?_
  ·replace har := har.mono lF
   replace ht := ht.mono lF
   replace hs := hs.mono lF
   rw [zA 2 (z9 2 rfl)]
   refine qg (qv [arv] qU qB rfl rfl (Rd.sing (pathH.rd [] rfl (rfl : _ = some (arv : Value)))) ?_)
   exact ⟨rfl, rfl⟩
  refine gD (fun W Fs R lF z9 => ?_) ?_
  ·refine qg (ql (ptr xb 0) rfl ?_)
   exact ⟨rfl, rfl⟩
  refine gD (fun W Fs R lF z9 => ?_) ?_
  ·replace har := har.mono lF
   replace ht := ht.mono lF
   replace hs := hs.mono lF
   rw [zA 4 (z9 4 rfl)]
   refine qg (qL rfl ?_)
   exact ⟨rfl, rfl⟩
  refine gD (fun W Fs R lF z9 => ?_) ?_
  ·rw [zA 5 (z9 5 rfl)]
   refine qg (qn (3) jr rfl qr (by decide) rfl rfl ?_)
   exact ⟨rfl, rfl⟩
  refine gD (fun W Fs R lF z9 => ?_) ?_
  ·replace har := har.mono lF
   replace ht := ht.mono lF
   replace hs := hs.mono lF
   rw [zA 6 (z9 6 rfl)]
   refine qg (qj qN rfl (pathH.rd [] rfl rfl) ?_)
   exact ⟨rfl, rfl⟩
  refine gD (fun W Fs R lF z9 => ?_) ?_
  ·refine qg (ql (ii ((p : Int))) rfl ?_)
   exact ⟨rfl, rfl⟩
  refine gD (fun W Fs R lF z9 => ?_) ?_
  ·replace har := har.mono lF
   replace ht := ht.mono lF
   replace hs := hs.mono lF
   rw [eS (l := [(3, _), (7, _), (8, _)]) ⟨z9 3 rfl, z9 7 rfl, z9 8 rfl, ⟨⟩⟩]
   refine qg (qt (args := [.agg #[arv], tv, ii (p : Int)]) call71 rfl (subAtW_spec (p := p) har ht (ho := (by first | exact hT | exact hS)) (hp := (by first | assumption | rfl | omega | simp)) (hnn := (by first | exact jx ht (by omega) | exact jx hs (by omega)))) ?_)
   rintro v2 _ _ _ ⟨rfl, rfl, hv2, hn2⟩
   exact ⟨⟨rfl, hv2, hn2⟩, rfl⟩
  refine gD (fun W Fs R lF z9 => ?_) ?_
  ·refine qg (ql (ptr xb 0) rfl ?_)
   exact ⟨rfl, rfl⟩
  refine gD (fun W Fs R lF z9 => ?_) ?_
  ·replace har := har.mono lF
   replace ht := ht.mono lF
   replace hs := hs.mono lF
   rw [zA 10 (z9 10 rfl)]
   refine qg (qL rfl ?_)
   exact ⟨rfl, rfl⟩
  refine gD (fun W Fs R lF z9 => ?_) ?_
  ·rw [zA 11 (z9 11 rfl)]
   refine qg (qn (0) jr rfl qB (by decide) rfl rfl ?_)
   exact ⟨rfl, rfl⟩
  refine gD (fun W Fs R lF z9 => ?_) ?_
  ·replace har := har.mono lF
   replace ht := ht.mono lF
   replace hs := hs.mono lF
   rw [zA 12 (z9 12 rfl)]
   refine qg (qv [arv] qU qB rfl rfl (Rd.sing (pathH.rd [] rfl (rfl : _ = some (arv : Value)))) ?_)
   exact ⟨rfl, rfl⟩
  refine gD (fun W Fs R lF z9 => ?_) ?_
  ·refine qg (ql (ptr xb 0) rfl ?_)
   exact ⟨rfl, rfl⟩
  refine gD (fun W Fs R lF z9 => ?_) ?_
  ·replace har := har.mono lF
   replace ht := ht.mono lF
   replace hs := hs.mono lF
   rw [zA 14 (z9 14 rfl)]
   refine qg (qL rfl ?_)
   exact ⟨rfl, rfl⟩
  refine gD (fun W Fs R lF z9 => ?_) ?_
  ·rw [zA 15 (z9 15 rfl)]
   refine qg (qn (4) jr rfl qr (by decide) rfl rfl ?_)
   exact ⟨rfl, rfl⟩
  refine gD (fun W Fs R lF z9 => ?_) ?_
  ·replace har := har.mono lF
   replace ht := ht.mono lF
   replace hs := hs.mono lF
   rw [zA 16 (z9 16 rfl)]
   refine qg (qj qN rfl (pathH.rd [] rfl rfl) ?_)
   exact ⟨rfl, rfl⟩
  refine gD (fun W Fs R lF z9 => ?_) ?_
  ·refine qg (ql (ii ((q : Int))) rfl ?_)
   exact ⟨rfl, rfl⟩
  exact stepsG.nil
 intro W F1 le1 hphi
 obtain ⟨e9, f9_1ha, f9_1hn⟩ := hphi 9 (by decide)
 generalize hu1 : ((W 9)) = u1 at e9 f9_1ha f9_1hn
 rw [eS (l := [(9, u1), (13, _), (17, _), (18, _)]) ⟨hu1, (hphi 13 (by decide)), (hphi 17 (by decide)), (hphi 18 (by decide)), ⟨⟩⟩]
 replace har := har.mono le1
 replace ht := ht.mono le1
 replace hs := hs.mono le1
 show XL _ _ _ _ _ _ _ (pathH 96 121 xb arv rkv tv sv ar rk t s :: L)
 refine cX (qt (args := [.agg #[arv], sv, ii (q : Int)]) call71 rfl (subAtW_spec (p := q) har hs (ho := (by first | exact hT | exact hS)) (hp := (by first | assumption | rfl | omega | simp)) (hnn := (by first | exact jx ht (by omega) | exact jx hs (by omega)))) ?_)
 rintro v3 _ _ _ ⟨rfl, rfl, hv3, hn3⟩
 refine cX (qt (args := [u1, v3]) call46 rfl (Equal_spec f9_1ha hv3 (hbd := (Or.inl (Nat.le_trans (hT.sub hp).len.2 (by decide))))) ?_)
 rintro _ _ _ _ ⟨rfl, rfl, rfl⟩
 refine qh (.bool (decide (((sub ar t p)) = ((sub ar s q))))) rfl (qb (qw (qu (L' := pathH 96 121 xb arv rkv tv sv ar rk t s :: L) [.bool (decide (((sub ar t p)) = ((sub ar s q))))] (.bool (decide (((sub ar t p)) = ((sub ar s q))))) (.tmp rfl .nil) rfl le1 rF (sC sR) ?_)))
 exact ⟨rfl, rfl⟩

/- (*impl.paths).needsAll -/
theorem needsAll_spec {F : FH} {L : List HP} {xb : Nat} {arv rkv tv sv : Value} {ar rk t s : List Int} (har : IntsF F arv ar) (hrk : IntsF F rkv rk) (ht : IntsF F tv t) (hs : IntsF F sv s) (hot : termOk ar t = true) (hos : termOk ar s = true) (hrb : rankB ar rk = true) :
    Does prog 93 [ptr xb 0] F (pathH 96 121 xb arv rkv tv sv ar rk t s :: L) (fun v F' L' => ((.bool (true) : Value) = v) ∧ pathH 96 121 xb arv rkv tv sv ar rk t s :: L = L') := by
 refine qH func93 rfl rfl rfl (qc (qa (qh (.bool (false)) rfl (qb (qc (qc (qa (qd (ptr xb 0) rfl (cX (qL rfl (cX (qn (2) jr rfl sizeOf115 (by decide) rfl rfl (cX (qj isAgg115 rfl (pathH.rd [] rfl rfl) (qb (qJ (qc (qa (cX (XOp.assertOk runUnderlying96 rfl ?_))))))))))))))))))))
 refine cX (qK (.bool (true)) rfl rfl (cX (qK (.agg #[]) rfl rfl (qb (jO rfl (qc (qa (qh (.bool (true)) rfl (qb (qw (qF (qo (qu (L' := pathH 96 121 xb arv rkv tv sv ar rk t s :: L) [.bool (true)] (.bool (true)) (.tmp rfl .nil) rfl rF rF (sC sR) ?_)))))))))))))
 exact ⟨rfl, rfl⟩

/- (impl.lexical).argsGreater -/
set_option maxHeartbeats 1000000 in
set_option maxRecDepth 20000 in
theorem pathArgs_step {n : Nat} (ih : ∀ m : Nat, m < n → ∀ {F : FH} {L : List HP} {xb : Nat} {arv rkv tv sv : Value} {ar rk t s : List Int} (har : IntsF F arv ar) (hrk : IntsF F rkv rk) (ht : IntsF F tv t) (hs : IntsF F sv s) (hot : termOk ar t = true) (hos : termOk ar s = true) (hrb : rankB ar rk = true) {p : Nat} {q : Nat} (hp : p < t.length) (hq : q < s.length) (hn : (sub ar t p).length + (sub ar s q).length ≤ m), Does prog 92 [ptr xb 0, ii ((p : Int)), ii ((q : Int))] F (pathH 96 121 xb arv rkv tv sv ar rk t s :: L) (fun v F' L' => ((.bool (lpB ar rk (sub ar t p) (sub ar s q)) : Value) = v) ∧ pathH 96 121 xb arv rkv tv sv ar rk t s :: L = L')) {F : FH} {L : List HP} {xb : Nat} {arv rkv tv sv : Value} {ar rk t s : List Int} (har : IntsF F arv ar) (hrk : IntsF F rkv rk) (ht : IntsF F tv t) (hs : IntsF F sv s) (hot : termOk ar t = true) (hos : termOk ar s = true) (hrb : rankB ar rk = true) {p : Nat} {q : Nat} {miv : Value} {mi : List Int} (hmi : IntsF F miv mi) {oiv : Value} {oi : List Int} (hoi : IntsF F oiv oi) (hp : p < t.length) (hq : q < s.length) (hn : (sub ar t p).length + (sub ar s q).length ≤ n) (hxe : mi = argsL ar t p) (hye : oi = argsL ar s q) (hhd : t.getD p 0 = s.getD q 0) :
    Does prog 128 [.agg #[], ptr xb 0, miv, oiv] F (pathH 96 121 xb arv rkv tv sv ar rk t s :: L) (fun v F' L' => ((.bool (lexB ar rk (partsL ar (sub ar t p)) (partsL ar (sub ar s q))) : Value) = v) ∧ pathH 96 121 xb arv rkv tv sv ar rk t s :: L = L') := by
 refine qH func128 rfl rfl rfl ?_
 have hT := termW_of hot
 have hS := termW_of hos
 have htl := termOk_len hot
 have hsl := termOk_len hos
 have hxs := hxe
 have hys := hye
 have hxl : oi.length = mi.length := by rw [hxs, hys, argsL_len, argsL_len, hhd]
 have hx3 := hT.args_le hp
 rw [← hxs] at hx3
 refine qc (qa (cX (qY [] rfl rfl ?_)))
 intro b1
 refine qh (.bool (false)) rfl (qb (qc (qc (qa (qd (miv) rfl (cX (qG ja rfl hmi.slv (qd (ii (0)) rfl (qb (qJ (jv (α := Nat × FH) (fun xQ => [(1, ptr xb 0), (2, miv), (3, oiv), (11, ii ((mi.length : Int))), (12, ii (((xQ.1 : Nat) : Int)))]) (fun xQ => cellsH b1 [] 96 :: pathH 96 121 xb arv rkv tv sv ar rk t s :: L) (fun xQ F' => xQ.2 = F' ∧ F ≤ xQ.2 ∧ (xQ.1 ≤ mi.length) ∧ (∀ i, i < xQ.1 → (partsL ar (sub ar t p)).getD i [] = (partsL ar (sub ar s q)).getD i [])) (fun xQ => mi.length - xQ.1) (0, F) ⟨rfl, rfl, rfl, rfl, rfl, ⟨⟩⟩ (sC (sC sR)) ⟨rfl, FLe.refl _, (by (try dsimp only) <;> omega), (fun i hi => absurd hi (by omega))⟩ ?_)))))))))))
 rintro ⟨k, G1⟩ rE _ _ ⟨rfl, leG, hk, hsm⟩
 show X _ _ _ _ (envs [(1, ptr xb 0), (2, miv), (3, oiv), (11, ii ((mi.length : Int))), (12, ii ((k : Int)))] rE) _ (cellsH b1 [] 96 :: pathH 96 121 xb arv rkv tv sv ar rk t s :: L)
 replace leG : F ≤ G1 := leG
 dsimp only at hk hsm
 have leG1 := leG
 replace har := har.mono leG1
 replace hrk := hrk.mono leG1
 replace ht := ht.mono leG1
 replace hs := hs.mono leG1
 replace hmi := hmi.mono leG1
 replace hoi := hoi.mono leG1
 refine qc (qa (cX (qX rfl rfl (qb (qc ?_)))))
 refine qE (p := (k : Int) < (mi.length : Int)) rfl (fun h1 => ?_) (fun h1 => ?_)
 ·have hkx : k < (argsL ar t p).length := by rw [← hxs]; omega
  have hky : k < (argsL ar s q).length := by rw [← hys]; omega
  obtain ⟨ha1, ha2, ha3⟩ := argsT_at hT hp hkx
  obtain ⟨hb1, hb2, hb3⟩ := argsT_at hS hq hky
  rw [← hxs] at ha1 ha2 ha3
  rw [← hys] at hb1 hb2 hb3
  refine qA (qc (qJ (qc (qa (qd (ii ((k : Int))) rfl (qh (ii ((k : Int))) rfl (qb (qc ?_))))))))
  refine jL [cellsH b1 [] 96, pathH 96 121 xb arv rkv tv sv ar rk t s] L 9 [] [[], [], [], [1, 2], [3], [], [], [5, 6], [7]] (phiL [qe (ptr xb 0), qe miv, qe (ii ((k : Int)) : Value), qe (.pointer (some (elemA miv (k)))), qe (ii (mi.getD k 0)), qe oiv, qe (ii ((k : Int)) : Value), qe (.pointer (some (elemA oiv (k)))), qe (ii (oi.getD k 0))]) (ownL []) mixed rfl rfl (by kernel_rfl) ?_ ?_
  ·refine pD (fun W R z9 => ?_) ?_
   ·refine qg (ql (ptr xb 0) rfl ?_)
    exact ⟨rfl, rfl, rfl⟩
   refine pD (fun W R z9 => ?_) ?_
   ·refine qg (ql (miv) rfl ?_)
    exact ⟨rfl, rfl, rfl⟩
   refine pD (fun W R z9 => ?_) ?_
   ·refine qg (ql (ii ((k : Int))) rfl ?_)
    exact ⟨rfl, rfl, rfl⟩
   refine pD (fun W R z9 => ?_) ?_
   ·rw [zB 1 2 (z9 1 rfl) (z9 2 rfl)]
    refine qg (qx k ja jC rfl rfl rfl hmi.slv (by omega) (Nat.mul_one _) ?_)
    exact ⟨rfl, rfl, rfl⟩
   refine pD (fun W R z9 => ?_) ?_
   ·rw [zA 3 (z9 3 rfl)]
    refine qg (qj yd rfl (hmi.rd (by omega)) ?_)
    exact ⟨rfl, rfl, rfl⟩
   refine pD (fun W R z9 => ?_) ?_
   ·refine qg (ql (oiv) rfl ?_)
    exact ⟨rfl, rfl, rfl⟩
   refine pD (fun W R z9 => ?_) ?_
   ·refine qg (ql (ii ((k : Int))) rfl ?_)
    exact ⟨rfl, rfl, rfl⟩
   refine pD (fun W R z9 => ?_) ?_
   ·rw [zB 5 6 (z9 5 rfl) (z9 6 rfl)]
    refine qg (qx k ja jC rfl rfl rfl hoi.slv (by omega) (Nat.mul_one _) ?_)
    exact ⟨rfl, rfl, rfl⟩
   refine pD (fun W R z9 => ?_) ?_
   ·rw [zA 7 (z9 7 rfl)]
    refine qg (qj yd rfl (hoi.rd (by omega)) ?_)
    exact ⟨rfl, rfl, rfl⟩
   exact stepsP.nil
  intro W hphi
  rw [eS (l := [(0, _), (4, _), (8, _)]) ⟨(hphi 0 (by decide)), (hphi 4 (by decide)), (hphi 8 (by decide)), ⟨⟩⟩]
  show XL _ _ _ _ _ _ _ (cellsH b1 [] 96 :: pathH 96 121 xb arv rkv tv sv ar rk t s :: L)
  refine cX (qt (args := [ptr xb 0, ii (((mi.getD k 0).toNat : Nat) : Int), ii (((oi.getD k 0).toNat : Nat) : Int)]) call91 (by rw [show (((mi.getD k 0).toNat : Nat) : Int) = mi.getD k 0 from by omega, show (((oi.getD k 0).toNat : Nat) : Int) = oi.getD k 0 from by omega]; rfl) (jD [_] (pathSame_spec (p := (mi.getD k 0).toNat) (q := (oi.getD k 0).toNat) har hrk ht hs hot hos hrb (hp := (by first | assumption | rfl | omega | simp)) (hq := (by first | assumption | rfl | omega | simp)))) ?_)
  rintro _ F1 _ le1 ⟨rfl, rfl⟩
  replace har := har.mono le1
  replace hrk := hrk.mono le1
  replace ht := ht.mono le1
  replace hs := hs.mono le1
  replace hmi := hmi.mono le1
  replace hoi := hoi.mono le1
  show XL _ _ _ _ _ _ _ (cellsH b1 [] 96 :: pathH 96 121 xb arv rkv tv sv ar rk t s :: L)
  refine cX (XOp.notD rfl (qb ?_))
  refine qE (p := ¬(sub ar t ((mi.getD k 0).toNat) = sub ar s ((oi.getD k 0).toNat))) rfl (fun h2 => ?_) (fun h2 => ?_)
  ·have he9 := h2
   refine qc ?_
   refine jL [cellsH b1 [] 96, pathH 96 121 xb arv rkv tv sv ar rk t s] L 9 [] [[], [], [], [1, 2], [3], [], [], [5, 6], [7]] (phiL [qe (ptr xb 0), qe miv, qe (ii ((k : Int)) : Value), qe (.pointer (some (elemA miv (k)))), qe (ii (mi.getD k 0)), qe oiv, qe (ii ((k : Int)) : Value), qe (.pointer (some (elemA oiv (k)))), qe (ii (oi.getD k 0))]) (ownL []) mixed rfl rfl (by kernel_rfl) ?_ ?_
   ·refine pD (fun W R z9 => ?_) ?_
    ·refine qg (ql (ptr xb 0) rfl ?_)
     exact ⟨rfl, rfl, rfl⟩
    refine pD (fun W R z9 => ?_) ?_
    ·refine qg (ql (miv) rfl ?_)
     exact ⟨rfl, rfl, rfl⟩
    refine pD (fun W R z9 => ?_) ?_
    ·refine qg (ql (ii ((k : Int))) rfl ?_)
     exact ⟨rfl, rfl, rfl⟩
    refine pD (fun W R z9 => ?_) ?_
    ·rw [zB 1 2 (z9 1 rfl) (z9 2 rfl)]
     refine qg (qx k ja jC rfl rfl rfl hmi.slv (by omega) (Nat.mul_one _) ?_)
     exact ⟨rfl, rfl, rfl⟩
    refine pD (fun W R z9 => ?_) ?_
    ·rw [zA 3 (z9 3 rfl)]
     refine qg (qj yd rfl (hmi.rd (by omega)) ?_)
     exact ⟨rfl, rfl, rfl⟩
    refine pD (fun W R z9 => ?_) ?_
    ·refine qg (ql (oiv) rfl ?_)
     exact ⟨rfl, rfl, rfl⟩
    refine pD (fun W R z9 => ?_) ?_
    ·refine qg (ql (ii ((k : Int))) rfl ?_)
     exact ⟨rfl, rfl, rfl⟩
    refine pD (fun W R z9 => ?_) ?_
    ·rw [zB 5 6 (z9 5 rfl) (z9 6 rfl)]
     refine qg (qx k ja jC rfl rfl rfl hoi.slv (by omega) (Nat.mul_one _) ?_)
     exact ⟨rfl, rfl, rfl⟩
    refine pD (fun W R z9 => ?_) ?_
    ·rw [zA 7 (z9 7 rfl)]
     refine qg (qj yd rfl (hoi.rd (by omega)) ?_)
     exact ⟨rfl, rfl, rfl⟩
    exact stepsP.nil
   intro W hphi
   rw [eS (l := [(0, _), (4, _), (8, _)]) ⟨(hphi 0 (by decide)), (hphi 4 (by decide)), (hphi 8 (by decide)), ⟨⟩⟩]
   show XL _ _ _ _ _ _ _ (cellsH b1 [] 96 :: pathH 96 121 xb arv rkv tv sv ar rk t s :: L)
   refine cX (qt (args := [ptr xb 0, ii (((mi.getD k 0).toNat : Nat) : Int), ii (((oi.getD k 0).toNat : Nat) : Int)]) call92 (by rw [show (((mi.getD k 0).toNat : Nat) : Int) = mi.getD k 0 from by omega, show (((oi.getD k 0).toNat : Nat) : Int) = oi.getD k 0 from by omega]; rfl) (jD [_] (ih ((sub ar t ((mi.getD k 0).toNat)).length + (sub ar s ((oi.getD k 0).toNat)).length) (by omega) (p := (mi.getD k 0).toNat) (q := (oi.getD k 0).toNat) har hrk ht hs hot hos hrb (hp := (by first | assumption | rfl | omega | simp)) (hq := (by first | assumption | rfl | omega | simp)) (hn := (by first | assumption | rfl | omega | simp)))) ?_)
   rintro _ F2 _ le2 ⟨rfl, rfl⟩
   show XL _ _ _ _ _ _ _ (cellsH b1 [] 96 :: pathH 96 121 xb arv rkv tv sv ar rk t s :: L)
   refine qh (.bool (lpB ar rk (sub ar t ((mi.getD k 0).toNat)) (sub ar s ((oi.getD k 0).toNat)))) rfl (qb (qw (qF (qo (qo (qF (qo (qu (L' := pathH 96 121 xb arv rkv tv sv ar rk t s :: L) [.bool (lpB ar rk (sub ar t ((mi.getD k 0).toNat)) (sub ar s ((oi.getD k 0).toNat)))] (.bool (lpB ar rk (sub ar t ((mi.getD k 0).toNat)) (sub ar s ((oi.getD k 0).toNat)))) (.tmp rfl .nil) rfl (qi (qi leG1 le1) le2) rF (sD (sC sR)) ?_))))))))
   exact ⟨congrArg Value.bool (by rw [lexB_at (k := k) (by rw [parts_subN hT hp]; exact hkx) hsm (by rw [part_at hT hp hkx, part_at hS hq hky, ← hxs, ← hys]; exact he9) (fun i hi => part_W (hT.sub hp) hi), part_at hT hp hkx, part_at hS hq hky, ← hxs, ← hys]), rfl⟩
  have he9 := Classical.not_not.1 h2
  refine qA (qa (cX (qM (((k + 1 : Nat) : Int)) rfl rfl (by omega) (by omega) (qd (ii (((k + 1 : Nat) : Int))) rfl (qb ?_)))))
  exact ⟨(k + 1, F1), _, (qi leG1 le1), rF, ⟨rfl, rfl, rfl, rfl, rfl, ⟨⟩⟩, (sC (sC sR)), ⟨rfl, (qi leG1 le1), (by (try dsimp only) <;> omega), (fun i hi => (Nat.lt_or_ge i k).elim (fun h => hsm i h) (fun h => by obtain rfl : i = k := (by omega); rw [part_at hT hp hkx, part_at hS hq hky, ← hxs, ← hys]; exact he9))⟩, (by omega)⟩
 refine jn (qz (qz (qR (qc (qa (qh (.bool (false)) rfl (qb (qw (qu (L' := pathH 96 121 xb arv rkv tv sv ar rk t s :: L) [.bool (false)] (.bool (false)) (.tmp rfl .nil) rfl leG1 rF (sD (sC sR)) ?_)))))))))
 exact ⟨congrArg Value.bool (lexB_same (fun i hi => hsm i (by rw [parts_subN hT hp, ← hxs] at hi; omega)) (fun i hi => part_W (hT.sub hp) hi)), rfl⟩

/- (*impl.paths).find -/
set_option maxHeartbeats 2000000 in
set_option maxRecDepth 20000 in
theorem pathFind_step {n : Nat} (ih : ∀ m : Nat, m < n → ∀ {F : FH} {L : List HP} {xb : Nat} {arv rkv tv sv : Value} {ar rk t s : List Int} (har : IntsF F arv ar) (hrk : IntsF F rkv rk) (ht : IntsF F tv t) (hs : IntsF F sv s) (hot : termOk ar t = true) (hos : termOk ar s = true) (hrb : rankB ar rk = true) {p : Nat} {q : Nat} (hp : p < t.length) (hq : q < s.length) (hn : (sub ar t p).length + (sub ar s q).length ≤ m), Does prog 92 [ptr xb 0, ii ((p : Int)), ii ((q : Int))] F (pathH 96 121 xb arv rkv tv sv ar rk t s :: L) (fun v F' L' => ((.bool (lpB ar rk (sub ar t p) (sub ar s q)) : Value) = v) ∧ pathH 96 121 xb arv rkv tv sv ar rk t s :: L = L')) {F : FH} {L : List HP} {xb : Nat} {arv rkv tv sv : Value} {ar rk t s : List Int} (har : IntsF F arv ar) (hrk : IntsF F rkv rk) (ht : IntsF F tv t) (hs : IntsF F sv s) (hot : termOk ar t = true) (hos : termOk ar s = true) (hrb : rankB ar rk = true) {p : Nat} {q : Nat} (hp : p < t.length) (hq : q < s.length) (hn : (sub ar t p).length + (sub ar s q).length ≤ n) :
    Does prog 75 [ptr xb 0, ii ((p : Int)), ii ((q : Int))] F (pathH 96 121 xb arv rkv tv sv ar rk t s :: L) (fun v F' L' => (∃ (x : Int), (.int .i8 (x) : Value) = v ∧ ((0 ≤ x ∧ x ≤ 3) ∧ (0 < x ↔ Lp ar rk (sub ar t p) (sub ar s q)))) ∧ pathH 96 121 xb arv rkv tv sv ar rk t s :: L = L') := by
 refine qH func75 rfl rfl rfl ?_
 have hT := termW_of hot
 have hS := termW_of hos
 have htl := termOk_len hot
 have hsl := termOk_len hos
 have hA1 := hT.args_le hp
 have hA2 := hS.args_le hq
 have hu0 : (sub ar t p).getD 0 0 = t.getD p 0 := sub_head hot hp
 have hv0 : (sub ar s q).getD 0 0 = s.getD q 0 := sub_head hos hq
 refine qc (qa (qh (.int .i8 (0)) rfl (qb (qc (qc (qa (qd (ptr xb 0) rfl (cX (qL rfl (cX (qn (3) jr rfl qr (by decide) rfl rfl (cX (qj qN rfl (pathH.rd [] rfl rfl) (qd (ii ((p : Int))) rfl (cX (qx p qf qC rfl rfl rfl ht.slv (by omega) (Nat.mul_one _) (cX (qj jh rfl (ht.rd (by omega)) ?_))))))))))))))))))
 refine cX (qX rfl rfl (qb ?_))
 refine qE (p := (t.getD p 0 : Int) < 0) rfl (fun h1 => ?_) (fun h1 => ?_)
 ·have hu9 := fnd_var (ar := ar) (rk := rk) (v := sub ar s q) (show (sub ar t p).getD 0 0 < 0 by rw [hu0]; omega)
  refine qc (qa (qh (.int .i8 (0)) rfl (qb (qw (qo (qu (L' := pathH 96 121 xb arv rkv tv sv ar rk t s :: L) [.int .i8 (0)] (.int .i8 (0)) (.tmp rfl .nil) rfl rF rF (sC sR) ?_))))))
  exact ⟨⟨_, rfl, ⟨by omega, by omega⟩, fun hc => absurd hc (by omega), fun hc => absurd hc (by first | exact hu9 | exact hv9 | exact fnd_part (j := j) (by rw [parts_subN hS hq]; omega) (by rw [part_at hS hq (by omega)]; exact fun hc2 => by rw [lpB_iff.2 hc2] at hl9; cases hl9) | exact fnd_no hnh (by rw [hu0, hv0]; exact fun hc => by have := hc.1; have := hc.2; omega) (by rw [hu0, hv0]; exact fun hc => by first | exact hsm hc.1 | (have := hc.2; rw [hlx] at this; cases this)))⟩, rfl⟩
 have hup : 0 ≤ (sub ar t p).getD 0 0 := by rw [hu0]; omega
 refine qA (qc ?_)
 refine jL [pathH 96 121 xb arv rkv tv sv ar rk t s] L 9 [] [[], [0], [1], [2], [], [4], [5], [6]] (phiL [qe (ptr xb 0), qe (ptr xb 0), qe (ptr xb 0), qe (.agg #[arv]), qe (ptr xb 0), qe (ptr xb 0), qe (ptr xb 3), qe tv, qe (ii ((p : Int)) : Value)]) (ownL []) mixed rfl rfl (by kernel_rfl) ?_ ?_
 ·refine pD (fun W R z9 => ?_) ?_
  ·refine qg (ql (ptr xb 0) rfl ?_)
   exact ⟨rfl, rfl, rfl⟩
  refine pD (fun W R z9 => ?_) ?_
  ·rw [zA 0 (z9 0 rfl)]
   refine qg (qL rfl ?_)
   exact ⟨rfl, rfl, rfl⟩
  refine pD (fun W R z9 => ?_) ?_
  ·rw [zA 1 (z9 1 rfl)]
   refine qg (qn (0) jr rfl qB (by decide) rfl rfl ?_)
   exact ⟨rfl, rfl, rfl⟩
  refine pD (fun W R z9 => ?_) ?_
  ·rw [zA 2 (z9 2 rfl)]
   refine qg (qv [arv] qU qB rfl rfl (Rd.sing (pathH.rd [] rfl (rfl : _ = some (arv : Value)))) ?_)
   exact ⟨rfl, rfl, rfl⟩
  refine pD (fun W R z9 => ?_) ?_
  ·refine qg (ql (ptr xb 0) rfl ?_)
   exact ⟨rfl, rfl, rfl⟩
  refine pD (fun W R z9 => ?_) ?_
  ·rw [zA 4 (z9 4 rfl)]
   refine qg (qL rfl ?_)
   exact ⟨rfl, rfl, rfl⟩
  refine pD (fun W R z9 => ?_) ?_
  ·rw [zA 5 (z9 5 rfl)]
   refine qg (qn (3) jr rfl qr (by decide) rfl rfl ?_)
   exact ⟨rfl, rfl, rfl⟩
  refine pD (fun W R z9 => ?_) ?_
  ·rw [zA 6 (z9 6 rfl)]
   refine qg (qj qN rfl (pathH.rd [] rfl rfl) ?_)
   exact ⟨rfl, rfl, rfl⟩
  refine pD (fun W R z9 => ?_) ?_
  ·refine qg (ql (ii ((p : Int))) rfl ?_)
   exact ⟨rfl, rfl, rfl⟩
  exact stepsP.nil
 intro W hphi
 rw [eS (l := [(3, _), (7, _), (8, _)]) ⟨(hphi 3 (by decide)), (hphi 7 (by decide)), (hphi 8 (by decide)), ⟨⟩⟩]
 show XL _ _ _ _ _ _ _ (pathH 96 121 xb arv rkv tv sv ar rk t s :: L)
 refine cX (jT <| qt (args := [.agg #[arv], tv, ii (p : Int)]) call90 rfl (argsAtW_spec (p := p) har ht (ho := (by first | exact hT | exact hS)) (hp := (by first | assumption | rfl | omega | simp))) ?_)
 rintro v1 _ _ _ ⟨rfl, hs1, rfl⟩
 refine ⟨_, _, rfl, fun F1 le1 hz1 => ?_⟩
 replace har := har.mono le1
 replace hrk := hrk.mono le1
 replace ht := ht.mono le1
 replace hs := hs.mono le1
 have hf1 : IntsF F1 v1 ((argsL ar t p)) := intsH.fz (xs := (argsL ar t p)) hz1.fz
 refine qh (v1) rfl (qb (qc (qc (qa (qd (v1) rfl (cX (qG ja rfl hf1.slv (qd (ii (0)) rfl (qb (qJ (jv (α := Nat × FH) (fun xQ => [(0, ptr xb 0), (1, ii ((p : Int))), (2, ii ((q : Int))), (7, v1), (32, v1), (33, ii (((((argsL ar t p)).length : Nat) : Int))), (34, ii (((xQ.1 : Nat) : Int)))]) (fun xQ => pathH 96 121 xb arv rkv tv sv ar rk t s :: L) (fun xQ F' => xQ.2 = F' ∧ F1 ≤ xQ.2 ∧ (xQ.1 ≤ (argsL ar t p).length) ∧ (∀ i, i < xQ.1 → ¬ (sub ar t ((argsL ar t p).getD i 0).toNat = sub ar s q ∨ Lp ar rk (sub ar t ((argsL ar t p).getD i 0).toNat) (sub ar s q)))) (fun xQ => (argsL ar t p).length - xQ.1) (0, F1) ⟨rfl, rfl, rfl, rfl, rfl, rfl, rfl, ⟨⟩⟩ (sC sR) ⟨rfl, FLe.refl _, (by (try dsimp only) <;> omega), (fun i hi => absurd hi (by omega))⟩ ?_)))))))))))
 rintro ⟨k, G1⟩ rE _ _ ⟨rfl, leG, hk, hno⟩
 show X _ _ _ _ (envs [(0, ptr xb 0), (1, ii ((p : Int))), (2, ii ((q : Int))), (7, v1), (32, v1), (33, ii (((((argsL ar t p)).length : Nat) : Int))), (34, ii ((k : Int)))] rE) _ (pathH 96 121 xb arv rkv tv sv ar rk t s :: L)
 replace leG : F1 ≤ G1 := leG
 dsimp only at hk hno
 have leG1 := leG
 replace har := har.mono leG1
 replace hrk := hrk.mono leG1
 replace ht := ht.mono leG1
 replace hs := hs.mono leG1
 replace hf1 := hf1.mono leG1
 refine qc (qa (cX (qX rfl rfl (qb (qc ?_)))))
 refine qE (p := (k : Int) < ((((argsL ar t p)).length : Nat) : Int)) rfl (fun h2 => ?_) (fun h2 => ?_)
 ·obtain ⟨ha1, ha2, ha3⟩ := argsT_at hT hp (show k < (argsL ar t p).length by omega)
  refine qA (qc (qJ (qc (qa (cX (qx k ja jC rfl rfl rfl hf1.slv (by omega) (Nat.mul_one _) (cX (qj yd rfl (hf1.rd (by omega)) (qh (ii (((argsL ar t p)).getD k 0)) rfl (qb (qc (qa (qd (ptr xb 0) rfl (qd (ii (((argsL ar t p)).getD k 0)) rfl (qd (ii ((q : Int))) rfl (cX (qt (args := [ptr xb 0, ii (((((argsL ar t p)).getD k 0).toNat : Nat) : Int), ii (q : Int)]) call91 (by rw [show (((((argsL ar t p)).getD k 0).toNat : Nat) : Int) = ((argsL ar t p)).getD k 0 from by omega]; rfl) (jD [] (pathSame_spec (p := (((argsL ar t p)).getD k 0).toNat) (q := q) har hrk ht hs hot hos hrb (hp := (by first | assumption | rfl | omega | simp)) (hq := (by first | assumption | rfl | omega | simp)))) ?_)))))))))))))))))
  rintro _ F2 _ le2 ⟨rfl, rfl⟩
  replace har := har.mono le2
  replace hrk := hrk.mono le2
  replace ht := ht.mono le2
  replace hs := hs.mono le2
  replace hf1 := hf1.mono le2
  show XL _ _ _ _ _ _ _ (pathH 96 121 xb arv rkv tv sv ar rk t s :: L)
  refine qd (.bool (decide (sub ar t ((((argsL ar t p)).getD k 0).toNat) = sub ar s q))) rfl ?_
  by_cases h3 : sub ar t ((((argsL ar t p)).getD k 0).toNat) = sub ar s q
  ·have he9 := h3
   refine qq (t := 42) rfl (vT h3) (qq (t := 42) rfl (vT h3) (qq (t := 42) rfl (vT h3) (qq (t := 42) rfl (vT h3) (cX (qT (.bool (true)) (vT h3) rfl (qb (jO rfl (qc (qa (qh (.int .i8 (1)) rfl (qb ?_)))))))))))
   refine qw (qF (qo (qo (qF (qo (qu (L' := pathH 96 121 xb arv rkv tv sv ar rk t s :: L) [.int .i8 (1)] (.int .i8 (1)) (.tmp rfl .nil) rfl (qi (qi le1 leG1) le2) rF (sC sR) ?_))))))
   exact ⟨⟨_, rfl, ⟨by omega, by omega⟩, fun _ => fnd_hit (i := k) hup (by rw [parts_subN hT hp]; omega) (by rw [part_at hT hp (by omega)]; first | exact .inl he9 | exact .inr (lpB_iff.1 hl9)), fun _ => by omega⟩, rfl⟩
  have he9 := h3
  refine qs (t := 42) rfl (vF h3) (ql (ptr xb 0) rfl (qs (t := 42) rfl (vF h3) (ql (ii (((argsL ar t p)).getD k 0)) rfl (qs (t := 42) rfl (vF h3) (ql (ii ((q : Int))) rfl (qs (t := 42) rfl (vF h3) (qt (args := [ptr xb 0, ii (((((argsL ar t p)).getD k 0).toNat : Nat) : Int), ii (q : Int)]) call92 (by rw [show (((((argsL ar t p)).getD k 0).toNat : Nat) : Int) = ((argsL ar t p)).getD k 0 from by omega]; rfl) (jD [] (ih ((sub ar t ((((argsL ar t p)).getD k 0).toNat)).length + (sub ar s q).length) (by omega) (p := (((argsL ar t p)).getD k 0).toNat) (q := q) har hrk ht hs hot hos hrb (hp := (by first | assumption | rfl | omega | simp)) (hq := (by first | assumption | rfl | omega | simp)) (hn := (by first | assumption | rfl | omega | simp)))) ?_)))))))
  rintro _ F3 _ le3 ⟨rfl, rfl⟩
  replace har := har.mono le3
  replace hrk := hrk.mono le3
  replace ht := ht.mono le3
  replace hs := hs.mono le3
  replace hf1 := hf1.mono le3
  show XL _ _ _ _ _ _ _ (pathH 96 121 xb arv rkv tv sv ar rk t s :: L)
  refine cX (qP (.bool (lpB ar rk (sub ar t ((((argsL ar t p)).getD k 0).toNat)) (sub ar s q))) (vF h3) rfl (qb ?_))
  refine jG (t := lpB ar rk (sub ar t ((((argsL ar t p)).getD k 0).toNat)) (sub ar s q)) rfl (fun h4 => ?_) (fun h4 => ?_)
  ·have hl9 := h4
   refine qc (qa (qh (.int .i8 (1)) rfl (qb (qw (qF (qo (qo (qF (qo (qu (L' := pathH 96 121 xb arv rkv tv sv ar rk t s :: L) [.int .i8 (1)] (.int .i8 (1)) (.tmp rfl .nil) rfl (qi (qi (qi le1 leG1) le2) le3) rF (sC sR) ?_))))))))))
   exact ⟨⟨_, rfl, ⟨by omega, by omega⟩, fun _ => fnd_hit (i := k) hup (by rw [parts_subN hT hp]; omega) (by rw [part_at hT hp (by omega)]; first | exact .inl he9 | exact .inr (lpB_iff.1 hl9)), fun _ => by omega⟩, rfl⟩
  have hl9 := h4
  refine qA (qa (cX (qM (((k + 1 : Nat) : Int)) rfl rfl (by omega) (by omega) (qd (ii (((k + 1 : Nat) : Int))) rfl (qb ?_)))))
  exact ⟨(k + 1, F3), _, (qi (qi leG1 le2) le3), rF, ⟨rfl, rfl, rfl, rfl, rfl, rfl, rfl, ⟨⟩⟩, (sC sR), ⟨rfl, (qi (qi leG1 le2) le3), (by (try dsimp only) <;> omega), (fun i hi => (Nat.lt_or_ge i k).elim (fun h => hno i h) (fun h => by obtain rfl : i = k := (by omega); exact fun hc => hc.elim he9 (fun hc => by rw [lpB_iff.2 hc] at hl9; cases hl9)))⟩, (by omega)⟩
 refine jn (qz (qz (qR (qc (qc (qa (qd (ptr xb 0) rfl (cX (qL rfl (cX (qn (4) jr rfl qr (by decide) rfl rfl (cX (qj qN rfl (pathH.rd [] rfl rfl) (qd (ii ((q : Int))) rfl (cX (qx q qf qC rfl rfl rfl hs.slv (by omega) (Nat.mul_one _) (cX (qj jh rfl (hs.rd (by omega)) (cX (qX rfl rfl ?_))))))))))))))))))))
 refine qb ?_
 refine qE (p := (s.getD q 0 : Int) < 0) rfl (fun h5 => ?_) (fun h5 => ?_)
 ·have hnh : NoHit ar rk (sub ar t p) (sub ar s q) := fun i hi => by rw [parts_subN hT hp] at hi; rw [part_at hT hp hi]; exact hno i (by omega)
  have hv9 := fnd_left hnh (show (sub ar s q).getD 0 0 < 0 by rw [hv0]; omega)
  refine qc (qa (qh (.int .i8 (0)) rfl (qb (qw (qo (qu (L' := pathH 96 121 xb arv rkv tv sv ar rk t s :: L) [.int .i8 (0)] (.int .i8 (0)) (.tmp rfl .nil) rfl (qi le1 leG1) rF (sC sR) ?_))))))
  exact ⟨⟨_, rfl, ⟨by omega, by omega⟩, fun hc => absurd hc (by omega), fun hc => absurd hc (by first | exact hu9 | exact hv9 | exact fnd_part (j := j) (by rw [parts_subN hS hq]; omega) (by rw [part_at hS hq (by omega)]; exact fun hc2 => by rw [lpB_iff.2 hc2] at hl9; cases hl9) | exact fnd_no hnh (by rw [hu0, hv0]; exact fun hc => by have := hc.1; have := hc.2; omega) (by rw [hu0, hv0]; exact fun hc => by first | exact hsm hc.1 | (have := hc.2; rw [hlx] at this; cases this)))⟩, rfl⟩
 have hnh : NoHit ar rk (sub ar t p) (sub ar s q) := fun i hi => by rw [parts_subN hT hp] at hi; rw [part_at hT hp hi]; exact hno i (by omega)
 have hvp : 0 ≤ (sub ar s q).getD 0 0 := by rw [hv0]; omega
 have hqa := termOk_lt hos hq
 have hpa := termOk_lt hot hp
 have hrl := rank_len hrb
 refine qA (qc ?_)
 refine jL [pathH 96 121 xb arv rkv tv sv ar rk t s] L 9 [] [[], [0], [1], [2], [], [4], [5], [6]] (phiL [qe (ptr xb 0), qe (ptr xb 0), qe (ptr xb 0), qe (.agg #[arv]), qe (ptr xb 0), qe (ptr xb 0), qe (ptr xb 4), qe sv, qe (ii ((q : Int)) : Value)]) (ownL []) mixed rfl rfl (by kernel_rfl) ?_ ?_
 ·refine pD (fun W R z9 => ?_) ?_
  ·refine qg (ql (ptr xb 0) rfl ?_)
   exact ⟨rfl, rfl, rfl⟩
  refine pD (fun W R z9 => ?_) ?_
  ·rw [zA 0 (z9 0 rfl)]
   refine qg (qL rfl ?_)
   exact ⟨rfl, rfl, rfl⟩
  refine pD (fun W R z9 => ?_) ?_
  ·rw [zA 1 (z9 1 rfl)]
   refine qg (qn (0) jr rfl qB (by decide) rfl rfl ?_)
   exact ⟨rfl, rfl, rfl⟩
  refine pD (fun W R z9 => ?_) ?_
  ·rw [zA 2 (z9 2 rfl)]
   refine qg (qv [arv] qU qB rfl rfl (Rd.sing (pathH.rd [] rfl (rfl : _ = some (arv : Value)))) ?_)
   exact ⟨rfl, rfl, rfl⟩
  refine pD (fun W R z9 => ?_) ?_
  ·refine qg (ql (ptr xb 0) rfl ?_)
   exact ⟨rfl, rfl, rfl⟩
  refine pD (fun W R z9 => ?_) ?_
  ·rw [zA 4 (z9 4 rfl)]
   refine qg (qL rfl ?_)
   exact ⟨rfl, rfl, rfl⟩
  refine pD (fun W R z9 => ?_) ?_
  ·rw [zA 5 (z9 5 rfl)]
   refine qg (qn (4) jr rfl qr (by decide) rfl rfl ?_)
   exact ⟨rfl, rfl, rfl⟩
  refine pD (fun W R z9 => ?_) ?_
  ·rw [zA 6 (z9 6 rfl)]
   refine qg (qj qN rfl (pathH.rd [] rfl rfl) ?_)
   exact ⟨rfl, rfl, rfl⟩
  refine pD (fun W R z9 => ?_) ?_
  ·refine qg (ql (ii ((q : Int))) rfl ?_)
   exact ⟨rfl, rfl, rfl⟩
  exact stepsP.nil
 intro W hphi
 rw [eS (l := [(3, _), (7, _), (8, _)]) ⟨(hphi 3 (by decide)), (hphi 7 (by decide)), (hphi 8 (by decide)), ⟨⟩⟩]
 show XL _ _ _ _ _ _ _ (pathH 96 121 xb arv rkv tv sv ar rk t s :: L)
 refine cX (jT <| qt (args := [.agg #[arv], sv, ii (q : Int)]) call90 rfl (argsAtW_spec (p := q) har hs (ho := (by first | exact hT | exact hS)) (hp := (by first | assumption | rfl | omega | simp))) ?_)
 rintro v2 _ _ _ ⟨rfl, hs2, rfl⟩
 refine ⟨_, _, rfl, fun F4 le4 hz2 => ?_⟩
 replace har := har.mono le4
 replace hrk := hrk.mono le4
 replace ht := ht.mono le4
 replace hs := hs.mono le4
 replace hf1 := hf1.mono le4
 have hf2 : IntsF F4 v2 ((argsL ar s q)) := intsH.fz (xs := (argsL ar s q)) hz2.fz
 refine qh (v2) rfl (qb (qc ?_))
 refine jL [pathH 96 121 xb arv rkv tv sv ar rk t s] L 14 [] [[], [0], [1], [2], [], [3, 4], [5], [], [7], [8], [9], [], [10, 11], [12]] (phiL [qe (ptr xb 0), qe (ptr xb 0), qe (ptr xb 3), qe tv, qe (ii ((p : Int)) : Value), qe (.pointer (some (elemA tv (p)))), qe (ii (t.getD p 0)), qe (ptr xb 0), qe (ptr xb 0), qe (ptr xb 4), qe sv, qe (ii ((q : Int)) : Value), qe (.pointer (some (elemA sv (q)))), qe (ii (s.getD q 0))]) (ownL []) mixed rfl rfl (by kernel_rfl) ?_ ?_
 ·refine pD (fun W R z9 => ?_) ?_
  ·refine qg (ql (ptr xb 0) rfl ?_)
   exact ⟨rfl, rfl, rfl⟩
  refine pD (fun W R z9 => ?_) ?_
  ·rw [zA 0 (z9 0 rfl)]
   refine qg (qL rfl ?_)
   exact ⟨rfl, rfl, rfl⟩
  refine pD (fun W R z9 => ?_) ?_
  ·rw [zA 1 (z9 1 rfl)]
   refine qg (qn (3) jr rfl qr (by decide) rfl rfl ?_)
   exact ⟨rfl, rfl, rfl⟩
  refine pD (fun W R z9 => ?_) ?_
  ·rw [zA 2 (z9 2 rfl)]
   refine qg (qj qN rfl (pathH.rd [] rfl rfl) ?_)
   exact ⟨rfl, rfl, rfl⟩
  refine pD (fun W R z9 => ?_) ?_
  ·refine qg (ql (ii ((p : Int))) rfl ?_)
   exact ⟨rfl, rfl, rfl⟩
  refine pD (fun W R z9 => ?_) ?_
  ·rw [zB 3 4 (z9 3 rfl) (z9 4 rfl)]
   refine qg (qx p qf qC rfl rfl rfl ht.slv (by omega) (Nat.mul_one _) ?_)
   exact ⟨rfl, rfl, rfl⟩
  refine pD (fun W R z9 => ?_) ?_
  ·rw [zA 5 (z9 5 rfl)]
   refine qg (qj jh rfl (ht.rd (by omega)) ?_)
   exact ⟨rfl, rfl, rfl⟩
  refine pD (fun W R z9 => ?_) ?_
  ·refine qg (ql (ptr xb 0) rfl ?_)
   exact ⟨rfl, rfl, rfl⟩
  refine pD (fun W R z9 => ?_) ?_
  ·rw [zA 7 (z9 7 rfl)]
   refine qg (qL rfl ?_)
   exact ⟨rfl, rfl, rfl⟩
  refine pD (fun W R z9 => ?_) ?_
  ·rw [zA 8 (z9 8 rfl)]
   refine qg (qn (4) jr rfl qr (by decide) rfl rfl ?_)
   exact ⟨rfl, rfl, rfl⟩
  refine pD (fun W R z9 => ?_) ?_
  ·rw [zA 9 (z9 9 rfl)]
   refine qg (qj qN rfl (pathH.rd [] rfl rfl) ?_)
   exact ⟨rfl, rfl, rfl⟩
  refine pD (fun W R z9 => ?_) ?_
  ·refine qg (ql (ii ((q : Int))) rfl ?_)
   exact ⟨rfl, rfl, rfl⟩
  refine pD (fun W R z9 => ?_) ?_
  ·rw [zB 10 11 (z9 10 rfl) (z9 11 rfl)]
   refine qg (qx q qf qC rfl rfl rfl hs.slv (by omega) (Nat.mul_one _) ?_)
   exact ⟨rfl, rfl, rfl⟩
  refine pD (fun W R z9 => ?_) ?_
  ·rw [zA 12 (z9 12 rfl)]
   refine qg (qj jh rfl (hs.rd (by omega)) ?_)
   exact ⟨rfl, rfl, rfl⟩
  exact stepsP.nil
 intro W hphi
 rw [zB 6 13 (hphi 6 (by decide)) (hphi 13 (by decide))]
 show XL _ _ _ _ _ _ _ (pathH 96 121 xb arv rkv tv sv ar rk t s :: L)
 refine cX (jo rfl rfl (qh (.bool (decide ((t.getD p 0 : Int) = s.getD q 0))) rfl (qb (qc (qc (qa (qd (.bool (decide ((t.getD p 0 : Int) = s.getD q 0))) rfl (cX (XOp.notD rfl (qd (.bool (decide (¬((t.getD p 0 : Int) = s.getD q 0)))) rfl ?_))))))))))
 by_cases h6 : ¬((t.getD p 0 : Int) = s.getD q 0)
 ·have hsm : ¬ t.getD p 0 = s.getD q 0 := h6
  refine qq (t := 84) rfl (vT h6) (qq (t := 84) rfl (vT h6) (cX (qT (.bool (true)) (vT h6) rfl (qb (jO rfl (qc (qa (qd (v2) rfl (cX (qG ja rfl hf2.slv (qd (ii (0)) rfl (qb (qJ ?_)))))))))))))
  refine jv (α := Nat × FH) (fun xQ => [(0, ptr xb 0), (1, ii ((p : Int))), (2, ii ((q : Int))), (7, v1), (10, v2), (11, .bool (decide ((t.getD p 0 : Int) = s.getD q 0))), (88, v2), (89, ii (((((argsL ar s q)).length : Nat) : Int))), (90, ii (((xQ.1 : Nat) : Int)))]) (fun xQ => pathH 96 121 xb arv rkv tv sv ar rk t s :: L) (fun xQ F' => xQ.2 = F' ∧ F4 ≤ xQ.2 ∧ (xQ.1 ≤ (argsL ar s q).length) ∧ (∀ i, i < xQ.1 → Lp ar rk (sub ar t p) (sub ar s ((argsL ar s q).getD i 0).toNat))) (fun xQ => (argsL ar s q).length - xQ.1) (0, F4) ⟨rfl, rfl, rfl, rfl, rfl, rfl, rfl, rfl, rfl, ⟨⟩⟩ (sC sR) ⟨rfl, FLe.refl _, (by (try dsimp only) <;> omega), (fun i hi => absurd hi (by omega))⟩ ?_
  rintro ⟨j, G2⟩ rE _ _ ⟨rfl, leG, hj, hal⟩
  show X _ _ _ _ (envs [(0, ptr xb 0), (1, ii ((p : Int))), (2, ii ((q : Int))), (7, v1), (10, v2), (11, .bool (decide ((t.getD p 0 : Int) = s.getD q 0))), (88, v2), (89, ii (((((argsL ar s q)).length : Nat) : Int))), (90, ii ((j : Int)))] rE) _ (pathH 96 121 xb arv rkv tv sv ar rk t s :: L)
  replace leG : F4 ≤ G2 := leG
  dsimp only at hj hal
  have leG2 := leG
  replace har := har.mono leG2
  replace hrk := hrk.mono leG2
  replace ht := ht.mono leG2
  replace hs := hs.mono leG2
  replace hf1 := hf1.mono leG2
  replace hf2 := hf2.mono leG2
  refine qc (qa (cX (qX rfl rfl (qb (qc ?_)))))
  refine qE (p := (j : Int) < ((((argsL ar s q)).length : Nat) : Int)) rfl (fun h7 => ?_) (fun h7 => ?_)
  ·obtain ⟨hb1, hb2, hb3⟩ := argsT_at hS hq (show j < (argsL ar s q).length by omega)
   refine qA (qc (qJ (qc (qa (cX (qx j ja jC rfl rfl rfl hf2.slv (by omega) (Nat.mul_one _) (cX (qj yd rfl (hf2.rd (by omega)) (qh (ii (((argsL ar s q)).getD j 0)) rfl (qb (qc (qa (qd (ptr xb 0) rfl (qd (ii ((p : Int))) rfl (qd (ii (((argsL ar s q)).getD j 0)) rfl (cX (qt (args := [ptr xb 0, ii (p : Int), ii (((((argsL ar s q)).getD j 0).toNat : Nat) : Int)]) call92 (by rw [show (((((argsL ar s q)).getD j 0).toNat : Nat) : Int) = ((argsL ar s q)).getD j 0 from by omega]; rfl) (jD [] (ih ((sub ar t p).length + (sub ar s ((((argsL ar s q)).getD j 0).toNat)).length) (by omega) (p := p) (q := (((argsL ar s q)).getD j 0).toNat) har hrk ht hs hot hos hrb (hp := (by first | assumption | rfl | omega | simp)) (hq := (by first | assumption | rfl | omega | simp)) (hn := (by first | assumption | rfl | omega | simp)))) ?_)))))))))))))))))
   rintro _ F5 _ le5 ⟨rfl, rfl⟩
   replace har := har.mono le5
   replace hrk := hrk.mono le5
   replace ht := ht.mono le5
   replace hs := hs.mono le5
   replace hf1 := hf1.mono le5
   replace hf2 := hf2.mono le5
   show XL _ _ _ _ _ _ _ (pathH 96 121 xb arv rkv tv sv ar rk t s :: L)
   refine cX (ju rfl (qb ?_))
   refine jG (t := !(lpB ar rk (sub ar t p) (sub ar s ((((argsL ar s q)).getD j 0).toNat)))) rfl (fun h8 => ?_) (fun h8 => ?_)
   ·have hl9 := Bool.not_inj (y := false) h8
    refine qc (qa (qh (.int .i8 (0)) rfl (qb (qw (qF (qo (qo (qF (qo (qu (L' := pathH 96 121 xb arv rkv tv sv ar rk t s :: L) [.int .i8 (0)] (.int .i8 (0)) (.tmp rfl .nil) rfl (qi (qi (qi (qi le1 leG1) le4) leG2) le5) rF (sC sR) ?_))))))))))
    exact ⟨⟨_, rfl, ⟨by omega, by omega⟩, fun hc => absurd hc (by omega), fun hc => absurd hc (by first | exact hu9 | exact hv9 | exact fnd_part (j := j) (by rw [parts_subN hS hq]; omega) (by rw [part_at hS hq (by omega)]; exact fun hc2 => by rw [lpB_iff.2 hc2] at hl9; cases hl9) | exact fnd_no hnh (by rw [hu0, hv0]; exact fun hc => by have := hc.1; have := hc.2; omega) (by rw [hu0, hv0]; exact fun hc => by first | exact hsm hc.1 | (have := hc.2; rw [hlx] at this; cases this)))⟩, rfl⟩
   have hl9 := Bool.not_inj (y := true) h8
   refine qA (qa (cX (qM (((j + 1 : Nat) : Int)) rfl rfl (by omega) (by omega) (qd (ii (((j + 1 : Nat) : Int))) rfl (qb ?_)))))
   exact ⟨(j + 1, F5), _, (qi leG2 le5), rF, ⟨rfl, rfl, rfl, rfl, rfl, rfl, rfl, rfl, rfl, ⟨⟩⟩, (sC sR), ⟨rfl, (qi leG2 le5), (by (try dsimp only) <;> omega), (fun i hi => (Nat.lt_or_ge i j).elim (fun h => hal i h) (fun h => by obtain rfl : i = j := (by omega); exact lpB_iff.1 hl9))⟩, (by omega)⟩
  refine jn (qz (qz (qR (qc (qJ (qc ?_))))))
  refine jL [pathH 96 121 xb arv rkv tv sv ar rk t s] L 29 [] [[], [0], [1], [2], [2, 3], [2, 4], [2, 5], [2], [2, 7], [2, 8], [2, 9], [2], [2, 10, 11], [2, 12], [2, 6, 13], [2, 14], [2], [2, 16], [2, 17], [2, 18], [2], [2, 20], [2, 21], [2, 22], [2], [2, 23, 24], [2, 25], [2, 19, 26], [2, 27]] (phiL [qe (.bool (decide ((t.getD p 0 : Int) = s.getD q 0)) : Value), qe (.bool (decide (¬((t.getD p 0 : Int) = s.getD q 0))) : Value), qe (.bool (decide (¬((t.getD p 0 : Int) = s.getD q 0))) : Value), qe (ptr xb 0), qe (ptr xb 0), qe (ptr xb 1), qe rkv, qe (ptr xb 0), qe (ptr xb 0), qe (ptr xb 4), qe sv, qe (ii ((q : Int)) : Value), qe (.pointer (some (elemA sv (q)))), qe (ii (s.getD q 0)), qe (.pointer (some (elemA rkv ((s.getD q 0).toNat)))), qe (ii (rk.getD ((s.getD q 0).toNat) 0)), qe (ptr xb 0), qe (ptr xb 0), qe (ptr xb 1), qe rkv, qe (ptr xb 0), qe (ptr xb 0), qe (ptr xb 3), qe tv, qe (ii ((p : Int)) : Value), qe (.pointer (some (elemA tv (p)))), qe (ii (t.getD p 0)), qe (.pointer (some (elemA rkv ((t.getD p 0).toNat)))), qe (ii (rk.getD ((t.getD p 0).toNat) 0))]) (ownL []) mixed rfl rfl (by kernel_rfl) ?_ ?_
  ·refine pD (fun W R z9 => ?_) ?_
   ·refine qg (ql (.bool (decide ((t.getD p 0 : Int) = s.getD q 0))) rfl ?_)
    exact ⟨rfl, rfl, rfl⟩
   refine pD (fun W R z9 => ?_) ?_
   ·rw [zA 0 (z9 0 rfl)]
    refine qg (XOp.notD rfl ?_)
    exact ⟨rfl, rfl, rfl⟩
   refine pD (fun W R z9 => ?_) ?_
   ·rw [zA 1 (z9 1 rfl)]
    refine qg (ql (.bool (decide (¬((t.getD p 0 : Int) = s.getD q 0)))) rfl ?_)
    exact ⟨rfl, rfl, rfl⟩
   refine pD (fun W R z9 => ?_) ?_
   ·rw [zA 2 (z9 2 rfl)]
    refine jm (t := 103) rfl (vT h6) (ql (ptr xb 0) rfl ?_)
    exact ⟨rfl, rfl, rfl⟩
   refine pD (fun W R z9 => ?_) ?_
   ·rw [zB 2 3 (z9 2 rfl) (z9 3 rfl)]
    refine jm (t := 103) rfl (vT h6) (qL rfl ?_)
    exact ⟨rfl, rfl, rfl⟩
   refine pD (fun W R z9 => ?_) ?_
   ·rw [zB 2 4 (z9 2 rfl) (z9 4 rfl)]
    refine jm (t := 103) rfl (vT h6) (qn (1) jr rfl qr (by decide) rfl rfl ?_)
    exact ⟨rfl, rfl, rfl⟩
   refine pD (fun W R z9 => ?_) ?_
   ·rw [zB 2 5 (z9 2 rfl) (z9 5 rfl)]
    refine jm (t := 103) rfl (vT h6) (qj qN rfl (pathH.rd [] rfl rfl) ?_)
    exact ⟨rfl, rfl, rfl⟩
   refine pD (fun W R z9 => ?_) ?_
   ·rw [zA 2 (z9 2 rfl)]
    refine jm (t := 103) rfl (vT h6) (ql (ptr xb 0) rfl ?_)
    exact ⟨rfl, rfl, rfl⟩
   refine pD (fun W R z9 => ?_) ?_
   ·rw [zB 2 7 (z9 2 rfl) (z9 7 rfl)]
    refine jm (t := 103) rfl (vT h6) (qL rfl ?_)
    exact ⟨rfl, rfl, rfl⟩
   refine pD (fun W R z9 => ?_) ?_
   ·rw [zB 2 8 (z9 2 rfl) (z9 8 rfl)]
    refine jm (t := 103) rfl (vT h6) (qn (4) jr rfl qr (by decide) rfl rfl ?_)
    exact ⟨rfl, rfl, rfl⟩
   refine pD (fun W R z9 => ?_) ?_
   ·rw [zB 2 9 (z9 2 rfl) (z9 9 rfl)]
    refine jm (t := 103) rfl (vT h6) (qj qN rfl (pathH.rd [] rfl rfl) ?_)
    exact ⟨rfl, rfl, rfl⟩
   refine pD (fun W R z9 => ?_) ?_
   ·rw [zA 2 (z9 2 rfl)]
    refine jm (t := 103) rfl (vT h6) (ql (ii ((q : Int))) rfl ?_)
    exact ⟨rfl, rfl, rfl⟩
   refine pD (fun W R z9 => ?_) ?_
   ·rw [eS (l := [(2, _), (10, _), (11, _)]) ⟨z9 2 rfl, z9 10 rfl, z9 11 rfl, ⟨⟩⟩]
    refine jm (t := 103) rfl (vT h6) (qx q qf qC rfl rfl rfl hs.slv (by omega) (Nat.mul_one _) ?_)
    exact ⟨rfl, rfl, rfl⟩
   refine pD (fun W R z9 => ?_) ?_
   ·rw [zB 2 12 (z9 2 rfl) (z9 12 rfl)]
    refine jm (t := 103) rfl (vT h6) (qj jh rfl (hs.rd (by omega)) ?_)
    exact ⟨rfl, rfl, rfl⟩
   refine pD (fun W R z9 => ?_) ?_
   ·rw [eS (l := [(2, _), (6, _), (13, _)]) ⟨z9 2 rfl, z9 6 rfl, z9 13 rfl, ⟨⟩⟩]
    refine jm (t := 103) rfl (vT h6) (qx ((s.getD q 0).toNat) qf qC rfl rfl (by omega) hrk.slv (by omega) (Nat.mul_one _) ?_)
    exact ⟨rfl, rfl, rfl⟩
   refine pD (fun W R z9 => ?_) ?_
   ·rw [zB 2 14 (z9 2 rfl) (z9 14 rfl)]
    refine jm (t := 103) rfl (vT h6) (qj jh rfl (hrk.rd (by omega)) ?_)
    exact ⟨rfl, rfl, rfl⟩
   refine pD (fun W R z9 => ?_) ?_
   ·rw [zA 2 (z9 2 rfl)]
    refine jm (t := 103) rfl (vT h6) (ql (ptr xb 0) rfl ?_)
    exact ⟨rfl, rfl, rfl⟩
   refine pD (fun W R z9 => ?_) ?_
   ·rw [zB 2 16 (z9 2 rfl) (z9 16 rfl)]
    refine jm (t := 103) rfl (vT h6) (qL rfl ?_)
    exact ⟨rfl, rfl, rfl⟩
   refine pD (fun W R z9 => ?_) ?_
   ·rw [zB 2 17 (z9 2 rfl) (z9 17 rfl)]
    refine jm (t := 103) rfl (vT h6) (qn (1) jr rfl qr (by decide) rfl rfl ?_)
    exact ⟨rfl, rfl, rfl⟩
   refine pD (fun W R z9 => ?_) ?_
   ·rw [zB 2 18 (z9 2 rfl) (z9 18 rfl)]
    refine jm (t := 103) rfl (vT h6) (qj qN rfl (pathH.rd [] rfl rfl) ?_)
    exact ⟨rfl, rfl, rfl⟩
   refine pD (fun W R z9 => ?_) ?_
   ·rw [zA 2 (z9 2 rfl)]
    refine jm (t := 103) rfl (vT h6) (ql (ptr xb 0) rfl ?_)
    exact ⟨rfl, rfl, rfl⟩
   refine pD (fun W R z9 => ?_) ?_
   ·rw [zB 2 20 (z9 2 rfl) (z9 20 rfl)]
    refine jm (t := 103) rfl (vT h6) (qL rfl ?_)
    exact ⟨rfl, rfl, rfl⟩
   refine pD (fun W R z9 => ?_) ?_
   ·rw [zB 2 21 (z9 2 rfl) (z9 21 rfl)]
    refine jm (t := 103) rfl (vT h6) (qn (3) jr rfl qr (by decide) rfl rfl ?_)
    exact ⟨rfl, rfl, rfl⟩
   refine pD (fun W R z9 => ?_) ?_
   ·rw [zB 2 22 (z9 2 rfl) (z9 22 rfl)]
    refine jm (t := 103) rfl (vT h6) (qj qN rfl (pathH.rd [] rfl rfl) ?_)
    exact ⟨rfl, rfl, rfl⟩
   refine pD (fun W R z9 => ?_) ?_
   ·rw [zA 2 (z9 2 rfl)]
    refine jm (t := 103) rfl (vT h6) (ql (ii ((p : Int))) rfl ?_)
    exact ⟨rfl, rfl, rfl⟩
   refine pD (fun W R z9 => ?_) ?_
   ·rw [eS (l := [(2, _), (23, _), (24, _)]) ⟨z9 2 rfl, z9 23 rfl, z9 24 rfl, ⟨⟩⟩]
    refine jm (t := 103) rfl (vT h6) (qx p qf qC rfl rfl rfl ht.slv (by omega) (Nat.mul_one _) ?_)
    exact ⟨rfl, rfl, rfl⟩
   refine pD (fun W R z9 => ?_) ?_
   ·rw [zB 2 25 (z9 2 rfl) (z9 25 rfl)]
    refine jm (t := 103) rfl (vT h6) (qj jh rfl (ht.rd (by omega)) ?_)
    exact ⟨rfl, rfl, rfl⟩
   refine pD (fun W R z9 => ?_) ?_
   ·rw [eS (l := [(2, _), (19, _), (26, _)]) ⟨z9 2 rfl, z9 19 rfl, z9 26 rfl, ⟨⟩⟩]
    refine jm (t := 103) rfl (vT h6) (qx ((t.getD p 0).toNat) qf qC rfl rfl (by omega) hrk.slv (by omega) (Nat.mul_one _) ?_)
    exact ⟨rfl, rfl, rfl⟩
   refine pD (fun W R z9 => ?_) ?_
   ·rw [zB 2 27 (z9 2 rfl) (z9 27 rfl)]
    refine jm (t := 103) rfl (vT h6) (qj jh rfl (hrk.rd (by omega)) ?_)
    exact ⟨rfl, rfl, rfl⟩
   exact stepsP.nil
  intro W hphi
  rw [eS (l := [(2, _), (15, _), (28, _)]) ⟨(hphi 2 (by decide)), (hphi 15 (by decide)), (hphi 28 (by decide)), ⟨⟩⟩]
  show XL _ _ _ _ _ _ _ (pathH 96 121 xb arv rkv tv sv ar rk t s :: L)
  refine qs (t := 103) rfl (vT h6) (qX rfl rfl (cX (qT (.bool (decide ((rk.getD ((s.getD q 0).toNat) 0 : Int) < rk.getD ((t.getD p 0).toNat) 0))) (vT h6) rfl (qh (.bool (decide ((rk.getD ((s.getD q 0).toNat) 0 : Int) < rk.getD ((t.getD p 0).toNat) 0))) rfl (qb ?_)))))
  refine qE (p := (rk.getD ((s.getD q 0).toNat) 0 : Int) < rk.getD ((t.getD p 0).toNat) 0) rfl (fun h9 => ?_) (fun h9 => ?_)
  ·have hrk9 := h9
   refine qc (qa (qh (.int .i8 (2)) rfl (qb (qw (qF (qo (qu (L' := pathH 96 121 xb arv rkv tv sv ar rk t s :: L) [.int .i8 (2)] (.int .i8 (2)) (.tmp rfl .nil) rfl (qi (qi (qi le1 leG1) le4) leG2) rF (sC sR) ?_)))))))
   exact ⟨⟨_, rfl, ⟨by omega, by omega⟩, fun _ => Lp.prec hup hvp (by rw [hu0, hv0]; exact hsm) (by rw [hu0, hv0]; exact hrk9) (fun i hi => by rw [parts_subN hS hq] at hi; rw [part_at hS hq hi]; exact hal i (by omega)), fun _ => by omega⟩, rfl⟩
  have hrk9 := h9
  refine qc (qa (qd (.bool (decide ((t.getD p 0 : Int) = s.getD q 0))) rfl (qd (.bool (decide ((t.getD p 0 : Int) = s.getD q 0))) rfl ?_)))
  by_cases h10 : (t.getD p 0 : Int) = s.getD q 0
  ·have hsm : t.getD p 0 = s.getD q 0 := h10
   refine qs (t := 134) rfl (vT h10) (ql (ptr xb 0) rfl (qs (t := 134) rfl (vT h10) (qL rfl (qs (t := 134) rfl (vT h10) (qn (2) jr rfl sizeOf115 (by decide) rfl rfl (qs (t := 134) rfl (vT h10) (qj isAgg115 rfl (pathH.rd [] rfl rfl) (qs (t := 134) rfl (vT h10) (ql (ptr xb 0) rfl (qs (t := 134) rfl (vT h10) (ql (v1) rfl (qs (t := 134) rfl (vT h10) (ql (v2) rfl (qs (t := 134) rfl (vT h10) (XOp.callM (args := [.agg #[], ptr xb 0, v1, v2]) (fun _ _ => by kernel_rfl) rfl rfl (jD [] (pathArgs_step ih (p := p) (q := q) har hrk ht hs hot hos hrb hf1 hf2 (hp := (by first | assumption | rfl | omega | simp)) (hq := (by first | assumption | rfl | omega | simp)) (hn := (by first | assumption | rfl | omega | simp)) (hxe := (by first | assumption | rfl | omega | simp)) (hye := (by first | assumption | rfl | omega | simp)) (hhd := (by first | assumption | rfl | omega | simp)))) ?_)))))))))))))))
   rintro _ F6 _ le6 ⟨rfl, rfl⟩
   replace har := har.mono le6
   replace hrk := hrk.mono le6
   replace ht := ht.mono le6
   replace hs := hs.mono le6
   replace hf1 := hf1.mono le6
   replace hf2 := hf2.mono le6
   show XL _ _ _ _ _ _ _ (pathH 96 121 xb arv rkv tv sv ar rk t s :: L)
   refine cX (qT (.bool (lexB ar rk (partsL ar (sub ar t p)) (partsL ar (sub ar s q)))) (vT h10) rfl (qh (.bool (lexB ar rk (partsL ar (sub ar t p)) (partsL ar (sub ar s q)))) rfl (qb ?_)))
   refine jG (t := lexB ar rk (partsL ar (sub ar t p)) (partsL ar (sub ar s q))) rfl (fun h11 => ?_) (fun h11 => ?_)
   ·have hlx := h11
    refine qc (qa (qh (.int .i8 (3)) rfl (qb (qw (qF (qo (qu (L' := pathH 96 121 xb arv rkv tv sv ar rk t s :: L) [.int .i8 (3)] (.int .i8 (3)) (.tmp rfl .nil) rfl (qi (qi (qi (qi le1 leG1) le4) leG2) le6) rF (sC sR) ?_)))))))
    exact ⟨⟨_, rfl, ⟨by omega, by omega⟩, fun _ => fnd_lex hup (by rw [hu0, hv0]; exact hsm) hlx (fun i hi => by rw [parts_subN hS hq] at hi; rw [part_at hS hq hi]; exact hal i (by omega)), fun _ => by omega⟩, rfl⟩
   have hlx := h11
   refine qA (qc (qa (qh (.int .i8 (0)) rfl (qb (qw (qu (L' := pathH 96 121 xb arv rkv tv sv ar rk t s :: L) [.int .i8 (0)] (.int .i8 (0)) (.tmp rfl .nil) rfl (qi (qi (qi (qi le1 leG1) le4) leG2) le6) rF (sC sR) ?_))))))
   exact ⟨⟨_, rfl, ⟨by omega, by omega⟩, fun hc => absurd hc (by omega), fun hc => absurd hc (by first | exact hu9 | exact hv9 | exact fnd_part (j := j) (by rw [parts_subN hS hq]; omega) (by rw [part_at hS hq (by omega)]; exact fun hc2 => by rw [lpB_iff.2 hc2] at hl9; cases hl9) | exact fnd_no hnh (by rw [hu0, hv0]; exact fun hc => by have := hc.1; have := hc.2; omega) (by rw [hu0, hv0]; exact fun hc => by first | exact hsm hc.1 | (have := hc.2; rw [hlx] at this; cases this)))⟩, rfl⟩
  have hsm : ¬ t.getD p 0 = s.getD q 0 := h10
  refine qq (t := 134) rfl (vF h10) (qq (t := 134) rfl (vF h10) (qq (t := 134) rfl (vF h10) (qq (t := 134) rfl (vF h10) (qq (t := 134) rfl (vF h10) (qq (t := 134) rfl (vF h10) (qq (t := 134) rfl (vF h10) (qq (t := 134) rfl (vF h10) (cX (qP (.bool (false)) (vF h10) rfl (qh (.bool (false)) rfl ?_))))))))))
  refine qb (jW rfl (qA (qc (qa (qh (.int .i8 (0)) rfl (qb (qw (qu (L' := pathH 96 121 xb arv rkv tv sv ar rk t s :: L) [.int .i8 (0)] (.int .i8 (0)) (.tmp rfl .nil) rfl (qi (qi (qi le1 leG1) le4) leG2) rF (sC sR) ?_))))))))
  exact ⟨⟨_, rfl, ⟨by omega, by omega⟩, fun hc => absurd hc (by omega), fun hc => absurd hc (by first | exact hu9 | exact hv9 | exact fnd_part (j := j) (by rw [parts_subN hS hq]; omega) (by rw [part_at hS hq (by omega)]; exact fun hc2 => by rw [lpB_iff.2 hc2] at hl9; cases hl9) | exact fnd_no hnh (by rw [hu0, hv0]; exact fun hc => by have := hc.1; have := hc.2; omega) (by rw [hu0, hv0]; exact fun hc => by first | exact hsm hc.1 | (have := hc.2; rw [hlx] at this; cases this)))⟩, rfl⟩
 have hsm : t.getD p 0 = s.getD q 0 := Classical.not_not.1 h6
 refine qs (t := 84) rfl (vF h6) (ql (ptr xb 0) rfl (qs (t := 84) rfl (vF h6) (qt (args := [ptr xb 0]) call93 rfl (jD [] (needsAll_spec har hrk ht hs hot hos hrb)) ?_)))
 rintro _ F7 _ le7 ⟨rfl, rfl⟩
 replace har := har.mono le7
 replace hrk := hrk.mono le7
 replace ht := ht.mono le7
 replace hs := hs.mono le7
 replace hf1 := hf1.mono le7
 replace hf2 := hf2.mono le7
 show XL _ _ _ _ _ _ _ (pathH 96 121 xb arv rkv tv sv ar rk t s :: L)
 refine cX (qP (.bool (true)) (vF h6) rfl (qb (jO rfl (qc (qa (qd (v2) rfl (cX (qG ja rfl hf2.slv (qd (ii (0)) rfl (qb (qJ (jv (α := Nat × FH) (fun xQ => [(0, ptr xb 0), (1, ii ((p : Int))), (2, ii ((q : Int))), (7, v1), (10, v2), (11, .bool (decide ((t.getD p 0 : Int) = s.getD q 0))), (88, v2), (89, ii (((((argsL ar s q)).length : Nat) : Int))), (90, ii (((xQ.1 : Nat) : Int)))]) (fun xQ => pathH 96 121 xb arv rkv tv sv ar rk t s :: L) (fun xQ F' => xQ.2 = F' ∧ F7 ≤ xQ.2 ∧ (xQ.1 ≤ (argsL ar s q).length) ∧ (∀ i, i < xQ.1 → Lp ar rk (sub ar t p) (sub ar s ((argsL ar s q).getD i 0).toNat))) (fun xQ => (argsL ar s q).length - xQ.1) (0, F7) ⟨rfl, rfl, rfl, rfl, rfl, rfl, rfl, rfl, rfl, ⟨⟩⟩ (sC sR) ⟨rfl, FLe.refl _, (by (try dsimp only) <;> omega), (fun i hi => absurd hi (by omega))⟩ ?_))))))))))))
 rintro ⟨j, G3⟩ rE _ _ ⟨rfl, leG, hj, hal⟩
 show X _ _ _ _ (envs [(0, ptr xb 0), (1, ii ((p : Int))), (2, ii ((q : Int))), (7, v1), (10, v2), (11, .bool (decide ((t.getD p 0 : Int) = s.getD q 0))), (88, v2), (89, ii (((((argsL ar s q)).length : Nat) : Int))), (90, ii ((j : Int)))] rE) _ (pathH 96 121 xb arv rkv tv sv ar rk t s :: L)
 replace leG : F7 ≤ G3 := leG
 dsimp only at hj hal
 have leG3 := leG
 replace har := har.mono leG3
 replace hrk := hrk.mono leG3
 replace ht := ht.mono leG3
 replace hs := hs.mono leG3
 replace hf1 := hf1.mono leG3
 replace hf2 := hf2.mono leG3
 refine qc (qa (cX (qX rfl rfl (qb (qc ?_)))))
 refine qE (p := (j : Int) < ((((argsL ar s q)).length : Nat) : Int)) rfl (fun h12 => ?_) (fun h12 => ?_)
 ·obtain ⟨hb1, hb2, hb3⟩ := argsT_at hS hq (show j < (argsL ar s q).length by omega)
  refine qA (qc (qJ (qc (qa (cX (qx j ja jC rfl rfl rfl hf2.slv (by omega) (Nat.mul_one _) (cX (qj yd rfl (hf2.rd (by omega)) (qh (ii (((argsL ar s q)).getD j 0)) rfl (qb (qc (qa (qd (ptr xb 0) rfl (qd (ii ((p : Int))) rfl (qd (ii (((argsL ar s q)).getD j 0)) rfl (cX (qt (args := [ptr xb 0, ii (p : Int), ii (((((argsL ar s q)).getD j 0).toNat : Nat) : Int)]) call92 (by rw [show (((((argsL ar s q)).getD j 0).toNat : Nat) : Int) = ((argsL ar s q)).getD j 0 from by omega]; rfl) (jD [] (ih ((sub ar t p).length + (sub ar s ((((argsL ar s q)).getD j 0).toNat)).length) (by omega) (p := p) (q := (((argsL ar s q)).getD j 0).toNat) har hrk ht hs hot hos hrb (hp := (by first | assumption | rfl | omega | simp)) (hq := (by first | assumption | rfl | omega | simp)) (hn := (by first | assumption | rfl | omega | simp)))) ?_)))))))))))))))))
  rintro _ F8 _ le8 ⟨rfl, rfl⟩
  replace har := har.mono le8
  replace hrk := hrk.mono le8
  replace ht := ht.mono le8
  replace hs := hs.mono le8
  replace hf1 := hf1.mono le8
  replace hf2 := hf2.mono le8
  show XL _ _ _ _ _ _ _ (pathH 96 121 xb arv rkv tv sv ar rk t s :: L)
  refine cX (ju rfl (qb ?_))
  refine jG (t := !(lpB ar rk (sub ar t p) (sub ar s ((((argsL ar s q)).getD j 0).toNat)))) rfl (fun h13 => ?_) (fun h13 => ?_)
  ·have hl9 := Bool.not_inj (y := false) h13
   refine qc (qa (qh (.int .i8 (0)) rfl (qb (qw (qF (qo (qo (qF (qo (qu (L' := pathH 96 121 xb arv rkv tv sv ar rk t s :: L) [.int .i8 (0)] (.int .i8 (0)) (.tmp rfl .nil) rfl (qi (qi (qi (qi (qi le1 leG1) le4) le7) leG3) le8) rF (sC sR) ?_))))))))))
   exact ⟨⟨_, rfl, ⟨by omega, by omega⟩, fun hc => absurd hc (by omega), fun hc => absurd hc (by first | exact hu9 | exact hv9 | exact fnd_part (j := j) (by rw [parts_subN hS hq]; omega) (by rw [part_at hS hq (by omega)]; exact fun hc2 => by rw [lpB_iff.2 hc2] at hl9; cases hl9) | exact fnd_no hnh (by rw [hu0, hv0]; exact fun hc => by have := hc.1; have := hc.2; omega) (by rw [hu0, hv0]; exact fun hc => by first | exact hsm hc.1 | (have := hc.2; rw [hlx] at this; cases this)))⟩, rfl⟩
  have hl9 := Bool.not_inj (y := true) h13
  refine qA (qa (cX (qM (((j + 1 : Nat) : Int)) rfl rfl (by omega) (by omega) (qd (ii (((j + 1 : Nat) : Int))) rfl (qb ?_)))))
  exact ⟨(j + 1, F8), _, (qi leG3 le8), rF, ⟨rfl, rfl, rfl, rfl, rfl, rfl, rfl, rfl, rfl, ⟨⟩⟩, (sC sR), ⟨rfl, (qi leG3 le8), (by (try dsimp only) <;> omega), (fun i hi => (Nat.lt_or_ge i j).elim (fun h => hal i h) (fun h => by obtain rfl : i = j := (by omega); exact lpB_iff.1 hl9))⟩, (by omega)⟩
 refine jn (qz (qz (qR (qc (qJ (qc ?_))))))
 refine jL [pathH 96 121 xb arv rkv tv sv ar rk t s] L 29 [] [[], [0], [1], [2], [2, 3], [2, 4], [2, 5], [2], [2, 7], [2, 8], [2, 9], [2], [2, 10, 11], [2, 12], [2, 6, 13], [2, 14], [2], [2, 16], [2, 17], [2, 18], [2], [2, 20], [2, 21], [2, 22], [2], [2, 23, 24], [2, 25], [2, 19, 26], [2, 27]] (phiL [qe (.bool (decide ((t.getD p 0 : Int) = s.getD q 0)) : Value), qe (.bool (decide (¬((t.getD p 0 : Int) = s.getD q 0))) : Value), qe (.bool (decide (¬((t.getD p 0 : Int) = s.getD q 0))) : Value), qe undef, qe undef, qe undef, qe undef, qe undef, qe undef, qe undef, qe undef, qe undef, qe undef, qe undef, qe undef, qe undef, qe undef, qe undef, qe undef, qe undef, qe undef, qe undef, qe undef, qe undef, qe undef, qe undef, qe undef, qe undef, qe undef]) (ownL []) mixed rfl rfl (by kernel_rfl) ?_ ?_
 ·refine pD (fun W R z9 => ?_) ?_
  ·refine qg (ql (.bool (decide ((t.getD p 0 : Int) = s.getD q 0))) rfl ?_)
   exact ⟨rfl, rfl, rfl⟩
  refine pD (fun W R z9 => ?_) ?_
  ·rw [zA 0 (z9 0 rfl)]
   refine qg (XOp.notD rfl ?_)
   exact ⟨rfl, rfl, rfl⟩
  refine pD (fun W R z9 => ?_) ?_
  ·rw [zA 1 (z9 1 rfl)]
   refine qg (ql (.bool (decide (¬((t.getD p 0 : Int) = s.getD q 0)))) rfl ?_)
   exact ⟨rfl, rfl, rfl⟩
  refine pD (fun W R z9 => ?_) ?_
  ·rw [zA 2 (z9 2 rfl)]
   exact jt (t := 103) rfl (vF h6) ⟨rfl, rfl, rfl⟩
  refine pD (fun W R z9 => ?_) ?_
  ·rw [eS (l := [(2, _), (3, undef)]) ⟨z9 2 rfl, z9 3 rfl, ⟨⟩⟩]
   exact jt (t := 103) rfl (vF h6) ⟨rfl, rfl, rfl⟩
  refine pD (fun W R z9 => ?_) ?_
  ·rw [eS (l := [(2, _), (4, undef)]) ⟨z9 2 rfl, z9 4 rfl, ⟨⟩⟩]
   exact jt (t := 103) rfl (vF h6) ⟨rfl, rfl, rfl⟩
  refine pD (fun W R z9 => ?_) ?_
  ·rw [eS (l := [(2, _), (5, undef)]) ⟨z9 2 rfl, z9 5 rfl, ⟨⟩⟩]
   exact jt (t := 103) rfl (vF h6) ⟨rfl, rfl, rfl⟩
  refine pD (fun W R z9 => ?_) ?_
  ·rw [zA 2 (z9 2 rfl)]
   exact jt (t := 103) rfl (vF h6) ⟨rfl, rfl, rfl⟩
  refine pD (fun W R z9 => ?_) ?_
  ·rw [eS (l := [(2, _), (7, undef)]) ⟨z9 2 rfl, z9 7 rfl, ⟨⟩⟩]
   exact jt (t := 103) rfl (vF h6) ⟨rfl, rfl, rfl⟩
  refine pD (fun W R z9 => ?_) ?_
  ·rw [eS (l := [(2, _), (8, undef)]) ⟨z9 2 rfl, z9 8 rfl, ⟨⟩⟩]
   exact jt (t := 103) rfl (vF h6) ⟨rfl, rfl, rfl⟩
  refine pD (fun W R z9 => ?_) ?_
  ·rw [eS (l := [(2, _), (9, undef)]) ⟨z9 2 rfl, z9 9 rfl, ⟨⟩⟩]
   exact jt (t := 103) rfl (vF h6) ⟨rfl, rfl, rfl⟩
  refine pD (fun W R z9 => ?_) ?_
  ·rw [zA 2 (z9 2 rfl)]
   exact jt (t := 103) rfl (vF h6) ⟨rfl, rfl, rfl⟩
  refine pD (fun W R z9 => ?_) ?_
  ·rw [eS (l := [(2, _), (10, undef), (11, undef)]) ⟨z9 2 rfl, z9 10 rfl, z9 11 rfl, ⟨⟩⟩]
   exact jt (t := 103) rfl (vF h6) ⟨rfl, rfl, rfl⟩
  refine pD (fun W R z9 => ?_) ?_
  ·rw [eS (l := [(2, _), (12, undef)]) ⟨z9 2 rfl, z9 12 rfl, ⟨⟩⟩]
   exact jt (t := 103) rfl (vF h6) ⟨rfl, rfl, rfl⟩
  refine pD (fun W R z9 => ?_) ?_
  ·rw [eS (l := [(2, _), (6, undef), (13, undef)]) ⟨z9 2 rfl, z9 6 rfl, z9 13 rfl, ⟨⟩⟩]
   exact jt (t := 103) rfl (vF h6) ⟨rfl, rfl, rfl⟩
  refine pD (fun W R z9 => ?_) ?_
  ·rw [eS (l := [(2, _), (14, undef)]) ⟨z9 2 rfl, z9 14 rfl, ⟨⟩⟩]
   exact jt (t := 103) rfl (vF h6) ⟨rfl, rfl, rfl⟩
  refine pD (fun W R z9 => ?_) ?_
  ·rw [zA 2 (z9 2 rfl)]
   exact jt (t := 103) rfl (vF h6) ⟨rfl, rfl, rfl⟩
  refine pD (fun W R z9 => ?_) ?_
  ·rw [eS (l := [(2, _), (16, undef)]) ⟨z9 2 rfl, z9 16 rfl, ⟨⟩⟩]
   exact jt (t := 103) rfl (vF h6) ⟨rfl, rfl, rfl⟩
  refine pD (fun W R z9 => ?_) ?_
  ·rw [eS (l := [(2, _), (17, undef)]) ⟨z9 2 rfl, z9 17 rfl, ⟨⟩⟩]
   exact jt (t := 103) rfl (vF h6) ⟨rfl, rfl, rfl⟩
  refine pD (fun W R z9 => ?_) ?_
  ·rw [eS (l := [(2, _), (18, undef)]) ⟨z9 2 rfl, z9 18 rfl, ⟨⟩⟩]
   exact jt (t := 103) rfl (vF h6) ⟨rfl, rfl, rfl⟩
  refine pD (fun W R z9 => ?_) ?_
  ·rw [zA 2 (z9 2 rfl)]
   exact jt (t := 103) rfl (vF h6) ⟨rfl, rfl, rfl⟩
  refine pD (fun W R z9 => ?_) ?_
  ·rw [eS (l := [(2, _), (20, undef)]) ⟨z9 2 rfl, z9 20 rfl, ⟨⟩⟩]
   exact jt (t := 103) rfl (vF h6) ⟨rfl, rfl, rfl⟩
  refine pD (fun W R z9 => ?_) ?_
  ·rw [eS (l := [(2, _), (21, undef)]) ⟨z9 2 rfl, z9 21 rfl, ⟨⟩⟩]
   exact jt (t := 103) rfl (vF h6) ⟨rfl, rfl, rfl⟩
  refine pD (fun W R z9 => ?_) ?_
  ·rw [eS (l := [(2, _), (22, undef)]) ⟨z9 2 rfl, z9 22 rfl, ⟨⟩⟩]
   exact jt (t := 103) rfl (vF h6) ⟨rfl, rfl, rfl⟩
  refine pD (fun W R z9 => ?_) ?_
  ·rw [zA 2 (z9 2 rfl)]
   exact jt (t := 103) rfl (vF h6) ⟨rfl, rfl, rfl⟩
  refine pD (fun W R z9 => ?_) ?_
  ·rw [eS (l := [(2, _), (23, undef), (24, undef)]) ⟨z9 2 rfl, z9 23 rfl, z9 24 rfl, ⟨⟩⟩]
   exact jt (t := 103) rfl (vF h6) ⟨rfl, rfl, rfl⟩
  refine pD (fun W R z9 => ?_) ?_
  ·rw [eS (l := [(2, _), (25, undef)]) ⟨z9 2 rfl, z9 25 rfl, ⟨⟩⟩]
   exact jt (t := 103) rfl (vF h6) ⟨rfl, rfl, rfl⟩
  refine pD (fun W R z9 => ?_) ?_
  ·rw [eS (l := [(2, _), (19, undef), (26, undef)]) ⟨z9 2 rfl, z9 19 rfl, z9 26 rfl, ⟨⟩⟩]
   exact jt (t := 103) rfl (vF h6) ⟨rfl, rfl, rfl⟩
  refine pD (fun W R z9 => ?_) ?_
  ·rw [eS (l := [(2, _), (27, undef)]) ⟨z9 2 rfl, z9 27 rfl, ⟨⟩⟩]
   exact jt (t := 103) rfl (vF h6) ⟨rfl, rfl, rfl⟩
  exact stepsP.nil
 intro W hphi
 rw [eS (l := [(2, _), (15, undef), (28, undef)]) ⟨(hphi 2 (by decide)), (hphi 15 (by decide)), (hphi 28 (by decide)), ⟨⟩⟩]
 show XL _ _ _ _ _ _ _ (pathH 96 121 xb arv rkv tv sv ar rk t s :: L)
 refine qq (t := 103) rfl (vF h6) (cX (qP (.bool (false)) (vF h6) rfl (qh (.bool (false)) rfl (qb (jW rfl (qc (qa (qd (.bool (decide ((t.getD p 0 : Int) = s.getD q 0))) rfl (qd (.bool (decide ((t.getD p 0 : Int) = s.getD q 0))) rfl ?_)))))))))
 by_cases h14 : (t.getD p 0 : Int) = s.getD q 0
 ·have hsm : t.getD p 0 = s.getD q 0 := h14
  refine qs (t := 134) rfl (vT h14) (ql (ptr xb 0) rfl (qs (t := 134) rfl (vT h14) (qL rfl (qs (t := 134) rfl (vT h14) (qn (2) jr rfl sizeOf115 (by decide) rfl rfl (qs (t := 134) rfl (vT h14) (qj isAgg115 rfl (pathH.rd [] rfl rfl) (qs (t := 134) rfl (vT h14) (ql (ptr xb 0) rfl (qs (t := 134) rfl (vT h14) (ql (v1) rfl (qs (t := 134) rfl (vT h14) (ql (v2) rfl (qs (t := 134) rfl (vT h14) (XOp.callM (args := [.agg #[], ptr xb 0, v1, v2]) (fun _ _ => by kernel_rfl) rfl rfl (jD [] (pathArgs_step ih (p := p) (q := q) har hrk ht hs hot hos hrb hf1 hf2 (hp := (by first | assumption | rfl | omega | simp)) (hq := (by first | assumption | rfl | omega | simp)) (hn := (by first | assumption | rfl | omega | simp)) (hxe := (by first | assumption | rfl | omega | simp)) (hye := (by first | assumption | rfl | omega | simp)) (hhd := (by first | assumption | rfl | omega | simp)))) ?_)))))))))))))))
  rintro _ F9 _ le9 ⟨rfl, rfl⟩
  show XL _ _ _ _ _ _ _ (pathH 96 121 xb arv rkv tv sv ar rk t s :: L)
  refine cX (qT (.bool (lexB ar rk (partsL ar (sub ar t p)) (partsL ar (sub ar s q)))) (vT h14) rfl (qh (.bool (lexB ar rk (partsL ar (sub ar t p)) (partsL ar (sub ar s q)))) rfl (qb ?_)))
  refine jG (t := lexB ar rk (partsL ar (sub ar t p)) (partsL ar (sub ar s q))) rfl (fun h15 => ?_) (fun h15 => ?_)
  ·have hlx := h15
   refine qc (qa (qh (.int .i8 (3)) rfl (qb (qw (qF (qo (qu (L' := pathH 96 121 xb arv rkv tv sv ar rk t s :: L) [.int .i8 (3)] (.int .i8 (3)) (.tmp rfl .nil) rfl (qi (qi (qi (qi (qi le1 leG1) le4) le7) leG3) le9) rF (sC sR) ?_)))))))
   exact ⟨⟨_, rfl, ⟨by omega, by omega⟩, fun _ => fnd_lex hup (by rw [hu0, hv0]; exact hsm) hlx (fun i hi => by rw [parts_subN hS hq] at hi; rw [part_at hS hq hi]; exact hal i (by omega)), fun _ => by omega⟩, rfl⟩
  have hlx := h15
  refine qA (qc (qa (qh (.int .i8 (0)) rfl (qb (qw (qu (L' := pathH 96 121 xb arv rkv tv sv ar rk t s :: L) [.int .i8 (0)] (.int .i8 (0)) (.tmp rfl .nil) rfl (qi (qi (qi (qi (qi le1 leG1) le4) le7) leG3) le9) rF (sC sR) ?_))))))
  exact ⟨⟨_, rfl, ⟨by omega, by omega⟩, fun hc => absurd hc (by omega), fun hc => absurd hc (by first | exact hu9 | exact hv9 | exact fnd_part (j := j) (by rw [parts_subN hS hq]; omega) (by rw [part_at hS hq (by omega)]; exact fun hc2 => by rw [lpB_iff.2 hc2] at hl9; cases hl9) | exact fnd_no hnh (by rw [hu0, hv0]; exact fun hc => by have := hc.1; have := hc.2; omega) (by rw [hu0, hv0]; exact fun hc => by first | exact hsm hc.1 | (have := hc.2; rw [hlx] at this; cases this)))⟩, rfl⟩
 have hsm : ¬ t.getD p 0 = s.getD q 0 := h14
 refine qq (t := 134) rfl (vF h14) (qq (t := 134) rfl (vF h14) (qq (t := 134) rfl (vF h14) (qq (t := 134) rfl (vF h14) (qq (t := 134) rfl (vF h14) (qq (t := 134) rfl (vF h14) (qq (t := 134) rfl (vF h14) (qq (t := 134) rfl (vF h14) (cX (qP (.bool (false)) (vF h14) rfl (qh (.bool (false)) rfl ?_))))))))))
 refine qb (jW rfl (qA (qc (qa (qh (.int .i8 (0)) rfl (qb (qw (qu (L' := pathH 96 121 xb arv rkv tv sv ar rk t s :: L) [.int .i8 (0)] (.int .i8 (0)) (.tmp rfl .nil) rfl (qi (qi (qi (qi le1 leG1) le4) le7) leG3) rF (sC sR) ?_))))))))
 exact ⟨⟨_, rfl, ⟨by omega, by omega⟩, fun hc => absurd hc (by omega), fun hc => absurd hc (by first | exact hu9 | exact hv9 | exact fnd_part (j := j) (by rw [parts_subN hS hq]; omega) (by rw [part_at hS hq (by omega)]; exact fun hc2 => by rw [lpB_iff.2 hc2] at hl9; cases hl9) | exact fnd_no hnh (by rw [hu0, hv0]; exact fun hc => by have := hc.1; have := hc.2; omega) (by rw [hu0, hv0]; exact fun hc => by first | exact hsm hc.1 | (have := hc.2; rw [hlx] at this; cases this)))⟩, rfl⟩

/- (*impl.paths).reason -/
set_option maxHeartbeats 1000000 in
set_option maxRecDepth 20000 in
theorem pathReason_step {n : Nat} (ih : ∀ m : Nat, m < n → ∀ {F : FH} {L : List HP} {xb : Nat} {arv rkv tv sv : Value} {ar rk t s : List Int} (har : IntsF F arv ar) (hrk : IntsF F rkv rk) (ht : IntsF F tv t) (hs : IntsF F sv s) (hot : termOk ar t = true) (hos : termOk ar s = true) (hrb : rankB ar rk = true) {p : Nat} {q : Nat} (hp : p < t.length) (hq : q < s.length) (hn : (sub ar t p).length + (sub ar s q).length ≤ m), Does prog 92 [ptr xb 0, ii ((p : Int)), ii ((q : Int))] F (pathH 96 121 xb arv rkv tv sv ar rk t s :: L) (fun v F' L' => ((.bool (lpB ar rk (sub ar t p) (sub ar s q)) : Value) = v) ∧ pathH 96 121 xb arv rkv tv sv ar rk t s :: L = L')) {F : FH} {L : List HP} {xb : Nat} {arv rkv tv sv : Value} {ar rk t s : List Int} (har : IntsF F arv ar) (hrk : IntsF F rkv rk) (ht : IntsF F tv t) (hs : IntsF F sv s) (hot : termOk ar t = true) (hos : termOk ar s = true) (hrb : rankB ar rk = true) {p : Nat} {q : Nat} (hp : p < t.length) (hq : q < s.length) (hn : (sub ar t p).length + (sub ar s q).length ≤ n) :
    Does prog 65 [ptr xb 0, ii ((p : Int)), ii ((q : Int))] F (pathH 96 121 xb arv rkv tv sv ar rk t s :: L) (fun v F' L' => (∃ (x : Int), (.int .i8 (x) : Value) = v ∧ ((0 ≤ x ∧ x ≤ 3) ∧ (0 < x ↔ Lp ar rk (sub ar t p) (sub ar s q)))) ∧ pathH 96 121 xb arv rkv tv sv ar rk t s :: L = L') := by
 refine qH func65 rfl rfl rfl ?_
 have hT := termW_of hot
 have hS := termW_of hos
 have htl := termOk_len hot
 have hsl := termOk_len hos
 refine qc (qa (qh (.int .i8 (0)) rfl (qb (qc (qc (qa (XL.openP [] rfl (fun zs1 hI1 => ?_))))))))
 show XL _ _ _ _ _ _ _ (cellsH xb (arv :: rkv :: .iface 96 (.agg #[]) :: tv :: sv :: i8s zs1) 121 :: L)
 skip
 refine qd (ptr xb 0) rfl (qd (ii ((p : Int))) rfl (qd (ii ((q : Int))) rfl (cX (qL rfl (cX (qn (5) jr rfl sizeOf119 (by decide) rfl rfl (cX (jN (i := (p : Int)) p (5 + p * 60) runUnderlying119 sizeOf118 rfl rfl rfl (by omega) (by omega) (cX (jN (i := (q : Int)) q (5 + (p * 60 + q)) runUnderlying118 sizeOf117 rfl rfl rfl (by omega) (by omega) (cX (qj isAgg117 rfl (Rd.own [] rfl (pathW (by have := hI1.1; omega))) (cX (jo rfl rfl (qb ?_)))))))))))))))
 refine qE (p := (zs1.getD (p * 60 + q) 0 : Int) = 0) rfl (fun h1 => ?_) (fun h1 => ?_)
 ·refine X.weaken (Sub.mid9 (A := []) (pathH.of hI1)) ?_
  show X _ _ _ _ _ _ (pathH 96 121 xb arv rkv tv sv ar rk t s :: L)
  refine yc [pathH 96 121 xb arv rkv tv sv ar rk t s] L 11 [[], [], [], [], [], [], [], [6]] [[], [], [], [], [], [], [3, 4, 5], [6], [0], [8], [1, 9]] [] (phiG [pe (ptr xb 0), pe (ii ((p : Int)) : Value), pe (ii ((q : Int)) : Value), pe (ptr xb 0), pe (ii ((p : Int)) : Value), pe (ii ((q : Int)) : Value), fun FF us v => (.int .i8 (((intAt v))) : Value) = v ∧ ((0 ≤ ((intAt v)) ∧ ((intAt v)) ≤ 3) ∧ (0 < ((intAt v)) ↔ Lp ar rk (sub ar t p) (sub ar s q))), fun FF us v => v = (.int .i8 (1 + (((intAt (us.getD 0 undef))))) : Value), pe (ptr xb 0), pe (ptr xb 5), pe (ptr xb (5 + p * 60))]) (ownL []) mixed rfl rfl (by kernel_rfl) (by kernel_rfl) (MonoG.get (m1 (m1 (m1 (m1 (m1 (m1 (mC (fun le h => ⟨h.1, h.2⟩) (mC (fun le h => h) (m1 (m1 (m1 MonoG.nil)))))))))))) ?_ ?_
  ·refine gD (fun W Fs R lF z9 => ?_) ?_
   ·refine qg (ql (ptr xb 0) rfl ?_)
    exact ⟨rfl, rfl⟩
   refine gD (fun W Fs R lF z9 => ?_) ?_
   ·refine qg (ql (ii ((p : Int))) rfl ?_)
    exact ⟨rfl, rfl⟩
   refine gD (fun W Fs R lF z9 => ?_) ?_
   ·refine qg (ql (ii ((q : Int))) rfl ?_)
    exact ⟨rfl, rfl⟩
   refine gD (fun W Fs R lF z9 => ?_) ?_
   ·refine qg (ql (ptr xb 0) rfl ?_)
    exact ⟨rfl, rfl⟩
   refine gD (fun W Fs R lF z9 => ?_) ?_
   ·refine qg (ql (ii ((p : Int))) rfl ?_)
    exact ⟨rfl, rfl⟩
   refine gD (fun W Fs R lF z9 => ?_) ?_
   ·refine qg (ql (ii ((q : Int))) rfl ?_)
    exact ⟨rfl, rfl⟩
   refine gD (fun W Fs R lF z9 => ?_) ?_
   ·replace har := har.mono lF
    replace hrk := hrk.mono lF
    replace ht := ht.mono lF
    replace hs := hs.mono lF
    rw [eS (l := [(3, _), (4, _), (5, _)]) ⟨z9 3 rfl, z9 4 rfl, z9 5 rfl, ⟨⟩⟩]
    refine qg (qt (args := [ptr xb 0, ii (p : Int), ii (q : Int)]) call75 rfl (jD [] (pathFind_step ih (p := p) (q := q) har hrk ht hs hot hos hrb (hp := (by first | assumption | rfl | omega | simp)) (hq := (by first | assumption | rfl | omega | simp)) (hn := (by first | assumption | rfl | omega | simp)))) ?_)
    rintro _ F2 _ le2 ⟨⟨x2, rfl, hr2⟩, rfl⟩
    replace har := har.mono le2
    exact ⟨⟨rfl, hr2⟩, rfl⟩
   refine gD (fun W Fs R lF z9 => ?_) ?_
   ·obtain ⟨e6, f6_1hx⟩ := z9 6 rfl
    rw [eS (l := [(6, (.int .i8 (((intAt (W 6))))))]) ⟨(e6).symm, ⟨⟩⟩]
    refine qg (XOp.add8 (a := 1) (b := ((intAt (W 6)))) rfl rfl (by omega) ?_)
    exact ⟨rfl, rfl⟩
   refine gD (fun W Fs R lF z9 => ?_) ?_
   ·replace har := har.mono lF
    rw [zA 0 (z9 0 rfl)]
    refine qg (qL rfl ?_)
    exact ⟨rfl, rfl⟩
   refine gD (fun W Fs R lF z9 => ?_) ?_
   ·rw [zA 8 (z9 8 rfl)]
    refine qg (qn (5) jr rfl sizeOf119 (by decide) rfl rfl ?_)
    exact ⟨rfl, rfl⟩
   refine gD (fun W Fs R lF z9 => ?_) ?_
   ·replace har := har.mono lF
    rw [zB 1 9 (z9 1 rfl) (z9 9 rfl)]
    refine qg (jN (i := (p : Int)) p (5 + p * 60) runUnderlying119 sizeOf118 rfl rfl rfl (by omega) (by omega) ?_)
    exact ⟨rfl, rfl⟩
   exact stepsG.nil
  intro W F3 le3 hphi
  obtain ⟨e6, f6_1hx⟩ := hphi 6 (by decide)
  have e7 : W 7 = (.int .i8 (1 + (((intAt (W 6))))) : Value) := hphi 7 (by decide)
  generalize hu1 : (intAt (W 6)) = u1 at e6 f6_1hx e7
  rw [eS (l := [(2, _), (6, (.int .i8 ((u1)))), (7, (.int .i8 (1 + ((u1))))), (10, _)]) ⟨(hphi 2 (by decide)), (e6).symm, e7, (hphi 10 (by decide)), ⟨⟩⟩]
  show XL _ _ _ _ _ _ _ (pathH 96 121 xb arv rkv tv sv ar rk t s :: L)
  refine XL.openP [] rfl (fun zs2 hI2 => ?_)
  show XL _ _ _ _ _ _ _ (cellsH xb (arv :: rkv :: .iface 96 (.agg #[]) :: tv :: sv :: i8s zs2) 121 :: L)
  skip
  refine cX (jN (i := (q : Int)) q (5 + (p * 60 + q)) runUnderlying118 sizeOf117 rfl rfl rfl (by omega) (by omega) (cX (jz [] _ (arv :: rkv :: .iface 96 (.agg #[]) :: tv :: sv :: i8s ((zs2.set (p * 60 + q) (1 + ((u1)))))) sizeOf117 rfl rfl rfl rfl (pathL hI2.1 (by omega)) pathS ?_)))
  have hI3 : PathI ar rk t s (zs2.set (p * 60 + q) (1 + ((u1)))) := PathI.set hI2 htl.2 hsl.2 hp hq f6_1hx.1 f6_1hx.2
  have hne := PathI.set_ne (zs := zs2) (i := p * 60 + q) (by have := hI2.1; omega) f6_1hx.1
  skip
  refine qb (qc (qa ?_))
  have hkn := PathI.known hI3 hp hq hne
  refine qd (ptr xb 0) rfl (qd (ii ((p : Int))) rfl (qd (ii ((q : Int))) rfl (cX (qL rfl (cX (qn (5) jr rfl sizeOf119 (by decide) rfl rfl (cX (jN (i := (p : Int)) p (5 + p * 60) runUnderlying119 sizeOf118 rfl rfl rfl (by omega) (by omega) (cX (jN (i := (q : Int)) q (5 + (p * 60 + q)) runUnderlying118 sizeOf117 rfl rfl rfl (by omega) (by omega) (cX (qj isAgg117 rfl (Rd.own [] rfl (pathW (by have := hI3.1; omega))) (cX (XOp.sub8 (a := ((zs2.set (p * 60 + q) (1 + ((u1))))).getD (p * 60 + q) 0) (b := 1) rfl rfl (by omega) (jK (Sub.mid9 (A := []) (pathH.of hI3)) ?_)))))))))))))))
  show XL _ _ _ _ _ _ _ (pathH 96 121 xb arv rkv tv sv ar rk t s :: L)
  skip
  refine qh (.int .i8 ((((zs2.set (p * 60 + q) (1 + ((u1))))).getD (p * 60 + q) 0) - 1)) rfl (qb (qw (qu (L' := pathH 96 121 xb arv rkv tv sv ar rk t s :: L) [.int .i8 ((((zs2.set (p * 60 + q) (1 + ((u1))))).getD (p * 60 + q) 0) - 1)] (.int .i8 ((((zs2.set (p * 60 + q) (1 + ((u1))))).getD (p * 60 + q) 0) - 1)) (.tmp rfl .nil) rfl le3 rF (sC sR) ?_)))
  exact ⟨⟨_, rfl, hkn.1, hkn.2⟩, rfl⟩
 have hne := h1
 refine qA (qc (qa ?_))
 have hkn := PathI.known hI1 hp hq hne
 refine qd (ptr xb 0) rfl (qd (ii ((p : Int))) rfl (qd (ii ((q : Int))) rfl (cX (qL rfl (cX (qn (5) jr rfl sizeOf119 (by decide) rfl rfl (cX (jN (i := (p : Int)) p (5 + p * 60) runUnderlying119 sizeOf118 rfl rfl rfl (by omega) (by omega) (cX (jN (i := (q : Int)) q (5 + (p * 60 + q)) runUnderlying118 sizeOf117 rfl rfl rfl (by omega) (by omega) (cX (qj isAgg117 rfl (Rd.own [] rfl (pathW (by have := hI1.1; omega))) (cX (XOp.sub8 (a := zs1.getD (p * 60 + q) 0) (b := 1) rfl rfl (by omega) (jK (Sub.mid9 (A := []) (pathH.of hI1)) ?_)))))))))))))))
 show XL _ _ _ _ _ _ _ (pathH 96 121 xb arv rkv tv sv ar rk t s :: L)
 skip
 refine qh (.int .i8 ((zs1.getD (p * 60 + q) 0) - 1)) rfl (qb (qw (qu (L' := pathH 96 121 xb arv rkv tv sv ar rk t s :: L) [.int .i8 ((zs1.getD (p * 60 + q) 0) - 1)] (.int .i8 ((zs1.getD (p * 60 + q) 0) - 1)) (.tmp rfl .nil) rfl rF rF (sC sR) ?_)))
 exact ⟨⟨_, rfl, hkn.1, hkn.2⟩, rfl⟩

/- (*impl.paths).isGreater -/
theorem pathGreater_step {n : Nat} (ih : ∀ m : Nat, m < n → ∀ {F : FH} {L : List HP} {xb : Nat} {arv rkv tv sv : Value} {ar rk t s : List Int} (har : IntsF F arv ar) (hrk : IntsF F rkv rk) (ht : IntsF F tv t) (hs : IntsF F sv s) (hot : termOk ar t = true) (hos : termOk ar s = true) (hrb : rankB ar rk = true) {p : Nat} {q : Nat} (hp : p < t.length) (hq : q < s.length) (hn : (sub ar t p).length + (sub ar s q).length ≤ m), Does prog 92 [ptr xb 0, ii ((p : Int)), ii ((q : Int))] F (pathH 96 121 xb arv rkv tv sv ar rk t s :: L) (fun v F' L' => ((.bool (lpB ar rk (sub ar t p) (sub ar s q)) : Value) = v) ∧ pathH 96 121 xb arv rkv tv sv ar rk t s :: L = L')) {F : FH} {L : List HP} {xb : Nat} {arv rkv tv sv : Value} {ar rk t s : List Int} (har : IntsF F arv ar) (hrk : IntsF F rkv rk) (ht : IntsF F tv t) (hs : IntsF F sv s) (hot : termOk ar t = true) (hos : termOk ar s = true) (hrb : rankB ar rk = true) {p : Nat} {q : Nat} (hp : p < t.length) (hq : q < s.length) (hn : (sub ar t p).length + (sub ar s q).length ≤ n) :
    Does prog 92 [ptr xb 0, ii ((p : Int)), ii ((q : Int))] F (pathH 96 121 xb arv rkv tv sv ar rk t s :: L) (fun v F' L' => ((.bool (lpB ar rk (sub ar t p) (sub ar s q)) : Value) = v) ∧ pathH 96 121 xb arv rkv tv sv ar rk t s :: L = L') := by
 refine qH func92 rfl rfl rfl ?_
 have hT := termW_of hot
 have hS := termW_of hos
 have htl := termOk_len hot
 have hsl := termOk_len hos
 refine qc (qa (qh (.bool (false)) rfl (qb (qc (qa (qd (ptr xb 0) rfl (qd (ii ((p : Int))) rfl (qd (ii ((q : Int))) rfl (cX (qt (args := [ptr xb 0, ii (p : Int), ii (q : Int)]) call65 rfl (jD [] (pathReason_step ih (p := p) (q := q) har hrk ht hs hot hos hrb (hp := (by first | assumption | rfl | omega | simp)) (hq := (by first | assumption | rfl | omega | simp)) (hn := (by first | assumption | rfl | omega | simp)))) ?_))))))))))
 rintro _ F1 _ le1 ⟨⟨x1, rfl, hr1⟩, rfl⟩
 show XL _ _ _ _ _ _ _ (pathH 96 121 xb arv rkv tv sv ar rk t s :: L)
 refine cX (jU rfl rfl (qh (.bool (decide ((x1 : Int) > 0))) rfl (qb (qw (qu (L' := pathH 96 121 xb arv rkv tv sv ar rk t s :: L) [.bool (decide ((x1 : Int) > 0))] (.bool (decide ((x1 : Int) > 0))) (.tmp rfl .nil) rfl le1 rF (sC sR) ?_)))))
 exact ⟨congrArg Value.bool (lpB_pos hr1.2).symm, rfl⟩

theorem pathGreater (n : Nat) : ∀ {F : FH} {L : List HP} {xb : Nat} {arv rkv tv sv : Value} {ar rk t s : List Int} (har : IntsF F arv ar) (hrk : IntsF F rkv rk) (ht : IntsF F tv t) (hs : IntsF F sv s) (hot : termOk ar t = true) (hos : termOk ar s = true) (hrb : rankB ar rk = true) {p : Nat} {q : Nat} (hp : p < t.length) (hq : q < s.length) (hn : (sub ar t p).length + (sub ar s q).length ≤ n), Does prog 92 [ptr xb 0, ii ((p : Int)), ii ((q : Int))] F (pathH 96 121 xb arv rkv tv sv ar rk t s :: L) (fun v F' L' => ((.bool (lpB ar rk (sub ar t p) (sub ar s q)) : Value) = v) ∧ pathH 96 121 xb arv rkv tv sv ar rk t s :: L = L') := by
  induction n using Nat.strongRecOn with
  | _ n ih =>
    intros
    exact pathGreater_step ih (by assumption) (by assumption) (by assumption) (by assumption) (by assumption) (by assumption) (by assumption) (by assumption) (by assumption) (by assumption)

/- impl.RankOk -/
theorem RankOk_spec {F : FH} {L : List HP} {arv : Value} {ar : List Int} (har : IntsF F arv ar) {rkv : Value} {rk : List Int} (hrk : IntsF F rkv rk) :
    Does prog 17 [.agg #[arv], rkv] F (L) (fun v F' L' => (.bool (rankB ar rk) : Value) = v ∧ F = F' ∧ L = L') := by
 refine qH func17 rfl rfl rfl (qc (qa (cX (qY [arv] rfl rfl ?_))))
 intro b1
 refine qh (.bool (false)) rfl (qb (qc (qc (qa (cX (qv [arv] qU qB rfl rfl (Rd.ownN [] rfl rfl) (cX (qt (args := [.agg #[arv]]) call30 rfl (SigOk_spec har) ?_))))))))
 rintro _ _ _ _ ⟨rfl, rfl, rfl⟩
 refine cX (ju rfl (qd (.bool (!(sigOk ar))) rfl ?_))
 by_cases h1 : (!(sigOk ar)) = true
 ·refine qq (t := 9) rfl (vB h1) (qq (t := 9) rfl (vB h1) (qq (t := 9) rfl (vB h1) (qq (t := 9) rfl (vB h1) (qq (t := 9) rfl (vB h1) (qq (t := 9) rfl (vB h1) (cX (qT (.bool (true)) (vB h1) rfl (qb (jO rfl (qc (qa ?_)))))))))))
  refine qh (.bool (false)) rfl (qb (qw (qo (qu (L' := L) [.bool (false)] (.bool (false)) (.tmp rfl .nil) rfl rF rF (sD sR) ?_))))
  exact ⟨(vB (rank_no0 (by first | (intro h1 h2; simp_all; done) | (intro h1 h2; omega)))), rfl, rfl⟩
 rw [Bool.not_eq_true] at h1
 have hso : sigOk ar = true := by simpa using h1
 have hsl := sigOk_spec hso
 refine qs (t := 9) rfl (vB h1) (ql (rkv) rfl (qs (t := 9) rfl (vB h1) (qG qf rfl hrk.slv (qs (t := 9) rfl (vB h1) (qn (0) jk rfl qr (by decide) rfl rfl (qs (t := 9) rfl (vB h1) (qj qN rfl (Rd.own [] rfl rfl) (qs (t := 9) rfl (vB h1) (qG qf rfl har.slv (qs (t := 9) rfl (vB h1) (XOp.neq rfl rfl (cX (qP (.bool (decide (((rk.length : Int) : Int) ≠ (ar.length : Int)))) (vB h1) rfl (qb ?_))))))))))))))
 refine qE (p := ((rk.length : Int) : Int) ≠ (ar.length : Int)) rfl (fun h2 => ?_) (fun h2 => ?_)
 ·refine qc (qa (qh (.bool (false)) rfl (qb (qw (qo (qu (L' := L) [.bool (false)] (.bool (false)) (.tmp rfl .nil) rfl rF rF (sD sR) ?_))))))
  exact ⟨(vB (rank_no0 (by first | (intro h1 h2; simp_all; done) | (intro h1 h2; omega)))), rfl, rfl⟩
 refine qA (qc (qc (qa (qd (rkv) rfl (cX (qG qf rfl hrk.slv (qd (ii (0)) rfl (qb (qJ (jv (α := Nat) (fun k => [(1, rkv), (18, ii ((rk.length : Int))), (19, ii ((k : Int)))]) (fun k => cellsH b1 [arv] 26 :: L) (fun k F' => F = F' ∧ (k ≤ rk.length) ∧ (∀ i, i < k → (i : Int) ∈ rk)) (fun k => rk.length - k) 0 ⟨rfl, rfl, rfl, ⟨⟩⟩ (sC sR) ⟨rfl, (by (try dsimp only) <;> omega), (fun i hi => absurd hi (by omega))⟩ ?_))))))))))
 rintro k rE _ _ ⟨rfl, hk, hall⟩
 show X _ _ _ _ (envs [(1, rkv), (18, ii ((rk.length : Int))), (19, ii ((k : Int)))] rE) _ (cellsH b1 [arv] 26 :: L)
 refine qc (qa (cX (qX rfl rfl (qb (qc ?_)))))
 refine qE (p := (k : Int) < (rk.length : Int)) rfl (fun h3 => ?_) (fun h3 => ?_)
 ·refine qA (qc (qJ (qc (qa (qd (ii ((k : Int))) rfl (qh (ii ((k : Int))) rfl (qb (qc (qa (qd (rkv) rfl (qd (ii ((k : Int))) rfl (cX (qt (args := [rkv, ii ((k : Int))]) call34 rfl (Contains_spec (n := (k : Int)) hrk (hbd := (by omega))) ?_)))))))))))))
  rintro _ _ _ _ ⟨rfl, rfl, rfl⟩
  refine cX (XOp.notD rfl (qb ?_))
  refine qE (p := ¬(((k : Int)) ∈ rk)) rfl (fun h4 => ?_) (fun h4 => ?_)
  ·refine qc (qa (qh (.bool (false)) rfl (qb (qw (qF (qo (qo (qF (qo (qu (L' := L) [.bool (false)] (.bool (false)) (.tmp rfl .nil) rfl rF rF (sD sR) ?_))))))))))
   exact ⟨(vB (rank_no1 (k := k) (by omega) (by simp_all))), rfl, rfl⟩
  refine qA (qa (cX (qM (((k + 1 : Nat) : Int)) rfl rfl (by omega) (by omega) (qd (ii (((k + 1 : Nat) : Int))) rfl (qb ?_)))))
  exact ⟨k + 1, _, FLe.refl _, rF, ⟨rfl, rfl, rfl, ⟨⟩⟩, (sC sR), ⟨rfl, (by (try dsimp only) <;> omega), (fun i hi => (Nat.lt_or_ge i k).elim (fun h => hall i h) (fun h => by obtain rfl : i = k := (by omega); simp_all))⟩, (by omega)⟩
 refine jn (qz (qz (qR (qc (qa (qh (.bool (true)) rfl (qb (qw (qu (L' := L) [.bool (true)] (.bool (true)) (.tmp rfl .nil) rfl rF rF (sD sR) ?_)))))))))
 exact ⟨(vB (rank_yes hso (by omega) (fun i hi => hall i (by omega)))), rfl, rfl⟩

/- spec.RankOk -/
theorem sRankOk_spec {F : FH} {L : List HP} {arv : Value} {ar : List Int} (har : IntsF F arv ar) {rkv : Value} {rk : List Int} (hrk : IntsF F rkv rk) (hla : ar.length ≤ 4000000) (hlr : rk.length ≤ 4000000) :
    Does prog 8 [.agg #[arv], rkv] F (L) (fun v F' L' => ∃ (bb : Bool), (.bool (bb) : Value) = v ∧ (bb = true → rankB ar rk = true) ∧ L = L') := by
 refine qH func8 rfl rfl rfl (qc (qa (cX (qY [arv] rfl rfl ?_))))
 intro b1
 refine qh (.bool (false)) rfl (qb (qc (qc (qa (cX (qv [arv] qU qB rfl rfl (Rd.ownN [] rfl rfl) (cX (qt (args := [.agg #[arv]]) call19 rfl (sSigOk_spec har (hla := (by first | assumption | rfl | omega | simp))) ?_))))))))
 rintro _ _ _ _ ⟨rfl, rfl, rfl⟩
 refine cX (ju rfl (qd (.bool (!(sigOk ar))) rfl ?_))
 by_cases h1 : (!(sigOk ar)) = true
 ·refine qq (t := 10) rfl (vB h1) (qq (t := 10) rfl (vB h1) (qq (t := 10) rfl (vB h1) (qq (t := 10) rfl (vB h1) (qq (t := 10) rfl (vB h1) (qq (t := 10) rfl (vB h1) (cX (qT (.bool (true)) (vB h1) rfl (qb (jO rfl (qc (qa ?_)))))))))))
  refine qh (.bool (false)) rfl (qb (qw (qo (qu (L' := L) [.bool (false)] (.bool (false)) (.tmp rfl .nil) rfl rF rF (sD sR) ?_))))
  exact ⟨_, rfl, (fun h => by cases h), rfl⟩
 rw [Bool.not_eq_true] at h1
 have hso : sigOk ar = true := by simpa using h1
 refine qs (t := 10) rfl (vB h1) (ql (rkv) rfl (qs (t := 10) rfl (vB h1) (qG qf rfl hrk.slv (qs (t := 10) rfl (vB h1) (qn (0) jk rfl qr (by decide) rfl rfl (qs (t := 10) rfl (vB h1) (qj qN rfl (Rd.own [] rfl rfl) (qs (t := 10) rfl (vB h1) (qG qf rfl har.slv (qs (t := 10) rfl (vB h1) (XOp.neq rfl rfl (cX (qP (.bool (decide (((rk.length : Int) : Int) ≠ (ar.length : Int)))) (vB h1) rfl (qb ?_))))))))))))))
 refine qE (p := ((rk.length : Int) : Int) ≠ (ar.length : Int)) rfl (fun h2 => ?_) (fun h2 => ?_)
 ·refine qc (qa (qh (.bool (false)) rfl (qb (qw (qo (qu (L' := L) [.bool (false)] (.bool (false)) (.tmp rfl .nil) rfl rF rF (sD sR) ?_))))))
  exact ⟨_, rfl, (fun h => by cases h), rfl⟩
 refine qA (qc (qc (qa (qh (ii (0)) rfl (qb (qJ (jv (α := Nat) (fun k => [(1, rkv), (5, ii ((k : Int)))]) (fun k => cellsH b1 [arv] 26 :: L) (fun k F' => F = F' ∧ (k ≤ rk.length) ∧ (∀ i, i < k → 0 ≤ rk.getD i 0 ∧ rk.getD i 0 < (rk.length : Int)) ∧ (∀ i j, i < j → j < k → rk.getD i 0 ≠ rk.getD j 0)) (fun k => rk.length - k) 0 ⟨rfl, rfl, ⟨⟩⟩ (sC sR) ⟨rfl, (by (try dsimp only) <;> omega), (fun i hi => absurd hi (by omega)), (fun i j _ hj => absurd hj (by omega))⟩ ?_)))))))
 rintro k rE _ _ ⟨rfl, hk, hin, hdi⟩
 show X _ _ _ _ (envs [(1, rkv), (5, ii ((k : Int)))] rE) _ (cellsH b1 [arv] 26 :: L)
 refine qc (qc (qa (qd (ii ((k : Int))) rfl (qd (rkv) rfl (cX (qG qf rfl hrk.slv (cX (qX rfl rfl (qb ?_)))))))))
 refine qE (p := (k : Int) < (rk.length : Int)) rfl (fun h3 => ?_) (fun h3 => ?_)
 ·refine qA (qc (qJ (qc (qc (qa (qd (rkv) rfl (qd (ii ((k : Int))) rfl (cX (qx k qf qC rfl rfl rfl hrk.slv (by omega) (Nat.mul_one _) (cX (qj jh rfl (hrk.rd (by omega)) (qd (rkv) rfl (cX (qG qf rfl hrk.slv (cX (jq (((rk.length : Int)) - 1) rfl rfl (by omega) (by omega) (cX (qt (args := [ii (rk.getD k 0), ii (0), ii (((rk.length : Int)) - 1)]) call21 rfl (l1In_spec (n := rk.getD k 0) (a := 0) (b := ((rk.length : Int)) - 1)) ?_))))))))))))))))))
  rintro _ _ _ _ ⟨rfl, rfl, rfl⟩
  refine cX (XOp.notD rfl (qb ?_))
  refine qE (p := ¬(0 ≤ (rk.getD k 0) ∧ (rk.getD k 0) ≤ (((rk.length : Int)) - 1))) rfl (fun h4 => ?_) (fun h4 => ?_)
  ·refine qc (qa (qh (.bool (false)) rfl (qb (qw (qo (qF (qo (qo (qF (qo (qu (L' := L) [.bool (false)] (.bool (false)) (.tmp rfl .nil) rfl rF rF (sD sR) ?_)))))))))))
   exact ⟨_, rfl, (fun h => by cases h), rfl⟩
  refine qA (qc (qa (qh (ii (0)) rfl (qb (qJ (jv (α := Nat) (fun j => [(1, rkv), (5, ii ((k : Int))), (6, ii ((j : Int)))]) (fun j => cellsH b1 [arv] 26 :: L) (fun j F' => F = F' ∧ (j ≤ k) ∧ (∀ i, i < j → rk.getD i 0 ≠ rk.getD k 0)) (fun j => k - j) 0 ⟨rfl, rfl, rfl, ⟨⟩⟩ (sC sR) ⟨rfl, (by (try dsimp only) <;> omega), (fun i hi => absurd hi (by omega))⟩ ?_))))))
  rintro j rE _ _ ⟨rfl, hj, hd2⟩
  show X _ _ _ _ (envs [(1, rkv), (5, ii ((k : Int))), (6, ii ((j : Int)))] rE) _ (cellsH b1 [arv] 26 :: L)
  refine qc (qc (qa (qd (ii ((j : Int))) rfl (qd (ii ((k : Int))) rfl (cX (qX rfl rfl (qb ?_)))))))
  refine qE (p := (j : Int) < (k : Int)) rfl (fun h5 => ?_) (fun h5 => ?_)
  ·refine qA (qc (qJ (qc ?_)))
   refine jL [cellsH b1 [arv] 26] L 8 [] [[], [], [0, 1], [2], [], [], [4, 5], [6]] (phiL [qe rkv, qe (ii ((j : Int)) : Value), qe (.pointer (some (elemA rkv (j)))), qe (ii (rk.getD j 0)), qe rkv, qe (ii ((k : Int)) : Value), qe (.pointer (some (elemA rkv (k)))), qe (ii (rk.getD k 0))]) (ownL []) mixed rfl rfl (by kernel_rfl) ?_ ?_
   ·refine pD (fun W R z9 => ?_) ?_
    ·refine qg (ql (rkv) rfl ?_)
     exact ⟨rfl, rfl, rfl⟩
    refine pD (fun W R z9 => ?_) ?_
    ·refine qg (ql (ii ((j : Int))) rfl ?_)
     exact ⟨rfl, rfl, rfl⟩
    refine pD (fun W R z9 => ?_) ?_
    ·rw [zB 0 1 (z9 0 rfl) (z9 1 rfl)]
     refine qg (qx j qf qC rfl rfl rfl hrk.slv (by omega) (Nat.mul_one _) ?_)
     exact ⟨rfl, rfl, rfl⟩
    refine pD (fun W R z9 => ?_) ?_
    ·rw [zA 2 (z9 2 rfl)]
     refine qg (qj jh rfl (hrk.rd (by omega)) ?_)
     exact ⟨rfl, rfl, rfl⟩
    refine pD (fun W R z9 => ?_) ?_
    ·refine qg (ql (rkv) rfl ?_)
     exact ⟨rfl, rfl, rfl⟩
    refine pD (fun W R z9 => ?_) ?_
    ·refine qg (ql (ii ((k : Int))) rfl ?_)
     exact ⟨rfl, rfl, rfl⟩
    refine pD (fun W R z9 => ?_) ?_
    ·rw [zB 4 5 (z9 4 rfl) (z9 5 rfl)]
     refine qg (qx k qf qC rfl rfl rfl hrk.slv (by omega) (Nat.mul_one _) ?_)
     exact ⟨rfl, rfl, rfl⟩
    refine pD (fun W R z9 => ?_) ?_
    ·rw [zA 6 (z9 6 rfl)]
     refine qg (qj jh rfl (hrk.rd (by omega)) ?_)
     exact ⟨rfl, rfl, rfl⟩
    exact stepsP.nil
   intro W hphi
   rw [zB 3 7 (hphi 3 (by decide)) (hphi 7 (by decide))]
   show XL _ _ _ _ _ _ _ (cellsH b1 [arv] 26 :: L)
   refine cX (jo rfl rfl (qb ?_))
   refine qE (p := (rk.getD j 0 : Int) = rk.getD k 0) rfl (fun h6 => ?_) (fun h6 => ?_)
   ·refine qc (qa (qh (.bool (false)) rfl (qb (qw (qF (qo (qo (qF (qF (qo (qo (qF (qo (qu (L' := L) [.bool (false)] (.bool (false)) (.tmp rfl .nil) rfl rF rF (sD sR) ?_))))))))))))))
    exact ⟨_, rfl, (fun h => by cases h), rfl⟩
   refine qA (qa (qd (ii ((j : Int))) rfl (cX (qM (((j + 1 : Nat) : Int)) rfl rfl (by omega) (by omega) (qh (ii (((j + 1 : Nat) : Int))) rfl (qb ?_))))))
   exact ⟨j + 1, _, FLe.refl _, rF, ⟨rfl, rfl, rfl, ⟨⟩⟩, (sC sR), ⟨rfl, (by (try dsimp only) <;> omega), (fun i hi => (Nat.lt_or_ge i j).elim (fun h => hd2 i h) (fun h => by obtain rfl : i = j := (by omega); assumption))⟩, (by omega)⟩
  refine jn (qz (qz (qR (qa (qd (ii ((k : Int))) rfl (cX (qM (((k + 1 : Nat) : Int)) rfl rfl (by omega) (by omega) (qh (ii (((k + 1 : Nat) : Int))) rfl (qb ?_)))))))))
  exact ⟨k + 1, _, FLe.refl _, rF, ⟨rfl, rfl, ⟨⟩⟩, (sC sR), ⟨rfl, (by (try dsimp only) <;> omega), (fun i hi => (Nat.lt_or_ge i k).elim (fun h => hin i h) (fun h => by obtain rfl : i = k := (by omega); omega)), (fun i j hij hj => (Nat.lt_or_ge j k).elim (fun h => hdi i j hij h) (fun h => by obtain rfl : j = k := (by omega); exact hd2 i (by omega)))⟩, (by omega)⟩
 refine jn (qz (qz (qR (qc (qa (qh (.bool (true)) rfl (qb (qw (qu (L' := L) [.bool (true)] (.bool (true)) (.tmp rfl .nil) rfl rF rF (sD sR) ?_)))))))))
 exact ⟨_, rfl, fun _ => rank_inj hso (by omega) (fun i hi => hin i (by omega)) (fun i j hij hj => hdi i j hij (by omega)), rfl⟩
theorem zeroPaths : ∀ w, (zeroValue 121).run prog w = .ok (.agg (Value.slice none 0 0 :: .slice none 0 0 :: .nilIface :: .slice none 0 0 :: .slice none 0 0 :: i8s (List.replicate 3600 0)).toArray) w := fun w => by
  rw [zeroValue121]; exact congrArg (fun z => Result.ok (Value.agg z) w) (by kernel_rfl)

/- impl.pathWhy -/
set_option maxHeartbeats 1000000 in
set_option maxRecDepth 20000 in
theorem pathWhy_spec {F : FH} {L : List HP} {arv : Value} {ar : List Int} (har : IntsF F arv ar) {rkv : Value} {rk : List Int} (hrk : IntsF F rkv rk) {sv : Value} {s : List Int} (hs : IntsF F sv s) {tv : Value} {t : List Int} (ht : IntsF F tv t)  (hrb : rankB ar rk = true) (hot : termOk ar t = true) (hos : termOk ar s = true) :
    Does prog 55 [.agg #[arv], rkv, sv, tv, (.iface 96 (.agg #[]))] F (L) (fun v F' L' => ∃ (x : Int), (ii (x) : Value) = v ∧ (0 < x ↔ Lp ar rk t s) ∧ L = L') := by
 refine qH func55 rfl rfl rfl ?_
 have htl := termOk_len hot
 have hsl := termOk_len hos
 refine qc (qa (cX (qY [arv] rfl rfl ?_)))
 intro b1
 refine qh (ii (0)) rfl (qb (qc (qa (cX (qv [arv] qU qB rfl rfl (Rd.ownN [] rfl rfl) (qd (rkv) rfl (qd ((.iface 96 (.agg #[]))) rfl (qd (tv) rfl (qd (sv) rfl (cX (qZ (arv :: rkv :: (.iface 96 (.agg #[])) :: tv :: sv :: i8s (List.replicate 3600 0)) (.slice none 0 0 :: .slice none 0 0 :: .nilIface :: .slice none 0 0 :: .slice none 0 0 :: i8s (List.replicate 3600 0)) [(0, 1), (1, 1), (2, 1), (3, 1), (4, 1), (5, 3600)] [(0, [arv]), (1, [rkv]), (2, [(.iface 96 (.agg #[]))]), (3, [tv]), (4, [sv])] jr zeroPaths rfl (.cons rfl qB (.cons rfl qr (.cons rfl sizeOf115 (.cons rfl qr (.cons rfl qr (.cons rfl sizeOf119 PlacesAre.nil)))))) rfl (.cons rfl (.cons (cells_one (qp hrk)) (.cons rfl (.cons (cells_one (qp ht)) (.cons (cells_one (qp hs)) CellsAre.nil))))) (cX (qY (arv :: rkv :: (.iface 96 (.agg #[])) :: tv :: sv :: i8s (List.replicate 3600 0)) rfl rfl ?_)))))))))))))
 intro b2
 refine jK (L' := pathH 96 121 b2 arv rkv tv sv ar rk t s :: cellsH b1 [arv] 26 :: L) (Sub.keep (pathH.of (T := 96) (E := 121) (ar := ar) (rk := rk) (t := t) (s := s) PathI.start) sR) ?_
 show XL _ _ _ _ _ _ _ (pathH 96 121 b2 arv rkv tv sv ar rk t s :: cellsH b1 [arv] 26 :: L)
 refine qh (ptr b2 0) rfl (qb (qc (qa (qd (ptr b2 0) rfl (cX (qt (args := [ptr b2 0, ii ((0 : Nat) : Int), ii ((0 : Nat) : Int)]) call65 rfl (jD [] (pathReason_step (n := (sub ar t 0).length + (sub ar s 0).length) (fun m9 _ => pathGreater m9) (p := 0) (q := 0) har hrk ht hs hot hos hrb (hp := (by first | assumption | rfl | omega | simp)) (hq := (by first | assumption | rfl | omega | simp)) (hn := (by first | assumption | rfl | omega | simp)))) ?_))))))
 rintro _ F1 _ le1 ⟨⟨x1, rfl, hr1⟩, rfl⟩
 show XL _ _ _ _ _ _ _ (pathH 96 121 b2 arv rkv tv sv ar rk t s :: cellsH b1 [arv] 26 :: L)
 refine cX (XOp.convI (k' := .i8) (a := x1) (x1) runUnderlying117 runUnderlying2 rfl (IntWalk.i64_in _ (by omega)) (qh (ii (x1)) rfl (qb (qw (qu (L' := L) [ii (x1)] (ii (x1)) (.tmp rfl .nil) rfl le1 rF (sD (sD sR)) ?_)))))
 have hx9 := hr1.2
 rw [sub_root hot, sub_root hos] at hx9
 exact ⟨_, rfl, hx9, rfl⟩

/- impl.lpoLess -/
theorem lpoLess_spec {F : FH} {L : List HP} {arv : Value} {ar : List Int} (har : IntsF F arv ar) {rkv : Value} {rk : List Int} (hrk : IntsF F rkv rk) {sv : Value} {s : List Int} (hs : IntsF F sv s) {tv : Value} {t : List Int} (ht : IntsF F tv t) (hrb : rankB ar rk = true) (hot : termOk ar t = true) (hos : termOk ar s = true) :
    Does prog 41 [.agg #[arv], rkv, sv, tv] F (L) (fun v F' L' => (.bool (lpB ar rk t s) : Value) = v ∧ L = L') := by
 refine qH func41 rfl rfl rfl (qc (qa (cX (qY [arv] rfl rfl ?_))))
 intro b1
 refine qh (.bool (false)) rfl (qb (qc (qa (cX (qv [arv] qU qB rfl rfl (Rd.ownN [] rfl rfl) (qd (rkv) rfl (qd (sv) rfl (qd (tv) rfl (cX (qZ [] [] [] [] runUnderlying96 zeroValue96 rfl PlacesAre.nil rfl CellsAre.nil (cX (XOp.iface runUnderlying96 rfl (cX (qt (args := [.agg #[arv], rkv, sv, tv, (.iface 96 (.agg #[]))]) call55 rfl (pathWhy_spec har hrk hs ht (hrb := (by first | assumption | rfl | omega | simp)) (hot := (by first | assumption | rfl | omega | simp)) (hos := (by first | assumption | rfl | omega | simp))) ?_))))))))))))))
 rintro _ F1 _ le1 ⟨x1, rfl, hr1, rfl⟩
 refine cX (jU rfl rfl (qh (.bool (decide ((x1 : Int) > 0))) rfl (qb (qw (qu (L' := L) [.bool (decide ((x1 : Int) > 0))] (.bool (decide ((x1 : Int) > 0))) (.tmp rfl .nil) rfl le1 rF (sD sR) ?_)))))
 exact ⟨congrArg Value.bool (lpB_pos hr1).symm, rfl⟩
end Go.Proofs.YthkebalahfalhaaGreat
