/-
  Walks, one after the other (part 2).
-/
import Derived.Test.YtcdjpapjjoldeaaGreatQXL1
import Derived.Test.YtcdjpapjjoldeaaGreatQXB0
import Derived.Recover
import Derived.Tactics
import Derived.Tactics2
set_option linter.unusedSimpArgs false
set_option linter.unusedVariables false
namespace Go.Proofs.YtcdjpapjjoldeaaGreat
open Go X M Tryz

/- laws.markInt64S -/
theorem markInt64S_spec {F : FH} {L : List HP} {xv : Value} {x : List Int} {z : Int} (hz : 0 ≤ z ∧ z + (((x)).length : Int) ≤ 9000000000) :
    Does prog 15 [xv, ii (z)] F (intsH 2 xv x :: L) (fun v F' L' => ∃ x' : List Int, ((x')) = iota z ((x)).length ∧ (ii (z + (((x)).length : Int)) : Value) = v ∧ F = F' ∧ intsH 2 xv x' :: L = L') := by
 refine qB func15 rfl rfl rfl (qc (qa (qg (ii (0)) rfl (qb (qc (qc (qa (qg (ii (0)) rfl (qb (qF (ja (α := Nat × List Int) (fun xQ => [(0, xv), (1, ii (z + ((xQ.1 : Nat) : Int))), (5, ii (((xQ.1 : Nat) : Int)))]) (fun xQ => intsH 2 xv xQ.2 :: L) (fun xQ F' => F = F' ∧ (xQ.1 ≤ x.length) ∧ (xQ.2 = iota z xQ.1 ++ x.drop xQ.1) ∧ (xQ.2.length = x.length)) (fun xQ => x.length - xQ.1) (0, x) ⟨rfl, (show Value.int .i64 z = ii (z + ((0 : Nat) : Int)) from congrArg (Value.int .i64) (by omega)), rfl, ⟨⟩⟩ (sC sR) ⟨rfl, (by (try dsimp only) <;> omega), (by rw [iota_zero]; rfl), (rfl)⟩ ?_)))))))))))
 rintro ⟨k, os⟩ rE _ _ ⟨rfl, hk, hos, hol⟩
 show X _ _ _ _ (envs [(0, xv), (1, ii (z + (k : Int))), (5, ii ((k : Int)))] rE) _ (intsH 2 xv os :: L)
 dsimp only at hk hos hol
 refine qc (qc (qa (qd (ii ((k : Int))) rfl (qd (xv) rfl (cX (qy qf rfl (intsH.slv [] rfl) (cX (qI rfl rfl (qb ?_)))))))))
 refine qv (p := (k : Int) < (os.length : Int)) rfl (fun h1 => ?_) (fun h1 => ?_)
 ·refine qw (qc (qF (qc (qa (qd (xv) rfl (qd (ii ((k : Int))) rfl (qd (ii (z + (k : Int))) rfl (cX (qx k qf qE rfl rfl rfl (intsH.slv [] rfl) (by omega) (Nat.mul_one _) (cX (intsH.storeX (i := k) (v := xv) [] _ (os.set k (z + (k : Int))) qE rfl rfl rfl (by omega) rfl (qb (qa (qd (ii (z + (k : Int))) rfl (cX (qG ((z + (k : Int)) + 1) rfl rfl (by omega) (by omega) (qg (ii ((z + (k : Int)) + 1)) rfl ?_)))))))))))))))))
  refine qb (qa (qd (ii ((k : Int))) rfl (cX (qG (((k + 1 : Nat) : Int)) rfl rfl (by omega) (by omega) (qg (ii (((k + 1 : Nat) : Int))) rfl (qb ?_))))))
  exact ⟨(k + 1, (os.set k (z + (k : Int)))), _, FLe.refl _, rF, ⟨rfl, (vI (by omega)), rfl, ⟨⟩⟩, (sC sR), ⟨rfl, (by (try dsimp only) <;> omega), (by dsimp only; rw [hos]; exact iota_set (by omega)), (by dsimp only; rw [List.length_set]; exact hol)⟩, (by omega)⟩
 refine qX (qr (qr (qJ (qc (qa (qd (ii (z + (k : Int))) rfl (qg (ii (z + (k : Int))) rfl (qb (qq (qn (L' := intsH 2 xv os :: L) [ii (z + (k : Int))] (ii (z + (k : Int))) (.tmp rfl .nil) rfl rF rF (sC sR) ?_))))))))))
 have hkl : k = x.length := by omega
 subst hkl
 exact ⟨os, by rw [hos, List.drop_eq_nil_of_le (Nat.le_refl _), List.append_nil], rfl, rfl, rfl⟩

/- laws.heldInt64S -/
theorem heldInt64S_spec {F : FH} {L : List HP} {xv : Value} {x : List Int} (hx : IntsF F xv x) {z : Int} (hzb : 0 ≤ z ∧ z + (x.length : Int) ≤ 9000000000) :
    Does prog 16 [xv, ii (z)] F (L) (fun v F' L' => (ii (heldF x z) : Value) = v ∧ F = F' ∧ L = L') := by
 refine qB func16 rfl rfl rfl (qc (qa (qg (ii (0)) rfl (qb (qc (qc (qa (qg (ii (0)) rfl (qb (qF (ja (α := Nat) (fun k => [(0, xv), (1, ii (z + (k : Int))), (5, ii ((k : Int)))]) (fun k => L) (fun k F' => F = F' ∧ (k ≤ x.length) ∧ (x.take k = iota z k)) (fun k => x.length - k) 0 ⟨rfl, (show Value.int .i64 z = ii (z + ((0 : Nat) : Int)) from congrArg (Value.int .i64) (by omega)), rfl, ⟨⟩⟩ sR ⟨rfl, (by (try dsimp only) <;> omega), (rfl)⟩ ?_)))))))))))
 rintro k rE _ _ ⟨rfl, hk, hos⟩
 show X _ _ _ _ (envs [(0, xv), (1, ii (z + (k : Int))), (5, ii ((k : Int)))] rE) _ (L)
 refine qc (qc (qa (qd (ii ((k : Int))) rfl (qd (xv) rfl (cX (qy qf rfl hx.slv (cX (qI rfl rfl (qb ?_)))))))))
 refine qv (p := (k : Int) < (x.length : Int)) rfl (fun h1 => ?_) (fun h1 => ?_)
 ·refine qw (qc (qF (qc (qc (qa (qd (xv) rfl (qd (ii ((k : Int))) rfl (cX (qx k qf qE rfl rfl rfl hx.slv (by omega) (Nat.mul_one _) (cX (qi qS rfl (hx.rd (by omega)) (qd (ii (z + (k : Int))) rfl (cX (XOp.neq rfl rfl (qb ?_)))))))))))))))
  refine qv (p := (x.getD k 0 : Int) ≠ z + (k : Int)) rfl (fun h2 => ?_) (fun h2 => ?_)
  ·refine qc (qa (qg (ii (-1)) rfl (qb (qq (qh (qu (qh (qh (qu (qh (qn (L' := L) [ii (-1)] (ii (-1)) (.tmp rfl .nil) rfl rF rF sR ?_)))))))))))
   exact ⟨(vI (heldF_snoc_no (i := k) (by omega) (by assumption))), rfl, rfl⟩
  refine qw (qa (qd (ii (z + (k : Int))) rfl (cX (qG ((z + (k : Int)) + 1) rfl rfl (by omega) (by omega) (qg (ii ((z + (k : Int)) + 1)) rfl (qb (qa (qd (ii ((k : Int))) rfl (cX (qG (((k + 1 : Nat) : Int)) rfl rfl (by omega) (by omega) (qg (ii (((k + 1 : Nat) : Int))) rfl (qb ?_))))))))))))
  exact ⟨k + 1, _, FLe.refl _, rF, ⟨rfl, (vI (by omega)), rfl, ⟨⟩⟩, sR, ⟨rfl, (by (try dsimp only) <;> omega), (by (try dsimp only); rw [take_succ_getD 0 (by omega), hos, iota_succ]; congr 2; first | assumption | exact Classical.not_not.1 (by assumption) | omega)⟩, (by omega)⟩
 refine qX (qr (qr (qJ (qc (qa (qd (ii (z + (k : Int))) rfl (qg (ii (z + (k : Int))) rfl (qb (qq (qn (L' := L) [ii (z + (k : Int))] (ii (z + (k : Int))) (.tmp rfl .nil) rfl rF rF sR ?_))))))))))
 exact ⟨(vI (held_all (by omega) hos)), rfl, rfl⟩

/- laws.markSig -/
theorem markSig_spec {F : FH} {L : List HP} {xv : Value} {x : List Int} {z : Int} (hz : 0 ≤ z ∧ z + (((x)).length : Int) ≤ 9000000000) :
    Does prog 63 [.agg #[xv], ii (z)] F (intsH 2 xv x :: L) (fun v F' L' => ∃ x' : List Int, ((x')) = iota z ((x)).length ∧ (ii (z + (((x)).length : Int)) : Value) = v ∧ F = F' ∧ intsH 2 xv x' :: L = L') := by
 refine qB func63 rfl rfl rfl (qc (qa (cX (qP [xv] rfl rfl ?_))))
 intro b1
 refine qg (ii (0)) rfl (qb (qc (qa (cX (qk (0) je rfl qA (by decide) rfl rfl (cX (qi qK rfl (Rd.own [] rfl rfl) (qd (ii (z)) rfl (XL.weaken (js (A := [_])) ?_)))))))))
 show XL _ _ _ _ _ _ _ (intsH 2 xv x :: cellsH b1 [xv] 31 :: L)
 refine cX (ql (args := [xv, ii (z)]) call15 rfl (markInt64S_spec (by omega)) ?_)
 rintro _ _ _ _ ⟨m1, hm1, rfl, rfl, rfl⟩
 have hml1 := congrArg List.length hm1
 rw [iota_len] at hml1
 try simp only [List.length_append] at hml1
 refine qg (ii (z + (((x)).length : Int))) rfl (qb (qc (qa (qd (ii (z + (((x)).length : Int))) rfl (qg (ii (z + (((x)).length : Int))) rfl (qb (qq (qn (L' := intsH 2 xv m1 :: L) [ii (z + (((x)).length : Int))] (ii (z + (((x)).length : Int))) (.tmp rfl .nil) rfl rF rF (sC (sD sR)) ?_))))))))
 exact ⟨m1, hm1, congrArg (Value.int .i64) (by first | rfl | (simp only [List.length_append]; omega)), rfl, rfl⟩

/- laws.markInt64SS -/
theorem markInt64SS_spec {F : FH} {L : List HP} {xv : Value} {x : List (List Int)} {z : Int} (hz : 0 ≤ z ∧ z + (((x.flatMap flatRow)).length : Int) ≤ 9000000000) (hnx : x.length ≤ 4000000) :
    Does prog 122 [xv, ii (z)] F (rowsD 2 22 xv x :: L) (fun v F' L' => ∃ x' : List (List Int), ((x'.flatMap flatRow)) = iota z ((x.flatMap flatRow)).length ∧ x'.length = x.length ∧ (ii (z + (((x.flatMap flatRow)).length : Int)) : Value) = v ∧ F = F' ∧ rowsD 2 22 xv x' :: L = L') := by
 refine qB func122 rfl rfl rfl (X.openDeep (fun cs Ls hd => (X.weaken (js (A := [_])) ?_)))
 show X _ _ _ _ _ _ (star Ls :: slH 22 1 xv x.length cs :: L)
 refine qc (qa (qg (ii (0)) rfl (qb (qc (qc (qa (qg (ii (0)) rfl (qb (qF (ja (α := Nat × List (List Int) × List HP) (fun xQ => [(0, xv), (1, ii (z + ((((x.take xQ.1).flatMap flatRow).length : Nat) : Int))), (5, ii (((xQ.1 : Nat) : Int)))]) (fun xQ => star xQ.2.2 :: slH 22 1 xv x.length cs :: L) (fun xQ F' => F = F' ∧ (DeepL 1 (RowO 2) cs (xQ.2.1 ++ x.drop xQ.1) xQ.2.2) ∧ (xQ.1 ≤ x.length) ∧ (xQ.2.1.length = xQ.1) ∧ (xQ.2.1.flatMap flatRow = iota z ((x.take xQ.1).flatMap flatRow).length)) (fun xQ => x.length - xQ.1) (0, [], Ls) ⟨rfl, (show Value.int .i64 z = ii (z + ((((x.take 0).flatMap flatRow).length : Nat) : Int)) from congrArg (Value.int .i64) (by simp)), rfl, ⟨⟩⟩ (sC (sC sR)) ⟨rfl, (hd), (by (try dsimp only) <;> omega), (rfl), (rfl)⟩ ?_))))))))))
 rintro ⟨k, os, Ls⟩ rE _ _ ⟨rfl, hd, hk, hol, hfl⟩
 show X _ _ _ _ (envs [(0, xv), (1, ii (z + ((((x.take k).flatMap flatRow).length : Nat) : Int))), (5, ii ((k : Int)))] rE) _ (star Ls :: slH 22 1 xv x.length cs :: L)
 dsimp only at hd hk hol hfl
 have htl := fun (h : k < x.length) => flat_take_le (f := flatRow) (l := x) [] h
 have hlen : (os ++ x.drop k).length = x.length := by rw [List.length_append, List.length_drop]; omega
 refine qc (qc (qa (qd (ii ((k : Int))) rfl (qd (xv) rfl (cX (qy qz rfl (SlV.own [_] rfl) (cX (qI rfl rfl (qb ?_)))))))))
 refine qv (p := (k : Int) < (x.length : Int)) rfl (fun h1 => ?_) (fun h1 => ?_)
 ·refine qw (qc (qF (qa ?_)))
  have hkx : k < x.length := by omega
  have htl2 := htl hkx
  obtain ⟨A, K, B, es, hLs, hel, hR, hg, hput⟩ := hd.at (d := []) (k := k) (by omega)
  rw [app_getD hol] at hR
  have hself := splice_self hel hg (hd.bound (k := k) (by omega))
  obtain ⟨a, he, hK⟩ := hR
  subst he hK
  have hfp : (flatRow (x.getD k [])).length = (x.getD k []).length := rfl
  subst hLs
  refine XL.weaken (Sub.pull (A := A)) ?_
  show XL _ _ _ _ _ _ _ (intsH 2 a ((x.getD k [])) :: star (A ++ B) :: slH 22 1 xv x.length cs :: L)
  skip
  refine qd (xv) rfl (qd (ii ((k : Int))) rfl (cX (qx k qz qA rfl rfl rfl (SlV.own [_, _] rfl) (by omega) (Nat.mul_one _) (cX (qi qK rfl (Rd.sl [_, _] rfl (by simpa using hg 0 _ rfl)) (qd (ii (z + ((((x.take k).flatMap flatRow).length : Nat) : Int))) rfl (cX (ql (args := [a, ii (z + ((((x.take k).flatMap flatRow).length : Nat) : Int))]) call15 rfl (markInt64S_spec (by omega)) ?_))))))))
  rintro _ _ _ _ ⟨m1, hm1, rfl, rfl, rfl⟩
  have hml1 := congrArg List.length hm1
  rw [iota_len] at hml1
  try simp only [List.length_append] at hml1
  refine qg (ii ((z + ((((x.take k).flatMap flatRow).length : Nat) : Int)) + (((((x.getD k [])))).length : Int))) rfl (qb (qa (XL.weaken (sC (sC (sC sR))) (XL.weaken (Sub.push (A := A) (K := [intsH 2 a m1]) (B := B)) ?_))))
  show XL _ _ _ _ _ _ _ (star (A ++ ([intsH 2 a m1] ++ B)) :: slH 22 1 xv x.length cs :: L)
  have hdn := hput [a] m1 _ rfl ⟨a, rfl, rfl⟩
  rw [hself, app_set hol hkx] at hdn
  have hfx : flatRow m1 = iota (z + ((((x.take k).flatMap flatRow).length : Nat) : Int)) (flatRow (x.getD k [])).length := by rw [hfp]; exact hm1
  have hnext : (z + ((((x.take k).flatMap flatRow).length : Nat) : Int)) + ((x.getD k []).length : Int) = z + ((((x.take (k + 1)).flatMap flatRow).length : Nat) : Int) := by rw [flatMap_take_succ flatRow [] hkx, List.length_append, hfp]; omega
  skip
  refine qd (ii ((k : Int))) rfl (cX (qG (((k + 1 : Nat) : Int)) rfl rfl (by omega) (by omega) (qg (ii (((k + 1 : Nat) : Int))) rfl (qb ?_))))
  exact ⟨(k + 1, os ++ [m1], A ++ ([intsH 2 a m1] ++ B)), _, FLe.refl _, rF, ⟨rfl, (vI hnext), rfl, ⟨⟩⟩, (sC (sC sR)), ⟨rfl, (hdn), (by (try dsimp only) <;> omega), (by simp [hol]), (marked (d := []) (by omega) hfl hfx)⟩, (by omega)⟩
 refine qX (qr (qr (qJ (qc (qa (qd (ii (z + ((((x.take k).flatMap flatRow).length : Nat) : Int))) rfl (qg (ii (z + ((((x.take k).flatMap flatRow).length : Nat) : Int))) rfl (qb (qq (qn (L' := rowsD 2 22 xv os :: L) [ii (z + ((((x.take k).flatMap flatRow).length : Nat) : Int))] (ii (z + ((((x.take k).flatMap flatRow).length : Nat) : Int))) (.tmp rfl .nil) rfl rF rF (Sub.trans (js (A := [_])) (Sub.closeDeep (by rw [app_all (by omega)] at hd; exact hd) (by omega))) ?_))))))))))
 rw [app_all (by omega)] at hd
 have hkl : k = x.length := by omega
 exact ⟨os, by rw [hfl, hkl, List.take_length], by omega, by rw [hkl, List.take_length], rfl, rfl⟩

/- laws.szInt64SS -/
theorem szInt64SS_spec {F : FH} {L : List HP} {rsv : Value} {rs : List (List Int)} (hrs : RowsF F rsv rs) {z : Int} (hz : 0 ≤ z ∧ z ≤ 4000000) (hrl : rs.length ≤ 9223372036854775807) (hrb : ∀ i, i < rs.length → (rs.getD i []).length ≤ 9223372036854775807) :
    Does prog 173 [rsv, ii (z)] F (L) (fun v F' L' => (ii (dec z (szG lenR rs)) : Value) = v ∧ F = F' ∧ L = L') := by
 refine qB func173 rfl rfl rfl (qc (qa (qg (ii (0)) rfl (qb (qc (qa (qd (ii (z)) rfl (qd (rsv) rfl (cX (qy qz rfl hrs.slv (cX (jg (z - ((rs.length : Int))) rfl rfl (by omega) (by omega) (qg (ii (z - ((rs.length : Int)))) rfl (qb (qc (qc (qa ?_)))))))))))))))))
 refine qd (ii (z - ((rs.length : Int)))) rfl (cX (qI rfl rfl (qb ?_)))
 refine qv (p := (z - ((rs.length : Int)) : Int) < 0) rfl (fun h1 => ?_) (fun h1 => ?_)
 ·refine qc (qa (qg (ii (-1)) rfl (qb (qq (qh (qn (L' := L) [ii (-1)] (ii (-1)) (.tmp rfl .nil) rfl rF rF sR ?_))))))
  exact ⟨(vI (dec_mono (n := rs.length) (by rw [dec_neg (by omega)]; omega) (by unfold szG; omega))), rfl, rfl⟩
 refine qw (qc (qc (qa (qg (ii (0)) rfl (qb (qF (ja (α := Nat) (fun k => [(0, rsv), (1, ii (dec z (rs.length + gTo lenR rs k))), (5, ii ((k : Int)))]) (fun k => L) (fun k F' => F = F' ∧ (k ≤ rs.length) ∧ (0 ≤ dec z (rs.length + gTo lenR rs k))) (fun k => rs.length - k) 0 ⟨rfl, (vI (by show z - rs.length = dec z (rs.length + 0); rw [Nat.add_zero, dec_pos (by omega)])), rfl, ⟨⟩⟩ sR ⟨rfl, (by (try dsimp only) <;> omega), (by show 0 ≤ dec z (rs.length + 0); rw [Nat.add_zero, dec_pos (by omega)]; omega)⟩ ?_)))))))
 rintro k rE _ _ ⟨rfl, hk, hnn⟩
 show X _ _ _ _ (envs [(0, rsv), (1, ii (dec z (rs.length + gTo lenR rs k))), (5, ii ((k : Int)))] rE) _ (L)
 have hdr := dec_range z (rs.length + gTo lenR rs k)
 have hrk := hrb k
 have hgk : lenR (rs.getD k []) = (rs.getD k []).length := rfl
 refine qc (qc (qa (qd (ii ((k : Int))) rfl (qd (rsv) rfl (cX (qy qz rfl hrs.slv (cX (qI rfl rfl (qb ?_)))))))))
 refine qv (p := (k : Int) < (rs.length : Int)) rfl (fun h2 => ?_) (fun h2 => ?_)
 ·refine qw (qc (qF (qc (qa (qd (rsv) rfl (qd (ii ((k : Int))) rfl (cX (qx k qz qA rfl rfl rfl hrs.slv (by omega) (Nat.mul_one _) ?_))))))))
  obtain ⟨a1, ha1, hr1⟩ := hrs.rd (i := k) (by omega)
  refine cX (qi qK rfl (hr1 _) (qd (ii (dec z (rs.length + gTo lenR rs k))) rfl (cX (ql (args := [a1, ii (dec z (rs.length + gTo lenR rs k))]) call38 rfl (szInt64S_spec (z := dec z (rs.length + gTo lenR rs k)) ha1 (hz := (by first | assumption | rfl | omega | simp)) (hlx := (by first | assumption | rfl | omega | simp))) ?_))))
  rintro _ _ _ _ ⟨rfl, rfl, rfl⟩
  refine qg (ii (dec (dec z (rs.length + gTo lenR rs k)) ((rs.getD k [])).length)) rfl (qb (qc (qa (qd (ii (dec (dec z (rs.length + gTo lenR rs k)) ((rs.getD k [])).length)) rfl (cX (qI rfl rfl (qb ?_)))))))
  refine qv (p := (dec (dec z (rs.length + gTo lenR rs k)) ((rs.getD k [])).length : Int) < 0) rfl (fun h3 => ?_) (fun h3 => ?_)
  ·refine qc (qa (qg (ii (-1)) rfl (qb (qq (qu (qh (qh (qu (qh (qn (L' := L) [ii (-1)] (ii (-1)) (.tmp rfl .nil) rfl rF rF sR ?_))))))))))
   exact ⟨(vI (by have h9 := gTo_le (f := lenR) (l := rs) ([] : List Int) (k + 1) rs.length (by omega) (Nat.le_refl _); refine dec_mono (n := rs.length + gTo lenR rs (k + 1)) ?_ (by unfold szG; omega); rw [← gTo_succ ([] : List Int) (by omega), ← Nat.add_assoc, ← dec_dec (by omega)]; assumption)), rfl, rfl⟩
  refine qw (qa (qd (ii ((k : Int))) rfl (cX (qG (((k + 1 : Nat) : Int)) rfl rfl (by omega) (by omega) (qg (ii (((k + 1 : Nat) : Int))) rfl (qb ?_))))))
  exact ⟨k + 1, _, FLe.refl _, rF, ⟨rfl, (vI (by rw [dec_dec (by omega), Nat.add_assoc, ← gTo_succ ([] : List Int) (by omega)]; rfl)), rfl, ⟨⟩⟩, sR, ⟨rfl, (by (try dsimp only) <;> omega), (by (try dsimp only); rw [← gTo_succ ([] : List Int) (by omega), ← Nat.add_assoc, ← dec_dec (by omega)]; exact Int.not_lt.1 (by assumption))⟩, (by omega)⟩
 refine qX (qr (qr (qJ (qc (qa (qd (ii (dec z (rs.length + gTo lenR rs k))) rfl (qg (ii (dec z (rs.length + gTo lenR rs k))) rfl (qb (qq (qn (L' := L) [ii (dec z (rs.length + gTo lenR rs k))] (ii (dec z (rs.length + gTo lenR rs k))) (.tmp rfl .nil) rfl rF rF sR ?_))))))))))
 exact ⟨(vI (by rw [szG, show k = rs.length from by omega])), rfl, rfl⟩

/- laws.eqInt64SS -/
theorem eqInt64SS_spec {F : FH} {L : List HP} {av : Value} {a : List (List Int)} (ha : RowsF F av a) {bv : Value} {b : List (List Int)} (hb : RowsF F bv b) (hal : a.length ≤ 9223372036854775807) (hbd : ∀ i, i < a.length → (a.getD i []).length ≤ 9223372036854775807) :
    Does prog 184 [av, bv] F (L) (fun v F' L' => (.bool (decide (a = b)) : Value) = v ∧ F = F' ∧ L = L') := by
 refine qB func184 rfl rfl rfl (qc (qa (qg (.bool (false)) rfl (qb (qc (qc (qa (qd (av) rfl (cX (qy qz rfl ha.slv (qd (bv) rfl (cX (qy qz rfl hb.slv (cX (XOp.neq rfl rfl (qb ?_))))))))))))))))
 refine qv (p := ((a.length : Int) : Int) ≠ (b.length : Int)) rfl (fun h1 => ?_) (fun h1 => ?_)
 ·refine qc (qa (qg (.bool (false)) rfl (qb (qq (qh (qn (L' := L) [.bool (false)] (.bool (false)) (.tmp rfl .nil) rfl rF rF sR ?_))))))
  exact ⟨(vB (decide_eq_false (fun e => by rw [e] at h1; omega))), rfl, rfl⟩
 refine qw (qc (qc (qa (qg (ii (0)) rfl (qb (qF (ja (α := Nat) (fun k => [(0, av), (1, bv), (5, ii ((k : Int)))]) (fun k => L) (fun k F' => F = F' ∧ (k ≤ a.length) ∧ (∀ i, i < k → a.getD i ([] : List Int) = b.getD i ([] : List Int))) (fun k => a.length - k) 0 ⟨rfl, rfl, rfl, ⟨⟩⟩ sR ⟨rfl, (by (try dsimp only) <;> omega), (fun i hi => absurd hi (by omega))⟩ ?_)))))))
 rintro k rE _ _ ⟨rfl, hk, hall⟩
 show X _ _ _ _ (envs [(0, av), (1, bv), (5, ii ((k : Int)))] rE) _ (L)
 have hbk := hbd k
 refine qc (qc (qa (qd (ii ((k : Int))) rfl (qd (av) rfl (cX (qy qz rfl ha.slv (cX (qI rfl rfl (qb ?_)))))))))
 refine qv (p := (k : Int) < (a.length : Int)) rfl (fun h2 => ?_) (fun h2 => ?_)
 ·refine qw (qc (qF (qc ?_)))
  obtain ⟨a1, ha1, hr1⟩ := ha.rd (i := k) (by omega)
  obtain ⟨a2, ha2, hr2⟩ := hb.rd (i := k) (by omega)
  refine ju [] L 8 [] [[], [], [0, 1], [2], [], [], [4, 5], [6]] (phiL [qe av, qe (ii ((k : Int)) : Value), qe (.pointer (some (elemA av (k)))), qe a1, qe bv, qe (ii ((k : Int)) : Value), qe (.pointer (some (elemA bv (k)))), qe a2]) (ownL []) mixed rfl rfl (by kernel_rfl) ?_ ?_
  ·refine pD (fun W R z9 => ?_) ?_
   ·refine qj (qm (av) rfl ?_)
    exact ⟨rfl, rfl, rfl⟩
   refine pD (fun W R z9 => ?_) ?_
   ·refine qj (qm (ii ((k : Int))) rfl ?_)
    exact ⟨rfl, rfl, rfl⟩
   refine pD (fun W R z9 => ?_) ?_
   ·rw [eS (l := [(0, _), (1, _)]) ⟨z9 0 rfl, z9 1 rfl, ⟨⟩⟩]
    refine qj (qx k qz qA rfl rfl rfl ha.slv (by omega) (Nat.mul_one _) ?_)
    exact ⟨rfl, rfl, rfl⟩
   refine pD (fun W R z9 => ?_) ?_
   ·rw [eS (l := [(2, _)]) ⟨z9 2 rfl, ⟨⟩⟩]
    refine qj (qi qK rfl (hr1 _) ?_)
    exact ⟨rfl, rfl, rfl⟩
   refine pD (fun W R z9 => ?_) ?_
   ·refine qj (qm (bv) rfl ?_)
    exact ⟨rfl, rfl, rfl⟩
   refine pD (fun W R z9 => ?_) ?_
   ·refine qj (qm (ii ((k : Int))) rfl ?_)
    exact ⟨rfl, rfl, rfl⟩
   refine pD (fun W R z9 => ?_) ?_
   ·rw [eS (l := [(4, _), (5, _)]) ⟨z9 4 rfl, z9 5 rfl, ⟨⟩⟩]
    refine qj (qx k qz qA rfl rfl rfl hb.slv (by omega) (Nat.mul_one _) ?_)
    exact ⟨rfl, rfl, rfl⟩
   refine pD (fun W R z9 => ?_) ?_
   ·rw [eS (l := [(6, _)]) ⟨z9 6 rfl, ⟨⟩⟩]
    refine qj (qi qK rfl (hr2 _) ?_)
    exact ⟨rfl, rfl, rfl⟩
   exact stepsP.nil
  intro W hphi
  rw [eS (l := [(3, _), (7, _)]) ⟨(hphi 3 (by decide)), (hphi 7 (by decide)), ⟨⟩⟩]
  show XL _ _ _ _ _ _ _ (L)
  refine cX (ql (args := [a1, a2]) call12 rfl (eqInt64S_spec ha1 ha2 (hbd := (.inl (hbk (by omega))))) ?_)
  rintro _ _ _ _ ⟨rfl, rfl, rfl⟩
  refine cX (jo rfl (qb ?_))
  refine qv (p := ¬(((a.getD k [])) = ((b.getD k [])))) rfl (fun h3 => ?_) (fun h3 => ?_)
  ·refine qc (qa (qg (.bool (false)) rfl (qb (qq (qu (qh (qh (qu (qh (qn (L' := L) [.bool (false)] (.bool (false)) (.tmp rfl .nil) rfl rF rF sR ?_))))))))))
   exact ⟨(vB (decide_eq_false (fun e => by subst e; simp at *))), rfl, rfl⟩
  refine qw (qa (qd (ii ((k : Int))) rfl (cX (qG (((k + 1 : Nat) : Int)) rfl rfl (by omega) (by omega) (qg (ii (((k + 1 : Nat) : Int))) rfl (qb ?_))))))
  exact ⟨k + 1, _, FLe.refl _, rF, ⟨rfl, rfl, rfl, ⟨⟩⟩, sR, ⟨rfl, (by (try dsimp only) <;> omega), (fun i hi => (Nat.lt_or_ge i k).elim (fun h => hall i h) (fun h => by obtain rfl : i = k := (by omega); first | assumption | exact Classical.not_not.1 (by assumption)))⟩, (by omega)⟩
 refine qX (qr (qr (qJ (qc (qa (qg (.bool (true)) rfl (qb (qq (qn (L' := L) [.bool (true)] (.bool (true)) (.tmp rfl .nil) rfl rF rF sR ?_)))))))))
 exact ⟨(vB (decide_eq_true (ext_any ([] : List Int) (by omega) (fun i hi => hall i (by omega))))), rfl, rfl⟩

theorem endAtW_ok {F : FH} {L : List HP} {p : Nat} {arv : Value} {ar : List Int} (har : IntsF F arv ar) {tv : Value} {t : List Int} (ht : IntsF F tv t) (ho : TermW ar t) (hp : p < t.length) :
    Does prog 112 [.agg #[arv], tv, ii (p : Int)] F L (fun v F' L' => (ii ((endN ar t p : Nat) : Int) : Value) = v ∧ F = F' ∧ L = L') := by
  have hl := ho.len
  have h := endAt_spec (F := F) (L := L) (p := p) har ht ho.sig (by omega) (by omega)
  rw [ho.endZ hp] at h
  exact h


/- impl.subAt -/
theorem subAtW_spec {F : FH} {L : List HP} {arv : Value} {ar : List Int} (har : IntsF F arv ar) {tv : Value} {t : List Int} (ht : IntsF F tv t) {p : Nat} (ho : TermW ar t) (hp : p < t.length) (hnn : isNil tv = false) :
    Does prog 55 [.agg #[arv], tv, ii ((p : Int))] F (L) (fun v F' L' => F = F' ∧ L = L' ∧ IntsF F v (sub ar t p) ∧ isNil v = false) := by
 refine qB func55 rfl rfl rfl ?_
 have hsl := sigOk_spec ho.sig
 have htl := ho.len
 have hsig := ho.sig
 have hee := ho.endN hp
 refine qc (qa (cX (qP [arv] rfl rfl ?_)))
 intro b1
 refine qg (sN) rfl (qb (qc (qa (qd (tv) rfl (qd (ii ((p : Int))) rfl (cX (qC [arv] qW qH rfl rfl (Rd.ownN [] rfl rfl) (qd (tv) rfl (qd (ii ((p : Int))) rfl (cX (ql (args := [.agg #[arv], tv, ii (p : Int)]) call112 rfl (endAtW_ok (p := p) har ht (ho := (by first | assumption | rfl | omega | (left; simp; done) | (right; simp; done))) (hp := (by first | assumption | rfl | omega | (left; simp; done) | (right; simp; done)))) ?_)))))))))))
 rintro _ _ _ _ ⟨rfl, rfl, rfl⟩
 refine cX (jw p (endN ar t p) qf qE rfl ht ⟨_, rfl⟩ ⟨_, rfl⟩ (by omega) (by omega) ?_)
 intro v1 hv1 hn1
 refine qg (v1) rfl (qb (qq (qn (L' := L) [v1] (v1) (.tmp rfl .nil) rfl rF rF (sD sR) ?_)))
 exact ⟨rfl, rfl, hv1, by rw [hn1]; exact hnn⟩

set_option maxRecDepth 20000 in
theorem solve_catch {F : FH} {L : List HP} {b : Nat} {x : Bool} {w : World} (H : Holds F (cellsH b [.bool x] 4 :: L) w) :
    CallsD prog 167 #[.pointer (some ⟨b, 0, none⟩)] (.panicking [{ v := .iface 202 (.agg #[]), recovered := false }]) w fun e u' w' =>
      e = .returned (.tuple #[]) ∧ u' = .panicking [{ v := .iface 202 (.agg #[]), recovered := true }] ∧ Holds F (cellsH b [.bool false] 4 :: L) w' := by
  refine callsD_of_wpS func167 rfl fun c₀ cs hu => ?_
  apply wpS_seq
  apply wpS_region
  simp [wpOpsS, go_sem, recoverD, hu, ntmps167, Exit.thenS]
  apply wpS_seq
  apply wpS_region
  simp [wpOpsS, go_sem, recoverD, hu, ntmps167, Exit.thenS]
  refine wpS_cond (t := true) (by simp [Act.eval, Array.replicate]) ?_
  simp only [if_true]
  refine wpS_of_wp (Code.wp_mono ?_ (wp_of_X (n := 15) (Q := fun e ρ F' L' => e = .normal ∧ Sub L' (cellsH b [.bool false] 4 :: L)) [(0, ptr b 0), (1, .iface 202 (.agg #[]))] (by simp) rfl ⟨by simp, by simp [Array.replicate], ⟨⟩⟩ rfl (fun rE => ?_) H))
  · rintro e a' w' ⟨ρ, F', L', r, le, H', rfl, s⟩
    exact ⟨r.defers, _, rfl, _, results_none rfl _ _ _, rfl, rfl, s.holds (H'.forget le)⟩
  · skip
    refine qc (qc (qa (qd ((.iface 202 (.agg #[]))) rfl (cX (XOp.assertOk runUnderlying202 rfl (qd (.tuple #[.agg #[], .bool (true)]) rfl (cX (jb (.agg #[]) rfl rfl (cX (jb (.bool (true)) rfl rfl (cX (jq [] zeroValue202 rfl ?_))))))))))))
    intro b1
    refine cX (jd [] _ [] sizeOf202 rfl rfl rfl jj rfl rfl rfl (qg (.bool (true)) rfl (qb (qc (qa (qd (.bool (true)) rfl (cX (jn rfl (qb (X.condF rfl (qw (qa (cX (jy [_] _ [.bool (false)] sizeOf4 rfl rfl rfl rfl rfl rfl (qb ?_)))))))))))))))
    exact ⟨rfl, (sD (sC sR))⟩


theorem solve_idle {p : Value} {w : World} :
    CallsD prog 167 #[p] .returning w fun e u' w' => e = .returned (.tuple #[]) ∧ u' = .returning ∧ w' = w := by
  refine callsD_of_wpS func167 rfl fun c₀ cs hu => ?_
  apply wpS_seq
  apply wpS_region
  simp [wpOpsS, go_sem, recoverD, hu, ntmps167, Exit.thenS]
  apply wpS_seq
  apply wpS_region
  simp [wpOpsS, go_sem, recoverD, hu, ntmps167, Exit.thenS]
  refine wpS_cond (t := false) (by simp [Act.eval, Array.replicate]) ?_
  simp only [Bool.false_eq_true, if_false]
  refine wpS_of_wp (wp_skip ?_)
  cases c₀
  simp_all [bodyPostS, results, results167]


/- impl.put -/
theorem putW_spec {F : FH} {L : List HP} {arv : Value} {ar : List Int} (har : IntsF F arv ar) {tv : Value} {t : List Int} (ht : IntsF F tv t) {p : Nat} {uv : Value} {u : List Int} (hu : IntsF F uv u) (ho : TermW ar t) (hp : p < t.length) (hul : 1 ≤ u.length ∧ u.length ≤ 4000000) :
    Does prog 60 [.agg #[arv], tv, ii ((p : Int)), uv] F (L) (fun v F' L' => ∃ (a : Value), (.tuple #[a, .bool ((putL ar t p u).isSome)] : Value) = v ∧ (IntsF F' a ((putL ar t p u).getD [])) ∧ ((putL ar t p u).isSome = true → isNil a = false) ∧ (Fresh F F' (intsH 2 a ((putL ar t p u).getD []))) ∧ L = L') := by
 refine qB func60 rfl rfl rfl ?_
 have hsl := sigOk_spec ho.sig
 have htl := ho.len
 have hsig := ho.sig
 have hee := ho.endN hp
 refine qc (qa (cX (qP [arv] rfl rfl ?_)))
 intro b1
 refine qg (sN) rfl (qg (.bool (false)) rfl (qb (qc ?_)))
 refine X.drawG [cellsH b1 [arv] 31] L 10 [] [[], [], [0, 1], [], [], [], [], [], [5, 6, 7], [4, 8]] [] (phiG [pe tv, pe (ii ((p : Int)) : Value), fun FF us v => (v : Value) = v ∧ (IntsF FF v ((t.drop 0).take (p - 0))) ∧ (isNil v = isNil tv), pe uv, pe tv, pe (.agg #[arv]), pe tv, pe (ii ((p : Int)) : Value), pe (ii (((endN ar t p : Nat) : Int)) : Value), fun FF us v => (v : Value) = v ∧ (IntsF FF v ((t.drop (endN ar t p)).take (((t).length) - (endN ar t p)))) ∧ (isNil v = isNil tv)]) (ownL []) mixed rfl rfl (by kernel_rfl) (by kernel_rfl) (MonoG.get (m1 (m1 (mC (fun le h => ⟨h.1, h.2.1.mono le, h.2.2⟩) (m1 (m1 (m1 (m1 (m1 (m1 (mC (fun le h => ⟨h.1, h.2.1.mono le, h.2.2⟩) MonoG.nil))))))))))) ?_ ?_
 ·refine gD (fun W Fs R lF z9 => ?_) ?_
  ·refine qj (qm (tv) rfl ?_)
   exact ⟨rfl, rfl⟩
  refine gD (fun W Fs R lF z9 => ?_) ?_
  ·refine qj (qm (ii ((p : Int))) rfl ?_)
   exact ⟨rfl, rfl⟩
  refine gD (fun W Fs R lF z9 => ?_) ?_
  ·replace har := har.mono lF
   replace ht := ht.mono lF
   replace hu := hu.mono lF
   rw [eS (l := [(0, _), (1, _)]) ⟨z9 0 rfl, z9 1 rfl, ⟨⟩⟩]
   refine qj (jw 0 p qf qE rfl ht rfl ⟨_, rfl⟩ (by omega) (by omega) ?_)
   intro v3 hv3 hn3
   exact ⟨⟨rfl, hv3, hn3⟩, rfl⟩
  refine gD (fun W Fs R lF z9 => ?_) ?_
  ·refine qj (qm (uv) rfl ?_)
   exact ⟨rfl, rfl⟩
  refine gD (fun W Fs R lF z9 => ?_) ?_
  ·refine qj (qm (tv) rfl ?_)
   exact ⟨rfl, rfl⟩
  refine gD (fun W Fs R lF z9 => ?_) ?_
  ·replace har := har.mono lF
   replace ht := ht.mono lF
   replace hu := hu.mono lF
   refine qj (qC [arv] qW qH rfl rfl (Rd.ownN [] rfl rfl) ?_)
   exact ⟨rfl, rfl⟩
  refine gD (fun W Fs R lF z9 => ?_) ?_
  ·refine qj (qm (tv) rfl ?_)
   exact ⟨rfl, rfl⟩
  refine gD (fun W Fs R lF z9 => ?_) ?_
  ·refine qj (qm (ii ((p : Int))) rfl ?_)
   exact ⟨rfl, rfl⟩
  refine gD (fun W Fs R lF z9 => ?_) ?_
  ·replace har := har.mono lF
   replace ht := ht.mono lF
   replace hu := hu.mono lF
   rw [eS (l := [(5, _), (6, _), (7, _)]) ⟨z9 5 rfl, z9 6 rfl, z9 7 rfl, ⟨⟩⟩]
   refine qj (ql (args := [.agg #[arv], tv, ii (p : Int)]) call112 rfl (endAtW_ok (p := p) har ht (ho := (by first | assumption | rfl | omega | (left; simp; done) | (right; simp; done))) (hp := (by first | assumption | rfl | omega | (left; simp; done) | (right; simp; done)))) ?_)
   rintro _ _ _ _ ⟨rfl, rfl, rfl⟩
   exact ⟨rfl, rfl⟩
  refine gD (fun W Fs R lF z9 => ?_) ?_
  ·replace har := har.mono lF
   replace ht := ht.mono lF
   replace hu := hu.mono lF
   rw [eS (l := [(4, _), (8, _)]) ⟨z9 4 rfl, z9 8 rfl, ⟨⟩⟩]
   refine qj (jw (endN ar t p) ((t).length) qf qE rfl ht ⟨_, rfl⟩ rfl (by omega) (by omega) ?_)
   intro v4 hv4 hn4
   exact ⟨⟨rfl, hv4, hn4⟩, rfl⟩
  exact stepsG.nil
 intro W F1 le1 hphi
 obtain ⟨e2, f2_1hv, f2_1hn⟩ := hphi 2 (by decide)
 obtain ⟨e9, f9_1hv, f9_1hn⟩ := hphi 9 (by decide)
 generalize hu1 : (W 2) = u1 at e2 f2_1hv f2_1hn e9 f9_1hv f9_1hn
 generalize hu2 : (W 9) = u2 at e2 f2_1hv f2_1hn e9 f9_1hv f9_1hn
 rw [eS (l := [(2, u1), (3, _), (9, u2)]) ⟨hu1, (hphi 3 (by decide)), hu2, ⟨⟩⟩]
 replace hu := hu.mono le1
 show XL _ _ _ _ _ _ _ (cellsH b1 [arv] 31 :: L)
 refine cX (qU (s := 1) [u1, uv, u2] [sN] [(0, [u1]), (1, [uv]), (2, [u2])] qz qA zeroValue22 rfl (by decide) rfl (.cons (cells_one (qT f2_1hv)) (.cons (cells_one (qT hu)) (.cons (cells_one (qT f9_1hv)) CellsAre.nil))) rfl ?_)
 intro v5 hv5
 have hc1 : RowsC F1 [u1, uv, u2] ([((t.drop 0).take (p - 0)), u, ((t.drop (endN ar t p)).take (((t).length) - (endN ar t p)))] : List (List Int)) := (RowsC.snoc (RowsC.snoc (RowsC.snoc (CO.nil : RowsC F1 [] []) f2_1hv) hu) f9_1hv)
 refine XL.freezeF [] _ _ rfl (fun F2 le2 hz1 => ?_)
 replace hc1 := hc1.mono le2
 have hf1 : RowsF F2 v5 (([((t.drop 0).take (p - 0)), u, ((t.drop (endN ar t p)).take (((t).length) - (endN ar t p)))] : List (List Int))) := CO.fz hc1 (by first | rfl | omega | (rw [List.length_set]; omega) | (simp; done)) hz1.fz
 refine cX (jx <| ql (args := [v5]) call119 rfl (Concat_spec hf1 (hg1 := (by simp; omega)) (hn := (by first | assumption | rfl | omega | simp)) (hb := (fun i hi => by match i, hi with | 0, _ => simp; omega | 1, _ => simp; omega | 2, _ => simp; omega))) ?_)
 rintro v6 _ _ _ ⟨rfl, hs1, rfl⟩
 refine ⟨_, _, rfl, fun F3 le3 hz2 => ?_⟩
 have hf2 : IntsF F3 v6 (((([((t.drop 0).take (p - 0)), u, ((t.drop (endN ar t p)).take (((t).length) - (endN ar t p)))] : List (List Int))).flatten)) := intsH.fz (xs := ((([((t.drop 0).take (p - 0)), u, ((t.drop (endN ar t p)).take (((t).length) - (endN ar t p)))] : List (List Int))).flatten)) hz2.fz
 refine qg (v6) rfl (qb (qc (qc (qa (qd (v6) rfl (cX (qy qf rfl hf2.slv (cX (jt rfl rfl (qb ?_))))))))))
 refine qv (p := ((((((([((t.drop 0).take (p - 0)), u, ((t.drop (endN ar t p)).take (((t).length) - (endN ar t p)))] : List (List Int))).flatten)).length : Nat) : Int) : Int) > 60) rfl (fun h1 => ?_) (fun h1 => ?_)
 ·refine qc (qa (qg (sN) rfl (qg (.bool (false)) rfl (qb (qq (qh (qn (L' := L) [sN, .bool (false)] (.tuple #[sN, .bool (false)]) (.tmp rfl (.tmp rfl .nil)) rfl (qt (qt le1 le2) le3) rF (sD sR) ?_)))))))
  have hz : putL ar t p u = none := putL_none put_flat (by omega)
  exact ⟨_, by rw [hz]; rfl, by rw [hz]; exact IntsF.nilV, fun h => (by rw [hz] at h; cases h), by rw [hz]; exact Fresh.ofNil _, rfl⟩
 refine qw (qc (qa (qd (v6) rfl (qg (v6) rfl (qg (.bool (true)) rfl (qb (qq (qn (L' := L) [v6, .bool (true)] (.tuple #[v6, .bool (true)]) (.tmp rfl (.tmp rfl .nil)) rfl (qt (qt le1 le2) le3) rF (sD sR) ?_))))))))
 have hz := putL_some (ar := ar) (t := t) (p := p) (u := u) put_flat (by omega)
 exact ⟨_, by rw [hz]; rfl, by rw [hz]; exact hf2, fun _ => notNil_of_pos hf2 (by rw [put_flat]; simp; omega), by rw [hz]; exact (hz2.base (qt le1 le2)), rfl⟩

/- impl.linear -/
theorem linear_spec {F : FH} {L : List HP} {tv : Value} {t : List Int} (ht : IntsF F tv t) (hlt : t.length ≤ 4000000) :
    Does prog 166 [tv] F (L) (fun v F' L' => (.bool (decide (LinT t)) : Value) = v ∧ F = F' ∧ L = L') := by
 refine qB func166 rfl rfl rfl (qc (qa (qg (.bool (false)) rfl (qb (qc (qc (qa (qd (tv) rfl (cX (qy qf rfl ht.slv (qd (ii (0)) rfl (qb (qF (ja (α := Nat) (fun k => [(0, tv), (5, tv), (6, ii ((t.length : Int))), (7, ii ((k : Int)))]) (fun k => L) (fun k F' => F = F' ∧ (k ≤ t.length) ∧ (LinAt t k)) (fun k => t.length - k) 0 ⟨rfl, rfl, rfl, rfl, ⟨⟩⟩ sR ⟨rfl, (by (try dsimp only) <;> omega), (fun i hi => absurd hi (by omega))⟩ ?_))))))))))))))
 rintro k rE _ _ ⟨rfl, hk, hL⟩
 show X _ _ _ _ (envs [(0, tv), (5, tv), (6, ii ((t.length : Int))), (7, ii ((k : Int)))] rE) _ (L)
 refine qc (qa (cX (qI rfl rfl (qb (qc ?_)))))
 refine qv (p := (k : Int) < (t.length : Int)) rfl (fun h1 => ?_) (fun h1 => ?_)
 ·refine qw (qc (qF (qc (qa (qd (ii ((k : Int))) rfl (cX (qx k qf qE rfl rfl rfl ht.slv (by omega) (Nat.mul_one _) (cX (qi qS rfl (ht.rd (by omega)) (qg (ii ((k : Int))) rfl (qg (ii (t.getD k 0)) rfl (qb (qc (qa (qd (ii (t.getD k 0)) rfl (cX (qI rfl rfl (qd (.bool (decide ((t.getD k 0 : Int) < 0))) rfl ?_))))))))))))))))))
  by_cases h2 : (t.getD k 0 : Int) < 0
  ·refine qo (t := 14) rfl (vT h2) (qm (tv) rfl (qo (t := 14) rfl (vT h2) (qm (ii ((k : Int))) rfl (qo (t := 14) rfl (vT h2) (jw 0 k qf qE rfl ht rfl ⟨_, rfl⟩ (by omega) (by omega) ?_)))))
   intro v1 hv1 hn1
   refine qo (t := 14) rfl (vT h2) (qm (ii (t.getD k 0)) rfl (qo (t := 14) rfl (vT h2) (ql (args := [v1, ii (t.getD k 0)]) call131 rfl (Contains_spec (n := t.getD k 0) hv1 (hbd := (by simp; omega))) ?_)))
   rintro _ _ _ _ ⟨rfl, rfl, rfl⟩
   refine cX (qM (.bool (decide ((t.getD k 0) ∈ (((t.drop 0).take (k - 0)))))) (vT h2) rfl (qb ?_))
   refine qv (p := (t.getD k 0) ∈ (((t.drop 0).take (k - 0)))) rfl (fun h3 => ?_) (fun h3 => ?_)
   ·have hmm : t.getD k 0 ∈ t.take k := by simpa using h3
    refine qc (qa (qg (.bool (false)) rfl (qb (qq (qu (qh (qh (qu (qh (qn (L' := L) [.bool (false)] (.bool (false)) (.tmp rfl .nil) rfl rF rF sR ?_))))))))))
    exact ⟨(vB (decide_eq_false (lin_no (k := k) (by omega) (by omega) hmm))), rfl, rfl⟩
   have hmm : t.getD k 0 ∉ t.take k := by simpa using h3
   refine qw (qa (cX (qG (((k + 1 : Nat) : Int)) rfl rfl (by omega) (by omega) (qd (ii (((k + 1 : Nat) : Int))) rfl (qb ?_)))))
   exact ⟨k + 1, _, FLe.refl _, rF, ⟨rfl, rfl, rfl, rfl, ⟨⟩⟩, sR, ⟨rfl, (by (try dsimp only) <;> omega), (lin_next hL (by first | (left; omega) | (right; exact hmm)))⟩, (by omega)⟩
  refine qp (t := 14) rfl (vF h2) (qp (t := 14) rfl (vF h2) (qp (t := 14) rfl (vF h2) (qp (t := 14) rfl (vF h2) (qp (t := 14) rfl (vF h2) (cX (qL (.bool (false)) (vF h2) rfl (qb (X.condF rfl (qw (qa (cX (qG (((k + 1 : Nat) : Int)) rfl rfl (by omega) (by omega) ?_))))))))))))
  refine qd (ii (((k + 1 : Nat) : Int))) rfl (qb ?_)
  exact ⟨k + 1, _, FLe.refl _, rF, ⟨rfl, rfl, rfl, rfl, ⟨⟩⟩, sR, ⟨rfl, (by (try dsimp only) <;> omega), (lin_next hL (by first | (left; omega) | (right; exact hmm)))⟩, (by omega)⟩
 refine qX (qr (qr (qJ (qc (qa (qg (.bool (true)) rfl (qb (qq (qn (L' := L) [.bool (true)] (.bool (true)) (.tmp rfl .nil) rfl rF rF sR ?_)))))))))
 exact ⟨(vB (decide_eq_true (lin_done hL (by omega)))), rfl, rfl⟩

/- spec.l1Count -/
theorem l1Count_spec {F : FH} {L : List HP} {tv : Value} {t : List Int} (ht : IntsF F tv t) {n : Int} (hlt : t.length ≤ 4000000) :
    Does prog 195 [tv, ii (n)] F (L) (fun v F' L' => (ii (((t.count n : Nat) : Int)) : Value) = v ∧ F = F' ∧ L = L') := by
 refine qB func195 rfl rfl rfl (qc (qa (qg (ii (0)) rfl (qb (qc (qa (qg (ii (0)) rfl (qb (qc (qc (qa (qg (ii (0)) rfl (qb (qF (ja (α := Nat × Nat) (fun xQ => [(0, tv), (1, ii (n)), (5, ii (((xQ.2 : Nat) : Int))), (6, ii (((xQ.1 : Nat) : Int)))]) (fun xQ => L) (fun xQ F' => F = F' ∧ (xQ.1 ≤ t.length) ∧ (xQ.2 = (t.take xQ.1).count n) ∧ (xQ.2 ≤ xQ.1)) (fun xQ => t.length - xQ.1) (0, 0) ⟨rfl, rfl, rfl, rfl, ⟨⟩⟩ sR ⟨rfl, (by (try dsimp only) <;> omega), (rfl), (by (try dsimp only) <;> omega)⟩ ?_)))))))))))))))
 rintro ⟨k, m⟩ rE _ _ ⟨rfl, hk, hm, hmk⟩
 show X _ _ _ _ (envs [(0, tv), (1, ii (n)), (5, ii ((m : Int))), (6, ii ((k : Int)))] rE) _ (L)
 dsimp only at hk hm hmk
 refine qc (qc (qa (qd (ii ((k : Int))) rfl (qd (tv) rfl (cX (qy qf rfl ht.slv (cX (qI rfl rfl (qb ?_)))))))))
 refine qv (p := (k : Int) < (t.length : Int)) rfl (fun h1 => ?_) (fun h1 => ?_)
 ·refine qw (qc (qF (qc (qa (qd (tv) rfl (qd (ii ((k : Int))) rfl (cX (qx k qf qE rfl rfl rfl ht.slv (by omega) (Nat.mul_one _) (cX (qi qS rfl (ht.rd (by omega)) (qd (ii (n)) rfl (cX (XOp.eql rfl rfl (qb ?_))))))))))))))
  refine qv (p := (t.getD k 0 : Int) = n) rfl (fun h2 => ?_) (fun h2 => ?_)
  ·refine qa (qd (ii ((m : Int))) rfl (cX (qG (((m + 1 : Nat) : Int)) rfl rfl (by omega) (by omega) (qg (ii (((m + 1 : Nat) : Int))) rfl (qb (qa (qd (ii ((k : Int))) rfl (cX (qG (((k + 1 : Nat) : Int)) rfl rfl (by omega) (by omega) (qg (ii (((k + 1 : Nat) : Int))) rfl (qb ?_)))))))))))
   exact ⟨(k + 1, m + 1), _, FLe.refl _, rF, ⟨rfl, rfl, (vI (by omega)), rfl, ⟨⟩⟩, sR, ⟨rfl, (by (try dsimp only) <;> omega), (by (try dsimp only); rw [count_take (by omega), ← hm]; rw [if_pos (by omega)]), (by (try dsimp only) <;> omega)⟩, (by omega)⟩
  refine qw (qa (qd (ii ((k : Int))) rfl (cX (qG (((k + 1 : Nat) : Int)) rfl rfl (by omega) (by omega) (qg (ii (((k + 1 : Nat) : Int))) rfl (qb ?_))))))
  exact ⟨(k + 1, m), _, FLe.refl _, rF, ⟨rfl, rfl, (vI (by omega)), rfl, ⟨⟩⟩, sR, ⟨rfl, (by (try dsimp only) <;> omega), (by (try dsimp only); rw [count_take (by omega), ← hm]; rw [if_neg (by omega)]; rfl), (by (try dsimp only) <;> omega)⟩, (by omega)⟩
 refine qX (qr (qr (qJ (qc (qa (qd (ii ((m : Int))) rfl (qg (ii ((m : Int))) rfl (qb (qq (qn (L' := L) [ii ((m : Int))] (ii ((m : Int))) (.tmp rfl .nil) rfl rF rF sR ?_))))))))))
 exact ⟨(congrArg (fun n : Nat => Value.int .i64 (n : Int)) (by rw [hm, show k = t.length from by omega, List.take_length])), rfl, rfl⟩

/- spec.l2Linear -/
theorem l2Linear_spec {F : FH} {L : List HP} {tv : Value} {t : List Int} (ht : IntsF F tv t) (hlt : t.length ≤ 4000000) :
    Does prog 147 [tv] F (L) (fun v F' L' => (.bool (decide (LinT t)) : Value) = v ∧ F = F' ∧ L = L') := by
 refine qB func147 rfl rfl rfl (qc (qa (qg (.bool (false)) rfl (qb (qc (qc (qa (qg (ii (0)) rfl (qb (qF (ja (α := Nat) (fun k => [(0, tv), (3, ii ((k : Int)))]) (fun k => L) (fun k F' => F = F' ∧ (k ≤ t.length) ∧ (∀ i, i < k → t.getD i 0 < 0 → t.count (t.getD i 0) ≤ 1)) (fun k => t.length - k) 0 ⟨rfl, rfl, ⟨⟩⟩ sR ⟨rfl, (by (try dsimp only) <;> omega), (fun i hi => absurd hi (by omega))⟩ ?_)))))))))))
 rintro k rE _ _ ⟨rfl, hk, hL⟩
 show X _ _ _ _ (envs [(0, tv), (3, ii ((k : Int)))] rE) _ (L)
 refine qc (qc (qa (qd (ii ((k : Int))) rfl (qd (tv) rfl (cX (qy qf rfl ht.slv (cX (qI rfl rfl (qb ?_)))))))))
 refine qv (p := (k : Int) < (t.length : Int)) rfl (fun h1 => ?_) (fun h1 => ?_)
 ·refine qw (qc (qF (qc (qa (qd (tv) rfl (qd (ii ((k : Int))) rfl (cX (qx k qf qE rfl rfl rfl ht.slv (by omega) (Nat.mul_one _) (cX (qi qS rfl (ht.rd (by omega)) (cX (qI rfl rfl (qd (.bool (decide ((t.getD k 0 : Int) < 0))) rfl ?_)))))))))))))
  by_cases h2 : (t.getD k 0 : Int) < 0
  ·refine qo (t := 15) rfl (vT h2) (qm (tv) rfl (qo (t := 15) rfl (vT h2) (qm (tv) rfl (qo (t := 15) rfl (vT h2) (qm (ii ((k : Int))) rfl (qo (t := 15) rfl (vT h2) (qx k qf qE rfl rfl rfl ht.slv (by omega) (Nat.mul_one _) (qo (t := 15) rfl (vT h2) (qi qS rfl (ht.rd (by omega)) (qo (t := 15) rfl (vT h2) (ql (args := [tv, ii (t.getD k 0)]) call195 rfl (l1Count_spec (n := t.getD k 0) ht (hlt := (hlt))) ?_)))))))))))
   rintro _ _ _ _ ⟨rfl, rfl, rfl⟩
   refine qo (t := 15) rfl (vT h2) (jt rfl rfl (cX (qM (.bool (decide ((((t.count (t.getD k 0) : Nat) : Int) : Int) > 1))) (vT h2) rfl (qb ?_))))
   refine qv (p := (((t.count (t.getD k 0) : Nat) : Int) : Int) > 1) rfl (fun h3 => ?_) (fun h3 => ?_)
   ·refine qc (qa (qg (.bool (false)) rfl (qb (qq (qu (qh (qh (qu (qh (qn (L' := L) [.bool (false)] (.bool (false)) (.tmp rfl .nil) rfl rF rF sR ?_))))))))))
    exact ⟨(vB (decide_eq_false (fun h9 => by have := lin_count.1 h9 k (by omega) (by omega); omega))), rfl, rfl⟩
   refine qw (qa (qd (ii ((k : Int))) rfl (cX (qG (((k + 1 : Nat) : Int)) rfl rfl (by omega) (by omega) (qg (ii (((k + 1 : Nat) : Int))) rfl (qb ?_))))))
   exact ⟨k + 1, _, FLe.refl _, rF, ⟨rfl, rfl, ⟨⟩⟩, sR, ⟨rfl, (by (try dsimp only) <;> omega), (fun i hi h0 => (Nat.lt_or_ge i k).elim (fun h => hL i h h0) (fun h => by obtain rfl : i = k := (by omega); omega))⟩, (by omega)⟩
  refine qp (t := 15) rfl (vF h2) (qp (t := 15) rfl (vF h2) (qp (t := 15) rfl (vF h2) (qp (t := 15) rfl (vF h2) (qp (t := 15) rfl (vF h2) (qp (t := 15) rfl (vF h2) (qp (t := 15) rfl (vF h2) (cX (qL (.bool (false)) (vF h2) rfl (qb (X.condF rfl ?_))))))))))
  refine qw (qa (qd (ii ((k : Int))) rfl (cX (qG (((k + 1 : Nat) : Int)) rfl rfl (by omega) (by omega) (qg (ii (((k + 1 : Nat) : Int))) rfl (qb ?_))))))
  exact ⟨k + 1, _, FLe.refl _, rF, ⟨rfl, rfl, ⟨⟩⟩, sR, ⟨rfl, (by (try dsimp only) <;> omega), (fun i hi h0 => (Nat.lt_or_ge i k).elim (fun h => hL i h h0) (fun h => by obtain rfl : i = k := (by omega); omega))⟩, (by omega)⟩
 refine qX (qr (qr (qJ (qc (qa (qg (.bool (true)) rfl (qb (qq (qn (L' := L) [.bool (true)] (.bool (true)) (.tmp rfl .nil) rfl rF rF sR ?_)))))))))
 exact ⟨(vB (decide_eq_true (lin_count.2 (fun i hi => hL i (by omega))))), rfl, rfl⟩

/- impl.varsIn -/
theorem varsIn_spec {F : FH} {L : List HP} {tv : Value} {t : List Int} (ht : IntsF F tv t) (hlt : t.length ≤ 4000000) :
    Does prog 110 [tv] F (L) (fun v F' L' => ∃ (a : Value), ∃ (os : List Int), (a : Value) = v ∧ (IntsF F' a os) ∧ ((os = [] → ∀ i : Nat, i < 24 → (-1 - (i : Int)) ∉ t) ∧ (os ≠ [] → ∃ i : Nat, (-1 - (i : Int)) ∈ t)) ∧ (os.length ≤ 24) ∧ L = L') := by
 refine qB func110 rfl rfl rfl (qc (qa (qg (sN) rfl (qb (qc (qa (qg (sN) rfl (qb (qc (qc (qa (qg (ii (0)) rfl (qb (qF (ja (α := Nat × Value × List Int) (fun xQ => [(0, tv), (3, xQ.2.1), (4, ii (((xQ.1 : Nat) : Int)))]) (fun xQ => intsH 2 xQ.2.1 xQ.2.2 :: L) (fun xQ F' => F = F' ∧ (IsSl xQ.2.1) ∧ (xQ.1 ≤ 24) ∧ (xQ.2.2 = [] → ∀ i : Nat, i < xQ.1 → (-1 - (i : Int)) ∉ t) ∧ (xQ.2.2 ≠ [] → ∃ i : Nat, (-1 - (i : Int)) ∈ t) ∧ (xQ.2.2.length ≤ xQ.1)) (fun xQ => 24 - xQ.1) (0, sN, []) ⟨rfl, rfl, rfl, ⟨⟩⟩ (Sub.trans (intsH.addNil 2 none _) (sC sR)) ⟨rfl, (⟨_, _, _, rfl⟩), (by (try dsimp only) <;> omega), (fun _ i hi => absurd hi (by omega)), (fun h => absurd rfl h), (Nat.le_refl _)⟩ ?_)))))))))))))))
 rintro ⟨k, ov, os⟩ rE _ _ ⟨rfl, hov, hk, hno, hye, hol⟩
 show X _ _ _ _ (envs [(0, tv), (3, ov), (4, ii ((k : Int)))] rE) _ (intsH 2 ov os :: L)
 dsimp only at hov hk hno hye hol
 refine qc (qc (qa (qd (ii ((k : Int))) rfl (cX (qI rfl rfl (qb ?_))))))
 refine qv (p := (k : Int) < 24) rfl (fun h1 => ?_) (fun h1 => ?_)
 ·refine qw (qc (qF (qc (qa (qd (tv) rfl (qd (ii ((k : Int))) rfl (cX (jg ((-1) - ((k : Int))) rfl rfl (by omega) (by omega) (cX (ql (args := [tv, ii ((-1) - ((k : Int)))]) call131 rfl (Contains_spec (n := (-1) - ((k : Int))) ht (hbd := (by first | assumption | rfl | omega | simp))) ?_))))))))))
  rintro _ _ _ _ ⟨rfl, rfl, rfl⟩
  refine qb ?_
  refine qv (p := ((-1) - ((k : Int))) ∈ t) rfl (fun h2 => ?_) (fun h2 => ?_)
  ·have hvi := h2
   refine qa (qd (ov) rfl (qd (ii ((k : Int))) rfl (cX (qU (s := 1) [ii ((k : Int))] [ii (0)] [(0, [ii ((k : Int))])] qf qE jl rfl (by decide) rfl (.cons rfl CellsAre.nil) rfl ?_))))
   intro v1 hv1
   refine cX (XOp.append1 (u := (k : Int)) [_] _ qf typeInfo2 rfl rfl rfl rfl rfl rfl (SlV.own [] rfl) (Rd.sl [] rfl rfl) (by (try simp only [List.length_append, List.length_nil, List.length_cons, List.length_singleton, List.length_take, List.length_drop]); omega) ?_)
   intro v2 hs1 hn1
   refine qg (v2) rfl (qb (qa (qd (ii ((k : Int))) rfl (cX (qG (((k + 1 : Nat) : Int)) rfl rfl (by omega) (by omega) (qg (ii (((k + 1 : Nat) : Int))) rfl (qb ?_)))))))
   exact ⟨(k + 1, v2, os ++ [(k : Int)]), _, FLe.refl _, rF, ⟨rfl, rfl, rfl, ⟨⟩⟩, (sD (sC sR)), ⟨rfl, (hs1), (by (try dsimp only) <;> omega), ((fun e => by (try dsimp only at e); first | (simp at e; done) | (intro i hi; rcases Nat.lt_or_ge i k with h8 | h8; exact hno e i h8; obtain rfl : i = k := (by omega); exact hvi))), ((fun e => by first | exact ⟨k, hvi⟩ | exact hye e)), (by (try dsimp only); (try rw [List.length_append, List.length_singleton]); omega)⟩, (by omega)⟩
  have hvi := h2
  refine qw (qa (qd (ii ((k : Int))) rfl (cX (qG (((k + 1 : Nat) : Int)) rfl rfl (by omega) (by omega) (qg (ii (((k + 1 : Nat) : Int))) rfl (qb ?_))))))
  exact ⟨(k + 1, ov, os), _, FLe.refl _, rF, ⟨rfl, rfl, rfl, ⟨⟩⟩, (sC sR), ⟨rfl, (hov), (by (try dsimp only) <;> omega), ((fun e => by (try dsimp only at e); first | (simp at e; done) | (intro i hi; rcases Nat.lt_or_ge i k with h8 | h8; exact hno e i h8; obtain rfl : i = k := (by omega); exact hvi))), ((fun e => by first | exact ⟨k, hvi⟩ | exact hye e)), (by (try dsimp only); (try rw [List.length_append, List.length_singleton]); omega)⟩, (by omega)⟩
 refine qX (qr (qr (qJ (qc (qa (qd (ov) rfl (qg (ov) rfl (qb (jv [] _ _ rfl (fun F1 le1 hz1 => ?_))))))))))
 have hf1 : IntsF F1 ov os := intsH.fz (xs := os) hz1.fz
 refine qq (qn (L' := L) [ov] (ov) (.tmp rfl .nil) rfl le1 rF sR ?_)
 exact ⟨_, _, rfl, hf1, ⟨fun e i hi => hno e i (by omega), hye⟩, by omega, rfl⟩

/- impl.GroundIn -/
theorem iGroundIn_spec {F : FH} {L : List HP} {arv : Value} {ar : List Int} (har : IntsF F arv ar) {tv : Value} {t : List Int} (ht : IntsF F tv t) (hlt : t.length ≤ 4000000) :
    Does prog 52 [.agg #[arv], tv] F (L) (fun v F' L' => (.bool (groundB ar t) : Value) = v ∧ F = F' ∧ L = L') := by
 refine qB func52 rfl rfl rfl (qc (qa (cX (qP [arv] rfl rfl ?_))))
 intro b1
 refine qg (.bool (false)) rfl (qb (qc (qa (cX (qC [arv] qW qH rfl rfl (Rd.ownN [] rfl rfl) (qd (tv) rfl (cX (ql (args := [.agg #[arv], tv]) call109 rfl (TermOk_spec har ht) ?_))))))))
 rintro _ _ _ _ ⟨rfl, rfl, rfl⟩
 refine qd (.bool (termOk ar t)) rfl ?_
 by_cases h1 : (termOk ar t) = true
 ·have hto : termOk ar t = true := h1
  have htl := termOk_len hto
  refine qo (t := 8) rfl (vB h1) (qm (tv) rfl (qo (t := 8) rfl (vB h1) (ql (args := [tv]) call110 rfl (varsIn_spec ht (hlt := (by first | assumption | rfl | omega | simp))) ?_)))
  rintro _ F1 _ le1 ⟨x1, x2, rfl, hr1, hr2, hr3, rfl⟩
  refine qo (t := 8) rfl (vB h1) (qy qf rfl hr1.slv (qo (t := 8) rfl (vB h1) (XOp.eql rfl rfl (cX (qM (.bool (decide (((x2.length : Int) : Int) = 0))) (vB h1) rfl (qg (.bool (decide (((x2.length : Int) : Int) = 0))) rfl (qb (qq (qn (L' := L) [.bool (decide (((x2.length : Int) : Int) = 0))] (.bool (decide (((x2.length : Int) : Int) = 0))) (.tmp rfl .nil) rfl rF le1 (sD sR) ?_)))))))))
  exact ⟨(vB ((by cases hos : groundB ar t with | true => (refine (decide_eq_true ?_).symm; have h9 := fun h8 => hr2.2 h8; apply Classical.byContradiction; intro hc; obtain ⟨i, hi⟩ := h9 (fun e => hc (by rw [e]; rfl)); rw [ground_not hi] at hos; cases hos) | false => (refine (decide_eq_false ?_).symm; intro hz; rw [ground_of hto (hr2.1 (List.eq_nil_of_length_eq_zero (by omega)))] at hos; cases hos)))), rfl, rfl⟩
 rw [Bool.not_eq_true] at h1
 have hto : termOk ar t = false := h1
 refine qp (t := 8) rfl (vB h1) (qp (t := 8) rfl (vB h1) (qp (t := 8) rfl (vB h1) (qp (t := 8) rfl (vB h1) (cX (qL (.bool (false)) (vB h1) rfl (qg (.bool (false)) rfl (qb (qq (qn (L' := L) [.bool (false)] (.bool (false)) (.tmp rfl .nil) rfl rF rF (sD sR) ?_)))))))))
 exact ⟨(vB ((ground_no hto))), rfl, rfl⟩

/- spec.l1Into -/
theorem l1IntoE_spec {F : FH} {L : List HP} {xsv : Value} {xs : List Int} (hxs : IntsF F xsv xs) {n : Int} (hlx : xs.length ≤ 1000) :
    Does prog 174 [xsv, ii (n)] F (L) (fun v F' L' => ∃ (a : Value), ∃ (os : List Int), (a : Value) = v ∧ (IntsF F' a os) ∧ (1 ≤ os.length) ∧ (os.length ≤ xs.length + 1) ∧ L = L') := by
 refine qB func174 rfl rfl rfl (qc (qa (qg (sN) rfl (qb (qc (qa (qg (ii (0)) rfl (qb (qc (qF (ja (α := Nat) (fun k => [(0, xsv), (1, ii (n)), (5, ii ((k : Int)))]) (fun k => L) (fun k F' => F = F' ∧ (k ≤ xs.length)) (fun k => xs.length - k) 0 ⟨rfl, rfl, rfl, ⟨⟩⟩ sR ⟨rfl, (Nat.zero_le _)⟩ ?_)))))))))))
 rintro k rE _ _ ⟨rfl, hk⟩
 show X _ _ _ _ (envs [(0, xsv), (1, ii (n)), (5, ii ((k : Int)))] rE) _ (L)
 refine qc (qc (qa (qd (ii ((k : Int))) rfl (qd (xsv) rfl (cX (qy qf rfl hxs.slv (cX (qI rfl rfl (qd (.bool (decide ((k : Int) < (xs.length : Int)))) rfl ?_)))))))))
 by_cases h1 : (k : Int) < (xs.length : Int)
 ·refine qo (t := 11) rfl (vT h1) (qm (xsv) rfl (qo (t := 11) rfl (vT h1) (qm (ii ((k : Int))) rfl (qo (t := 11) rfl (vT h1) (qx k qf qE rfl rfl rfl hxs.slv (by omega) (Nat.mul_one _) (qo (t := 11) rfl (vT h1) (qi qS rfl (hxs.rd (by omega)) (qo (t := 11) rfl (vT h1) (qm (ii (n)) rfl (qo (t := 11) rfl (vT h1) (qI rfl rfl (cX (qM (.bool (decide ((xs.getD k 0 : Int) < n))) (vT h1) rfl (qb ?_))))))))))))))
  refine qv (p := (xs.getD k 0 : Int) < n) rfl (fun h2 => ?_) (fun h2 => ?_)
  ·refine qw (qF (qa (qd (ii ((k : Int))) rfl (cX (qG (((k + 1 : Nat) : Int)) rfl rfl (by omega) (by omega) (qg (ii (((k + 1 : Nat) : Int))) rfl (qb ?_)))))))
   exact ⟨k + 1, _, FLe.refl _, rF, ⟨rfl, rfl, rfl, ⟨⟩⟩, sR, ⟨rfl, (by (try dsimp only) <;> omega)⟩, (by omega)⟩
  refine qX (qr (qr (qJ (qc (qc (qa (qd (ii ((k : Int))) rfl (qd (xsv) rfl (cX (qy qf rfl hxs.slv (cX (qI rfl rfl (qd (.bool (decide ((k : Int) < (xs.length : Int)))) rfl (qo (t := 25) rfl (vT h1) (qm (xsv) rfl (qo (t := 25) rfl (vT h1) (qm (ii ((k : Int))) rfl (qo (t := 25) rfl (vT h1) (qx k qf qE rfl rfl rfl hxs.slv (by omega) (Nat.mul_one _) ?_)))))))))))))))))))
  refine qo (t := 25) rfl (vT h1) (qi qS rfl (hxs.rd (by omega)) (qo (t := 25) rfl (vT h1) (qm (ii (n)) rfl (qo (t := 25) rfl (vT h1) (XOp.eql rfl rfl (cX (qM (.bool (decide ((xs.getD k 0 : Int) = n))) (vT h1) rfl (qb ?_))))))))
  refine qv (p := (xs.getD k 0 : Int) = n) rfl (fun h3 => ?_) (fun h3 => ?_)
  ·refine qc (qa (qd (xsv) rfl (qg (xsv) rfl (qb (qq (qh (qn (L' := L) [xsv] (xsv) (.tmp rfl .nil) rfl rF rF sR ?_)))))))
   exact ⟨_, _, rfl, hxs, by omega, by omega, rfl⟩
  refine qw (qc (qa (qd (xsv) rfl (qd (ii ((k : Int))) rfl (cX (jw 0 k qf qE rfl hxs rfl ⟨_, rfl⟩ (by omega) (by omega) ?_))))))
  intro v1 hv1 hn1
  refine cX (ql (args := [v1]) call42 rfl (l1Copy_spec hv1 (hlt := (by simp; omega))) ?_)
  rintro v2 _ _ _ ⟨rfl, hs1, rfl⟩
  refine qd (ii (n)) rfl (cX (qU (s := 1) [ii (n)] [ii (0)] [(0, [ii (n)])] qf qE jl rfl (by decide) rfl (.cons rfl CellsAre.nil) rfl ?_))
  intro v3 hv2
  refine cX (XOp.append1 (u := n) [_] _ qf typeInfo2 rfl rfl rfl rfl rfl rfl (SlV.own [] rfl) (Rd.sl [] rfl rfl) (by (try simp only [List.length_append, List.length_nil, List.length_cons, List.length_singleton, List.length_take, List.length_drop]); omega) ?_)
  intro v4 hs2 hn2
  refine qg (v4) rfl (qb (qc (qa (qd (v4) rfl (qd (xsv) rfl (qd (ii ((k : Int))) rfl (cX (jw k ((xs).length) qf qE rfl hxs ⟨_, rfl⟩ rfl (by omega) (by omega) ?_))))))))
  intro v5 hv3 hn3
  refine cX (XOp.appendI [_] _ qf typeInfo2 rfl rfl rfl rfl rfl rfl hv3 (by (try simp only [List.length_append, List.length_nil, List.length_cons, List.length_singleton, List.length_take, List.length_drop]); omega) ?_)
  intro v6 hs3 hn4 hm1
  refine qg (v6) rfl (qb (jv [_] _ _ rfl (fun F1 le1 hz1 => ?_)))
  replace hxs := hxs.mono le1
  have hf1 : IntsF F1 v6 (((((((xs.drop 0).take (k - 0))))) ++ [n]) ++ (((xs.drop k).take (((xs).length) - k)))) := intsH.fz (xs := ((((((xs.drop 0).take (k - 0))))) ++ [n]) ++ (((xs.drop k).take (((xs).length) - k)))) hz1.fz
  refine qq (qn (L' := L) [v6] (v6) (.tmp rfl .nil) rfl le1 rF (sD sR) ?_)
  exact ⟨_, _, rfl, hf1, by simp only [List.length_append, List.length_singleton]; omega, by simp only [List.length_append, List.length_take, List.length_drop, List.length_singleton]; omega, rfl⟩
 refine qp (t := 11) rfl (vF h1) (qp (t := 11) rfl (vF h1) (qp (t := 11) rfl (vF h1) (qp (t := 11) rfl (vF h1) (qp (t := 11) rfl (vF h1) (qp (t := 11) rfl (vF h1) (cX (qL (.bool (false)) (vF h1) rfl (qb (X.condF rfl (qX (qr (qr (qJ ?_)))))))))))))
 refine qc (qc (qa (qd (ii ((k : Int))) rfl (qd (xsv) rfl (cX (qy qf rfl hxs.slv (cX (qI rfl rfl (qd (.bool (decide ((k : Int) < (xs.length : Int)))) rfl (qp (t := 25) rfl (vF h1) (qp (t := 25) rfl (vF h1) (qp (t := 25) rfl (vF h1) (qp (t := 25) rfl (vF h1) ?_)))))))))))))
 refine qp (t := 25) rfl (vF h1) (qp (t := 25) rfl (vF h1) (cX (qL (.bool (false)) (vF h1) rfl (qb (X.condF rfl (qw (qc (qa (qd (xsv) rfl (qd (ii ((k : Int))) rfl (cX (jw 0 k qf qE rfl hxs rfl ⟨_, rfl⟩ (by omega) (by omega) ?_))))))))))))
 intro v7 hv4 hn5
 refine cX (ql (args := [v7]) call42 rfl (l1Copy_spec hv4 (hlt := (by simp; omega))) ?_)
 rintro v8 _ _ _ ⟨rfl, hs4, rfl⟩
 refine qd (ii (n)) rfl (cX (qU (s := 1) [ii (n)] [ii (0)] [(0, [ii (n)])] qf qE jl rfl (by decide) rfl (.cons rfl CellsAre.nil) rfl ?_))
 intro v9 hv5
 refine cX (XOp.append1 (u := n) [_] _ qf typeInfo2 rfl rfl rfl rfl rfl rfl (SlV.own [] rfl) (Rd.sl [] rfl rfl) (by (try simp only [List.length_append, List.length_nil, List.length_cons, List.length_singleton, List.length_take, List.length_drop]); omega) ?_)
 intro v10 hs5 hn6
 refine qg (v10) rfl (qb (qc (qa (qd (v10) rfl (qd (xsv) rfl (qd (ii ((k : Int))) rfl (cX (jw k ((xs).length) qf qE rfl hxs ⟨_, rfl⟩ rfl (by omega) (by omega) ?_))))))))
 intro v11 hv6 hn7
 refine cX (XOp.appendI [_] _ qf typeInfo2 rfl rfl rfl rfl rfl rfl hv6 (by (try simp only [List.length_append, List.length_nil, List.length_cons, List.length_singleton, List.length_take, List.length_drop]); omega) ?_)
 intro v12 hs6 hn8 hm2
 refine qg (v12) rfl (qb (jv [_] _ _ rfl (fun F2 le2 hz2 => ?_)))
 have hf2 : IntsF F2 v12 (((((((xs.drop 0).take (k - 0))))) ++ [n]) ++ (((xs.drop k).take (((xs).length) - k)))) := intsH.fz (xs := ((((((xs.drop 0).take (k - 0))))) ++ [n]) ++ (((xs.drop k).take (((xs).length) - k)))) hz2.fz
 refine qq (qn (L' := L) [v12] (v12) (.tmp rfl .nil) rfl le2 rF (sD sR) ?_)
 exact ⟨_, _, rfl, hf2, by simp only [List.length_append, List.length_singleton]; omega, by simp only [List.length_append, List.length_take, List.length_drop, List.length_singleton]; omega, rfl⟩

/- spec.l2Vars -/
theorem l2VarsE_spec {F : FH} {L : List HP} {tv : Value} {t : List Int} (ht : IntsF F tv t) (hlt : t.length ≤ 60) (htg : ∀ k, k < t.length → -24 ≤ t.getD k 0) :
    Does prog 101 [tv] F (L) (fun v F' L' => ∃ (a : Value), ∃ (os : List Int), (a : Value) = v ∧ (IntsF F' a os) ∧ ((os = [] → ∀ i, i < t.length → 0 ≤ t.getD i 0) ∧ (os ≠ [] → ∃ i, i < t.length ∧ t.getD i 0 < 0)) ∧ (os.length ≤ t.length) ∧ L = L') := by
 refine qB func101 rfl rfl rfl ?_
 have htgk := htg
 refine qc (qa (qg (sN) rfl (qb (qc (qa (cX (qU (s := 1) [] [ii (0)] [] qf qE jl rfl (by decide) rfl CellsAre.nil rfl ?_)))))))
 intro v1 hv1
 refine qg (v1) rfl (qb (qc (qc (qa ?_))))
 show XL _ _ _ _ _ _ _ (intsH 2 v1 ([] : List Int) :: L)
 refine XL.freezeF [] _ _ rfl (fun F1 le1 hz1 => ?_)
 replace ht := ht.mono le1
 have hf1 : IntsF F1 v1 ([]) := intsH.fz (xs := []) hz1.fz
 skip
 refine qg (ii (0)) rfl (qb (qF (ja (α := Nat × Value × List Int × FH) (fun xQ => [(0, tv), (3, xQ.2.1), (4, ii (((xQ.1 : Nat) : Int)))]) (fun xQ => L) (fun xQ F' => xQ.2.2.2 = F' ∧ F1 ≤ xQ.2.2.2 ∧ (IntsF xQ.2.2.2 xQ.2.1 xQ.2.2.1) ∧ (xQ.1 ≤ t.length) ∧ (xQ.2.2.1.length ≤ xQ.1) ∧ (xQ.2.2.1 = [] → ∀ i, i < xQ.1 → 0 ≤ t.getD i 0) ∧ (xQ.2.2.1 ≠ [] → ∃ i, i < t.length ∧ t.getD i 0 < 0)) (fun xQ => t.length - xQ.1) (0, v1, [], F1) ⟨rfl, rfl, rfl, ⟨⟩⟩ sR ⟨rfl, FLe.refl _, (hf1), (Nat.zero_le _), (by simp), (fun _ i hi => absurd hi (by omega)), (fun h => absurd rfl h)⟩ ?_)))
 rintro ⟨k, ov, os, G1⟩ rE _ _ ⟨rfl, leG, hov, hk, hol, hno, hye⟩
 show X _ _ _ _ (envs [(0, tv), (3, ov), (4, ii ((k : Int)))] rE) _ (L)
 replace leG : F1 ≤ G1 := leG
 dsimp only at hov hk hol hno hye
 have leG1 := leG
 replace ht := ht.mono leG1
 refine qc (qc (qa (qd (ii ((k : Int))) rfl (qd (tv) rfl (cX (qy qf rfl ht.slv (cX (qI rfl rfl (qb ?_)))))))))
 refine qv (p := (k : Int) < (t.length : Int)) rfl (fun h1 => ?_) (fun h1 => ?_)
 ·refine qw (qc (qF (qc (qa (qd (tv) rfl (qd (ii ((k : Int))) rfl (cX (qx k qf qE rfl rfl rfl ht.slv (by omega) (Nat.mul_one _) (cX (qi qS rfl (ht.rd (by omega)) (cX (qI rfl rfl (qb ?_)))))))))))))
  refine qv (p := (t.getD k 0 : Int) < 0) rfl (fun h2 => ?_) (fun h2 => ?_)
  ·have hneg := h2
   have htgk := htg k (by omega)
   refine qa (qd (ov) rfl (qd (tv) rfl (qd (ii ((k : Int))) rfl (cX (qx k qf qE rfl rfl rfl ht.slv (by omega) (Nat.mul_one _) (cX (qi qS rfl (ht.rd (by omega)) (cX (jg ((-1) - (t.getD k 0)) rfl rfl (by omega) (by omega) (cX (ql (args := [ov, ii ((-1) - (t.getD k 0))]) call174 rfl (l1IntoE_spec (n := (-1) - (t.getD k 0)) hov (hlx := (by first | assumption | rfl | omega | simp))) ?_)))))))))))
   rintro _ F2 _ le2 ⟨x1, x2, rfl, hr1, hr2, hr3, rfl⟩
   replace hov := hov.mono le2
   refine qg (x1) rfl (qb (qa (qd (ii ((k : Int))) rfl (cX (qG (((k + 1 : Nat) : Int)) rfl rfl (by omega) (by omega) (qg (ii (((k + 1 : Nat) : Int))) rfl (qb ?_)))))))
   exact ⟨(k + 1, x1, x2, F2), _, (qt leG1 le2), rF, ⟨rfl, rfl, rfl, ⟨⟩⟩, sR, ⟨rfl, (qt leG1 le2), (hr1), (by (try dsimp only) <;> omega), (by (try dsimp only); have h9 := hr3; omega), ((fun e => absurd (congrArg List.length e) (by have h9 := hr2; (try dsimp only); simp only [List.length_nil]; omega))), ((fun _ => ⟨k, by omega, hneg⟩))⟩, (by omega)⟩
  have hneg := h2
  have htgk := htg k (by omega)
  refine qw (qa (qd (ii ((k : Int))) rfl (cX (qG (((k + 1 : Nat) : Int)) rfl rfl (by omega) (by omega) (qg (ii (((k + 1 : Nat) : Int))) rfl (qb ?_))))))
  exact ⟨(k + 1, ov, os, G1), _, leG1, rF, ⟨rfl, rfl, rfl, ⟨⟩⟩, sR, ⟨rfl, leG1, (hov), (by (try dsimp only) <;> omega), (by (try dsimp only); omega), (fun e i hi => (Nat.lt_or_ge i k).elim (fun h => hno e i h) (fun h => by obtain rfl : i = k := (by omega); omega)), (hye)⟩, (by omega)⟩
 refine qX (qr (qr (qJ (qc (qa (qd (ov) rfl (qg (ov) rfl (qb (qq (qn (L' := L) [ov] (ov) (.tmp rfl .nil) rfl (qt le1 leG1) rF sR ?_))))))))))
 exact ⟨_, _, rfl, hov, ⟨fun e i hi => hno e i (by omega), hye⟩, by omega, rfl⟩

/- spec.GroundIn -/
theorem sGroundIn_spec {F : FH} {L : List HP} {arv : Value} {ar : List Int} (har : IntsF F arv ar) {tv : Value} {t : List Int} (ht : IntsF F tv t) (hla : ar.length ≤ 4000000) (hlt : t.length ≤ 4000000) :
    Does prog 40 [.agg #[arv], tv] F (L) (fun v F' L' => (.bool (groundB ar t) : Value) = v ∧ F = F' ∧ L = L') := by
 refine qB func40 rfl rfl rfl (qc (qa (cX (qP [arv] rfl rfl ?_))))
 intro b1
 refine qg (.bool (false)) rfl (qb (qc (qa (cX (qC [arv] qW qH rfl rfl (Rd.ownN [] rfl rfl) (qd (tv) rfl (cX (ql (args := [.agg #[arv], tv]) call100 rfl (sTermOk_spec har ht (hla := (by first | assumption | rfl | omega | simp)) (hlt := (by first | assumption | rfl | omega | simp))) ?_))))))))
 rintro _ _ _ _ ⟨rfl, rfl, rfl⟩
 refine qd (.bool (termOk ar t)) rfl ?_
 by_cases h1 : (termOk ar t) = true
 ·have hto : termOk ar t = true := h1
  have htl := termOk_len hto
  have htg := fun k (hk : k < t.length) => termOk_ge hto hk
  refine qo (t := 8) rfl (vB h1) (qm (tv) rfl (qo (t := 8) rfl (vB h1) (ql (args := [tv]) call101 rfl (l2VarsE_spec ht (hlt := (by first | assumption | rfl | omega | simp)) (htg := (by first | assumption | rfl | omega | simp))) ?_)))
  rintro _ F1 _ le1 ⟨x1, x2, rfl, hr1, hr2, hr3, rfl⟩
  refine qo (t := 8) rfl (vB h1) (qy qf rfl hr1.slv (qo (t := 8) rfl (vB h1) (XOp.eql rfl rfl (cX (qM (.bool (decide (((x2.length : Int) : Int) = 0))) (vB h1) rfl (qg (.bool (decide (((x2.length : Int) : Int) = 0))) rfl (qb (qq (qn (L' := L) [.bool (decide (((x2.length : Int) : Int) = 0))] (.bool (decide (((x2.length : Int) : Int) = 0))) (.tmp rfl .nil) rfl rF le1 (sD sR) ?_)))))))))
  exact ⟨(vB ((ground_dec hto (fun e => hr2.1 e) (fun e => hr2.2 e)))), rfl, rfl⟩
 rw [Bool.not_eq_true] at h1
 have hto : termOk ar t = false := h1
 refine qp (t := 8) rfl (vB h1) (qp (t := 8) rfl (vB h1) (qp (t := 8) rfl (vB h1) (qp (t := 8) rfl (vB h1) (cX (qL (.bool (false)) (vB h1) rfl (qg (.bool (false)) rfl (qb (qq (qn (L' := L) [.bool (false)] (.bool (false)) (.tmp rfl .nil) rfl rF rF (sD sR) ?_)))))))))
 exact ⟨(vB ((ground_no hto))), rfl, rfl⟩

/- spec.l23Set -/
set_option maxRecDepth 20000 in
theorem l23Set_spec {F : FH} {L : List HP} {fsv : Value} {fs : List Int} (hfs : IntsF F fsv fs) {n : Int} (hlf : fs.length ≤ 4000000) (hn : 0 ≤ n ∧ n ≤ 4000000) :
    Does prog 89 [fsv, ii (n)] F (L) (fun v F' L' => (.bool (setB fs n) : Value) = v ∧ F = F' ∧ L = L') := by
 refine qB func89 rfl rfl rfl (qc (qa (qg (.bool (false)) rfl (qb (qc (qc (qa (qg (ii (0)) rfl (qb (qF (ja (α := Nat) (fun k => [(0, fsv), (1, ii (n)), (5, ii ((k : Int)))]) (fun k => L) (fun k F' => F = F' ∧ (k ≤ fs.length) ∧ (∀ i, i < k → (0 ≤ fs.getD i 0 ∧ fs.getD i 0 < n) ∧ (0 < i → fs.getD ((i : Int) - 1).toNat 0 < fs.getD i 0))) (fun k => fs.length - k) 0 ⟨rfl, rfl, rfl, ⟨⟩⟩ sR ⟨rfl, (by (try dsimp only) <;> omega), (fun i hi => absurd hi (by omega))⟩ ?_)))))))))))
 rintro k rE _ _ ⟨rfl, hk, hall⟩
 show X _ _ _ _ (envs [(0, fsv), (1, ii (n)), (5, ii ((k : Int)))] rE) _ (L)
 refine qc (qc (qa (qd (ii ((k : Int))) rfl (qd (fsv) rfl (cX (qy qf rfl hfs.slv (cX (qI rfl rfl (qb ?_)))))))))
 refine qv (p := (k : Int) < (fs.length : Int)) rfl (fun h1 => ?_) (fun h1 => ?_)
 ·refine qw (qc (qF (qc ?_)))
  by_cases h2 : ¬(0 ≤ (fs.getD k 0) ∧ (fs.getD k 0) ≤ (n - 1))
  ·refine ju [] L 21 [] [[], [], [0, 1], [2], [], [4], [3, 5], [6], [7], [8], [8, 9], [8, 10], [11], [11], [11, 12, 13], [11, 14], [11], [11], [11, 17], [11, 16, 18], [11, 19]] (phiL [qe fsv, qe (ii ((k : Int)) : Value), qe (.pointer (some (elemA fsv (k)))), qe (ii (fs.getD k 0)), qe (ii (n)), qe (ii (n - 1)), qe (.bool (decide (0 ≤ (fs.getD k 0) ∧ (fs.getD k 0) ≤ (n - 1)))), qe (.bool (decide (¬(0 ≤ (fs.getD k 0) ∧ (fs.getD k 0) ≤ (n - 1))))), qe (.bool (decide (¬(0 ≤ (fs.getD k 0) ∧ (fs.getD k 0) ≤ (n - 1))))), qe undef, qe undef, qe undef, qe undef, qe undef, qe undef, qe undef, qe undef, qe undef, qe undef, qe undef, qe undef]) (ownL []) mixed rfl rfl (by kernel_rfl) ?_ ?_
   ·refine pD (fun W R z9 => ?_) ?_
    ·refine qj (qm (fsv) rfl ?_)
     exact ⟨rfl, rfl, rfl⟩
    refine pD (fun W R z9 => ?_) ?_
    ·refine qj (qm (ii ((k : Int))) rfl ?_)
     exact ⟨rfl, rfl, rfl⟩
    refine pD (fun W R z9 => ?_) ?_
    ·rw [eS (l := [(0, _), (1, _)]) ⟨z9 0 rfl, z9 1 rfl, ⟨⟩⟩]
     refine qj (qx k qf qE rfl rfl rfl hfs.slv (by omega) (Nat.mul_one _) ?_)
     exact ⟨rfl, rfl, rfl⟩
    refine pD (fun W R z9 => ?_) ?_
    ·rw [eS (l := [(2, _)]) ⟨z9 2 rfl, ⟨⟩⟩]
     refine qj (qi qS rfl (hfs.rd (by omega)) ?_)
     exact ⟨rfl, rfl, rfl⟩
    refine pD (fun W R z9 => ?_) ?_
    ·refine qj (qm (ii (n)) rfl ?_)
     exact ⟨rfl, rfl, rfl⟩
    refine pD (fun W R z9 => ?_) ?_
    ·rw [eS (l := [(4, _)]) ⟨z9 4 rfl, ⟨⟩⟩]
     refine qj (jg (n - 1) rfl rfl (by omega) (by omega) ?_)
     exact ⟨rfl, rfl, rfl⟩
    refine pD (fun W R z9 => ?_) ?_
    ·rw [eS (l := [(3, _), (5, _)]) ⟨z9 3 rfl, z9 5 rfl, ⟨⟩⟩]
     refine qj (ql (args := [ii (fs.getD k 0), ii (0), ii (n - 1)]) call41 rfl (l1In_spec (n := fs.getD k 0) (a := 0) (b := n - 1)) ?_)
     rintro _ _ _ _ ⟨rfl, rfl, rfl⟩
     exact ⟨rfl, rfl, rfl⟩
    refine pD (fun W R z9 => ?_) ?_
    ·rw [eS (l := [(6, _)]) ⟨z9 6 rfl, ⟨⟩⟩]
     refine qj (jo rfl ?_)
     exact ⟨rfl, rfl, rfl⟩
    refine pD (fun W R z9 => ?_) ?_
    ·rw [eS (l := [(7, _)]) ⟨z9 7 rfl, ⟨⟩⟩]
     refine qj (qm (.bool (decide (¬(0 ≤ (fs.getD k 0) ∧ (fs.getD k 0) ≤ (n - 1))))) rfl ?_)
     exact ⟨rfl, rfl, rfl⟩
    refine pD (fun W R z9 => ?_) ?_
    ·rw [eS (l := [(8, _)]) ⟨z9 8 rfl, ⟨⟩⟩]
     exact qY (t := 20) rfl (vT h2) ⟨rfl, rfl, rfl⟩
    refine pD (fun W R z9 => ?_) ?_
    ·rw [eS (l := [(8, _), (9, undef)]) ⟨z9 8 rfl, z9 9 rfl, ⟨⟩⟩]
     exact qY (t := 20) rfl (vT h2) ⟨rfl, rfl, rfl⟩
    refine pD (fun W R z9 => ?_) ?_
    ·rw [eS (l := [(8, _), (10, undef)]) ⟨z9 8 rfl, z9 10 rfl, ⟨⟩⟩]
     exact qY (t := 20) rfl (vT h2) ⟨rfl, rfl, rfl⟩
    refine pD (fun W R z9 => ?_) ?_
    ·rw [eS (l := [(11, undef)]) ⟨z9 11 rfl, ⟨⟩⟩]
     exact XG.noU (t := 23) rfl rfl ⟨rfl, rfl, rfl⟩
    refine pD (fun W R z9 => ?_) ?_
    ·rw [eS (l := [(11, undef)]) ⟨z9 11 rfl, ⟨⟩⟩]
     exact XG.noU (t := 23) rfl rfl ⟨rfl, rfl, rfl⟩
    refine pD (fun W R z9 => ?_) ?_
    ·rw [eS (l := [(11, undef), (12, undef), (13, undef)]) ⟨z9 11 rfl, z9 12 rfl, z9 13 rfl, ⟨⟩⟩]
     exact XG.noU (t := 23) rfl rfl ⟨rfl, rfl, rfl⟩
    refine pD (fun W R z9 => ?_) ?_
    ·rw [eS (l := [(11, undef), (14, undef)]) ⟨z9 11 rfl, z9 14 rfl, ⟨⟩⟩]
     exact XG.noU (t := 23) rfl rfl ⟨rfl, rfl, rfl⟩
    refine pD (fun W R z9 => ?_) ?_
    ·rw [eS (l := [(11, undef)]) ⟨z9 11 rfl, ⟨⟩⟩]
     exact XG.noU (t := 23) rfl rfl ⟨rfl, rfl, rfl⟩
    refine pD (fun W R z9 => ?_) ?_
    ·rw [eS (l := [(11, undef)]) ⟨z9 11 rfl, ⟨⟩⟩]
     exact XG.noU (t := 23) rfl rfl ⟨rfl, rfl, rfl⟩
    refine pD (fun W R z9 => ?_) ?_
    ·rw [eS (l := [(11, undef), (17, undef)]) ⟨z9 11 rfl, z9 17 rfl, ⟨⟩⟩]
     exact XG.noU (t := 23) rfl rfl ⟨rfl, rfl, rfl⟩
    refine pD (fun W R z9 => ?_) ?_
    ·rw [eS (l := [(11, undef), (16, undef), (18, undef)]) ⟨z9 11 rfl, z9 16 rfl, z9 18 rfl, ⟨⟩⟩]
     exact XG.noU (t := 23) rfl rfl ⟨rfl, rfl, rfl⟩
    refine pD (fun W R z9 => ?_) ?_
    ·rw [eS (l := [(11, undef), (19, undef)]) ⟨z9 11 rfl, z9 19 rfl, ⟨⟩⟩]
     exact XG.noU (t := 23) rfl rfl ⟨rfl, rfl, rfl⟩
    exact stepsP.nil
   intro W hphi
   rw [eS (l := [(8, _), (11, undef), (15, undef), (20, undef)]) ⟨(hphi 8 (by decide)), (hphi 11 (by decide)), (hphi 15 (by decide)), (hphi 20 (by decide)), ⟨⟩⟩]
   show XL _ _ _ _ _ _ _ (L)
   refine XL.noU (t := 23) rfl rfl (qp (t := 20) rfl (vT h2) (cX (qM (.bool (true)) (vT h2) rfl (qb (jr rfl (qc (qa (qg (.bool (false)) rfl (qb (qq (qu (qh (qh (qu (qh (qn (L' := L) [.bool (false)] (.bool (false)) (.tmp rfl .nil) rfl rF rF sR ?_))))))))))))))))
   exact ⟨(vB (set_no (k := k) (by omega) (fun h9 => by omega))), rfl, rfl⟩
  by_cases h3 : (k : Int) > 0
  ·refine ju [] L 21 [] [[], [], [0, 1], [2], [], [4], [3, 5], [6], [7], [8], [8, 9], [8, 10], [11], [11], [11, 12, 13], [11, 14], [11], [11], [11, 17], [11, 16, 18], [11, 19]] (phiL [qe fsv, qe (ii ((k : Int)) : Value), qe (.pointer (some (elemA fsv (k)))), qe (ii (fs.getD k 0)), qe (ii (n)), qe (ii (n - 1)), qe (.bool (decide (0 ≤ (fs.getD k 0) ∧ (fs.getD k 0) ≤ (n - 1)))), qe (.bool (decide (¬(0 ≤ (fs.getD k 0) ∧ (fs.getD k 0) ≤ (n - 1))))), qe (.bool (decide (¬(0 ≤ (fs.getD k 0) ∧ (fs.getD k 0) ≤ (n - 1))))), qe (ii ((k : Int)) : Value), qe (.bool (decide ((k : Int) > 0)) : Value), qe (.bool (decide ((k : Int) > 0)) : Value), qe fsv, qe (ii ((k : Int)) : Value), qe (.pointer (some (elemA fsv (k)))), qe (ii (fs.getD k 0)), qe fsv, qe (ii ((k : Int)) : Value), qe (ii (((k : Int)) - 1) : Value), qe (.pointer (some (elemA fsv ((((k : Int)) - 1).toNat))) : Value), qe (ii (fs.getD ((((k : Int)) - 1).toNat) 0) : Value)]) (ownL []) mixed rfl rfl (by kernel_rfl) ?_ ?_
   ·refine pD (fun W R z9 => ?_) ?_
    ·refine qj (qm (fsv) rfl ?_)
     exact ⟨rfl, rfl, rfl⟩
    refine pD (fun W R z9 => ?_) ?_
    ·refine qj (qm (ii ((k : Int))) rfl ?_)
     exact ⟨rfl, rfl, rfl⟩
    refine pD (fun W R z9 => ?_) ?_
    ·rw [eS (l := [(0, _), (1, _)]) ⟨z9 0 rfl, z9 1 rfl, ⟨⟩⟩]
     refine qj (qx k qf qE rfl rfl rfl hfs.slv (by omega) (Nat.mul_one _) ?_)
     exact ⟨rfl, rfl, rfl⟩
    refine pD (fun W R z9 => ?_) ?_
    ·rw [eS (l := [(2, _)]) ⟨z9 2 rfl, ⟨⟩⟩]
     refine qj (qi qS rfl (hfs.rd (by omega)) ?_)
     exact ⟨rfl, rfl, rfl⟩
    refine pD (fun W R z9 => ?_) ?_
    ·refine qj (qm (ii (n)) rfl ?_)
     exact ⟨rfl, rfl, rfl⟩
    refine pD (fun W R z9 => ?_) ?_
    ·rw [eS (l := [(4, _)]) ⟨z9 4 rfl, ⟨⟩⟩]
     refine qj (jg (n - 1) rfl rfl (by omega) (by omega) ?_)
     exact ⟨rfl, rfl, rfl⟩
    refine pD (fun W R z9 => ?_) ?_
    ·rw [eS (l := [(3, _), (5, _)]) ⟨z9 3 rfl, z9 5 rfl, ⟨⟩⟩]
     refine qj (ql (args := [ii (fs.getD k 0), ii (0), ii (n - 1)]) call41 rfl (l1In_spec (n := fs.getD k 0) (a := 0) (b := n - 1)) ?_)
     rintro _ _ _ _ ⟨rfl, rfl, rfl⟩
     exact ⟨rfl, rfl, rfl⟩
    refine pD (fun W R z9 => ?_) ?_
    ·rw [eS (l := [(6, _)]) ⟨z9 6 rfl, ⟨⟩⟩]
     refine qj (jo rfl ?_)
     exact ⟨rfl, rfl, rfl⟩
    refine pD (fun W R z9 => ?_) ?_
    ·rw [eS (l := [(7, _)]) ⟨z9 7 rfl, ⟨⟩⟩]
     refine qj (qm (.bool (decide (¬(0 ≤ (fs.getD k 0) ∧ (fs.getD k 0) ≤ (n - 1))))) rfl ?_)
     exact ⟨rfl, rfl, rfl⟩
    refine pD (fun W R z9 => ?_) ?_
    ·rw [eS (l := [(8, _)]) ⟨z9 8 rfl, ⟨⟩⟩]
     refine qR (t := 20) rfl (vF h2) (qm (ii ((k : Int))) rfl ?_)
     exact ⟨rfl, rfl, rfl⟩
    refine pD (fun W R z9 => ?_) ?_
    ·rw [eS (l := [(8, _), (9, _)]) ⟨z9 8 rfl, z9 9 rfl, ⟨⟩⟩]
     refine qR (t := 20) rfl (vF h2) (jt rfl rfl ?_)
     exact ⟨rfl, rfl, rfl⟩
    refine pD (fun W R z9 => ?_) ?_
    ·rw [eS (l := [(8, _), (10, _)]) ⟨z9 8 rfl, z9 10 rfl, ⟨⟩⟩]
     refine qR (t := 20) rfl (vF h2) (qm (.bool (decide ((k : Int) > 0))) rfl ?_)
     exact ⟨rfl, rfl, rfl⟩
    refine pD (fun W R z9 => ?_) ?_
    ·rw [eS (l := [(11, _)]) ⟨z9 11 rfl, ⟨⟩⟩]
     refine qR (t := 23) rfl (vT h3) (qm (fsv) rfl ?_)
     exact ⟨rfl, rfl, rfl⟩
    refine pD (fun W R z9 => ?_) ?_
    ·rw [eS (l := [(11, _)]) ⟨z9 11 rfl, ⟨⟩⟩]
     refine qR (t := 23) rfl (vT h3) (qm (ii ((k : Int))) rfl ?_)
     exact ⟨rfl, rfl, rfl⟩
    refine pD (fun W R z9 => ?_) ?_
    ·rw [eS (l := [(11, _), (12, _), (13, _)]) ⟨z9 11 rfl, z9 12 rfl, z9 13 rfl, ⟨⟩⟩]
     refine qR (t := 23) rfl (vT h3) (qx k qf qE rfl rfl rfl hfs.slv (by omega) (Nat.mul_one _) ?_)
     exact ⟨rfl, rfl, rfl⟩
    refine pD (fun W R z9 => ?_) ?_
    ·rw [eS (l := [(11, _), (14, _)]) ⟨z9 11 rfl, z9 14 rfl, ⟨⟩⟩]
     refine qR (t := 23) rfl (vT h3) (qi qS rfl (hfs.rd (by omega)) ?_)
     exact ⟨rfl, rfl, rfl⟩
    refine pD (fun W R z9 => ?_) ?_
    ·rw [eS (l := [(11, _)]) ⟨z9 11 rfl, ⟨⟩⟩]
     refine qR (t := 23) rfl (vT h3) (qm (fsv) rfl ?_)
     exact ⟨rfl, rfl, rfl⟩
    refine pD (fun W R z9 => ?_) ?_
    ·rw [eS (l := [(11, _)]) ⟨z9 11 rfl, ⟨⟩⟩]
     refine qR (t := 23) rfl (vT h3) (qm (ii ((k : Int))) rfl ?_)
     exact ⟨rfl, rfl, rfl⟩
    refine pD (fun W R z9 => ?_) ?_
    ·rw [eS (l := [(11, _), (17, _)]) ⟨z9 11 rfl, z9 17 rfl, ⟨⟩⟩]
     refine qR (t := 23) rfl (vT h3) (jg (((k : Int)) - 1) rfl rfl (by omega) (by omega) ?_)
     exact ⟨rfl, rfl, rfl⟩
    refine pD (fun W R z9 => ?_) ?_
    ·rw [eS (l := [(11, _), (16, _), (18, _)]) ⟨z9 11 rfl, z9 16 rfl, z9 18 rfl, ⟨⟩⟩]
     refine qR (t := 23) rfl (vT h3) (qx ((((k : Int)) - 1).toNat) qf qE rfl rfl (by omega) hfs.slv (by omega) (Nat.mul_one _) ?_)
     exact ⟨rfl, rfl, rfl⟩
    refine pD (fun W R z9 => ?_) ?_
    ·rw [eS (l := [(11, _), (19, _)]) ⟨z9 11 rfl, z9 19 rfl, ⟨⟩⟩]
     refine qR (t := 23) rfl (vT h3) (qi qS rfl (hfs.rd (by omega)) ?_)
     exact ⟨rfl, rfl, rfl⟩
    exact stepsP.nil
   intro W hphi
   rw [eS (l := [(8, _), (11, _), (15, _), (20, _)]) ⟨(hphi 8 (by decide)), (hphi 11 (by decide)), (hphi 15 (by decide)), (hphi 20 (by decide)), ⟨⟩⟩]
   show XL _ _ _ _ _ _ _ (L)
   refine qo (t := 23) rfl (vT h3) (XOp.leq rfl rfl (qo (t := 20) rfl (vF h2) (qM (.bool (decide ((fs.getD k 0 : Int) ≤ fs.getD ((((k : Int)) - 1).toNat) 0))) (vT h3) rfl (cX (qL (.bool (decide ((fs.getD k 0 : Int) ≤ fs.getD ((((k : Int)) - 1).toNat) 0))) (vF h2) rfl (qb ?_))))))
   refine qv (p := (fs.getD k 0 : Int) ≤ fs.getD ((((k : Int)) - 1).toNat) 0) rfl (fun h4 => ?_) (fun h4 => ?_)
   ·refine qc (qa (qg (.bool (false)) rfl (qb (qq (qu (qh (qh (qu (qh (qn (L' := L) [.bool (false)] (.bool (false)) (.tmp rfl .nil) rfl rF rF sR ?_))))))))))
    exact ⟨(vB (set_no (k := k) (by omega) (fun h9 => by omega))), rfl, rfl⟩
   refine qw (qa (qd (ii ((k : Int))) rfl (cX (qG (((k + 1 : Nat) : Int)) rfl rfl (by omega) (by omega) (qg (ii (((k + 1 : Nat) : Int))) rfl (qb ?_))))))
   exact ⟨k + 1, _, FLe.refl _, rF, ⟨rfl, rfl, rfl, ⟨⟩⟩, sR, ⟨rfl, (by (try dsimp only) <;> omega), (fun i hi => (Nat.lt_or_ge i k).elim (fun h => hall i h) (fun h => by obtain rfl : i = k := (by omega); omega))⟩, (by omega)⟩
  refine ju [] L 21 [] [[], [], [0, 1], [2], [], [4], [3, 5], [6], [7], [8], [8, 9], [8, 10], [11], [11], [11, 12, 13], [11, 14], [11], [11], [11, 17], [11, 16, 18], [11, 19]] (phiL [qe fsv, qe (ii ((k : Int)) : Value), qe (.pointer (some (elemA fsv (k)))), qe (ii (fs.getD k 0)), qe (ii (n)), qe (ii (n - 1)), qe (.bool (decide (0 ≤ (fs.getD k 0) ∧ (fs.getD k 0) ≤ (n - 1)))), qe (.bool (decide (¬(0 ≤ (fs.getD k 0) ∧ (fs.getD k 0) ≤ (n - 1))))), qe (.bool (decide (¬(0 ≤ (fs.getD k 0) ∧ (fs.getD k 0) ≤ (n - 1))))), qe (ii ((k : Int)) : Value), qe (.bool (decide ((k : Int) > 0)) : Value), qe (.bool (decide ((k : Int) > 0)) : Value), qe undef, qe undef, qe undef, qe undef, qe undef, qe undef, qe undef, qe undef, qe undef]) (ownL []) mixed rfl rfl (by kernel_rfl) ?_ ?_
  ·refine pD (fun W R z9 => ?_) ?_
   ·refine qj (qm (fsv) rfl ?_)
    exact ⟨rfl, rfl, rfl⟩
   refine pD (fun W R z9 => ?_) ?_
   ·refine qj (qm (ii ((k : Int))) rfl ?_)
    exact ⟨rfl, rfl, rfl⟩
   refine pD (fun W R z9 => ?_) ?_
   ·rw [eS (l := [(0, _), (1, _)]) ⟨z9 0 rfl, z9 1 rfl, ⟨⟩⟩]
    refine qj (qx k qf qE rfl rfl rfl hfs.slv (by omega) (Nat.mul_one _) ?_)
    exact ⟨rfl, rfl, rfl⟩
   refine pD (fun W R z9 => ?_) ?_
   ·rw [eS (l := [(2, _)]) ⟨z9 2 rfl, ⟨⟩⟩]
    refine qj (qi qS rfl (hfs.rd (by omega)) ?_)
    exact ⟨rfl, rfl, rfl⟩
   refine pD (fun W R z9 => ?_) ?_
   ·refine qj (qm (ii (n)) rfl ?_)
    exact ⟨rfl, rfl, rfl⟩
   refine pD (fun W R z9 => ?_) ?_
   ·rw [eS (l := [(4, _)]) ⟨z9 4 rfl, ⟨⟩⟩]
    refine qj (jg (n - 1) rfl rfl (by omega) (by omega) ?_)
    exact ⟨rfl, rfl, rfl⟩
   refine pD (fun W R z9 => ?_) ?_
   ·rw [eS (l := [(3, _), (5, _)]) ⟨z9 3 rfl, z9 5 rfl, ⟨⟩⟩]
    refine qj (ql (args := [ii (fs.getD k 0), ii (0), ii (n - 1)]) call41 rfl (l1In_spec (n := fs.getD k 0) (a := 0) (b := n - 1)) ?_)
    rintro _ _ _ _ ⟨rfl, rfl, rfl⟩
    exact ⟨rfl, rfl, rfl⟩
   refine pD (fun W R z9 => ?_) ?_
   ·rw [eS (l := [(6, _)]) ⟨z9 6 rfl, ⟨⟩⟩]
    refine qj (jo rfl ?_)
    exact ⟨rfl, rfl, rfl⟩
   refine pD (fun W R z9 => ?_) ?_
   ·rw [eS (l := [(7, _)]) ⟨z9 7 rfl, ⟨⟩⟩]
    refine qj (qm (.bool (decide (¬(0 ≤ (fs.getD k 0) ∧ (fs.getD k 0) ≤ (n - 1))))) rfl ?_)
    exact ⟨rfl, rfl, rfl⟩
   refine pD (fun W R z9 => ?_) ?_
   ·rw [eS (l := [(8, _)]) ⟨z9 8 rfl, ⟨⟩⟩]
    refine qR (t := 20) rfl (vF h2) (qm (ii ((k : Int))) rfl ?_)
    exact ⟨rfl, rfl, rfl⟩
   refine pD (fun W R z9 => ?_) ?_
   ·rw [eS (l := [(8, _), (9, _)]) ⟨z9 8 rfl, z9 9 rfl, ⟨⟩⟩]
    refine qR (t := 20) rfl (vF h2) (jt rfl rfl ?_)
    exact ⟨rfl, rfl, rfl⟩
   refine pD (fun W R z9 => ?_) ?_
   ·rw [eS (l := [(8, _), (10, _)]) ⟨z9 8 rfl, z9 10 rfl, ⟨⟩⟩]
    refine qR (t := 20) rfl (vF h2) (qm (.bool (decide ((k : Int) > 0))) rfl ?_)
    exact ⟨rfl, rfl, rfl⟩
   refine pD (fun W R z9 => ?_) ?_
   ·rw [eS (l := [(11, _)]) ⟨z9 11 rfl, ⟨⟩⟩]
    exact qY (t := 23) rfl (vF h3) ⟨rfl, rfl, rfl⟩
   refine pD (fun W R z9 => ?_) ?_
   ·rw [eS (l := [(11, _)]) ⟨z9 11 rfl, ⟨⟩⟩]
    exact qY (t := 23) rfl (vF h3) ⟨rfl, rfl, rfl⟩
   refine pD (fun W R z9 => ?_) ?_
   ·rw [eS (l := [(11, _), (12, undef), (13, undef)]) ⟨z9 11 rfl, z9 12 rfl, z9 13 rfl, ⟨⟩⟩]
    exact qY (t := 23) rfl (vF h3) ⟨rfl, rfl, rfl⟩
   refine pD (fun W R z9 => ?_) ?_
   ·rw [eS (l := [(11, _), (14, undef)]) ⟨z9 11 rfl, z9 14 rfl, ⟨⟩⟩]
    exact qY (t := 23) rfl (vF h3) ⟨rfl, rfl, rfl⟩
   refine pD (fun W R z9 => ?_) ?_
   ·rw [eS (l := [(11, _)]) ⟨z9 11 rfl, ⟨⟩⟩]
    exact qY (t := 23) rfl (vF h3) ⟨rfl, rfl, rfl⟩
   refine pD (fun W R z9 => ?_) ?_
   ·rw [eS (l := [(11, _)]) ⟨z9 11 rfl, ⟨⟩⟩]
    exact qY (t := 23) rfl (vF h3) ⟨rfl, rfl, rfl⟩
   refine pD (fun W R z9 => ?_) ?_
   ·rw [eS (l := [(11, _), (17, undef)]) ⟨z9 11 rfl, z9 17 rfl, ⟨⟩⟩]
    exact qY (t := 23) rfl (vF h3) ⟨rfl, rfl, rfl⟩
   refine pD (fun W R z9 => ?_) ?_
   ·rw [eS (l := [(11, _), (16, undef), (18, undef)]) ⟨z9 11 rfl, z9 16 rfl, z9 18 rfl, ⟨⟩⟩]
    exact qY (t := 23) rfl (vF h3) ⟨rfl, rfl, rfl⟩
   refine pD (fun W R z9 => ?_) ?_
   ·rw [eS (l := [(11, _), (19, undef)]) ⟨z9 11 rfl, z9 19 rfl, ⟨⟩⟩]
    exact qY (t := 23) rfl (vF h3) ⟨rfl, rfl, rfl⟩
   exact stepsP.nil
  intro W hphi
  rw [eS (l := [(8, _), (11, _), (15, undef), (20, undef)]) ⟨(hphi 8 (by decide)), (hphi 11 (by decide)), (hphi 15 (by decide)), (hphi 20 (by decide)), ⟨⟩⟩]
  show XL _ _ _ _ _ _ _ (L)
  refine qp (t := 23) rfl (vF h3) (qo (t := 20) rfl (vF h2) (qL (.bool (false)) (vF h3) rfl (cX (qL (.bool (false)) (vF h2) rfl (qb (X.condF rfl (qw (qa (qd (ii ((k : Int))) rfl (cX (qG (((k + 1 : Nat) : Int)) rfl rfl (by omega) (by omega) (qg (ii (((k + 1 : Nat) : Int))) rfl (qb ?_)))))))))))))
  exact ⟨k + 1, _, FLe.refl _, rF, ⟨rfl, rfl, rfl, ⟨⟩⟩, sR, ⟨rfl, (by (try dsimp only) <;> omega), (fun i hi => (Nat.lt_or_ge i k).elim (fun h => hall i h) (fun h => by obtain rfl : i = k := (by omega); omega))⟩, (by omega)⟩
 refine qX (qr (qr (qJ (qc (qa (qg (.bool (true)) rfl (qb (qq (qn (L' := L) [.bool (true)] (.bool (true)) (.tmp rfl .nil) rfl rF rF sR ?_)))))))))
 exact ⟨(vB (set_iff.2 (fun i hi => hall i (by omega)))), rfl, rfl⟩

/- spec.l26Without -/
theorem l26Without_spec {F : FH} {L : List HP} {tv : Value} {t : List Int} (ht : IntsF F tv t) {fsv : Value} {fs : List Int} (hfs : IntsF F fsv fs) (hlt : t.length ≤ 4000000) (hlf : fs.length ≤ 4000000) :
    Does prog 104 [tv, fsv] F (L) (fun v F' L' => (.bool (freeB fs t) : Value) = v ∧ F = F' ∧ L = L') := by
 refine qB func104 rfl rfl rfl (qc (qa (qg (.bool (false)) rfl (qb (qc (qc (qa (qg (ii (0)) rfl (qb (qF (ja (α := Nat) (fun k => [(0, tv), (1, fsv), (5, ii ((k : Int)))]) (fun k => L) (fun k F' => F = F' ∧ (k ≤ t.length) ∧ (∀ i, i < k → (fun n => !decide (n ∈ fs)) (t.getD i 0) = true)) (fun k => t.length - k) 0 ⟨rfl, rfl, rfl, ⟨⟩⟩ sR ⟨rfl, (by (try dsimp only) <;> omega), (fun i hi => absurd hi (by omega))⟩ ?_)))))))))))
 rintro k rE _ _ ⟨rfl, hk, hall⟩
 show X _ _ _ _ (envs [(0, tv), (1, fsv), (5, ii ((k : Int)))] rE) _ (L)
 refine qc (qc (qa (qd (ii ((k : Int))) rfl (qd (tv) rfl (cX (qy qf rfl ht.slv (cX (qI rfl rfl (qb ?_)))))))))
 refine qv (p := (k : Int) < (t.length : Int)) rfl (fun h1 => ?_) (fun h1 => ?_)
 ·refine qw (qc (qF (qc (qa (qd (fsv) rfl (qd (tv) rfl (qd (ii ((k : Int))) rfl (cX (qx k qf qE rfl rfl rfl ht.slv (by omega) (Nat.mul_one _) (cX (qi qS rfl (ht.rd (by omega)) (cX (ql (args := [fsv, ii (t.getD k 0)]) call103 rfl (l1Has_spec (n := t.getD k 0) hfs (hbd := (by omega))) ?_)))))))))))))
  rintro _ _ _ _ ⟨rfl, rfl, rfl⟩
  refine qb ?_
  refine qv (p := (t.getD k 0) ∈ fs) rfl (fun h2 => ?_) (fun h2 => ?_)
  ·have hin := h2
   refine qc (qa (qg (.bool (false)) rfl (qb (qq (qu (qh (qh (qu (qh (qn (L' := L) [.bool (false)] (.bool (false)) (.tmp rfl .nil) rfl rF rF sR ?_))))))))))
   exact ⟨(vB (by unfold freeB; exact all_fail 0 (k := k) (by omega) (by simpa using hin))), rfl, rfl⟩
  have hin := h2
  refine qw (qa (qd (ii ((k : Int))) rfl (cX (qG (((k + 1 : Nat) : Int)) rfl rfl (by omega) (by omega) (qg (ii (((k + 1 : Nat) : Int))) rfl (qb ?_))))))
  exact ⟨k + 1, _, FLe.refl _, rF, ⟨rfl, rfl, rfl, ⟨⟩⟩, sR, ⟨rfl, (by (try dsimp only) <;> omega), (fun i hi => (Nat.lt_or_ge i k).elim (fun h => hall i h) (fun h => by obtain rfl : i = k := (by omega); simpa using hin))⟩, (by omega)⟩
 refine qX (qr (qr (qJ (qc (qa (qg (.bool (true)) rfl (qb (qq (qn (L' := L) [.bool (true)] (.bool (true)) (.tmp rfl .nil) rfl rF rF sR ?_)))))))))
 exact ⟨(vB (by unfold freeB; rw [all_getD_iff 0]; exact fun i hi => hall i (by omega))), rfl, rfl⟩

/- (impl.Front).calls$1 -/
theorem calls1_spec {F : FH} {L : List HP} {n : Int} {arv : Value} {ar : List Int} (har : IntsF F arv ar) {fsv : Value} {fs : List Int} (hfs : IntsF F fsv fs) {lsv : Value} {ls : List LineT} (hls : LinesF F lsv ls) {b : Nat} (hzb : FzC F b [arv, fsv, lsv]) (hlf : fs.length ≤ 4000000) :
    Does prog 210 [ii (n), ptr b 0] F (L) (fun v F' L' => (.bool (decide (n ∈ fs)) : Value) = v ∧ F = F' ∧ L = L') := by
 refine qB func210 rfl rfl rfl (qc (qa (qg (.bool (false)) rfl (qb (qc (qa (cX (qk (1) qD rfl qA (by decide) rfl rfl (cX (qi qK rfl (FzC.rd1 hzb rfl) (qd (ii (n)) rfl (cX (ql (args := [fsv, ii (n)]) call131 rfl (Contains_spec (n := n) hfs (hbd := (by first | assumption | rfl | omega | simp))) ?_)))))))))))))
 rintro _ _ _ _ ⟨rfl, rfl, rfl⟩
 refine qg (.bool (decide (n ∈ fs))) rfl (qb (qq (qn (L' := L) [.bool (decide (n ∈ fs))] (.bool (decide (n ∈ fs))) (.tmp rfl .nil) rfl rF rF sR ?_)))
 exact ⟨rfl, rfl, rfl⟩

/- slices.IndexFunc[[]int64,int64] -/
theorem IndexFuncF_spec {F : FH} {L : List HP} {tv : Value} {t : List Int} (ht : IntsF F tv t) {arv : Value} {ar : List Int} (har : IntsF F arv ar) {fsv : Value} {fs : List Int} (hfs : IntsF F fsv fs) {lsv : Value} {ls : List LineT} (hls : LinesF F lsv ls) {b : Nat} (hzb : FzC F b [arv, fsv, lsv]) (hlt : t.length ≤ 4000000) (hlf : fs.length ≤ 4000000) :
    Does prog 231 [tv, .func (.func 210) #[] #[ptr b 0]] F (L) (fun v F' L' => (ii (badG (fun n => !decide (n ∈ fs)) t) : Value) = v ∧ F = F' ∧ L = L') := by
 refine qB func231 rfl rfl rfl (qc (qa (qg (ii (0)) rfl (qb (qc (qc (qa (qd (tv) rfl (cX (qy qf rfl ht.slv (qd (ii (0)) rfl (qb (qF (ja (α := Nat) (fun k => [(0, tv), (1, .func (.func 210) #[] #[ptr b 0]), (7, ii ((t.length : Int))), (8, ii ((k : Int)))]) (fun k => L) (fun k F' => F = F' ∧ (k ≤ t.length) ∧ (∀ i, i < k → (fun n => !decide (n ∈ fs)) (t.getD i 0) = true)) (fun k => t.length - k) 0 ⟨rfl, rfl, rfl, rfl, ⟨⟩⟩ sR ⟨rfl, (by (try dsimp only) <;> omega), (fun i hi => absurd hi (by omega))⟩ ?_))))))))))))))
 rintro k rE _ _ ⟨rfl, hk, hall⟩
 show X _ _ _ _ (envs [(0, tv), (1, .func (.func 210) #[] #[ptr b 0]), (7, ii ((t.length : Int))), (8, ii ((k : Int)))] rE) _ (L)
 refine qc (qa (cX (qI rfl rfl (qb (qc ?_)))))
 refine qv (p := (k : Int) < (t.length : Int)) rfl (fun h1 => ?_) (fun h1 => ?_)
 ·refine qw (qc (qF (qc (qa (qd (ii ((k : Int))) rfl (qg (ii ((k : Int))) rfl (qb (qc (qa (qd (.func (.func 210) #[] #[ptr b 0]) rfl (qd (tv) rfl (qd (ii ((k : Int))) rfl (cX (qx k qf qE rfl rfl rfl ht.slv (by omega) (Nat.mul_one _) (cX (qi qS rfl (ht.rd (by omega)) (cX (XOp.callV (first := []) (captured := [ptr b 0]) (args := [ii (t.getD k 0), ptr b 0]) call210 rfl rfl (calls1_spec (n := t.getD k 0) har hfs hls hzb (hlf := (by first | assumption | rfl | omega | simp))) ?_))))))))))))))))))
  rintro _ _ _ _ ⟨rfl, rfl, rfl⟩
  refine qb ?_
  refine qv (p := (t.getD k 0) ∈ fs) rfl (fun h2 => ?_) (fun h2 => ?_)
  ·have hin := h2
   refine qc (qa (qd (ii ((k : Int))) rfl (qg (ii ((k : Int))) rfl (qb (qq (qu (qh (qh (qu (qh (qn (L' := L) [ii ((k : Int))] (ii ((k : Int))) (.tmp rfl .nil) rfl rF rF sR ?_)))))))))))
   exact ⟨(vI (badG_at 0 (by omega) (by simpa using hin) hall)), rfl, rfl⟩
  have hin := h2
  refine qw (qa (cX (qG (((k + 1 : Nat) : Int)) rfl rfl (by omega) (by omega) (qd (ii (((k + 1 : Nat) : Int))) rfl (qb ?_)))))
  exact ⟨k + 1, _, FLe.refl _, rF, ⟨rfl, rfl, rfl, rfl, ⟨⟩⟩, sR, ⟨rfl, (by (try dsimp only) <;> omega), (fun i hi => (Nat.lt_or_ge i k).elim (fun h => hall i h) (fun h => by obtain rfl : i = k := (by omega); simpa using hin))⟩, (by omega)⟩
 refine qX (qr (qr (qJ (qc (qa (qg (ii (-1)) rfl (qb (qq (qn (L' := L) [ii (-1)] (ii (-1)) (.tmp rfl .nil) rfl rF rF sR ?_)))))))))
 exact ⟨(vI (badG_none 0 (fun i hi => hall i (by omega)))), rfl, rfl⟩

/- slices.ContainsFunc[[]int64,int64] -/
theorem ContainsFuncF_spec {F : FH} {L : List HP} {tv : Value} {t : List Int} (ht : IntsF F tv t) {arv : Value} {ar : List Int} (har : IntsF F arv ar) {fsv : Value} {fs : List Int} (hfs : IntsF F fsv fs) {lsv : Value} {ls : List LineT} (hls : LinesF F lsv ls) {b : Nat} (hzb : FzC F b [arv, fsv, lsv]) (hlt : t.length ≤ 4000000) (hlf : fs.length ≤ 4000000) :
    Does prog 209 [tv, .func (.func 210) #[] #[ptr b 0]] F (L) (fun v F' L' => (.bool (!(freeB fs t)) : Value) = v ∧ F = F' ∧ L = L') := by
 refine qB func209 rfl rfl rfl (qc (qa (qg (.bool (false)) rfl (qb (qc (qa (qd (tv) rfl (qd (.func (.func 210) #[] #[ptr b 0]) rfl (cX (ql (args := [tv, .func (.func 210) #[] #[ptr b 0]]) call231 rfl (IndexFuncF_spec ht har hfs hls hzb (hlt := (by first | assumption | rfl | omega | simp)) (hlf := (by first | assumption | rfl | omega | simp))) ?_))))))))))
 rintro _ _ _ _ ⟨rfl, rfl, rfl⟩
 refine cX (XOp.geq rfl rfl (qg (.bool (decide ((badG (fun n => !decide (n ∈ fs)) t : Int) ≥ 0))) rfl (qb (qq (qn (L' := L) [.bool (decide ((badG (fun n => !decide (n ∈ fs)) t : Int) ≥ 0))] (.bool (decide ((badG (fun n => !decide (n ∈ fs)) t : Int) ≥ 0))) (.tmp rfl .nil) rfl rF rF sR ?_)))))
 exact ⟨(vB (by have hb := free_badG (fs := fs) t; cases hA : freeB fs t <;> simp_all <;> omega)), rfl, rfl⟩

/- (impl.Front).calls -/
theorem calls_spec {F : FH} {L : List HP} {arv : Value} {ar : List Int} (har : IntsF F arv ar) {fsv : Value} {fs : List Int} (hfs : IntsF F fsv fs) {lsv : Value} {ls : List LineT} (hls : LinesF F lsv ls) {tv : Value} {t : List Int} (ht : IntsF F tv t) (hlt : t.length ≤ 4000000) (hlf : fs.length ≤ 4000000) :
    Does prog 164 [.agg #[arv, fsv, lsv], tv] F (L) (fun v F' L' => (.bool (!(freeB fs t)) : Value) = v ∧ F = F' ∧ L = L') := by
 refine qB func164 rfl rfl rfl (qc (qa (cX (qP [arv, fsv, lsv] rfl rfl ?_))))
 intro b1
 refine qg (.bool (false)) rfl (qb (qc (qa (qd (tv) rfl (cX (XOp.makeFuncL [] [ptr b1 0] rfl rfl (XL.freeze [] _ _ rfl (fun F1 le1 hz1 => ?_))))))))
 replace har := har.mono le1
 replace hfs := hfs.mono le1
 replace hls := hls.mono le1
 replace ht := ht.mono le1
 have hf1 : FzC F1 b1 [arv, fsv, lsv] := Fz.cells hz1
 refine cX (ql (args := [tv, .func (.func 210) #[] #[ptr b1 0]]) call209 rfl (ContainsFuncF_spec ht har hfs hls hf1 (hlt := (by first | assumption | rfl | omega | simp)) (hlf := (by first | assumption | rfl | omega | simp))) ?_)
 rintro _ _ _ _ ⟨rfl, rfl, rfl⟩
 refine qg (.bool (!(freeB fs t))) rfl (qb (qq (qn (L' := L) [.bool (!(freeB fs t))] (.bool (!(freeB fs t))) (.tmp rfl .nil) rfl rF le1 sR ?_)))
 exact ⟨rfl, rfl, rfl⟩

/- spec.l26Left -/
theorem l26Left_spec {F : FH} {L : List HP} {fn : Int} {psv : Value} {ps : List (List Int)} (hps : RowsF F psv ps) {bdv : Value} {bd : List Int} (hbd : IntsF F bdv bd) (hpn : ps.length ≤ 10) (hpb : ∀ i, i < ps.length → (ps.getD i []).length ≤ 4000000) :
    Does prog 47 [.agg #[ii (fn), psv, bdv]] F (L) (fun v F' L' => F = F' ∧ IsSl v ∧ intsH 2 v (leftL (fn, ps, bd)) :: L = L') := by
 refine qB func47 rfl rfl rfl (qc (qa (cX (qP [ii (fn), psv, bdv] rfl rfl ?_))))
 intro b1
 refine qg (sN) rfl (qb (qc (qa (cX (qk (0) qO rfl qE (by decide) rfl rfl (cX (qi qS rfl (Rd.own [] rfl rfl) (cX (qU (s := 1) [ii (fn)] [ii (0)] [(0, [ii (fn)])] qf qE jl rfl (by decide) rfl (.cons rfl CellsAre.nil) rfl ?_)))))))))
 intro v1 hv1
 refine qg (v1) rfl (qb (qc (qc (qa ?_))))
 show XL _ _ _ _ _ _ _ (intsH 2 v1 ([fn] : List Int) :: cellsH b1 [ii (fn), psv, bdv] 91 :: L)
 skip
 refine qg (ii (0)) rfl (qb (qF (ja (α := Nat × Value × List Int) (fun xQ => [(1, ptr b1 0), (3, xQ.2.1), (4, ii (((xQ.1 : Nat) : Int)))]) (fun xQ => intsH 2 xQ.2.1 xQ.2.2 :: cellsH b1 [ii (fn), psv, bdv] 91 :: L) (fun xQ F' => F = F' ∧ (IsSl xQ.2.1) ∧ (xQ.1 ≤ ps.length) ∧ (xQ.2.2 = fn :: (ps.take xQ.1).flatten)) (fun xQ => ps.length - xQ.1) (0, v1, [fn]) ⟨rfl, rfl, rfl, ⟨⟩⟩ (sC (sC sR)) ⟨rfl, ((isSl_lit hv1)), (by (try dsimp only) <;> omega), (rfl)⟩ ?_)))
 rintro ⟨k, ov, os⟩ rE _ _ ⟨rfl, hov, hk, hos⟩
 show X _ _ _ _ (envs [(1, ptr b1 0), (3, ov), (4, ii ((k : Int)))] rE) _ (intsH 2 ov os :: cellsH b1 [ii (fn), psv, bdv] 91 :: L)
 dsimp only at hov hk hos
 have hpk := hpb k
 have hol : os.length ≤ 1 + k * 4000000 := by rw [hos, List.length_cons]; have h9 := flatten_bound hpb k (by omega); omega
 refine qc (qc (qa (qd (ii ((k : Int))) rfl (cX (qk (1) qO rfl qQ (by decide) rfl rfl (cX (qi jh rfl (Rd.own [_] rfl rfl) (cX (qy qz rfl hps.slv (cX (qI rfl rfl (qb ?_))))))))))))
 refine qv (p := (k : Int) < (ps.length : Int)) rfl (fun h1 => ?_) (fun h1 => ?_)
 ·refine qw (qc (qF (qa (qd (ov) rfl (cX (qk (1) qO rfl qQ (by decide) rfl rfl (cX (qi jh rfl (Rd.own [_] rfl rfl) (qd (ii ((k : Int))) rfl (cX (qx k qz qA rfl rfl rfl hps.slv (by omega) (Nat.mul_one _) ?_)))))))))))
  obtain ⟨a1, ha1, hr1⟩ := hps.rd (i := k) (by omega)
  refine cX (qi qK rfl (hr1 _) (cX (XOp.appendI [] _ qf typeInfo2 rfl rfl rfl rfl rfl rfl ha1 (by (try simp only [List.length_append, List.length_nil, List.length_cons, List.length_singleton, List.length_take, List.length_drop]); omega) ?_)))
  intro v2 hs1 hn1 hm1
  refine qg (v2) rfl (qb (qa (qd (ii ((k : Int))) rfl (cX (qG (((k + 1 : Nat) : Int)) rfl rfl (by omega) (by omega) (qg (ii (((k + 1 : Nat) : Int))) rfl (qb ?_)))))))
  exact ⟨(k + 1, v2, os ++ ((ps.getD k []))), _, FLe.refl _, rF, ⟨rfl, rfl, rfl, ⟨⟩⟩, (sC (sC sR)), ⟨rfl, (hs1), (by (try dsimp only) <;> omega), ((by dsimp only; rw [hos, flatten_take (by omega)]; rfl))⟩, (by omega)⟩
 refine qX (qr (qr (qJ (qc (qa (qd (ov) rfl (qg (ov) rfl (qb (qq (qn (L' := intsH 2 ov os :: L) [ov] (ov) (.tmp rfl .nil) rfl rF rF (sC (sD sR)) ?_))))))))))
 refine ⟨rfl, hov, ?_⟩
 have hxs : (leftL (fn, ps, bd) : List Int) = os := by rw [hos, show k = ps.length from by omega, List.take_length]; rfl
 exact congrArg (fun z => intsH 2 _ z :: L) hxs

/- slices.Grow[[]int64,int64] -/
theorem GrowAny_spec {F : FH} {L : List HP}  {n : Nat} (hn : n ≤ 400000000) :
    Does prog 181 [sN, ii ((n : Int))] F (L) (fun v F' L' => F = F' ∧ IsSl v ∧ intsH 2 v ([]) :: L = L') := by
 refine qB func181 rfl rfl rfl (qc (qa (qg (sN) rfl (qb (qc (qc (qa (qd (ii ((n : Int))) rfl (cX (qI rfl rfl (qb ?_)))))))))))
 refine qv (p := (n : Int) < 0) rfl (fun h1 => ?_) (fun h1 => ?_)
 ·omega
 refine qw (qc (qc (qa (qd (ii ((n : Int))) rfl (qd (sN) rfl (cX (XOp.capNil qf rfl (qd (sN) rfl (cX (qy qf rfl SlV.nil (cX (jg (0 - (((0 : Nat) : Int))) rfl rfl (by omega) (by omega) (cX (jg (((n : Int)) - (0 - (((0 : Nat) : Int)))) rfl rfl (by omega) (by omega) (qg (ii (((n : Int)) - (0 - (((0 : Nat) : Int))))) rfl (qb (qc (qa ?_))))))))))))))))))
 refine qd (ii (((n : Int)) - (0 - (((0 : Nat) : Int))))) rfl (cX (jt rfl rfl (qb ?_)))
 refine qv (p := (((n : Int)) - (0 - (((0 : Nat) : Int))) : Int) > 0) rfl (fun h2 => ?_) (fun h2 => ?_)
 ·refine qa (qd (sN) rfl (qd (sN) rfl (cX (XOp.capNil qf rfl (cX (XOp.sliceNil qf qE rfl ⟨_, rfl⟩ (qd (ii (((n : Int)) - (0 - (((0 : Nat) : Int))))) rfl (cX (XOp.appendZ (s := 1) (bytes := 8) (n := (((n : Int)) - (0 - (((0 : Nat) : Int)))).toNat) [ii (0)] qf runUnderlying3 typeInfo2 rfl rfl rfl rfl rfl (by decide) rfl (by rw [show (((((n : Int)) - (0 - (((0 : Nat) : Int)))).toNat : Nat) : Int) = ((n : Int)) - (0 - (((0 : Nat) : Int))) from by omega]; rfl) (by omega) (by omega) (by omega) ?_)))))))))
  intro v1 hv1
  have hv2 : IsSl v1 := by obtain ⟨b0, c0, h0⟩ := hv1; exact ⟨_, _, _, h0⟩
  rw [intsH_zeros]
  refine qd (sN) rfl (cX (qy qf rfl SlV.nil (cX (XOp.sliceOwn (cs := List.map (Value.int .i64) ((List.replicate ((((n : Int)) - (0 - (((0 : Nat) : Int)))).toNat) 0))) [] _ 0 qf qE rfl rfl ⟨_, rfl⟩ (Nat.zero_le _) ?_))))
  intro v2 hs1
  show XL _ _ _ _ _ _ _ (intsH 2 v2 ([]) :: L)
  refine qg (v2) rfl (qb (qc (qa (qd (v2) rfl (qg (v2) rfl (qb (qq (qn (L' := intsH 2 v2 ([]) :: L) [v2] (v2) (.tmp rfl .nil) rfl rF rF (sC sR) ?_))))))))
  refine ⟨rfl, hs1, ?_⟩
  have hxs : ([] : List Int) = [] := rfl
  exact congrArg (fun z => intsH 2 _ z :: L) hxs
 refine qw (qc (qa (qd (sN) rfl (qg (sN) rfl (qb (qq (qn (L' := intsH 2 (sN) ([]) :: L) [sN] (sN) (.tmp rfl .nil) rfl rF rF (Sub.trans (intsH.addNil 2 none _) (sC sR)) ?_)))))))
 refine ⟨rfl, ⟨_, _, _, rfl⟩, ?_⟩
 have hxs : ([] : List Int) = [] := rfl
 exact congrArg (fun z => intsH 2 _ z :: L) hxs

/- slices.Concat[[]int64,int64] -/
theorem ConcatAny_spec {F : FH} {L : List HP} {xsv : Value} {xs : List (List Int)} (hxs : RowsF F xsv xs) (hn : xs.length ≤ 10) (hb : ∀ i, i < xs.length → (xs.getD i []).length ≤ 40000000) :
    Does prog 119 [xsv] F (L) (fun v F' L' => F = F' ∧ IsSl v ∧ intsH 2 v xs.flatten :: L = L') := by
 refine qB func119 rfl rfl rfl (qc (qa (qg (sN) rfl (qb (qc (qa (qg (ii (0)) rfl (qb (qc (qc (qa (qd (xsv) rfl (cX (qy qz rfl hxs.slv (qd (ii (0)) rfl (qb (qF ?_)))))))))))))))))
 refine ja (α := Nat × Nat) (fun xQ => [(0, xsv), (3, ii (((xQ.2 : Nat) : Int))), (9, xsv), (10, ii ((xs.length : Int))), (11, ii (((xQ.1 : Nat) : Int)))]) (fun xQ => L) (fun xQ F' => F = F' ∧ (xQ.1 ≤ xs.length) ∧ (xQ.2 = (xs.take xQ.1).flatten.length) ∧ (xQ.2 ≤ xQ.1 * 40000000)) (fun xQ => xs.length - xQ.1) (0, 0) ⟨rfl, rfl, rfl, rfl, rfl, ⟨⟩⟩ sR ⟨rfl, (by (try dsimp only) <;> omega), (rfl), (by (try dsimp only) <;> omega)⟩ ?_
 rintro ⟨k, z⟩ rE _ _ ⟨rfl, hk, hz, hz2⟩
 show X _ _ _ _ (envs [(0, xsv), (3, ii ((z : Int))), (9, xsv), (10, ii ((xs.length : Int))), (11, ii ((k : Int)))] rE) _ (L)
 dsimp only at hk hz hz2
 have hbk := hb k
 have hft := fun h => congrArg List.length (flatten_take (xs := xs) (k := k) h)
 simp only [List.length_append] at hft
 refine qc (qa (cX (qI rfl rfl (qb (qc ?_)))))
 refine qv (p := (k : Int) < (xs.length : Int)) rfl (fun h1 => ?_) (fun h1 => ?_)
 ·refine qw (qc (qF (qc (qa (cX (qx k qz qA rfl rfl rfl hxs.slv (by omega) (Nat.mul_one _) ?_))))))
  obtain ⟨a1, ha1, hr1⟩ := hxs.rd (i := k) (by omega)
  refine cX (qi qK rfl (hr1 _) (qg (a1) rfl (qb (qc (qa (qd (ii ((z : Int))) rfl (qd (a1) rfl (cX (qy qf rfl ha1.slv (cX (qG (((z + (((xs.getD k [])).length) : Nat) : Int)) rfl rfl (by omega) (by omega) (qg (ii (((z + (((xs.getD k [])).length) : Nat) : Int))) rfl (qb (qc (qa (qd (ii (((z + (((xs.getD k [])).length) : Nat) : Int))) rfl ?_))))))))))))))))
  refine cX (qI rfl rfl (qb ?_))
  refine qv (p := (((z + (((xs.getD k [])).length) : Nat) : Int) : Int) < 0) rfl (fun h2 => ?_) (fun h2 => ?_)
  ·omega
  refine qw (qa (cX (qG (((k + 1 : Nat) : Int)) rfl rfl (by omega) (by omega) (qd (ii (((k + 1 : Nat) : Int))) rfl (qb ?_)))))
  exact ⟨(k + 1, z + (((xs.getD k [])).length)), _, FLe.refl _, rF, ⟨rfl, rfl, rfl, rfl, rfl, ⟨⟩⟩, sR, ⟨rfl, (by (try dsimp only) <;> omega), (by (try dsimp only) <;> omega), (by (try dsimp only) <;> omega)⟩, (by omega)⟩
 refine qX (qr (qr (qJ (qc (qa (qd (ii ((z : Int))) rfl (cX (ql (args := [sN, ii (z : Int)]) call181 rfl (GrowAny_spec (n := z) (hn := (by omega))) ?_))))))))
 rintro v1 _ _ _ ⟨rfl, hs1, rfl⟩
 refine qg (v1) rfl (qb (qc (qc (qa (qd (xsv) rfl (cX (qy qz rfl hxs.slv (qd (ii (0)) rfl (qb (qF (ja (α := Nat × Value × List Int) (fun xQ => [(6, xQ.2.1), (25, xsv), (26, ii ((xs.length : Int))), (27, ii (((xQ.1 : Nat) : Int)))]) (fun xQ => intsH 2 xQ.2.1 xQ.2.2 :: L) (fun xQ F' => F = F' ∧ (IsSl xQ.2.1) ∧ (xQ.1 ≤ xs.length) ∧ (xQ.2.2 = (xs.take xQ.1).flatten)) (fun xQ => xs.length - xQ.1) (0, v1, ([])) ⟨rfl, rfl, rfl, rfl, ⟨⟩⟩ (sC sR) ⟨rfl, (hs1), (by (try dsimp only) <;> omega), (rfl)⟩ ?_)))))))))))
 rintro ⟨k, ov, os⟩ rE _ _ ⟨rfl, hov, hk, hos⟩
 show X _ _ _ _ (envs [(6, ov), (25, xsv), (26, ii ((xs.length : Int))), (27, ii ((k : Int)))] rE) _ (intsH 2 ov os :: L)
 dsimp only at hov hk hos
 have hbk := hb k
 have hol : os.length ≤ k * 40000000 := by rw [hos]; exact flatten_bound hb k (by omega)
 refine qc (qa (cX (qI rfl rfl (qb (qc ?_)))))
 refine qv (p := (k : Int) < (xs.length : Int)) rfl (fun h3 => ?_) (fun h3 => ?_)
 ·refine qw (qc (qF (qc (qa (cX (qx k qz qA rfl rfl rfl hxs.slv (by omega) (Nat.mul_one _) ?_))))))
  obtain ⟨a2, ha2, hr2⟩ := hxs.rd (i := k) (by omega)
  refine cX (qi qK rfl (hr2 _) (qg (a2) rfl (qb (qa (qd (ov) rfl (qd (a2) rfl (cX (XOp.appendI [] _ qf typeInfo2 rfl rfl rfl rfl rfl rfl ha2 (by (try simp only [List.length_append, List.length_nil, List.length_cons, List.length_singleton, List.length_take, List.length_drop]); omega) ?_))))))))
  intro v2 hs2 hn1 hm1
  refine qg (v2) rfl (qb (qa (cX (qG (((k + 1 : Nat) : Int)) rfl rfl (by omega) (by omega) (qd (ii (((k + 1 : Nat) : Int))) rfl (qb ?_))))))
  exact ⟨(k + 1, v2, os ++ ((xs.getD k []))), _, FLe.refl _, rF, ⟨rfl, rfl, rfl, rfl, ⟨⟩⟩, (sC sR), ⟨rfl, (hs2), (by (try dsimp only) <;> omega), ((by dsimp only; rw [hos, flatten_take (by omega)]))⟩, (by omega)⟩
 refine qX (qr (qr (qJ (qc (qa (qd (ov) rfl (qg (ov) rfl (qb (qq (qn (L' := intsH 2 ov os :: L) [ov] (ov) (.tmp rfl .nil) rfl rF rF (sC sR) ?_))))))))))
 refine ⟨rfl, hov, ?_⟩
 have hxs : (xs.flatten : List Int) = os := by rw [hos, List.take_of_length_le (by omega)]
 exact congrArg (fun z => intsH 2 _ z :: L) hxs

/- (impl.Line).left -/
theorem left_spec {F : FH} {L : List HP} {fn : Int} {psv : Value} {ps : List (List Int)} (hps : RowsF F psv ps) {bdv : Value} {bd : List Int} (hbd : IntsF F bdv bd) (hpn : ps.length ≤ 10) (hpb : ∀ i, i < ps.length → (ps.getD i []).length ≤ 4000000) :
    Does prog 58 [.agg #[ii (fn), psv, bdv]] F (L) (fun v F' L' => ∃ (a : Value), (a : Value) = v ∧ (IntsF F' a (leftL (fn, ps, bd))) ∧ L = L') := by
 refine qB func58 rfl rfl rfl (qc (qa (cX (qP [ii (fn), psv, bdv] rfl rfl ?_))))
 intro b1
 refine qg (sN) rfl (qb (qc ?_))
 refine X.drawG [cellsH b1 [ii (fn), psv, bdv] 91] L 6 [] [[], [0], [1], [], [3], [4]] [] (phiG [pe (ptr b1 0), pe (ii (fn)), fun FF us v => (v : Value) = v ∧ (IntsF FF v [fn]), pe (ptr b1 1), pe psv, fun FF us v => ((v) : Value) = v ∧ (IntsF FF (v) (ps.flatten))]) (ownL []) mixed rfl rfl (by kernel_rfl) (by kernel_rfl) (MonoG.get (m1 (m1 (mC (fun le h => ⟨h.1, h.2.mono le⟩) (m1 (m1 (mC (fun le h => ⟨h.1, h.2.mono le⟩) MonoG.nil))))))) ?_ ?_
 ·refine gD (fun W Fs R lF z9 => ?_) ?_
  ·refine qj (qk (0) qO rfl qE (by decide) rfl rfl ?_)
   exact ⟨rfl, rfl⟩
  refine gD (fun W Fs R lF z9 => ?_) ?_
  ·replace hps := hps.mono lF
   rw [eS (l := [(0, _)]) ⟨z9 0 rfl, ⟨⟩⟩]
   refine qj (qi qS rfl (Rd.own [] rfl rfl) ?_)
   exact ⟨rfl, rfl⟩
  refine gD (fun W Fs R lF z9 => ?_) ?_
  ·replace hps := hps.mono lF
   rw [eS (l := [(1, _)]) ⟨z9 1 rfl, ⟨⟩⟩]
   refine qj (jx <| qU (s := 1) [ii (fn)] [ii (0)] [(0, [ii (fn)])] qf qE jl rfl (by decide) rfl (.cons rfl CellsAre.nil) rfl ?_)
   intro v2 hv1
   refine ⟨_, _, rfl, fun F1 le1 hz1 => ?_⟩
   replace hps := hps.mono le1
   have hf1 : IntsF F1 v2 [fn] := intsH.fz (xs := [fn]) hz1.fz
   exact ⟨⟨rfl, hf1⟩, rfl⟩
  refine gD (fun W Fs R lF z9 => ?_) ?_
  ·refine qj (qk (1) qO rfl qQ (by decide) rfl rfl ?_)
   exact ⟨rfl, rfl⟩
  refine gD (fun W Fs R lF z9 => ?_) ?_
  ·replace hps := hps.mono lF
   rw [eS (l := [(3, _)]) ⟨z9 3 rfl, ⟨⟩⟩]
   refine qj (qi jh rfl (Rd.own [] rfl rfl) ?_)
   exact ⟨rfl, rfl⟩
  refine gD (fun W Fs R lF z9 => ?_) ?_
  ·replace hps := hps.mono lF
   rw [eS (l := [(4, _)]) ⟨z9 4 rfl, ⟨⟩⟩]
   refine qj (jx <| ql (args := [psv]) call119 rfl (ConcatAny_spec hps (hn := (hpn)) (hb := (fun i hi => Nat.le_trans (hpb i hi) (by decide)))) ?_)
   rintro v3 _ _ _ ⟨rfl, hs2, rfl⟩
   refine ⟨_, _, rfl, fun F2 le2 hz2 => ?_⟩
   have hf2 : IntsF F2 v3 ((ps.flatten)) := intsH.fz (xs := (ps.flatten)) hz2.fz
   exact ⟨⟨rfl, hf2⟩, rfl⟩
  exact stepsG.nil
 intro W F3 le3 hphi
 obtain ⟨e2, f2_1lit⟩ := hphi 2 (by decide)
 obtain ⟨e5, f5_1ha⟩ := hphi 5 (by decide)
 generalize hu1 : (W 2) = u1 at e2 f2_1lit e5 f5_1ha
 generalize hu2 : ((W 5)) = u2 at e2 f2_1lit e5 f5_1ha
 rw [eS (l := [(2, u1), (5, u2)]) ⟨hu1, hu2, ⟨⟩⟩]
 show XL _ _ _ _ _ _ _ (cellsH b1 [ii (fn), psv, bdv] 91 :: L)
 refine cX (qU (s := 1) [u1, u2] [sN] [(0, [u1]), (1, [u2])] qz qA zeroValue22 rfl (by decide) rfl (.cons (cells_one (qT f2_1lit)) (.cons (cells_one (qT f5_1ha)) CellsAre.nil)) rfl ?_)
 intro v4 hv2
 have hc1 : RowsC F3 [u1, u2] ([[fn], (ps.flatten)] : List (List Int)) := (RowsC.snoc (RowsC.snoc (CO.nil : RowsC F3 [] []) f2_1lit) f5_1ha)
 refine XL.freezeF [] _ _ rfl (fun F4 le4 hz3 => ?_)
 replace hc1 := hc1.mono le4
 have hf3 : RowsF F4 v4 (([[fn], (ps.flatten)] : List (List Int))) := CO.fz hc1 (by first | rfl | omega | (rw [List.length_set]; omega) | (simp; done)) hz3.fz
 refine cX (jx <| ql (args := [v4]) call119 rfl (ConcatAny_spec hf3 (hn := (by simp)) (hb := (fun i hi => by match i, hi with | 0, _ => (show [fn].length ≤ 40000000; simp) | 1, _ => (show ps.flatten.length ≤ 40000000; exact Nat.le_trans (flatN_le hpb) (by omega))))) ?_)
 rintro v5 _ _ _ ⟨rfl, hs3, rfl⟩
 refine ⟨_, _, rfl, fun F5 le5 hz4 => ?_⟩
 have hf4 : IntsF F5 v5 (((([[fn], (ps.flatten)] : List (List Int))).flatten)) := intsH.fz (xs := ((([[fn], (ps.flatten)] : List (List Int))).flatten)) hz4.fz
 refine qg (v5) rfl (qb (qq (qn (L' := L) [v5] (v5) (.tmp rfl .nil) rfl (qt (qt le3 le4) le5) rF (sD sR) ?_)))
 have e9 : ((([[fn], (ps.flatten)] : List (List Int))).flatten) = leftL (fn, ps, bd) := by simp [leftL]
 exact ⟨_, rfl, by rw [← e9]; exact hf4, rfl⟩

/- (impl.Front).lineOk -/
set_option maxHeartbeats 1000000 in
set_option maxRecDepth 20000 in
theorem lineOk_spec {F : FH} {L : List HP} {arv : Value} {ar : List Int} (har : IntsF F arv ar) {fsv : Value} {fs : List Int} (hfs : IntsF F fsv fs) {lsv : Value} {ls : List LineT} (hls : LinesF F lsv ls) {fn : Int} {psv : Value} {ps : List (List Int)} (hps : RowsF F psv ps) {bdv : Value} {bd : List Int} (hbd : IntsF F bdv bd) (hsig : sigOk ar = true) (hset : ∀ n ∈ fs, 0 ≤ n ∧ n < (ar.length : Int)) (hlf : fs.length ≤ 4000000) (hpl : ps.length ≤ 4000000) (hpz : ∀ i, i < ps.length → (ps.getD i []).length ≤ 4000000) (hbl : bd.length ≤ 4000000) :
    Does prog 94 [.agg #[arv, fsv, lsv], .agg #[ii (fn), psv, bdv]] F (L) (fun v F' L' => (.bool (lineB ar fs (fn, ps, bd)) : Value) = v ∧ L = L') := by
 refine qB func94 rfl rfl rfl ?_
 have hsg := sigOk_spec hsig
 refine qc (qa (cX (qP [arv, fsv, lsv] rfl rfl ?_)))
 intro b1
 refine cX (qP [ii (fn), psv, bdv] rfl rfl ?_)
 intro b2
 refine qg (.bool (false)) rfl (qb (qc (qc ?_)))
 by_cases h1 : ¬(fn ∈ fs)
 ·have hnin : ¬ fn ∈ fs := h1
  refine ju [cellsH b2 [ii (fn), psv, bdv] 91, cellsH b1 [arv, fsv, lsv] 34] L 17 [] [[], [0], [], [2], [1, 3], [4], [5], [6], [6, 7], [6, 8], [6], [6, 10], [6, 11], [6], [6, 13], [6, 12, 14], [6, 15]] (phiL [qe (ptr b1 1), qe fsv, qe (ptr b2 0), qe (ii (fn)), qe (.bool (decide (fn ∈ fs))), qe (.bool (decide (¬(fn ∈ fs)))), qe (.bool (decide (¬(fn ∈ fs)))), qe undef, qe undef, qe undef, qe undef, qe undef, qe undef, qe undef, qe undef, qe undef, qe undef]) (ownL []) mixed rfl rfl (by kernel_rfl) ?_ ?_
  ·refine pD (fun W R z9 => ?_) ?_
   ·refine qj (qk (1) qD rfl qA (by decide) rfl rfl ?_)
    exact ⟨rfl, rfl, rfl⟩
   refine pD (fun W R z9 => ?_) ?_
   ·rw [eS (l := [(0, _)]) ⟨z9 0 rfl, ⟨⟩⟩]
    refine qj (qi qK rfl (Rd.own [_] rfl rfl) ?_)
    exact ⟨rfl, rfl, rfl⟩
   refine pD (fun W R z9 => ?_) ?_
   ·refine qj (qk (0) qO rfl qE (by decide) rfl rfl ?_)
    exact ⟨rfl, rfl, rfl⟩
   refine pD (fun W R z9 => ?_) ?_
   ·rw [eS (l := [(2, _)]) ⟨z9 2 rfl, ⟨⟩⟩]
    refine qj (qi qS rfl (Rd.own [] rfl rfl) ?_)
    exact ⟨rfl, rfl, rfl⟩
   refine pD (fun W R z9 => ?_) ?_
   ·rw [eS (l := [(1, _), (3, _)]) ⟨z9 1 rfl, z9 3 rfl, ⟨⟩⟩]
    refine qj (ql (args := [fsv, ii (fn)]) call131 rfl (Contains_spec (n := fn) hfs (hbd := (by first | assumption | rfl | omega | simp))) ?_)
    rintro _ _ _ _ ⟨rfl, rfl, rfl⟩
    exact ⟨rfl, rfl, rfl⟩
   refine pD (fun W R z9 => ?_) ?_
   ·rw [eS (l := [(4, _)]) ⟨z9 4 rfl, ⟨⟩⟩]
    refine qj (jo rfl ?_)
    exact ⟨rfl, rfl, rfl⟩
   refine pD (fun W R z9 => ?_) ?_
   ·rw [eS (l := [(5, _)]) ⟨z9 5 rfl, ⟨⟩⟩]
    refine qj (qm (.bool (decide (¬(fn ∈ fs)))) rfl ?_)
    exact ⟨rfl, rfl, rfl⟩
   refine pD (fun W R z9 => ?_) ?_
   ·rw [eS (l := [(6, _)]) ⟨z9 6 rfl, ⟨⟩⟩]
    exact qY (t := 13) rfl (vT h1) ⟨rfl, rfl, rfl⟩
   refine pD (fun W R z9 => ?_) ?_
   ·rw [eS (l := [(6, _), (7, undef)]) ⟨z9 6 rfl, z9 7 rfl, ⟨⟩⟩]
    exact qY (t := 13) rfl (vT h1) ⟨rfl, rfl, rfl⟩
   refine pD (fun W R z9 => ?_) ?_
   ·rw [eS (l := [(6, _), (8, undef)]) ⟨z9 6 rfl, z9 8 rfl, ⟨⟩⟩]
    exact qY (t := 13) rfl (vT h1) ⟨rfl, rfl, rfl⟩
   refine pD (fun W R z9 => ?_) ?_
   ·rw [eS (l := [(6, _)]) ⟨z9 6 rfl, ⟨⟩⟩]
    exact qY (t := 13) rfl (vT h1) ⟨rfl, rfl, rfl⟩
   refine pD (fun W R z9 => ?_) ?_
   ·rw [eS (l := [(6, _), (10, undef)]) ⟨z9 6 rfl, z9 10 rfl, ⟨⟩⟩]
    exact qY (t := 13) rfl (vT h1) ⟨rfl, rfl, rfl⟩
   refine pD (fun W R z9 => ?_) ?_
   ·rw [eS (l := [(6, _), (11, undef)]) ⟨z9 6 rfl, z9 11 rfl, ⟨⟩⟩]
    exact qY (t := 13) rfl (vT h1) ⟨rfl, rfl, rfl⟩
   refine pD (fun W R z9 => ?_) ?_
   ·rw [eS (l := [(6, _)]) ⟨z9 6 rfl, ⟨⟩⟩]
    exact qY (t := 13) rfl (vT h1) ⟨rfl, rfl, rfl⟩
   refine pD (fun W R z9 => ?_) ?_
   ·rw [eS (l := [(6, _), (13, undef)]) ⟨z9 6 rfl, z9 13 rfl, ⟨⟩⟩]
    exact qY (t := 13) rfl (vT h1) ⟨rfl, rfl, rfl⟩
   refine pD (fun W R z9 => ?_) ?_
   ·rw [eS (l := [(6, _), (12, undef), (14, undef)]) ⟨z9 6 rfl, z9 12 rfl, z9 14 rfl, ⟨⟩⟩]
    exact qY (t := 13) rfl (vT h1) ⟨rfl, rfl, rfl⟩
   refine pD (fun W R z9 => ?_) ?_
   ·rw [eS (l := [(6, _), (15, undef)]) ⟨z9 6 rfl, z9 15 rfl, ⟨⟩⟩]
    exact qY (t := 13) rfl (vT h1) ⟨rfl, rfl, rfl⟩
   exact stepsP.nil
  intro W hphi
  rw [eS (l := [(6, _), (9, undef), (16, undef)]) ⟨(hphi 6 (by decide)), (hphi 9 (by decide)), (hphi 16 (by decide)), ⟨⟩⟩]
  show XL _ _ _ _ _ _ _ (cellsH b2 [ii (fn), psv, bdv] 91 :: cellsH b1 [arv, fsv, lsv] 34 :: L)
  refine qp (t := 13) rfl (vT h1) (cX (qM (.bool (true)) (vT h1) rfl (qb (jr rfl (qc (qa (qg (.bool (false)) rfl (qb (qq (qh (qn (L' := L) [.bool (false)] (.bool (false)) (.tmp rfl .nil) rfl rF rF (sD (sD sR)) ?_)))))))))))
  exact ⟨congrArg Value.bool (line_no (ar := ar) (fs := fs) (x := (fn, ps, bd)) (fun h9 => by first | exact hnin h9.1 | exact hnl9 h9.2.1)), rfl⟩
 have hin : fn ∈ fs := Classical.not_not.1 h1
 have hin9 := hset _ hin
 have har9 := hsg.2.2 fn.toNat (by omega)
 refine ju [cellsH b2 [ii (fn), psv, bdv] 91, cellsH b1 [arv, fsv, lsv] 34] L 17 [] [[], [0], [], [2], [1, 3], [4], [5], [6], [6, 7], [6, 8], [6], [6, 10], [6, 11], [6], [6, 13], [6, 12, 14], [6, 15]] (phiL [qe (ptr b1 1), qe fsv, qe (ptr b2 0), qe (ii (fn)), qe (.bool (decide (fn ∈ fs))), qe (.bool (decide (¬(fn ∈ fs)))), qe (.bool (decide (¬(fn ∈ fs)))), qe (ptr b2 1), qe psv, qe (ii ((ps.length : Int)) : Value), qe (ptr b1 0), qe (ptr b1 0), qe arv, qe (ptr b2 0), qe (ii (fn)), qe (.pointer (some (elemA arv ((fn).toNat)))), qe (ii (ar.getD ((fn).toNat) 0))]) (ownL []) mixed rfl rfl (by kernel_rfl) ?_ ?_
 ·refine pD (fun W R z9 => ?_) ?_
  ·refine qj (qk (1) qD rfl qA (by decide) rfl rfl ?_)
   exact ⟨rfl, rfl, rfl⟩
  refine pD (fun W R z9 => ?_) ?_
  ·rw [eS (l := [(0, _)]) ⟨z9 0 rfl, ⟨⟩⟩]
   refine qj (qi qK rfl (Rd.own [_] rfl rfl) ?_)
   exact ⟨rfl, rfl, rfl⟩
  refine pD (fun W R z9 => ?_) ?_
  ·refine qj (qk (0) qO rfl qE (by decide) rfl rfl ?_)
   exact ⟨rfl, rfl, rfl⟩
  refine pD (fun W R z9 => ?_) ?_
  ·rw [eS (l := [(2, _)]) ⟨z9 2 rfl, ⟨⟩⟩]
   refine qj (qi qS rfl (Rd.own [] rfl rfl) ?_)
   exact ⟨rfl, rfl, rfl⟩
  refine pD (fun W R z9 => ?_) ?_
  ·rw [eS (l := [(1, _), (3, _)]) ⟨z9 1 rfl, z9 3 rfl, ⟨⟩⟩]
   refine qj (ql (args := [fsv, ii (fn)]) call131 rfl (Contains_spec (n := fn) hfs (hbd := (by first | assumption | rfl | omega | simp))) ?_)
   rintro _ _ _ _ ⟨rfl, rfl, rfl⟩
   exact ⟨rfl, rfl, rfl⟩
  refine pD (fun W R z9 => ?_) ?_
  ·rw [eS (l := [(4, _)]) ⟨z9 4 rfl, ⟨⟩⟩]
   refine qj (jo rfl ?_)
   exact ⟨rfl, rfl, rfl⟩
  refine pD (fun W R z9 => ?_) ?_
  ·rw [eS (l := [(5, _)]) ⟨z9 5 rfl, ⟨⟩⟩]
   refine qj (qm (.bool (decide (¬(fn ∈ fs)))) rfl ?_)
   exact ⟨rfl, rfl, rfl⟩
  refine pD (fun W R z9 => ?_) ?_
  ·rw [eS (l := [(6, _)]) ⟨z9 6 rfl, ⟨⟩⟩]
   refine qR (t := 13) rfl (vF h1) (qk (1) qO rfl qQ (by decide) rfl rfl ?_)
   exact ⟨rfl, rfl, rfl⟩
  refine pD (fun W R z9 => ?_) ?_
  ·rw [eS (l := [(6, _), (7, _)]) ⟨z9 6 rfl, z9 7 rfl, ⟨⟩⟩]
   refine qR (t := 13) rfl (vF h1) (qi jh rfl (Rd.own [] rfl rfl) ?_)
   exact ⟨rfl, rfl, rfl⟩
  refine pD (fun W R z9 => ?_) ?_
  ·rw [eS (l := [(6, _), (8, _)]) ⟨z9 6 rfl, z9 8 rfl, ⟨⟩⟩]
   refine qR (t := 13) rfl (vF h1) (qy qz rfl hps.slv ?_)
   exact ⟨rfl, rfl, rfl⟩
  refine pD (fun W R z9 => ?_) ?_
  ·rw [eS (l := [(6, _)]) ⟨z9 6 rfl, ⟨⟩⟩]
   refine qR (t := 13) rfl (vF h1) (qk (0) qD rfl qH (by decide) rfl rfl ?_)
   exact ⟨rfl, rfl, rfl⟩
  refine pD (fun W R z9 => ?_) ?_
  ·rw [eS (l := [(6, _), (10, _)]) ⟨z9 6 rfl, z9 10 rfl, ⟨⟩⟩]
   refine qR (t := 13) rfl (vF h1) (qk (0) je rfl qA (by decide) rfl rfl ?_)
   exact ⟨rfl, rfl, rfl⟩
  refine pD (fun W R z9 => ?_) ?_
  ·rw [eS (l := [(6, _), (11, _)]) ⟨z9 6 rfl, z9 11 rfl, ⟨⟩⟩]
   refine qR (t := 13) rfl (vF h1) (qi qK rfl (Rd.own [_] rfl rfl) ?_)
   exact ⟨rfl, rfl, rfl⟩
  refine pD (fun W R z9 => ?_) ?_
  ·rw [eS (l := [(6, _)]) ⟨z9 6 rfl, ⟨⟩⟩]
   refine qR (t := 13) rfl (vF h1) (qk (0) qO rfl qE (by decide) rfl rfl ?_)
   exact ⟨rfl, rfl, rfl⟩
  refine pD (fun W R z9 => ?_) ?_
  ·rw [eS (l := [(6, _), (13, _)]) ⟨z9 6 rfl, z9 13 rfl, ⟨⟩⟩]
   refine qR (t := 13) rfl (vF h1) (qi qS rfl (Rd.own [] rfl rfl) ?_)
   exact ⟨rfl, rfl, rfl⟩
  refine pD (fun W R z9 => ?_) ?_
  ·rw [eS (l := [(6, _), (12, _), (14, _)]) ⟨z9 6 rfl, z9 12 rfl, z9 14 rfl, ⟨⟩⟩]
   refine qR (t := 13) rfl (vF h1) (qx ((fn).toNat) qf qE rfl rfl (by omega) har.slv (by omega) (Nat.mul_one _) ?_)
   exact ⟨rfl, rfl, rfl⟩
  refine pD (fun W R z9 => ?_) ?_
  ·rw [eS (l := [(6, _), (15, _)]) ⟨z9 6 rfl, z9 15 rfl, ⟨⟩⟩]
   refine qR (t := 13) rfl (vF h1) (qi qS rfl (har.rd (by omega)) ?_)
   exact ⟨rfl, rfl, rfl⟩
  exact stepsP.nil
 intro W hphi
 rw [eS (l := [(6, _), (9, _), (16, _)]) ⟨(hphi 6 (by decide)), (hphi 9 (by decide)), (hphi 16 (by decide)), ⟨⟩⟩]
 show XL _ _ _ _ _ _ _ (cellsH b2 [ii (fn), psv, bdv] 91 :: cellsH b1 [arv, fsv, lsv] 34 :: L)
 refine qo (t := 13) rfl (vF h1) (XOp.neq rfl rfl (cX (qL (.bool (decide (((ps.length : Int) : Int) ≠ ar.getD ((fn).toNat) 0))) (vF h1) rfl (qb ?_))))
 refine qv (p := ((ps.length : Int) : Int) ≠ ar.getD ((fn).toNat) 0) rfl (fun h2 => ?_) (fun h2 => ?_)
 ·have hnl9 := h2
  refine qc (qa (qg (.bool (false)) rfl (qb (qq (qh (qn (L' := L) [.bool (false)] (.bool (false)) (.tmp rfl .nil) rfl rF rF (sD (sD sR)) ?_))))))
  exact ⟨congrArg Value.bool (line_no (ar := ar) (fs := fs) (x := (fn, ps, bd)) (fun h9 => by first | exact hnin h9.1 | exact hnl9 h9.2.1)), rfl⟩
 have hle9 : (ps.length : Int) = ar.getD fn.toNat 0 := Classical.not_not.1 h2
 refine qw (qc (qc (qa (cX (qk (1) qO rfl qQ (by decide) rfl rfl (cX (qi jh rfl (Rd.own [] rfl rfl) (cX (qy qz rfl hps.slv (qd (ii (0)) rfl (qb (qF (ja (α := Nat) (fun k => [(2, ptr b1 0), (3, ptr b2 0), (27, psv), (28, ii ((ps.length : Int))), (29, ii ((k : Int)))]) (fun k => cellsH b2 [ii (fn), psv, bdv] 91 :: cellsH b1 [arv, fsv, lsv] 34 :: L) (fun k F' => F = F' ∧ (k ≤ ps.length) ∧ (∀ i, i < k → termOk ar (ps.getD i []) = true ∧ freeB fs (ps.getD i []) = true)) (fun k => ps.length - k) 0 ⟨rfl, rfl, rfl, rfl, rfl, ⟨⟩⟩ (sC (sC sR)) ⟨rfl, (by (try dsimp only) <;> omega), (fun i hi => absurd hi (by omega))⟩ ?_)))))))))))))
 rintro k rE _ _ ⟨rfl, hk, hall⟩
 show X _ _ _ _ (envs [(2, ptr b1 0), (3, ptr b2 0), (27, psv), (28, ii ((ps.length : Int))), (29, ii ((k : Int)))] rE) _ (cellsH b2 [ii (fn), psv, bdv] 91 :: cellsH b1 [arv, fsv, lsv] 34 :: L)
 have hpzk := hpz k
 refine qc (qa (cX (qI rfl rfl (qb (qc ?_)))))
 refine qv (p := (k : Int) < (ps.length : Int)) rfl (fun h3 => ?_) (fun h3 => ?_)
 ·refine qw (qc (qF (qc (qa (cX (qx k qz qA rfl rfl rfl hps.slv (by omega) (Nat.mul_one _) ?_))))))
  obtain ⟨a1, ha1, hr1⟩ := hps.rd (i := k) (by omega)
  refine cX (qi qK rfl (hr1 _) (qg (a1) rfl (qb (qc (qa (cX (qk (0) qD rfl qH (by decide) rfl rfl (cX (qC [arv] qW qH rfl rfl (Rd.ownN [_] rfl rfl) (qd (a1) rfl (cX (ql (args := [.agg #[arv], a1]) call109 rfl (TermOk_spec har ha1) ?_))))))))))))
  rintro _ _ _ _ ⟨rfl, rfl, rfl⟩
  refine cX (jn rfl (qd (.bool (!(termOk ar ((ps.getD k []))))) rfl ?_))
  by_cases h4 : (!(termOk ar ((ps.getD k [])))) = true
  ·have hto9 : termOk ar (ps.getD k []) = false := Bool.not_inj (y := false) h4
   refine qp (t := 38) rfl (vB h4) (qp (t := 38) rfl (vB h4) (qp (t := 38) rfl (vB h4) (cX (qM (.bool (true)) (vB h4) rfl (qb (jr rfl (qc (qa (qg (.bool (false)) rfl (qb (qq (qu (qh (qh (qu (qh (qn (L' := L) [.bool (false)] (.bool (false)) (.tmp rfl .nil) rfl rF rF (sD (sD sR)) ?_)))))))))))))))))
   exact ⟨congrArg Value.bool (line_no (ar := ar) (fs := fs) (x := (fn, ps, bd)) (fun h9 => by have h8 := h9.2.2.1 k (show k < ps.length by omega); (try dsimp only at h8); first | exact absurd (h8.1.symm.trans hto9) (by decide) | exact absurd (h8.2.symm.trans hfr9) (by decide))), rfl⟩
  rw [Bool.not_eq_true] at h4
  have hto9 : termOk ar (ps.getD k []) = true := Bool.not_inj (y := true) h4
  have htl9 := termOk_len hto9
  refine qo (t := 38) rfl (vB h4) (qC [arv, fsv, lsv] isAgg34 jB rfl rfl (Rd.ownN [_] rfl rfl) (qo (t := 38) rfl (vB h4) (qm (a1) rfl (qo (t := 38) rfl (vB h4) (ql (args := [.agg #[arv, fsv, lsv], a1]) call164 rfl (calls_spec har hfs hls ha1 (hlt := (by omega)) (hlf := (hlf))) ?_)))))
  rintro _ _ _ _ ⟨rfl, rfl, rfl⟩
  refine cX (qL (.bool (!(freeB fs ((ps.getD k []))))) (vB h4) rfl (qb ?_))
  refine X.cond (t := !(freeB fs ((ps.getD k [])))) rfl (fun h5 => ?_) (fun h5 => ?_)
  ·have hfr9 : freeB fs (ps.getD k []) = false := by simpa using h5
   refine qc (qa (qg (.bool (false)) rfl (qb (qq (qu (qh (qh (qu (qh (qn (L' := L) [.bool (false)] (.bool (false)) (.tmp rfl .nil) rfl rF rF (sD (sD sR)) ?_))))))))))
   exact ⟨congrArg Value.bool (line_no (ar := ar) (fs := fs) (x := (fn, ps, bd)) (fun h9 => by have h8 := h9.2.2.1 k (show k < ps.length by omega); (try dsimp only at h8); first | exact absurd (h8.1.symm.trans hto9) (by decide) | exact absurd (h8.2.symm.trans hfr9) (by decide))), rfl⟩
  have hfr9 : freeB fs (ps.getD k []) = true := by simpa using h5
  refine qw (qa (cX (qG (((k + 1 : Nat) : Int)) rfl rfl (by omega) (by omega) (qd (ii (((k + 1 : Nat) : Int))) rfl (qb ?_)))))
  exact ⟨k + 1, _, FLe.refl _, rF, ⟨rfl, rfl, rfl, rfl, rfl, ⟨⟩⟩, (sC (sC sR)), ⟨rfl, (by (try dsimp only) <;> omega), (fun i hi => (Nat.lt_or_ge i k).elim (fun h => hall i h) (fun h => by obtain rfl : i = k := (by omega); exact ⟨hto9, hfr9⟩))⟩, (by omega)⟩
 refine qX (qr (qr (qJ (qc ?_))))
 refine X.drawG [cellsH b2 [ii (fn), psv, bdv] 91, cellsH b1 [arv, fsv, lsv] 34] L 7 [[], [], [], [], [], [], [3]] [[], [0], [], [2], [], [4], [3, 5]] [] (phiG [pe (ptr b1 0), pe (.agg #[arv]), pe (.agg #[ii (fn), psv, bdv]), fun FF us v => ((v) : Value) = v ∧ (IntsF FF (v) (leftL (fn, ps, bd))), pe (ptr b2 2), pe bdv, fun FF us v => v = (.agg #[((us.getD 0 undef)), bdv])]) (ownL []) mixed rfl rfl (by kernel_rfl) (by kernel_rfl) (MonoG.get (m1 (m1 (m1 (mC (fun le h => ⟨h.1, h.2.mono le⟩) (m1 (m1 (mC (fun le h => h) MonoG.nil)))))))) ?_ ?_
 ·refine gD (fun W Fs R lF z9 => ?_) ?_
  ·refine qj (qk (0) qD rfl qH (by decide) rfl rfl ?_)
   exact ⟨rfl, rfl⟩
  refine gD (fun W Fs R lF z9 => ?_) ?_
  ·replace har := har.mono lF
   replace hps := hps.mono lF
   replace hbd := hbd.mono lF
   rw [eS (l := [(0, _)]) ⟨z9 0 rfl, ⟨⟩⟩]
   refine qj (qC [arv] qW qH rfl rfl (Rd.ownN [_] rfl rfl) ?_)
   exact ⟨rfl, rfl⟩
  refine gD (fun W Fs R lF z9 => ?_) ?_
  ·replace har := har.mono lF
   replace hps := hps.mono lF
   replace hbd := hbd.mono lF
   refine qj (qC [ii (fn), psv, bdv] isAgg91 ji rfl rfl (Rd.ownN [] rfl rfl) ?_)
   exact ⟨rfl, rfl⟩
  refine gD (fun W Fs R lF z9 => ?_) ?_
  ·replace har := har.mono lF
   replace hps := hps.mono lF
   replace hbd := hbd.mono lF
   rw [eS (l := [(2, _)]) ⟨z9 2 rfl, ⟨⟩⟩]
   refine qj (ql (args := [.agg #[ii (fn), psv, bdv]]) call58 rfl (left_spec hps hbd (hpn := (by omega)) (hpb := (fun i hi => by have := termOk_len (hall i (by omega)).1; omega))) ?_)
   rintro _ F2 _ le2 ⟨x2, rfl, hr3, rfl⟩
   replace har := har.mono le2
   replace hps := hps.mono le2
   replace hbd := hbd.mono le2
   exact ⟨⟨rfl, hr3⟩, rfl⟩
  refine gD (fun W Fs R lF z9 => ?_) ?_
  ·refine qj (qk (2) qO rfl qA (by decide) rfl rfl ?_)
   exact ⟨rfl, rfl⟩
  refine gD (fun W Fs R lF z9 => ?_) ?_
  ·replace har := har.mono lF
   replace hps := hps.mono lF
   replace hbd := hbd.mono lF
   rw [eS (l := [(4, _)]) ⟨z9 4 rfl, ⟨⟩⟩]
   refine qj (qi qK rfl (Rd.own [] rfl rfl) ?_)
   exact ⟨rfl, rfl⟩
  refine gD (fun W Fs R lF z9 => ?_) ?_
  ·obtain ⟨e3, f3_4hr⟩ := z9 3 rfl
   replace har := har.mono lF
   replace hps := hps.mono lF
   replace hbd := hbd.mono lF
   rw [eS (l := [(3, ((W 3))), (5, _)]) ⟨(e3).symm, z9 5 rfl, ⟨⟩⟩]
   refine qj (XOp.build [((W 3)), bdv] [sN, sN] [(0, 1), (1, 1)] [(0, [((W 3))]), (1, [bdv])] jk zeroValue136 rfl (.cons rfl qA (.cons rfl qA PlacesAre.nil)) rfl (.cons (cells_one (qT f3_4hr)) (.cons (cells_one (qT hbd)) CellsAre.nil)) ?_)
   exact ⟨rfl, rfl⟩
  exact stepsG.nil
 intro W F3 le3 hphi
 obtain ⟨e3, f3_4hr⟩ := hphi 3 (by decide)
 have e6 : W 6 = (.agg #[((W 3)), bdv] : Value) := hphi 6 (by decide)
 generalize hu1 : ((W 3)) = u1 at e3 f3_4hr e6
 rw [eS (l := [(1, _), (3, u1), (6, (.agg #[u1, bdv]))]) ⟨(hphi 1 (by decide)), hu1, e6, ⟨⟩⟩]
 replace har := har.mono le3
 replace hps := hps.mono le3
 replace hbd := hbd.mono le3
 show XL _ _ _ _ _ _ _ (cellsH b2 [ii (fn), psv, bdv] 91 :: cellsH b1 [arv, fsv, lsv] 34 :: L)
 refine cX (ql (args := [.agg #[arv], .agg #[u1, bdv]]) call165 rfl (RuleOk_spec har f3_4hr hbd) ?_)
 rintro _ _ _ _ ⟨rfl, rfl, rfl⟩
 refine qd (.bool (ruleOk ar (leftL (fn, ps, bd)) bd)) rfl ?_
 by_cases h6 : (ruleOk ar (leftL (fn, ps, bd)) bd) = true
 ·have hrk9 : ruleOk ar (leftL (fn, ps, bd)) bd = true := h6
  refine qo (t := 52) rfl (vB h6) (qC [ii (fn), psv, bdv] isAgg91 ji rfl rfl (Rd.ownN [] rfl rfl) (qo (t := 52) rfl (vB h6) (ql (args := [.agg #[ii (fn), psv, bdv]]) call58 rfl (left_spec hps hbd (hpn := (by omega)) (hpb := (fun i hi => by have := termOk_len (hall i (by omega)).1; omega))) ?_)))
  rintro _ F4 _ le4 ⟨x3, rfl, hr4, rfl⟩
  refine qo (t := 52) rfl (vB h6) (ql (args := [x3]) call166 rfl (linear_spec hr4 (hlt := (by have h9 : (leftL (fn, ps, bd)).length ≤ 1 + ps.length * 60 := leftL_lenN (fun i (hi : i < ps.length) => show (ps.getD i []).length ≤ 60 from by have := termOk_len (hall i (by omega)).1; omega); omega))) ?_)
  rintro _ _ _ _ ⟨rfl, rfl, rfl⟩
  refine cX (qM (.bool (decide (LinT (leftL (fn, ps, bd))))) (vB h6) rfl (qg (.bool (decide (LinT (leftL (fn, ps, bd))))) rfl (qb (qq (qn (L' := L) [.bool (decide (LinT (leftL (fn, ps, bd))))] (.bool (decide (LinT (leftL (fn, ps, bd))))) (.tmp rfl .nil) rfl (qt le3 le4) rF (sD (sD sR)) ?_)))))
  exact ⟨congrArg Value.bool (by rw [Bool.eq_iff_iff, line_iff, decide_eq_true_eq]; exact ⟨fun h => h.2.2.2.2, fun h => ⟨hin, hle9, fun i (hi : i < ps.length) => hall i (by omega), hrk9, h⟩⟩), rfl⟩
 rw [Bool.not_eq_true] at h6
 have hrk9 : ruleOk ar (leftL (fn, ps, bd)) bd = false := h6
 refine qp (t := 52) rfl (vB h6) (qp (t := 52) rfl (vB h6) (qp (t := 52) rfl (vB h6) (cX (qL (.bool (false)) (vB h6) rfl (qg (.bool (false)) rfl (qb (qq (qn (L' := L) [.bool (false)] (.bool (false)) (.tmp rfl .nil) rfl le3 rF (sD (sD sR)) ?_))))))))
 exact ⟨congrArg Value.bool (line_no (ar := ar) (fs := fs) (x := (fn, ps, bd)) (fun h9 => by have h8 := h9.2.2.2.1; rw [hrk9] at h8; cases h8)), rfl⟩

/- spec.LinearIn -/
theorem sLinearIn_spec {F : FH} {L : List HP} {arv : Value} {ar : List Int} (har : IntsF F arv ar) {tv : Value} {t : List Int} (ht : IntsF F tv t) (hla : ar.length ≤ 4000000) (hlt : t.length ≤ 4000000) :
    Does prog 162 [.agg #[arv], tv] F (L) (fun v F' L' => (.bool (decide (termOk ar t = true ∧ LinT t)) : Value) = v ∧ F = F' ∧ L = L') := by
 refine qB func162 rfl rfl rfl (qc (qa (cX (qP [arv] rfl rfl ?_))))
 intro b1
 refine qg (.bool (false)) rfl (qb (qc (qa (cX (qC [arv] qW qH rfl rfl (Rd.ownN [] rfl rfl) (qd (tv) rfl (cX (ql (args := [.agg #[arv], tv]) call100 rfl (sTermOk_spec har ht (hla := (by first | assumption | rfl | omega | simp)) (hlt := (by first | assumption | rfl | omega | simp))) ?_))))))))
 rintro _ _ _ _ ⟨rfl, rfl, rfl⟩
 refine qd (.bool (termOk ar t)) rfl ?_
 by_cases h1 : (termOk ar t) = true
 ·refine qo (t := 8) rfl (vB h1) (qm (tv) rfl (qo (t := 8) rfl (vB h1) (ql (args := [tv]) call147 rfl (l2Linear_spec ht (hlt := (by first | assumption | rfl | omega | simp))) ?_)))
  rintro _ _ _ _ ⟨rfl, rfl, rfl⟩
  refine cX (qM (.bool (decide (LinT t))) (vB h1) rfl (qg (.bool (decide (LinT t))) rfl (qb (qq (qn (L' := L) [.bool (decide (LinT t))] (.bool (decide (LinT t))) (.tmp rfl .nil) rfl rF rF (sD sR) ?_)))))
  exact ⟨(vB (by simp_all)), rfl, rfl⟩
 rw [Bool.not_eq_true] at h1
 refine qp (t := 8) rfl (vB h1) (qp (t := 8) rfl (vB h1) (cX (qL (.bool (false)) (vB h1) rfl (qg (.bool (false)) rfl (qb (qq (qn (L' := L) [.bool (false)] (.bool (false)) (.tmp rfl .nil) rfl rF rF (sD sR) ?_)))))))
 exact ⟨(vB (by simp_all)), rfl, rfl⟩

/- spec.l26Line -/
set_option maxHeartbeats 1000000 in
set_option maxRecDepth 20000 in
theorem l26Line_spec {F : FH} {L : List HP} {arv : Value} {ar : List Int} (har : IntsF F arv ar) {fsv : Value} {fs : List Int} (hfs : IntsF F fsv fs) {lsv : Value} {ls : List LineT} (hls : LinesF F lsv ls) {fn : Int} {psv : Value} {ps : List (List Int)} (hps : RowsF F psv ps) {bdv : Value} {bd : List Int} (hbd : IntsF F bdv bd) (hsig : sigOk ar = true) (hset : ∀ n ∈ fs, 0 ≤ n ∧ n < (ar.length : Int)) (hlf : fs.length ≤ 4000000) (hpl : ps.length ≤ 4000000) (hpz : ∀ i, i < ps.length → (ps.getD i []).length ≤ 4000000) (hbl : bd.length ≤ 4000000) (hla : ar.length ≤ 4000000) :
    Does prog 90 [.agg #[arv, fsv, lsv], .agg #[ii (fn), psv, bdv]] F (L) (fun v F' L' => (.bool (lineB ar fs (fn, ps, bd)) : Value) = v ∧ F = F' ∧ L = L') := by
 refine qB func90 rfl rfl rfl ?_
 have hsg := sigOk_spec hsig
 refine qc (qa (cX (qP [arv, fsv, lsv] rfl rfl ?_)))
 intro b1
 refine cX (qP [ii (fn), psv, bdv] rfl rfl ?_)
 intro b2
 refine qg (.bool (false)) rfl (qb (qc (qc ?_)))
 by_cases h1 : ¬(fn ∈ fs)
 ·have hnin : ¬ fn ∈ fs := h1
  refine ju [cellsH b2 [ii (fn), psv, bdv] 91, cellsH b1 [arv, fsv, lsv] 34] L 17 [] [[], [0], [], [2], [1, 3], [4], [5], [6], [6, 7], [6, 8], [6], [6, 10], [6, 11], [6], [6, 13], [6, 12, 14], [6, 15]] (phiL [qe (ptr b1 1), qe fsv, qe (ptr b2 0), qe (ii (fn)), qe (.bool (decide (fn ∈ fs))), qe (.bool (decide (¬(fn ∈ fs)))), qe (.bool (decide (¬(fn ∈ fs)))), qe undef, qe undef, qe undef, qe undef, qe undef, qe undef, qe undef, qe undef, qe undef, qe undef]) (ownL []) mixed rfl rfl (by kernel_rfl) ?_ ?_
  ·refine pD (fun W R z9 => ?_) ?_
   ·refine qj (qk (1) qD rfl qA (by decide) rfl rfl ?_)
    exact ⟨rfl, rfl, rfl⟩
   refine pD (fun W R z9 => ?_) ?_
   ·rw [eS (l := [(0, _)]) ⟨z9 0 rfl, ⟨⟩⟩]
    refine qj (qi qK rfl (Rd.own [_] rfl rfl) ?_)
    exact ⟨rfl, rfl, rfl⟩
   refine pD (fun W R z9 => ?_) ?_
   ·refine qj (qk (0) qO rfl qE (by decide) rfl rfl ?_)
    exact ⟨rfl, rfl, rfl⟩
   refine pD (fun W R z9 => ?_) ?_
   ·rw [eS (l := [(2, _)]) ⟨z9 2 rfl, ⟨⟩⟩]
    refine qj (qi qS rfl (Rd.own [] rfl rfl) ?_)
    exact ⟨rfl, rfl, rfl⟩
   refine pD (fun W R z9 => ?_) ?_
   ·rw [eS (l := [(1, _), (3, _)]) ⟨z9 1 rfl, z9 3 rfl, ⟨⟩⟩]
    refine qj (ql (args := [fsv, ii (fn)]) call103 rfl (l1Has_spec (n := fn) hfs (hbd := (by omega))) ?_)
    rintro _ _ _ _ ⟨rfl, rfl, rfl⟩
    exact ⟨rfl, rfl, rfl⟩
   refine pD (fun W R z9 => ?_) ?_
   ·rw [eS (l := [(4, _)]) ⟨z9 4 rfl, ⟨⟩⟩]
    refine qj (jo rfl ?_)
    exact ⟨rfl, rfl, rfl⟩
   refine pD (fun W R z9 => ?_) ?_
   ·rw [eS (l := [(5, _)]) ⟨z9 5 rfl, ⟨⟩⟩]
    refine qj (qm (.bool (decide (¬(fn ∈ fs)))) rfl ?_)
    exact ⟨rfl, rfl, rfl⟩
   refine pD (fun W R z9 => ?_) ?_
   ·rw [eS (l := [(6, _)]) ⟨z9 6 rfl, ⟨⟩⟩]
    exact qY (t := 13) rfl (vT h1) ⟨rfl, rfl, rfl⟩
   refine pD (fun W R z9 => ?_) ?_
   ·rw [eS (l := [(6, _), (7, undef)]) ⟨z9 6 rfl, z9 7 rfl, ⟨⟩⟩]
    exact qY (t := 13) rfl (vT h1) ⟨rfl, rfl, rfl⟩
   refine pD (fun W R z9 => ?_) ?_
   ·rw [eS (l := [(6, _), (8, undef)]) ⟨z9 6 rfl, z9 8 rfl, ⟨⟩⟩]
    exact qY (t := 13) rfl (vT h1) ⟨rfl, rfl, rfl⟩
   refine pD (fun W R z9 => ?_) ?_
   ·rw [eS (l := [(6, _)]) ⟨z9 6 rfl, ⟨⟩⟩]
    exact qY (t := 13) rfl (vT h1) ⟨rfl, rfl, rfl⟩
   refine pD (fun W R z9 => ?_) ?_
   ·rw [eS (l := [(6, _), (10, undef)]) ⟨z9 6 rfl, z9 10 rfl, ⟨⟩⟩]
    exact qY (t := 13) rfl (vT h1) ⟨rfl, rfl, rfl⟩
   refine pD (fun W R z9 => ?_) ?_
   ·rw [eS (l := [(6, _), (11, undef)]) ⟨z9 6 rfl, z9 11 rfl, ⟨⟩⟩]
    exact qY (t := 13) rfl (vT h1) ⟨rfl, rfl, rfl⟩
   refine pD (fun W R z9 => ?_) ?_
   ·rw [eS (l := [(6, _)]) ⟨z9 6 rfl, ⟨⟩⟩]
    exact qY (t := 13) rfl (vT h1) ⟨rfl, rfl, rfl⟩
   refine pD (fun W R z9 => ?_) ?_
   ·rw [eS (l := [(6, _), (13, undef)]) ⟨z9 6 rfl, z9 13 rfl, ⟨⟩⟩]
    exact qY (t := 13) rfl (vT h1) ⟨rfl, rfl, rfl⟩
   refine pD (fun W R z9 => ?_) ?_
   ·rw [eS (l := [(6, _), (12, undef), (14, undef)]) ⟨z9 6 rfl, z9 12 rfl, z9 14 rfl, ⟨⟩⟩]
    exact qY (t := 13) rfl (vT h1) ⟨rfl, rfl, rfl⟩
   refine pD (fun W R z9 => ?_) ?_
   ·rw [eS (l := [(6, _), (15, undef)]) ⟨z9 6 rfl, z9 15 rfl, ⟨⟩⟩]
    exact qY (t := 13) rfl (vT h1) ⟨rfl, rfl, rfl⟩
   exact stepsP.nil
  intro W hphi
  rw [eS (l := [(6, _), (9, undef), (16, undef)]) ⟨(hphi 6 (by decide)), (hphi 9 (by decide)), (hphi 16 (by decide)), ⟨⟩⟩]
  show XL _ _ _ _ _ _ _ (cellsH b2 [ii (fn), psv, bdv] 91 :: cellsH b1 [arv, fsv, lsv] 34 :: L)
  refine qp (t := 13) rfl (vT h1) (cX (qM (.bool (true)) (vT h1) rfl (qb (jr rfl (qc (qa (qg (.bool (false)) rfl (qb (qq (qh (qn (L' := L) [.bool (false)] (.bool (false)) (.tmp rfl .nil) rfl rF rF (sD (sD sR)) ?_)))))))))))
  exact ⟨(vB (line_no (ar := ar) (fs := fs) (x := (fn, ps, bd)) (fun h9 => by first | exact hnin h9.1 | exact hnl9 h9.2.1))), rfl, rfl⟩
 have hin : fn ∈ fs := Classical.not_not.1 h1
 have hin9 := hset _ hin
 have har9 := hsg.2.2 fn.toNat (by omega)
 refine ju [cellsH b2 [ii (fn), psv, bdv] 91, cellsH b1 [arv, fsv, lsv] 34] L 17 [] [[], [0], [], [2], [1, 3], [4], [5], [6], [6, 7], [6, 8], [6], [6, 10], [6, 11], [6], [6, 13], [6, 12, 14], [6, 15]] (phiL [qe (ptr b1 1), qe fsv, qe (ptr b2 0), qe (ii (fn)), qe (.bool (decide (fn ∈ fs))), qe (.bool (decide (¬(fn ∈ fs)))), qe (.bool (decide (¬(fn ∈ fs)))), qe (ptr b2 1), qe psv, qe (ii ((ps.length : Int)) : Value), qe (ptr b1 0), qe (ptr b1 0), qe arv, qe (ptr b2 0), qe (ii (fn)), qe (.pointer (some (elemA arv ((fn).toNat)))), qe (ii (ar.getD ((fn).toNat) 0))]) (ownL []) mixed rfl rfl (by kernel_rfl) ?_ ?_
 ·refine pD (fun W R z9 => ?_) ?_
  ·refine qj (qk (1) qD rfl qA (by decide) rfl rfl ?_)
   exact ⟨rfl, rfl, rfl⟩
  refine pD (fun W R z9 => ?_) ?_
  ·rw [eS (l := [(0, _)]) ⟨z9 0 rfl, ⟨⟩⟩]
   refine qj (qi qK rfl (Rd.own [_] rfl rfl) ?_)
   exact ⟨rfl, rfl, rfl⟩
  refine pD (fun W R z9 => ?_) ?_
  ·refine qj (qk (0) qO rfl qE (by decide) rfl rfl ?_)
   exact ⟨rfl, rfl, rfl⟩
  refine pD (fun W R z9 => ?_) ?_
  ·rw [eS (l := [(2, _)]) ⟨z9 2 rfl, ⟨⟩⟩]
   refine qj (qi qS rfl (Rd.own [] rfl rfl) ?_)
   exact ⟨rfl, rfl, rfl⟩
  refine pD (fun W R z9 => ?_) ?_
  ·rw [eS (l := [(1, _), (3, _)]) ⟨z9 1 rfl, z9 3 rfl, ⟨⟩⟩]
   refine qj (ql (args := [fsv, ii (fn)]) call103 rfl (l1Has_spec (n := fn) hfs (hbd := (by omega))) ?_)
   rintro _ _ _ _ ⟨rfl, rfl, rfl⟩
   exact ⟨rfl, rfl, rfl⟩
  refine pD (fun W R z9 => ?_) ?_
  ·rw [eS (l := [(4, _)]) ⟨z9 4 rfl, ⟨⟩⟩]
   refine qj (jo rfl ?_)
   exact ⟨rfl, rfl, rfl⟩
  refine pD (fun W R z9 => ?_) ?_
  ·rw [eS (l := [(5, _)]) ⟨z9 5 rfl, ⟨⟩⟩]
   refine qj (qm (.bool (decide (¬(fn ∈ fs)))) rfl ?_)
   exact ⟨rfl, rfl, rfl⟩
  refine pD (fun W R z9 => ?_) ?_
  ·rw [eS (l := [(6, _)]) ⟨z9 6 rfl, ⟨⟩⟩]
   refine qR (t := 13) rfl (vF h1) (qk (1) qO rfl qQ (by decide) rfl rfl ?_)
   exact ⟨rfl, rfl, rfl⟩
  refine pD (fun W R z9 => ?_) ?_
  ·rw [eS (l := [(6, _), (7, _)]) ⟨z9 6 rfl, z9 7 rfl, ⟨⟩⟩]
   refine qR (t := 13) rfl (vF h1) (qi jh rfl (Rd.own [] rfl rfl) ?_)
   exact ⟨rfl, rfl, rfl⟩
  refine pD (fun W R z9 => ?_) ?_
  ·rw [eS (l := [(6, _), (8, _)]) ⟨z9 6 rfl, z9 8 rfl, ⟨⟩⟩]
   refine qR (t := 13) rfl (vF h1) (qy qz rfl hps.slv ?_)
   exact ⟨rfl, rfl, rfl⟩
  refine pD (fun W R z9 => ?_) ?_
  ·rw [eS (l := [(6, _)]) ⟨z9 6 rfl, ⟨⟩⟩]
   refine qR (t := 13) rfl (vF h1) (qk (0) qD rfl qH (by decide) rfl rfl ?_)
   exact ⟨rfl, rfl, rfl⟩
  refine pD (fun W R z9 => ?_) ?_
  ·rw [eS (l := [(6, _), (10, _)]) ⟨z9 6 rfl, z9 10 rfl, ⟨⟩⟩]
   refine qR (t := 13) rfl (vF h1) (qk (0) je rfl qA (by decide) rfl rfl ?_)
   exact ⟨rfl, rfl, rfl⟩
  refine pD (fun W R z9 => ?_) ?_
  ·rw [eS (l := [(6, _), (11, _)]) ⟨z9 6 rfl, z9 11 rfl, ⟨⟩⟩]
   refine qR (t := 13) rfl (vF h1) (qi qK rfl (Rd.own [_] rfl rfl) ?_)
   exact ⟨rfl, rfl, rfl⟩
  refine pD (fun W R z9 => ?_) ?_
  ·rw [eS (l := [(6, _)]) ⟨z9 6 rfl, ⟨⟩⟩]
   refine qR (t := 13) rfl (vF h1) (qk (0) qO rfl qE (by decide) rfl rfl ?_)
   exact ⟨rfl, rfl, rfl⟩
  refine pD (fun W R z9 => ?_) ?_
  ·rw [eS (l := [(6, _), (13, _)]) ⟨z9 6 rfl, z9 13 rfl, ⟨⟩⟩]
   refine qR (t := 13) rfl (vF h1) (qi qS rfl (Rd.own [] rfl rfl) ?_)
   exact ⟨rfl, rfl, rfl⟩
  refine pD (fun W R z9 => ?_) ?_
  ·rw [eS (l := [(6, _), (12, _), (14, _)]) ⟨z9 6 rfl, z9 12 rfl, z9 14 rfl, ⟨⟩⟩]
   refine qR (t := 13) rfl (vF h1) (qx ((fn).toNat) qf qE rfl rfl (by omega) har.slv (by omega) (Nat.mul_one _) ?_)
   exact ⟨rfl, rfl, rfl⟩
  refine pD (fun W R z9 => ?_) ?_
  ·rw [eS (l := [(6, _), (15, _)]) ⟨z9 6 rfl, z9 15 rfl, ⟨⟩⟩]
   refine qR (t := 13) rfl (vF h1) (qi qS rfl (har.rd (by omega)) ?_)
   exact ⟨rfl, rfl, rfl⟩
  exact stepsP.nil
 intro W hphi
 rw [eS (l := [(6, _), (9, _), (16, _)]) ⟨(hphi 6 (by decide)), (hphi 9 (by decide)), (hphi 16 (by decide)), ⟨⟩⟩]
 show XL _ _ _ _ _ _ _ (cellsH b2 [ii (fn), psv, bdv] 91 :: cellsH b1 [arv, fsv, lsv] 34 :: L)
 refine qo (t := 13) rfl (vF h1) (XOp.neq rfl rfl (cX (qL (.bool (decide (((ps.length : Int) : Int) ≠ ar.getD ((fn).toNat) 0))) (vF h1) rfl (qb ?_))))
 refine qv (p := ((ps.length : Int) : Int) ≠ ar.getD ((fn).toNat) 0) rfl (fun h2 => ?_) (fun h2 => ?_)
 ·have hnl9 := h2
  refine qc (qa (qg (.bool (false)) rfl (qb (qq (qh (qn (L' := L) [.bool (false)] (.bool (false)) (.tmp rfl .nil) rfl rF rF (sD (sD sR)) ?_))))))
  exact ⟨(vB (line_no (ar := ar) (fs := fs) (x := (fn, ps, bd)) (fun h9 => by first | exact hnin h9.1 | exact hnl9 h9.2.1))), rfl, rfl⟩
 have hle9 : (ps.length : Int) = ar.getD fn.toNat 0 := Classical.not_not.1 h2
 refine qw (qc (qc (qa (qg (ii (0)) rfl (qb (qF (ja (α := Nat) (fun k => [(2, ptr b1 0), (3, ptr b2 0), (5, ii ((k : Int)))]) (fun k => cellsH b2 [ii (fn), psv, bdv] 91 :: cellsH b1 [arv, fsv, lsv] 34 :: L) (fun k F' => F = F' ∧ (k ≤ ps.length) ∧ (∀ i, i < k → termOk ar (ps.getD i []) = true ∧ freeB fs (ps.getD i []) = true)) (fun k => ps.length - k) 0 ⟨rfl, rfl, rfl, ⟨⟩⟩ (sC (sC sR)) ⟨rfl, (by (try dsimp only) <;> omega), (fun i hi => absurd hi (by omega))⟩ ?_)))))))
 rintro k rE _ _ ⟨rfl, hk, hall⟩
 show X _ _ _ _ (envs [(2, ptr b1 0), (3, ptr b2 0), (5, ii ((k : Int)))] rE) _ (cellsH b2 [ii (fn), psv, bdv] 91 :: cellsH b1 [arv, fsv, lsv] 34 :: L)
 have hpzk := hpz k
 refine qc (qc (qa (qd (ii ((k : Int))) rfl (cX (qk (1) qO rfl qQ (by decide) rfl rfl (cX (qi jh rfl (Rd.own [] rfl rfl) (cX (qy qz rfl hps.slv (cX (qI rfl rfl (qb ?_))))))))))))
 refine qv (p := (k : Int) < (ps.length : Int)) rfl (fun h3 => ?_) (fun h3 => ?_)
 ·refine qw (qc (qF (qc ?_)))
  obtain ⟨a1, ha1, hr1⟩ := hps.rd (i := k) (by omega)
  by_cases h4 : (!(termOk ar ((ps.getD k [])))) = true
  ·have hto9 : termOk ar (ps.getD k []) = false := Bool.not_inj (y := false) h4
   refine ju [cellsH b2 [ii (fn), psv, bdv] 91, cellsH b1 [arv, fsv, lsv] 34] L 17 [] [[], [0], [], [2], [], [3, 4], [5], [1, 6], [7], [8], [9], [9, 10], [9], [9, 11, 12], [9, 13], [9], [9, 15]] (phiL [qe (ptr b1 0), qe (.agg #[arv]), qe (ptr b2 1), qe psv, qe (ii ((k : Int)) : Value), qe (.pointer (some (elemA psv (k)))), qe a1, qe (.bool (termOk ar ((ps.getD k [])))), qe (.bool (!(termOk ar ((ps.getD k []))))), qe (.bool (!(termOk ar ((ps.getD k []))))), qe undef, qe undef, qe undef, qe undef, qe undef, qe undef, qe undef]) (ownL []) mixed rfl rfl (by kernel_rfl) ?_ ?_
   ·refine pD (fun W R z9 => ?_) ?_
    ·refine qj (qk (0) qD rfl qH (by decide) rfl rfl ?_)
     exact ⟨rfl, rfl, rfl⟩
    refine pD (fun W R z9 => ?_) ?_
    ·rw [eS (l := [(0, _)]) ⟨z9 0 rfl, ⟨⟩⟩]
     refine qj (qC [arv] qW qH rfl rfl (Rd.ownN [_] rfl rfl) ?_)
     exact ⟨rfl, rfl, rfl⟩
    refine pD (fun W R z9 => ?_) ?_
    ·refine qj (qk (1) qO rfl qQ (by decide) rfl rfl ?_)
     exact ⟨rfl, rfl, rfl⟩
    refine pD (fun W R z9 => ?_) ?_
    ·rw [eS (l := [(2, _)]) ⟨z9 2 rfl, ⟨⟩⟩]
     refine qj (qi jh rfl (Rd.own [] rfl rfl) ?_)
     exact ⟨rfl, rfl, rfl⟩
    refine pD (fun W R z9 => ?_) ?_
    ·refine qj (qm (ii ((k : Int))) rfl ?_)
     exact ⟨rfl, rfl, rfl⟩
    refine pD (fun W R z9 => ?_) ?_
    ·rw [eS (l := [(3, _), (4, _)]) ⟨z9 3 rfl, z9 4 rfl, ⟨⟩⟩]
     refine qj (qx k qz qA rfl rfl rfl hps.slv (by omega) (Nat.mul_one _) ?_)
     exact ⟨rfl, rfl, rfl⟩
    refine pD (fun W R z9 => ?_) ?_
    ·rw [eS (l := [(5, _)]) ⟨z9 5 rfl, ⟨⟩⟩]
     refine qj (qi qK rfl (hr1 _) ?_)
     exact ⟨rfl, rfl, rfl⟩
    refine pD (fun W R z9 => ?_) ?_
    ·rw [eS (l := [(1, _), (6, _)]) ⟨z9 1 rfl, z9 6 rfl, ⟨⟩⟩]
     refine qj (ql (args := [.agg #[arv], a1]) call100 rfl (sTermOk_spec har ha1 (hla := (by first | assumption | rfl | omega | simp)) (hlt := (by omega))) ?_)
     rintro _ _ _ _ ⟨rfl, rfl, rfl⟩
     exact ⟨rfl, rfl, rfl⟩
    refine pD (fun W R z9 => ?_) ?_
    ·rw [eS (l := [(7, _)]) ⟨z9 7 rfl, ⟨⟩⟩]
     refine qj (jn rfl ?_)
     exact ⟨rfl, rfl, rfl⟩
    refine pD (fun W R z9 => ?_) ?_
    ·rw [eS (l := [(8, _)]) ⟨z9 8 rfl, ⟨⟩⟩]
     refine qj (qm (.bool (!(termOk ar ((ps.getD k []))))) rfl ?_)
     exact ⟨rfl, rfl, rfl⟩
    refine pD (fun W R z9 => ?_) ?_
    ·rw [eS (l := [(9, _)]) ⟨z9 9 rfl, ⟨⟩⟩]
     exact qY (t := 42) rfl (vB h4) ⟨rfl, rfl, rfl⟩
    refine pD (fun W R z9 => ?_) ?_
    ·rw [eS (l := [(9, _), (10, undef)]) ⟨z9 9 rfl, z9 10 rfl, ⟨⟩⟩]
     exact qY (t := 42) rfl (vB h4) ⟨rfl, rfl, rfl⟩
    refine pD (fun W R z9 => ?_) ?_
    ·rw [eS (l := [(9, _)]) ⟨z9 9 rfl, ⟨⟩⟩]
     exact qY (t := 42) rfl (vB h4) ⟨rfl, rfl, rfl⟩
    refine pD (fun W R z9 => ?_) ?_
    ·rw [eS (l := [(9, _), (11, undef), (12, undef)]) ⟨z9 9 rfl, z9 11 rfl, z9 12 rfl, ⟨⟩⟩]
     exact qY (t := 42) rfl (vB h4) ⟨rfl, rfl, rfl⟩
    refine pD (fun W R z9 => ?_) ?_
    ·rw [eS (l := [(9, _), (13, undef)]) ⟨z9 9 rfl, z9 13 rfl, ⟨⟩⟩]
     exact qY (t := 42) rfl (vB h4) ⟨rfl, rfl, rfl⟩
    refine pD (fun W R z9 => ?_) ?_
    ·rw [eS (l := [(9, _)]) ⟨z9 9 rfl, ⟨⟩⟩]
     exact qY (t := 42) rfl (vB h4) ⟨rfl, rfl, rfl⟩
    refine pD (fun W R z9 => ?_) ?_
    ·rw [eS (l := [(9, _), (15, undef)]) ⟨z9 9 rfl, z9 15 rfl, ⟨⟩⟩]
     exact qY (t := 42) rfl (vB h4) ⟨rfl, rfl, rfl⟩
    exact stepsP.nil
   intro W hphi
   rw [eS (l := [(9, _), (14, undef), (16, undef)]) ⟨(hphi 9 (by decide)), (hphi 14 (by decide)), (hphi 16 (by decide)), ⟨⟩⟩]
   show XL _ _ _ _ _ _ _ (cellsH b2 [ii (fn), psv, bdv] 91 :: cellsH b1 [arv, fsv, lsv] 34 :: L)
   refine qp (t := 42) rfl (vB h4) (qp (t := 42) rfl (vB h4) (cX (qM (.bool (true)) (vB h4) rfl (qb (jr rfl (qc (qa (qg (.bool (false)) rfl (qb (qq (qu (qh (qh (qu (qh (qn (L' := L) [.bool (false)] (.bool (false)) (.tmp rfl .nil) rfl rF rF (sD (sD sR)) ?_))))))))))))))))
   exact ⟨(vB (line_no (ar := ar) (fs := fs) (x := (fn, ps, bd)) (fun h9 => by have h8 := h9.2.2.1 k (show k < ps.length by omega); (try dsimp only at h8); first | exact absurd (h8.1.symm.trans hto9) (by decide) | exact absurd (h8.2.symm.trans hfr9) (by decide)))), rfl, rfl⟩
  rw [Bool.not_eq_true] at h4
  have hto9 : termOk ar (ps.getD k []) = true := Bool.not_inj (y := true) h4
  have htl9 := termOk_len hto9
  refine ju [cellsH b2 [ii (fn), psv, bdv] 91, cellsH b1 [arv, fsv, lsv] 34] L 17 [] [[], [0], [], [2], [], [3, 4], [5], [1, 6], [7], [8], [9], [9, 10], [9], [9, 11, 12], [9, 13], [9], [9, 15]] (phiL [qe (ptr b1 0), qe (.agg #[arv]), qe (ptr b2 1), qe psv, qe (ii ((k : Int)) : Value), qe (.pointer (some (elemA psv (k)))), qe a1, qe (.bool (termOk ar ((ps.getD k [])))), qe (.bool (!(termOk ar ((ps.getD k []))))), qe (.bool (!(termOk ar ((ps.getD k []))))), qe (ptr b2 1), qe psv, qe (ii ((k : Int)) : Value), qe (.pointer (some (elemA psv (k)))), qe a1, qe (ptr b1 1), qe fsv]) (ownL []) mixed rfl rfl (by kernel_rfl) ?_ ?_
  ·refine pD (fun W R z9 => ?_) ?_
   ·refine qj (qk (0) qD rfl qH (by decide) rfl rfl ?_)
    exact ⟨rfl, rfl, rfl⟩
   refine pD (fun W R z9 => ?_) ?_
   ·rw [eS (l := [(0, _)]) ⟨z9 0 rfl, ⟨⟩⟩]
    refine qj (qC [arv] qW qH rfl rfl (Rd.ownN [_] rfl rfl) ?_)
    exact ⟨rfl, rfl, rfl⟩
   refine pD (fun W R z9 => ?_) ?_
   ·refine qj (qk (1) qO rfl qQ (by decide) rfl rfl ?_)
    exact ⟨rfl, rfl, rfl⟩
   refine pD (fun W R z9 => ?_) ?_
   ·rw [eS (l := [(2, _)]) ⟨z9 2 rfl, ⟨⟩⟩]
    refine qj (qi jh rfl (Rd.own [] rfl rfl) ?_)
    exact ⟨rfl, rfl, rfl⟩
   refine pD (fun W R z9 => ?_) ?_
   ·refine qj (qm (ii ((k : Int))) rfl ?_)
    exact ⟨rfl, rfl, rfl⟩
   refine pD (fun W R z9 => ?_) ?_
   ·rw [eS (l := [(3, _), (4, _)]) ⟨z9 3 rfl, z9 4 rfl, ⟨⟩⟩]
    refine qj (qx k qz qA rfl rfl rfl hps.slv (by omega) (Nat.mul_one _) ?_)
    exact ⟨rfl, rfl, rfl⟩
   refine pD (fun W R z9 => ?_) ?_
   ·rw [eS (l := [(5, _)]) ⟨z9 5 rfl, ⟨⟩⟩]
    refine qj (qi qK rfl (hr1 _) ?_)
    exact ⟨rfl, rfl, rfl⟩
   refine pD (fun W R z9 => ?_) ?_
   ·rw [eS (l := [(1, _), (6, _)]) ⟨z9 1 rfl, z9 6 rfl, ⟨⟩⟩]
    refine qj (ql (args := [.agg #[arv], a1]) call100 rfl (sTermOk_spec har ha1 (hla := (by first | assumption | rfl | omega | simp)) (hlt := (by omega))) ?_)
    rintro _ _ _ _ ⟨rfl, rfl, rfl⟩
    exact ⟨rfl, rfl, rfl⟩
   refine pD (fun W R z9 => ?_) ?_
   ·rw [eS (l := [(7, _)]) ⟨z9 7 rfl, ⟨⟩⟩]
    refine qj (jn rfl ?_)
    exact ⟨rfl, rfl, rfl⟩
   refine pD (fun W R z9 => ?_) ?_
   ·rw [eS (l := [(8, _)]) ⟨z9 8 rfl, ⟨⟩⟩]
    refine qj (qm (.bool (!(termOk ar ((ps.getD k []))))) rfl ?_)
    exact ⟨rfl, rfl, rfl⟩
   refine pD (fun W R z9 => ?_) ?_
   ·rw [eS (l := [(9, _)]) ⟨z9 9 rfl, ⟨⟩⟩]
    refine qR (t := 42) rfl (vB h4) (qk (1) qO rfl qQ (by decide) rfl rfl ?_)
    exact ⟨rfl, rfl, rfl⟩
   refine pD (fun W R z9 => ?_) ?_
   ·rw [eS (l := [(9, _), (10, _)]) ⟨z9 9 rfl, z9 10 rfl, ⟨⟩⟩]
    refine qR (t := 42) rfl (vB h4) (qi jh rfl (Rd.own [] rfl rfl) ?_)
    exact ⟨rfl, rfl, rfl⟩
   refine pD (fun W R z9 => ?_) ?_
   ·rw [eS (l := [(9, _)]) ⟨z9 9 rfl, ⟨⟩⟩]
    refine qR (t := 42) rfl (vB h4) (qm (ii ((k : Int))) rfl ?_)
    exact ⟨rfl, rfl, rfl⟩
   refine pD (fun W R z9 => ?_) ?_
   ·rw [eS (l := [(9, _), (11, _), (12, _)]) ⟨z9 9 rfl, z9 11 rfl, z9 12 rfl, ⟨⟩⟩]
    refine qR (t := 42) rfl (vB h4) (qx k qz qA rfl rfl rfl hps.slv (by omega) (Nat.mul_one _) ?_)
    exact ⟨rfl, rfl, rfl⟩
   refine pD (fun W R z9 => ?_) ?_
   ·rw [eS (l := [(9, _), (13, _)]) ⟨z9 9 rfl, z9 13 rfl, ⟨⟩⟩]
    refine qR (t := 42) rfl (vB h4) (qi qK rfl (hr1 _) ?_)
    exact ⟨rfl, rfl, rfl⟩
   refine pD (fun W R z9 => ?_) ?_
   ·rw [eS (l := [(9, _)]) ⟨z9 9 rfl, ⟨⟩⟩]
    refine qR (t := 42) rfl (vB h4) (qk (1) qD rfl qA (by decide) rfl rfl ?_)
    exact ⟨rfl, rfl, rfl⟩
   refine pD (fun W R z9 => ?_) ?_
   ·rw [eS (l := [(9, _), (15, _)]) ⟨z9 9 rfl, z9 15 rfl, ⟨⟩⟩]
    refine qR (t := 42) rfl (vB h4) (qi qK rfl (Rd.own [_] rfl rfl) ?_)
    exact ⟨rfl, rfl, rfl⟩
   exact stepsP.nil
  intro W hphi
  rw [eS (l := [(9, _), (14, _), (16, _)]) ⟨(hphi 9 (by decide)), (hphi 14 (by decide)), (hphi 16 (by decide)), ⟨⟩⟩]
  show XL _ _ _ _ _ _ _ (cellsH b2 [ii (fn), psv, bdv] 91 :: cellsH b1 [arv, fsv, lsv] 34 :: L)
  refine qo (t := 42) rfl (vB h4) (ql (args := [a1, fsv]) call104 rfl (l26Without_spec ha1 hfs (hlt := (by omega)) (hlf := (hlf))) ?_)
  rintro _ _ _ _ ⟨rfl, rfl, rfl⟩
  refine qo (t := 42) rfl (vB h4) (jn rfl (cX (qL (.bool (!(freeB fs ((ps.getD k []))))) (vB h4) rfl (qb ?_))))
  refine X.cond (t := !(freeB fs ((ps.getD k [])))) rfl (fun h5 => ?_) (fun h5 => ?_)
  ·have hfr9 : freeB fs (ps.getD k []) = false := by simpa using h5
   refine qc (qa (qg (.bool (false)) rfl (qb (qq (qu (qh (qh (qu (qh (qn (L' := L) [.bool (false)] (.bool (false)) (.tmp rfl .nil) rfl rF rF (sD (sD sR)) ?_))))))))))
   exact ⟨(vB (line_no (ar := ar) (fs := fs) (x := (fn, ps, bd)) (fun h9 => by have h8 := h9.2.2.1 k (show k < ps.length by omega); (try dsimp only at h8); first | exact absurd (h8.1.symm.trans hto9) (by decide) | exact absurd (h8.2.symm.trans hfr9) (by decide)))), rfl, rfl⟩
  have hfr9 : freeB fs (ps.getD k []) = true := by simpa using h5
  refine qw (qa (qd (ii ((k : Int))) rfl (cX (qG (((k + 1 : Nat) : Int)) rfl rfl (by omega) (by omega) (qg (ii (((k + 1 : Nat) : Int))) rfl (qb ?_))))))
  exact ⟨k + 1, _, FLe.refl _, rF, ⟨rfl, rfl, rfl, ⟨⟩⟩, (sC (sC sR)), ⟨rfl, (by (try dsimp only) <;> omega), (fun i hi => (Nat.lt_or_ge i k).elim (fun h => hall i h) (fun h => by obtain rfl : i = k := (by omega); exact ⟨hto9, hfr9⟩))⟩, (by omega)⟩
 refine qX (qr (qr (qJ (qc (qa (cX (qC [ii (fn), psv, bdv] isAgg91 ji rfl rfl (Rd.ownN [] rfl rfl) (cX (jx <| ql (args := [.agg #[ii (fn), psv, bdv]]) call47 rfl (l26Left_spec hps hbd (hpn := (by omega)) (hpb := (fun i hi => by have := termOk_len (hall i (by omega)).1; omega))) ?_)))))))))
 rintro v1 _ _ _ ⟨rfl, hs1, rfl⟩
 refine ⟨_, _, rfl, fun F1 le1 hz1 => ?_⟩
 replace har := har.mono le1
 replace hbd := hbd.mono le1
 have hf1 : IntsF F1 v1 ((leftL (fn, ps, bd))) := intsH.fz (xs := (leftL (fn, ps, bd))) hz1.fz
 refine qg (v1) rfl (qb (qc (qa (cX (qk (0) qD rfl qH (by decide) rfl rfl (cX (qC [arv] qW qH rfl rfl (Rd.ownN [_] rfl rfl) (qd (v1) rfl (cX (ql (args := [.agg #[arv], v1]) call162 rfl (sLinearIn_spec har hf1 (hla := (by first | assumption | rfl | omega | simp)) (hlt := (by have h9 : (leftL (fn, ps, bd)).length ≤ 1 + ps.length * 60 := leftL_lenN (fun i (hi : i < ps.length) => show (ps.getD i []).length ≤ 60 from by have := termOk_len (hall i (by omega)).1; omega); omega))) ?_))))))))))
 rintro _ _ _ _ ⟨rfl, rfl, rfl⟩
 refine qd (.bool (decide (termOk ar ((leftL (fn, ps, bd))) = true ∧ LinT ((leftL (fn, ps, bd)))))) rfl ?_
 by_cases h6 : termOk ar ((leftL (fn, ps, bd))) = true ∧ LinT ((leftL (fn, ps, bd)))
 ·have hlk9 : (termOk ar (leftL (fn, ps, bd)) = true ∧ LinT (leftL (fn, ps, bd))) := by simpa using h6
  refine qo (t := 59) rfl (vT h6) (qk (0) qD rfl qH (by decide) rfl rfl (qo (t := 59) rfl (vT h6) (qC [arv] qW qH rfl rfl (Rd.ownN [_] rfl rfl) (qo (t := 59) rfl (vT h6) (qm (v1) rfl (qo (t := 59) rfl (vT h6) (qk (2) qO rfl qA (by decide) rfl rfl (qo (t := 59) rfl (vT h6) (qi qK rfl (Rd.own [] rfl rfl) (qo (t := 59) rfl (vT h6) (XOp.build [v1, bdv] [sN, sN] [(0, 1), (1, 1)] [(0, [v1]), (1, [bdv])] jk zeroValue136 rfl (.cons rfl qA (.cons rfl qA PlacesAre.nil)) rfl (.cons (cells_one (qT hf1)) (.cons (cells_one (qT hbd)) CellsAre.nil)) (qo (t := 59) rfl (vT h6) (ql (args := [.agg #[arv], .agg #[v1, bdv]]) call163 rfl (sRuleOk_spec har hf1 hbd (hla := (by first | assumption | rfl | omega | simp)) (hlb := (by have h9 : (leftL (fn, ps, bd)).length ≤ 1 + ps.length * 60 := leftL_lenN (fun i (hi : i < ps.length) => show (ps.getD i []).length ≤ 60 from by have := termOk_len (hall i (by omega)).1; omega); omega)) (hlc := (hbl))) ?_)))))))))))))
  rintro _ _ _ _ ⟨rfl, rfl, rfl⟩
  refine cX (qM (.bool (ruleOk ar ((leftL (fn, ps, bd))) bd)) (vT h6) rfl (qg (.bool (ruleOk ar ((leftL (fn, ps, bd))) bd)) rfl (qb (qq (qn (L' := L) [.bool (ruleOk ar ((leftL (fn, ps, bd))) bd)] (.bool (ruleOk ar ((leftL (fn, ps, bd))) bd)) (.tmp rfl .nil) rfl rF le1 (sD (sD sR)) ?_)))))
  exact ⟨(vB (by rw [Bool.eq_iff_iff, line_iff]; exact ⟨fun h => h.2.2.2.1, fun h => ⟨hin, hle9, fun i (hi : i < ps.length) => hall i (by omega), h, hlk9.2⟩⟩)), rfl, rfl⟩
 have hlk9 : ¬ (termOk ar (leftL (fn, ps, bd)) = true ∧ LinT (leftL (fn, ps, bd))) := by simpa using h6
 refine qp (t := 59) rfl (vF h6) (qp (t := 59) rfl (vF h6) (qp (t := 59) rfl (vF h6) (qp (t := 59) rfl (vF h6) (qp (t := 59) rfl (vF h6) (qp (t := 59) rfl (vF h6) (qp (t := 59) rfl (vF h6) (cX (qL (.bool (false)) (vF h6) rfl (qg (.bool (false)) rfl (qb ?_))))))))))
 refine qq (qn (L' := L) [.bool (false)] (.bool (false)) (.tmp rfl .nil) rfl rF le1 (sD (sD sR)) ?_)
 exact ⟨(vB (line_no (ar := ar) (fs := fs) (x := (fn, ps, bd)) (fun h9 => hlk9 ⟨(ruleOk_iff.1 h9.2.2.2.1).left, h9.2.2.2.2⟩))), rfl, rfl⟩

/- impl.FrontOk$1 -/
theorem FrontOk1_spec {F : FH} {L : List HP} {fn : Int} {psv : Value} {ps : List (List Int)} (hps : RowsF F psv ps) {bdv : Value} {bd : List Int} (hbd : IntsF F bdv bd) {arv : Value} {ar : List Int} (har : IntsF F arv ar) {fsv : Value} {fs : List Int} (hfs : IntsF F fsv fs) {lsv : Value} {ls : List LineT} (hls : LinesF F lsv ls) {b : Nat} (hzb : FzC F b [arv, fsv, lsv]) (hsig : sigOk ar = true) (hset : ∀ n ∈ fs, 0 ≤ n ∧ n < (ar.length : Int)) (hlf : fs.length ≤ 4000000) (hpl : ps.length ≤ 4000000) (hpz : ∀ i, i < ps.length → (ps.getD i []).length ≤ 4000000) (hbl : bd.length ≤ 4000000) :
    Does prog 93 [.agg #[ii (fn), psv, bdv], ptr b 0] F (L) (fun v F' L' => (.bool (!(lineB ar fs (fn, ps, bd))) : Value) = v ∧ F = F' ∧ L = L') := by
 refine qB func93 rfl rfl rfl (qc (qa (cX (qP [ii (fn), psv, bdv] rfl rfl ?_))))
 intro b1
 refine qg (.bool (false)) rfl (qb (qc (qa (cX (qC [arv, fsv, lsv] isAgg34 jB rfl rfl (FzC.rd hzb rfl) (cX (qC [ii (fn), psv, bdv] isAgg91 ji rfl rfl (Rd.ownN [] rfl rfl) (cX (ql (args := [.agg #[arv, fsv, lsv], .agg #[ii (fn), psv, bdv]]) call94 rfl (lineOk_spec har hfs hls hps hbd (hsig := (by first | assumption | rfl | omega | simp)) (hset := (by first | assumption | rfl | omega | simp)) (hlf := (by first | assumption | rfl | omega | simp)) (hpl := (by first | assumption | rfl | omega | simp)) (hpz := (by first | assumption | rfl | omega | simp)) (hbl := (by first | assumption | rfl | omega | simp))) ?_)))))))))
 rintro _ F1 _ le1 ⟨rfl, rfl⟩
 refine cX (jn rfl (qg (.bool (!(lineB ar fs (fn, ps, bd)))) rfl (qb (qq (qn (L' := L) [.bool (!(lineB ar fs (fn, ps, bd)))] (.bool (!(lineB ar fs (fn, ps, bd)))) (.tmp rfl .nil) rfl rF le1 (sD sR) ?_)))))
 exact ⟨rfl, rfl, rfl⟩

/- slices.IndexFunc[[]impl.Line,impl.Line] -/
theorem IndexFuncL_spec {F : FH} {L : List HP} {xsv : Value} {xs : List LineT} (hxs : LinesF F xsv xs) {arv : Value} {ar : List Int} (har : IntsF F arv ar) {fsv : Value} {fs : List Int} (hfs : IntsF F fsv fs) {lsv : Value} {ls : List LineT} (hls : LinesF F lsv ls) {b : Nat} (hzb : FzC F b [arv, fsv, lsv]) (hlx : xs.length ≤ 4000000) (hsig : sigOk ar = true) (hset : ∀ n ∈ fs, 0 ≤ n ∧ n < (ar.length : Int)) (hlf : fs.length ≤ 4000000) (hbd : ∀ i, i < xs.length → (xs.getD i (0, [], [])).2.1.length ≤ 4000000 ∧ (∀ j, j < (xs.getD i (0, [], [])).2.1.length → ((xs.getD i (0, [], [])).2.1.getD j []).length ≤ 4000000) ∧ (xs.getD i (0, [], [])).2.2.length ≤ 4000000) :
    Does prog 113 [xsv, .func (.func 93) #[] #[ptr b 0]] F (L) (fun v F' L' => (ii (badG (lineB ar fs) xs) : Value) = v ∧ F = F' ∧ L = L') := by
 refine qB func113 rfl rfl rfl (qc (qa (qg (ii (0)) rfl (qb (qc (qc (qa (qd (xsv) rfl (cX (qy qV rfl hxs.slv (qd (ii (0)) rfl (qb (qF (ja (α := Nat) (fun k => [(0, xsv), (1, .func (.func 93) #[] #[ptr b 0]), (7, ii ((xs.length : Int))), (8, ii ((k : Int)))]) (fun k => L) (fun k F' => F = F' ∧ (k ≤ xs.length) ∧ (∀ i, i < k → (lineB ar fs) (xs.getD i (0, [], [])) = true)) (fun k => xs.length - k) 0 ⟨rfl, rfl, rfl, rfl, ⟨⟩⟩ sR ⟨rfl, (by (try dsimp only) <;> omega), (fun i hi => absurd hi (by omega))⟩ ?_))))))))))))))
 rintro k rE _ _ ⟨rfl, hk, hall⟩
 show X _ _ _ _ (envs [(0, xsv), (1, .func (.func 93) #[] #[ptr b 0]), (7, ii ((xs.length : Int))), (8, ii ((k : Int)))] rE) _ (L)
 refine qc (qa (cX (qI rfl rfl (qb (qc ?_)))))
 refine qv (p := (k : Int) < (xs.length : Int)) rfl (fun h1 => ?_) (fun h1 => ?_)
 ·refine qw (qc (qF (qc (qa (qd (ii ((k : Int))) rfl (qg (ii ((k : Int))) rfl (qb (qc (qa (qd (.func (.func 93) #[] #[ptr b 0]) rfl (qd (xsv) rfl (qd (ii ((k : Int))) rfl (cX (qx k qV ji rfl rfl rfl hxs.slv (by omega) rfl ?_))))))))))))))
  obtain ⟨a1, a2, ha1, ha2, hrg1, hq1⟩ := hxs.rd (i := k) (by omega)
  refine cX (qC [ii ((xs.getD k (0, [], [])).1), a1, a2] isAgg91 ji rfl rfl (Rd.all (hrg1 _)) (cX (XOp.callV (first := []) (captured := [ptr b 0]) (args := [.agg #[ii ((xs.getD k (0, [], [])).1), a1, a2], ptr b 0]) call93 rfl rfl (FrontOk1_spec ha1 ha2 har hfs hls hzb (hsig := (by first | assumption | rfl | omega | simp)) (hset := (by first | assumption | rfl | omega | simp)) (hlf := (by first | assumption | rfl | omega | simp)) (hpl := ((hbd k (by omega)).1)) (hpz := ((hbd k (by omega)).2.1)) (hbl := ((hbd k (by omega)).2.2))) ?_)))
  rintro _ _ _ _ ⟨rfl, rfl, rfl⟩
  refine qb ?_
  refine X.cond (t := !(lineB ar fs (((xs.getD k (0, [], [])).1), ((xs.getD k (0, [], [])).2.1), ((xs.getD k (0, [], [])).2.2)))) rfl (fun h2 => ?_) (fun h2 => ?_)
  ·have hlk := h2
   refine qc (qa (qd (ii ((k : Int))) rfl (qg (ii ((k : Int))) rfl (qb (qq (qu (qh (qh (qu (qh (qn (L' := L) [ii ((k : Int))] (ii ((k : Int))) (.tmp rfl .nil) rfl rF rF sR ?_)))))))))))
   exact ⟨(vI (badG_at ((0, [], []) : LineT) (by omega) (by simpa using hlk) hall)), rfl, rfl⟩
  have hlk := h2
  refine qw (qa (cX (qG (((k + 1 : Nat) : Int)) rfl rfl (by omega) (by omega) (qd (ii (((k + 1 : Nat) : Int))) rfl (qb ?_)))))
  exact ⟨k + 1, _, FLe.refl _, rF, ⟨rfl, rfl, rfl, rfl, ⟨⟩⟩, sR, ⟨rfl, (by (try dsimp only) <;> omega), (fun i hi => (Nat.lt_or_ge i k).elim (fun h => hall i h) (fun h => by obtain rfl : i = k := (by omega); simpa using hlk))⟩, (by omega)⟩
 refine qX (qr (qr (qJ (qc (qa (qg (ii (-1)) rfl (qb (qq (qn (L' := L) [ii (-1)] (ii (-1)) (.tmp rfl .nil) rfl rF rF sR ?_)))))))))
 exact ⟨(vI (badG_none ((0, [], []) : LineT) (fun i hi => hall i (by omega)))), rfl, rfl⟩

/- slices.ContainsFunc[[]impl.Line,impl.Line] -/
theorem ContainsFuncL_spec {F : FH} {L : List HP} {xsv : Value} {xs : List LineT} (hxs : LinesF F xsv xs) {arv : Value} {ar : List Int} (har : IntsF F arv ar) {fsv : Value} {fs : List Int} (hfs : IntsF F fsv fs) {lsv : Value} {ls : List LineT} (hls : LinesF F lsv ls) {b : Nat} (hzb : FzC F b [arv, fsv, lsv]) (hlx : xs.length ≤ 4000000) (hsig : sigOk ar = true) (hset : ∀ n ∈ fs, 0 ≤ n ∧ n < (ar.length : Int)) (hlf : fs.length ≤ 4000000) (hbd : ∀ i, i < xs.length → (xs.getD i (0, [], [])).2.1.length ≤ 4000000 ∧ (∀ j, j < (xs.getD i (0, [], [])).2.1.length → ((xs.getD i (0, [], [])).2.1.getD j []).length ≤ 4000000) ∧ (xs.getD i (0, [], [])).2.2.length ≤ 4000000) :
    Does prog 92 [xsv, .func (.func 93) #[] #[ptr b 0]] F (L) (fun v F' L' => (.bool (decide (badG (lineB ar fs) xs ≥ 0)) : Value) = v ∧ F = F' ∧ L = L') := by
 refine qB func92 rfl rfl rfl (qc (qa (qg (.bool (false)) rfl (qb (qc (qa (qd (xsv) rfl (qd (.func (.func 93) #[] #[ptr b 0]) rfl (cX (ql (args := [xsv, .func (.func 93) #[] #[ptr b 0]]) call113 rfl (IndexFuncL_spec hxs har hfs hls hzb (hlx := (by first | assumption | rfl | omega | simp)) (hsig := (by first | assumption | rfl | omega | simp)) (hset := (by first | assumption | rfl | omega | simp)) (hlf := (by first | assumption | rfl | omega | simp)) (hbd := (by first | assumption | rfl | omega | simp))) ?_))))))))))
 rintro _ _ _ _ ⟨rfl, rfl, rfl⟩
 refine cX (XOp.geq rfl rfl (qg (.bool (decide ((badG (lineB ar fs) xs : Int) ≥ 0))) rfl (qb (qq (qn (L' := L) [.bool (decide ((badG (lineB ar fs) xs : Int) ≥ 0))] (.bool (decide ((badG (lineB ar fs) xs : Int) ≥ 0))) (.tmp rfl .nil) rfl rF rF sR ?_)))))
 exact ⟨rfl, rfl, rfl⟩

/- impl.FrontOk -/
set_option maxHeartbeats 1000000 in
set_option maxRecDepth 20000 in
theorem FrontOk_spec {F : FH} {L : List HP} {arv : Value} {ar : List Int} (har : IntsF F arv ar) {fsv : Value} {fs : List Int} (hfs : IntsF F fsv fs) {lsv : Value} {ls : List LineT} (hls : LinesF F lsv ls) (hsa : ar.length ≤ 4000000) (hlf : fs.length ≤ 4000000) (hll : ls.length ≤ 4000000) (hlb : ∀ i, i < ls.length → (ls.getD i (0, [], [])).2.1.length ≤ 4000000 ∧ (∀ j, j < (ls.getD i (0, [], [])).2.1.length → ((ls.getD i (0, [], [])).2.1.getD j []).length ≤ 4000000) ∧ (ls.getD i (0, [], [])).2.2.length ≤ 4000000) :
    Does prog 34 [.agg #[arv, fsv, lsv]] F (L) (fun v F' L' => (.bool (frontB ar fs ls) : Value) = v ∧ F = F' ∧ L = L') := by
 refine qB func34 rfl rfl rfl (qc (qa (cX (qP [arv, fsv, lsv] rfl rfl ?_))))
 intro b1
 refine qg (.bool (false)) rfl (qb (qc (qc (qa (cX (qk (0) qD rfl qH (by decide) rfl rfl (cX (qC [arv] qW qH rfl rfl (Rd.ownN [] rfl rfl) (cX (ql (args := [.agg #[arv]]) call91 rfl (SigOk_spec har) ?_))))))))))
 rintro _ _ _ _ ⟨rfl, rfl, rfl⟩
 refine cX (jn rfl (qd (.bool (!(sigOk ar))) rfl ?_))
 by_cases h1 : (!(sigOk ar)) = true
 ·have hsig := Bool.not_inj (y := false) h1
  refine qp (t := 9) rfl (vB h1) (qp (t := 9) rfl (vB h1) (qp (t := 9) rfl (vB h1) (qp (t := 9) rfl (vB h1) (cX (qM (.bool (true)) (vB h1) rfl (qb (jr rfl (qc (qa (qg (.bool (false)) rfl (qb ?_)))))))))))
  refine qq (qh (qn (L' := L) [.bool (false)] (.bool (false)) (.tmp rfl .nil) rfl rF rF (sD sR) ?_))
  exact ⟨(vB (front_no (fun h9 => by first | exact absurd (h9.1.symm.trans hsig) (by decide) | (have h8 := h9.2.2.1; omega)))), rfl, rfl⟩
 rw [Bool.not_eq_true] at h1
 have hsig := Bool.not_inj (y := true) h1
 refine qo (t := 9) rfl (vB h1) (qk (2) qD rfl sizeOf32 (by decide) rfl rfl (qo (t := 9) rfl (vB h1) (qi isAgg32 rfl (Rd.own [] rfl rfl) (qo (t := 9) rfl (vB h1) (qy qV rfl hls.slv (qo (t := 9) rfl (vB h1) (jt rfl rfl (cX (qL (.bool (decide (((ls.length : Int) : Int) > 8))) (vB h1) rfl (qb ?_))))))))))
 refine qv (p := ((ls.length : Int) : Int) > 8) rfl (fun h2 => ?_) (fun h2 => ?_)
 ·have hl8 := h2
  refine qc (qa (qg (.bool (false)) rfl (qb (qq (qh (qn (L' := L) [.bool (false)] (.bool (false)) (.tmp rfl .nil) rfl rF rF (sD sR) ?_))))))
  exact ⟨(vB (front_no (fun h9 => by first | exact absurd (h9.1.symm.trans hsig) (by decide) | (have h8 := h9.2.2.1; omega)))), rfl, rfl⟩
 have hl8 := h2
 refine qw (qc (qc (qa (cX (qk (1) qD rfl qA (by decide) rfl rfl (cX (qi qK rfl (Rd.own [] rfl rfl) (cX (qy qf rfl hfs.slv (qd (ii (0)) rfl (qb (qF (ja (α := Nat) (fun k => [(1, ptr b1 0), (16, fsv), (17, ii ((fs.length : Int))), (18, ii ((k : Int)))]) (fun k => cellsH b1 [arv, fsv, lsv] 34 :: L) (fun k F' => F = F' ∧ (k ≤ fs.length) ∧ (∀ i, i < k → (0 ≤ fs.getD i 0 ∧ fs.getD i 0 < (ar.length : Int)) ∧ (0 < i → fs.getD ((i : Int) - 1).toNat 0 < fs.getD i 0))) (fun k => fs.length - k) 0 ⟨rfl, rfl, rfl, rfl, ⟨⟩⟩ (sC sR) ⟨rfl, (by (try dsimp only) <;> omega), (fun i hi => absurd hi (by omega))⟩ ?_)))))))))))))
 rintro k rE _ _ ⟨rfl, hk, hall⟩
 show X _ _ _ _ (envs [(1, ptr b1 0), (16, fsv), (17, ii ((fs.length : Int))), (18, ii ((k : Int)))] rE) _ (cellsH b1 [arv, fsv, lsv] 34 :: L)
 refine qc (qa (cX (qI rfl rfl (qb (qc ?_)))))
 refine qv (p := (k : Int) < (fs.length : Int)) rfl (fun h3 => ?_) (fun h3 => ?_)
 ·refine qw (qc (qF (qc (qa (qd (ii ((k : Int))) rfl (cX (qx k qf qE rfl rfl rfl hfs.slv (by omega) (Nat.mul_one _) (cX (qi qS rfl (hfs.rd (by omega)) (qg (ii ((k : Int))) rfl (qg (ii (fs.getD k 0)) rfl (qb (qc (qa (qd (ii (fs.getD k 0)) rfl (cX (qI rfl rfl (qd (.bool (decide ((fs.getD k 0 : Int) < 0))) rfl ?_))))))))))))))))))
  by_cases h4 : (fs.getD k 0 : Int) < 0
  ·refine qp (t := 25) rfl (vT h4) (qp (t := 25) rfl (vT h4) (qp (t := 25) rfl (vT h4) (qp (t := 25) rfl (vT h4) (qp (t := 25) rfl (vT h4) (qp (t := 25) rfl (vT h4) (cX (qM (.bool (true)) (vT h4) rfl (qd (.bool (true)) rfl (qp (t := 33) rfl rfl (qp (t := 33) rfl rfl ?_))))))))))
   refine qp (t := 33) rfl rfl (XL.noU (t := 36) rfl rfl (XL.noU (t := 36) rfl rfl (XL.noU (t := 36) rfl rfl (XL.noU (t := 36) rfl rfl (XL.noU (t := 36) rfl rfl (XL.noU (t := 36) rfl rfl (XL.noU (t := 36) rfl rfl (XL.noU (t := 36) rfl rfl (qp (t := 33) rfl rfl ?_)))))))))
   refine cX (qM (.bool (true)) rfl rfl (qb (jr rfl (qc (qa (qg (.bool (false)) rfl (qb (qq (qu (qh (qh (qu (qh (qn (L' := L) [.bool (false)] (.bool (false)) (.tmp rfl .nil) rfl rF rF (sD sR) ?_))))))))))))))
   exact ⟨(vB (front_no (fun h9 => by have h8 := set_iff.1 h9.2.1 k (by omega); omega))), rfl, rfl⟩
  refine qo (t := 25) rfl (vF h4) (qm (ii (fs.getD k 0)) rfl (qo (t := 25) rfl (vF h4) (qk (0) qD rfl qH (by decide) rfl rfl (qo (t := 25) rfl (vF h4) (qk (0) je rfl qA (by decide) rfl rfl (qo (t := 25) rfl (vF h4) (qi qK rfl (Rd.own [] rfl rfl) (qo (t := 25) rfl (vF h4) (qy qf rfl har.slv (qo (t := 25) rfl (vF h4) (XOp.geq rfl rfl (cX (qL (.bool (decide ((fs.getD k 0 : Int) ≥ (ar.length : Int)))) (vF h4) rfl (qd (.bool (decide ((fs.getD k 0 : Int) ≥ (ar.length : Int)))) rfl ?_))))))))))))))
  by_cases h5 : (fs.getD k 0 : Int) ≥ (ar.length : Int)
  ·refine qp (t := 33) rfl (vT h5) (qp (t := 33) rfl (vT h5) (qp (t := 33) rfl (vT h5) (XL.noU (t := 36) rfl rfl (XL.noU (t := 36) rfl rfl (XL.noU (t := 36) rfl rfl (XL.noU (t := 36) rfl rfl (XL.noU (t := 36) rfl rfl (XL.noU (t := 36) rfl rfl (XL.noU (t := 36) rfl rfl ?_)))))))))
   refine XL.noU (t := 36) rfl rfl (qp (t := 33) rfl (vT h5) (cX (qM (.bool (true)) (vT h5) rfl (qb (jr rfl (qc (qa (qg (.bool (false)) rfl (qb (qq (qu (qh (qh (qu (qh (qn (L' := L) [.bool (false)] (.bool (false)) (.tmp rfl .nil) rfl rF rF (sD sR) ?_))))))))))))))))
   exact ⟨(vB (front_no (fun h9 => by have h8 := set_iff.1 h9.2.1 k (by omega); omega))), rfl, rfl⟩
  refine qo (t := 33) rfl (vF h5) (qm (ii ((k : Int))) rfl (qo (t := 33) rfl (vF h5) (jt rfl rfl (qo (t := 33) rfl (vF h5) (qm (.bool (decide ((k : Int) > 0))) rfl ?_)))))
  by_cases h6 : (k : Int) > 0
  ·refine qo (t := 36) rfl (vT h6) (qm (ii (fs.getD k 0)) rfl (qo (t := 36) rfl (vT h6) (qk (1) qD rfl qA (by decide) rfl rfl (qo (t := 36) rfl (vT h6) (qi qK rfl (Rd.own [] rfl rfl) (qo (t := 36) rfl (vT h6) (qm (ii ((k : Int))) rfl (qo (t := 36) rfl (vT h6) (jg (((k : Int)) - 1) rfl rfl (by omega) (by omega) (qo (t := 36) rfl (vT h6) (qx ((((k : Int)) - 1).toNat) qf qE rfl rfl (by omega) hfs.slv (by omega) (Nat.mul_one _) (qo (t := 36) rfl (vT h6) (qi qS rfl (hfs.rd (by omega)) (qo (t := 36) rfl (vT h6) (XOp.leq rfl rfl (qo (t := 33) rfl (vF h5) (qM (.bool (decide ((fs.getD k 0 : Int) ≤ fs.getD ((((k : Int)) - 1).toNat) 0))) (vT h6) rfl (cX (qL (.bool (decide ((fs.getD k 0 : Int) ≤ fs.getD ((((k : Int)) - 1).toNat) 0))) (vF h5) rfl ?_)))))))))))))))))))
   refine qb ?_
   refine qv (p := (fs.getD k 0 : Int) ≤ fs.getD ((((k : Int)) - 1).toNat) 0) rfl (fun h7 => ?_) (fun h7 => ?_)
   ·refine qc (qa (qg (.bool (false)) rfl (qb (qq (qu (qh (qh (qu (qh (qn (L' := L) [.bool (false)] (.bool (false)) (.tmp rfl .nil) rfl rF rF (sD sR) ?_))))))))))
    exact ⟨(vB (front_no (fun h9 => by have h8 := set_iff.1 h9.2.1 k (by omega); omega))), rfl, rfl⟩
   refine qw (qa (cX (qG (((k + 1 : Nat) : Int)) rfl rfl (by omega) (by omega) (qd (ii (((k + 1 : Nat) : Int))) rfl (qb ?_)))))
   exact ⟨k + 1, _, FLe.refl _, rF, ⟨rfl, rfl, rfl, rfl, ⟨⟩⟩, (sC sR), ⟨rfl, (by (try dsimp only) <;> omega), (fun i hi => (Nat.lt_or_ge i k).elim (fun h => hall i h) (fun h => by obtain rfl : i = k := (by omega); omega))⟩, (by omega)⟩
  refine qp (t := 36) rfl (vF h6) (qp (t := 36) rfl (vF h6) (qp (t := 36) rfl (vF h6) (qp (t := 36) rfl (vF h6) (qp (t := 36) rfl (vF h6) (qp (t := 36) rfl (vF h6) (qp (t := 36) rfl (vF h6) (qp (t := 36) rfl (vF h6) (qo (t := 33) rfl (vF h5) (qL (.bool (false)) (vF h6) rfl (cX (qL (.bool (false)) (vF h5) rfl ?_)))))))))))
  refine qb (X.condF rfl (qw (qa (cX (qG (((k + 1 : Nat) : Int)) rfl rfl (by omega) (by omega) (qd (ii (((k + 1 : Nat) : Int))) rfl (qb ?_)))))))
  exact ⟨k + 1, _, FLe.refl _, rF, ⟨rfl, rfl, rfl, rfl, ⟨⟩⟩, (sC sR), ⟨rfl, (by (try dsimp only) <;> omega), (fun i hi => (Nat.lt_or_ge i k).elim (fun h => hall i h) (fun h => by obtain rfl : i = k := (by omega); omega))⟩, (by omega)⟩
 refine qX (qr (qr (qJ (qc (qa ?_)))))
 have hst : setB fs ar.length = true := set_iff.2 (fun i hi => hall i (by omega))
 have hset : ∀ n ∈ fs, 0 ≤ n ∧ n < (ar.length : Int) := fun n hn => set_mem hst hn
 refine cX (qk (2) qD rfl sizeOf32 (by decide) rfl rfl (cX (qi isAgg32 rfl (Rd.own [] rfl rfl) (cX (XOp.makeFuncL [] [ptr b1 0] rfl rfl (XL.freeze [] _ _ rfl (fun F1 le1 hz1 => ?_)))))))
 replace har := har.mono le1
 replace hfs := hfs.mono le1
 replace hls := hls.mono le1
 have hf1 : FzC F1 b1 [arv, fsv, lsv] := Fz.cells hz1
 refine cX (ql (args := [lsv, .func (.func 93) #[] #[ptr b1 0]]) call92 rfl (ContainsFuncL_spec hls har hfs hls hf1 (hlx := (hll)) (hsig := (by first | assumption | rfl | omega | simp)) (hset := (by first | assumption | rfl | omega | simp)) (hlf := (by first | assumption | rfl | omega | simp)) (hbd := (hlb))) ?_)
 rintro _ _ _ _ ⟨rfl, rfl, rfl⟩
 refine cX (jo rfl (qg (.bool (decide (¬(badG (lineB ar fs) ls ≥ 0)))) rfl (qb (qq (qn (L' := L) [.bool (decide (¬(badG (lineB ar fs) ls ≥ 0)))] (.bool (decide (¬(badG (lineB ar fs) ls ≥ 0)))) (.tmp rfl .nil) rfl rF le1 sR ?_)))))
 exact ⟨(vB (by rw [front_lines hsig hst (by omega)]; have hb := badG_iff (q := lineB ar fs) (l := ls); cases hA : ls.all (lineB ar fs) <;> simp_all <;> omega)), rfl, rfl⟩

/- spec.FrontOk -/
set_option maxHeartbeats 1000000 in
set_option maxRecDepth 20000 in
theorem sFrontOk_spec {F : FH} {L : List HP} {arv : Value} {ar : List Int} (har : IntsF F arv ar) {fsv : Value} {fs : List Int} (hfs : IntsF F fsv fs) {lsv : Value} {ls : List LineT} (hls : LinesF F lsv ls) (hla : ar.length ≤ 4000000) (hlf : fs.length ≤ 4000000) (hll : ls.length ≤ 4000000) (hlb : ∀ i, i < ls.length → (ls.getD i (0, [], [])).2.1.length ≤ 4000000 ∧ (∀ j, j < (ls.getD i (0, [], [])).2.1.length → ((ls.getD i (0, [], [])).2.1.getD j []).length ≤ 4000000) ∧ (ls.getD i (0, [], [])).2.2.length ≤ 4000000) :
    Does prog 33 [.agg #[arv, fsv, lsv]] F (L) (fun v F' L' => (.bool (frontB ar fs ls) : Value) = v ∧ F = F' ∧ L = L') := by
 refine qB func33 rfl rfl rfl (qc (qa (cX (qP [arv, fsv, lsv] rfl rfl ?_))))
 intro b1
 refine qg (.bool (false)) rfl (qb (qc (qc (qa (cX (qk (0) qD rfl qH (by decide) rfl rfl (cX (qC [arv] qW qH rfl rfl (Rd.ownN [] rfl rfl) (cX (ql (args := [.agg #[arv]]) call72 rfl (sSigOk_spec har (hla := (by first | assumption | rfl | omega | simp))) ?_))))))))))
 rintro _ _ _ _ ⟨rfl, rfl, rfl⟩
 refine cX (jn rfl (qd (.bool (!(sigOk ar))) rfl ?_))
 by_cases h1 : (!(sigOk ar)) = true
 ·have hsig := Bool.not_inj (y := false) h1
  refine qp (t := 8) rfl (vB h1) (qp (t := 8) rfl (vB h1) (qp (t := 8) rfl (vB h1) (qp (t := 8) rfl (vB h1) (qp (t := 8) rfl (vB h1) (qp (t := 8) rfl (vB h1) (qp (t := 8) rfl (vB h1) (qp (t := 8) rfl (vB h1) (cX (qM (.bool (true)) (vB h1) rfl (qd (.bool (true)) rfl ?_))))))))))
  refine qp (t := 18) rfl rfl (qp (t := 18) rfl rfl (qp (t := 18) rfl rfl (qp (t := 18) rfl rfl (cX (qM (.bool (true)) rfl rfl (qb (jr rfl (qc (qa (qg (.bool (false)) rfl (qb ?_)))))))))))
  refine qq (qh (qn (L' := L) [.bool (false)] (.bool (false)) (.tmp rfl .nil) rfl rF rF (sD sR) ?_))
  exact ⟨(vB (front_no (fun h9 => by first | exact absurd (h9.1.symm.trans hsig) (by decide) | exact absurd (h9.2.1.symm.trans hst) (by decide) | (have h8 := h9.2.2.1; omega)))), rfl, rfl⟩
 rw [Bool.not_eq_true] at h1
 have hsig := Bool.not_inj (y := true) h1
 refine qo (t := 8) rfl (vB h1) (qk (1) qD rfl qA (by decide) rfl rfl (qo (t := 8) rfl (vB h1) (qi qK rfl (Rd.own [] rfl rfl) (qo (t := 8) rfl (vB h1) (qk (0) qD rfl qH (by decide) rfl rfl (qo (t := 8) rfl (vB h1) (qk (0) je rfl qA (by decide) rfl rfl (qo (t := 8) rfl (vB h1) (qi qK rfl (Rd.own [] rfl rfl) (qo (t := 8) rfl (vB h1) (qy qf rfl har.slv (qo (t := 8) rfl (vB h1) (ql (args := [fsv, ii ((ar.length : Int))]) call89 rfl (l23Set_spec (n := (ar.length : Int)) hfs (hlf := (by first | assumption | rfl | omega | simp)) (hn := (by first | assumption | rfl | omega | simp))) ?_)))))))))))))
 rintro _ _ _ _ ⟨rfl, rfl, rfl⟩
 refine qo (t := 8) rfl (vB h1) (jn rfl (cX (qL (.bool (!(setB fs ((ar.length : Int))))) (vB h1) rfl (qd (.bool (!(setB fs ((ar.length : Int))))) rfl ?_))))
 by_cases h2 : (!(setB fs ((ar.length : Int)))) = true
 ·have hst := Bool.not_inj (y := false) h2
  refine qp (t := 18) rfl (vB h2) (qp (t := 18) rfl (vB h2) (qp (t := 18) rfl (vB h2) (qp (t := 18) rfl (vB h2) (cX (qM (.bool (true)) (vB h2) rfl (qb (jr rfl (qc (qa (qg (.bool (false)) rfl (qb ?_)))))))))))
  refine qq (qh (qn (L' := L) [.bool (false)] (.bool (false)) (.tmp rfl .nil) rfl rF rF (sD sR) ?_))
  exact ⟨(vB (front_no (fun h9 => by first | exact absurd (h9.1.symm.trans hsig) (by decide) | exact absurd (h9.2.1.symm.trans hst) (by decide) | (have h8 := h9.2.2.1; omega)))), rfl, rfl⟩
 rw [Bool.not_eq_true] at h2
 have hst := Bool.not_inj (y := true) h2
 have hset : ∀ n ∈ fs, 0 ≤ n ∧ n < (ar.length : Int) := fun n hn => set_mem hst hn
 refine qo (t := 18) rfl (vB h2) (qk (2) qD rfl sizeOf32 (by decide) rfl rfl (qo (t := 18) rfl (vB h2) (qi isAgg32 rfl (Rd.own [] rfl rfl) (qo (t := 18) rfl (vB h2) (qy qV rfl hls.slv (qo (t := 18) rfl (vB h2) (jt rfl rfl (cX (qL (.bool (decide (((ls.length : Int) : Int) > 8))) (vB h2) rfl (qb ?_))))))))))
 refine qv (p := ((ls.length : Int) : Int) > 8) rfl (fun h3 => ?_) (fun h3 => ?_)
 ·have hl8 := h3
  refine qc (qa (qg (.bool (false)) rfl (qb (qq (qh (qn (L' := L) [.bool (false)] (.bool (false)) (.tmp rfl .nil) rfl rF rF (sD sR) ?_))))))
  exact ⟨(vB (front_no (fun h9 => by first | exact absurd (h9.1.symm.trans hsig) (by decide) | exact absurd (h9.2.1.symm.trans hst) (by decide) | (have h8 := h9.2.2.1; omega)))), rfl, rfl⟩
 have hl8 := h3
 refine qw (qc (qc (qa (qg (ii (0)) rfl (qb (qF (ja (α := Nat × FH) (fun xQ => [(1, ptr b1 0), (3, ii (((xQ.1 : Nat) : Int)))]) (fun xQ => cellsH b1 [arv, fsv, lsv] 34 :: L) (fun xQ F' => xQ.2 = F' ∧ F ≤ xQ.2 ∧ (xQ.1 ≤ ls.length) ∧ (∀ i, i < xQ.1 → lineB ar fs (ls.getD i (0, [], [])) = true)) (fun xQ => ls.length - xQ.1) (0, F) ⟨rfl, rfl, ⟨⟩⟩ (sC sR) ⟨rfl, FLe.refl _, (by (try dsimp only) <;> omega), (fun i hi => absurd hi (by omega))⟩ ?_)))))))
 rintro ⟨k, G1⟩ rE _ _ ⟨rfl, leG, hk, hall⟩
 show X _ _ _ _ (envs [(1, ptr b1 0), (3, ii ((k : Int)))] rE) _ (cellsH b1 [arv, fsv, lsv] 34 :: L)
 replace leG : F ≤ G1 := leG
 dsimp only at hk hall
 have leG1 := leG
 replace har := har.mono leG1
 replace hfs := hfs.mono leG1
 replace hls := hls.mono leG1
 refine qc (qc (qa (qd (ii ((k : Int))) rfl (cX (qk (2) qD rfl sizeOf32 (by decide) rfl rfl (cX (qi isAgg32 rfl (Rd.own [] rfl rfl) (cX (qy qV rfl hls.slv (cX (qI rfl rfl (qb ?_))))))))))))
 refine qv (p := (k : Int) < (ls.length : Int)) rfl (fun h4 => ?_) (fun h4 => ?_)
 ·refine qw (qc (qF (qc ?_)))
  obtain ⟨a1, a2, ha1, ha2, hrg1, hq1⟩ := hls.rd (i := k) (by omega)
  refine ju [cellsH b1 [arv, fsv, lsv] 34] L 6 [] [[], [], [1], [], [2, 3], [4]] (phiL [qe (.agg #[arv, fsv, lsv]), qe (ptr b1 2), qe lsv, qe (ii ((k : Int)) : Value), qe (.pointer (some (elemA lsv (k * 3)))), qe (.agg #[ii ((ls.getD k (0, [], [])).1), a1, a2])]) (ownL []) mixed rfl rfl (by kernel_rfl) ?_ ?_
  ·refine pD (fun W R z9 => ?_) ?_
   ·refine qj (qC [arv, fsv, lsv] isAgg34 jB rfl rfl (Rd.ownN [] rfl rfl) ?_)
    exact ⟨rfl, rfl, rfl⟩
   refine pD (fun W R z9 => ?_) ?_
   ·refine qj (qk (2) qD rfl sizeOf32 (by decide) rfl rfl ?_)
    exact ⟨rfl, rfl, rfl⟩
   refine pD (fun W R z9 => ?_) ?_
   ·rw [eS (l := [(1, _)]) ⟨z9 1 rfl, ⟨⟩⟩]
    refine qj (qi isAgg32 rfl (Rd.own [] rfl rfl) ?_)
    exact ⟨rfl, rfl, rfl⟩
   refine pD (fun W R z9 => ?_) ?_
   ·refine qj (qm (ii ((k : Int))) rfl ?_)
    exact ⟨rfl, rfl, rfl⟩
   refine pD (fun W R z9 => ?_) ?_
   ·rw [eS (l := [(2, _), (3, _)]) ⟨z9 2 rfl, z9 3 rfl, ⟨⟩⟩]
    refine qj (qx k qV ji rfl rfl rfl hls.slv (by omega) rfl ?_)
    exact ⟨rfl, rfl, rfl⟩
   refine pD (fun W R z9 => ?_) ?_
   ·rw [eS (l := [(4, _)]) ⟨z9 4 rfl, ⟨⟩⟩]
    refine qj (qC [ii ((ls.getD k (0, [], [])).1), a1, a2] isAgg91 ji rfl rfl (Rd.all (hrg1 _)) ?_)
    exact ⟨rfl, rfl, rfl⟩
   exact stepsP.nil
  intro W hphi
  rw [eS (l := [(0, _), (5, _)]) ⟨(hphi 0 (by decide)), (hphi 5 (by decide)), ⟨⟩⟩]
  show XL _ _ _ _ _ _ _ (cellsH b1 [arv, fsv, lsv] 34 :: L)
  refine cX (ql (args := [.agg #[arv, fsv, lsv], .agg #[ii ((ls.getD k (0, [], [])).1), a1, a2]]) call90 rfl (l26Line_spec har hfs hls ha1 ha2 (hsig := (by first | assumption | rfl | omega | simp)) (hset := (by first | assumption | rfl | omega | simp)) (hlf := (by first | assumption | rfl | omega | simp)) (hpl := ((hlb k (by omega)).1)) (hpz := ((hlb k (by omega)).2.1)) (hbl := ((hlb k (by omega)).2.2)) (hla := (by first | assumption | rfl | omega | simp))) ?_)
  rintro _ _ _ _ ⟨rfl, rfl, rfl⟩
  refine cX (jn rfl (qb ?_))
  refine X.cond (t := !(lineB ar fs (((ls.getD k (0, [], [])).1), ((ls.getD k (0, [], [])).2.1), ((ls.getD k (0, [], [])).2.2)))) rfl (fun h5 => ?_) (fun h5 => ?_)
  ·have hlk := Bool.not_inj (y := false) h5
   refine qc (qa (qg (.bool (false)) rfl (qb (qq (qu (qh (qh (qu (qh (qn (L' := L) [.bool (false)] (.bool (false)) (.tmp rfl .nil) rfl rF leG1 (sD sR) ?_))))))))))
   exact ⟨(vB (by rw [front_lines hsig hst (by omega)]; exact all_fail ((0, [], []) : LineT) (k := k) (by omega) hlk)), rfl, rfl⟩
  have hlk := Bool.not_inj (y := true) h5
  refine qw (qa (qd (ii ((k : Int))) rfl (cX (qG (((k + 1 : Nat) : Int)) rfl rfl (by omega) (by omega) (qg (ii (((k + 1 : Nat) : Int))) rfl (qb ?_))))))
  exact ⟨(k + 1, G1), _, leG1, rF, ⟨rfl, rfl, ⟨⟩⟩, (sC sR), ⟨rfl, leG1, (by (try dsimp only) <;> omega), (fun i hi => (Nat.lt_or_ge i k).elim (fun h => hall i h) (fun h => by obtain rfl : i = k := (by omega); exact hlk))⟩, (by omega)⟩
 refine qX (qr (qr (qJ (qc (qa (qg (.bool (true)) rfl (qb (qq (qn (L' := L) [.bool (true)] (.bool (true)) (.tmp rfl .nil) rfl rF leG1 (sD sR) ?_)))))))))
 exact ⟨(vB (by rw [front_lines hsig hst (by omega), all_getD_iff ((0, [], []) : LineT)]; exact fun i hi => hall i (by omega))), rfl, rfl⟩
end Go.Proofs.YtcdjpapjjoldeaaGreat
