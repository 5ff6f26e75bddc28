/-
  Walks, one after the other (part 3).
-/
import Derived.Test.YtcdjpapjjoldeaaQVL1
import Derived.Test.YtcdjpapjjoldeaaQVB1
set_option linter.unusedSimpArgs false
set_option linter.unusedVariables false
namespace Go.Proofs.Ytcdjpapjjoldeaa
open Go X M Try

/- impl.wordOk$1 -/
theorem wordOk1_spec {F : FH} {L : List HP} {tv : Value} {t : List Int} (ht : IntsF F tv t) {arv : Value} {ar : List Int} (har : IntsF F arv ar) {rsv : Value} {rs : List (List Int × List Int)} (hrs : PairsF F rsv rs) {b : Nat} (hzb : FzC F b [arv, rsv]) :
    Does prog 128 [tv, ptr b 0] F (L) (fun v F' L' => (.bool (!(termOk ar t)) : Value) = v ∧ F = F' ∧ L = L') := by
 refine qD func128 rfl rfl rfl (qc (qa (qg (.bool (false)) rfl (qb (qc (qa (cX (qn (0) qJ rfl qP (by decide) rfl rfl (cX (qq [arv] jk qP rfl rfl (FzC.rdN (o := 0) hzb rfl) (qf (tv) rfl (cX (qp (args := [.agg #[arv], tv]) call79 rfl (TermOk_spec har ht) ?_)))))))))))))
 rintro _ _ _ _ ⟨rfl, rfl, rfl⟩
 refine cX (jt rfl (qg (.bool (!(termOk ar t))) rfl (qb (qr (qo (L' := L) [.bool (!(termOk ar t))] (.bool (!(termOk ar t))) (.tmp rfl .nil) rfl rF rF sR ?_)))))
 exact ⟨rfl, rfl, rfl⟩

/- slices.IndexFunc[[][]int64,[]int64] -/
theorem IndexFuncWord_spec {F : FH} {L : List HP} {tsv : Value} {ts : List (List Int)} (hts : RowsF F tsv ts) {arv : Value} {ar : List Int} (har : IntsF F arv ar) {rsv : Value} {rs : List (List Int × List Int)} (hrs : PairsF F rsv rs) {b : Nat} (hzb : FzC F b [arv, rsv]) (hlt : ts.length ≤ 4000000) :
    Does prog 65 [tsv, .func (.func 128) #[] #[ptr b 0]] F (L) (fun v F' L' => (ii (badIx ar ts) : Value) = v ∧ F = F' ∧ L = L') := by
 refine qD func65 rfl rfl rfl (qc (qa (qg (ii (0)) rfl (qb (qc (qc (qa (qf (tsv) rfl (cX (qC qy rfl hts.slv (qf (ii (0)) rfl (qb (qI (jm (α := Nat) (fun k => [(0, tsv), (1, .func (.func 128) #[] #[ptr b 0]), (7, ii ((ts.length : Int))), (8, ii ((k : Int)))]) (fun k => L) (fun k F' => F = F' ∧ (k ≤ ts.length) ∧ (∀ i, i < k → termOk ar (ts.getD i []) = true)) (fun k => ts.length - k) 0 ⟨rfl, rfl, rfl, rfl, ⟨⟩⟩ sR ⟨rfl, (by (try dsimp only) <;> omega), (fun i hi => absurd hi (by omega))⟩ ?_))))))))))))))
 rintro k rE _ _ ⟨rfl, hk, hall⟩
 show X _ _ _ _ (envs [(0, tsv), (1, .func (.func 128) #[] #[ptr b 0]), (7, ii ((ts.length : Int))), (8, ii ((k : Int)))] rE) _ (L)
 refine qc (qa (cX (qZ rfl rfl (qb (qc ?_)))))
 refine qA (p := (k : Int) < (ts.length : Int)) rfl (fun h1 => ?_) (fun h1 => ?_)
 ·refine qx (qc (qI (qc (qa (qf (ii ((k : Int))) rfl (qg (ii ((k : Int))) rfl (qb (qc (qa (qf (.func (.func 128) #[] #[ptr b 0]) rfl (qf (tsv) rfl (qf (ii ((k : Int))) rfl (cX (qB k qy qu rfl rfl rfl hts.slv (by omega) (Nat.mul_one _) ?_))))))))))))))
  obtain ⟨a1, ha1, hr1⟩ := hts.rd (i := k) (by omega)
  refine cX (qj qY rfl (hr1 _) (cX (XOp.callV (first := []) (captured := [ptr b 0]) (args := [a1, ptr b 0]) call128 rfl rfl (wordOk1_spec ha1 har hrs hzb) ?_)))
  rintro _ _ _ _ ⟨rfl, rfl, rfl⟩
  refine qb ?_
  refine jB (t := !(termOk ar ((ts.getD k [])))) rfl (fun h2 => ?_) (fun h2 => ?_)
  ·refine qc (qa (qf (ii ((k : Int))) rfl (qg (ii ((k : Int))) rfl (qb (qr (qF (qi (qi (qF (qi (qo (L' := L) [ii ((k : Int))] (ii ((k : Int))) (.tmp rfl .nil) rfl rF rF sR ?_)))))))))))
   exact ⟨(vI (badIx_at (by omega) (by simp_all) hall)), rfl, rfl⟩
  refine qx (qa (cX (qK (((k + 1 : Nat) : Int)) rfl rfl (by omega) (by omega) (qf (ii (((k + 1 : Nat) : Int))) rfl (qb ?_)))))
  exact ⟨k + 1, _, FLe.refl _, rF, ⟨rfl, rfl, rfl, rfl, ⟨⟩⟩, sR, ⟨rfl, (by (try dsimp only) <;> omega), (fun i hi => (Nat.lt_or_ge i k).elim (fun h => hall i h) (fun h => by obtain rfl : i = k := (by omega); simp_all))⟩, (by omega)⟩
 refine je (qv (qv (qN (qc (qa (qg (ii (-1)) rfl (qb (qr (qo (L' := L) [ii (-1)] (ii (-1)) (.tmp rfl .nil) rfl rF rF sR ?_)))))))))
 exact ⟨(vI (badIx_none (fun i hi => hall i (by omega)))), rfl, rfl⟩

/- slices.ContainsFunc[[][]int64,[]int64] -/
theorem ContainsFuncWord_spec {F : FH} {L : List HP} {tsv : Value} {ts : List (List Int)} (hts : RowsF F tsv ts) {arv : Value} {ar : List Int} (har : IntsF F arv ar) {rsv : Value} {rs : List (List Int × List Int)} (hrs : PairsF F rsv rs) {b : Nat} (hzb : FzC F b [arv, rsv]) (hlt : ts.length ≤ 4000000) :
    Does prog 127 [tsv, .func (.func 128) #[] #[ptr b 0]] F (L) (fun v F' L' => (.bool (decide (badIx ar ts ≥ 0)) : Value) = v ∧ F = F' ∧ L = L') := by
 refine qD func127 rfl rfl rfl (qc (qa (qg (.bool (false)) rfl (qb (qc (qa (qf (tsv) rfl (qf (.func (.func 128) #[] #[ptr b 0]) rfl (cX (qp (args := [tsv, .func (.func 128) #[] #[ptr b 0]]) call65 rfl (IndexFuncWord_spec hts har hrs hzb (hlt := (by first | assumption | rfl | omega | simp))) ?_))))))))))
 rintro _ _ _ _ ⟨rfl, rfl, rfl⟩
 refine cX (XOp.geq rfl rfl (qg (.bool (decide ((badIx ar ts : Int) ≥ 0))) rfl (qb (qr (qo (L' := L) [.bool (decide ((badIx ar ts : Int) ≥ 0))] (.bool (decide ((badIx ar ts : Int) ≥ 0))) (.tmp rfl .nil) rfl rF rF sR ?_)))))
 exact ⟨rfl, rfl, rfl⟩

/- impl.wordOk -/
theorem wordOk_spec {F : FH} {L : List HP} {arv : Value} {ar : List Int} (har : IntsF F arv ar) {rsv : Value} {rs : List (List Int × List Int)} (hrs : PairsF F rsv rs) {n : Int} {tsv : Value} {ts : List (List Int)} (hts : RowsF F tsv ts) (hlt : ts.length ≤ 4000000) :
    Does prog 63 [.agg #[arv, rsv], ii (n), tsv] F (L) (fun v F' L' => (.bool (wordOkL ar rs n ts) : Value) = v ∧ F = F' ∧ L = L') := by
 refine qD func63 rfl rfl rfl (qc (qa (cX (qW [arv, rsv] rfl rfl ?_))))
 intro b1
 refine qg (.bool (false)) rfl (qb (qc (qc (qa (cX (qq [arv, rsv] qX qL rfl rfl (Rd.ownN [] rfl rfl) (cX (qp (args := [.agg #[arv, rsv]]) call97 rfl (SystemOk_spec har hrs) ?_))))))))
 rintro _ _ _ _ ⟨rfl, rfl, rfl⟩
 refine cX (jt rfl (qf (.bool (!(sysOk ar rs))) rfl ?_))
 by_cases h1 : (!(sysOk ar rs)) = true
 ·refine qs (t := 10) rfl (vB h1) (qs (t := 10) rfl (vB h1) (cX (ja (.bool (true)) (vB h1) rfl (qf (.bool (true)) rfl (qs (t := 14) rfl rfl (qs (t := 14) rfl rfl (cX (ja (.bool (true)) rfl rfl (qb (jN rfl (qc (qa ?_))))))))))))
  refine qg (.bool (false)) rfl (qb (qr (qi (qo (L' := L) [.bool (false)] (.bool (false)) (.tmp rfl .nil) rfl rF rF (sD sR) ?_))))
  exact ⟨(vB (by unfold wordOkL; simp_all <;> omega)), rfl, rfl⟩
 rw [Bool.not_eq_true] at h1
 refine qt (t := 10) rfl (vB h1) (qm (ii (n)) rfl (qt (t := 10) rfl (vB h1) (qZ rfl rfl (cX (qV (.bool (decide ((n : Int) < 0))) (vB h1) rfl (qf (.bool (decide ((n : Int) < 0))) rfl ?_))))))
 by_cases h2 : (n : Int) < 0
 ·refine qs (t := 14) rfl (vT h2) (qs (t := 14) rfl (vT h2) (cX (ja (.bool (true)) (vT h2) rfl (qb (jN rfl (qc (qa (qg (.bool (false)) rfl (qb (qr (qi (qo (L' := L) [.bool (false)] (.bool (false)) (.tmp rfl .nil) rfl rF rF (sD sR) ?_))))))))))))
  exact ⟨(vB (by unfold wordOkL; simp_all <;> omega)), rfl, rfl⟩
 refine qt (t := 14) rfl (vF h2) (qm (ii (n)) rfl (qt (t := 14) rfl (vF h2) (jA rfl rfl (cX (qV (.bool (decide ((n : Int) > 60))) (vF h2) rfl (qb ?_))))))
 refine qA (p := (n : Int) > 60) rfl (fun h3 => ?_) (fun h3 => ?_)
 ·refine qc (qa (qg (.bool (false)) rfl (qb (qr (qi (qo (L' := L) [.bool (false)] (.bool (false)) (.tmp rfl .nil) rfl rF rF (sD sR) ?_))))))
  exact ⟨(vB (by unfold wordOkL; simp_all <;> omega)), rfl, rfl⟩
 refine qx (qc (qa (qf (tsv) rfl (cX (jH [] [ptr b1 0] rfl rfl (XL.freeze [] _ _ rfl (fun F1 le1 hz1 => ?_)))))))
 replace har := har.mono le1
 replace hrs := hrs.mono le1
 replace hts := hts.mono le1
 have hf1 : FzC F1 b1 [arv, rsv] := Fz.cells hz1
 refine cX (qp (args := [tsv, .func (.func 128) #[] #[ptr b1 0]]) call127 rfl (ContainsFuncWord_spec hts har hrs hf1 (hlt := (by first | assumption | rfl | omega | simp))) ?_)
 rintro _ _ _ _ ⟨rfl, rfl, rfl⟩
 refine cX (XOp.notD rfl (qg (.bool (decide (¬(badIx ar ts ≥ 0)))) rfl (qb (qr (qo (L' := L) [.bool (decide (¬(badIx ar ts ≥ 0)))] (.bool (decide (¬(badIx ar ts ≥ 0)))) (.tmp rfl .nil) rfl rF le1 sR ?_)))))
 exact ⟨(vB (by unfold wordOkL; have hb := badIx_iff (ar := ar) (ts := ts); cases hA : ts.all (termOk ar) <;> simp_all <;> omega)), rfl, rfl⟩

/- impl.normalOf -/
theorem normalOf_spec {F : FH} {L : List HP} {arv : Value} {ar : List Int} (har : IntsF F arv ar) {rsv : Value} {rs : List (List Int × List Int)} (hrs : PairsF F rsv rs) {tv : Value} {t : List Int} (ht : IntsF F tv t) {n : Nat} (hsys : sysOk ar rs = true) (ho : termOk ar t = true) (hn : n ≤ 60) :
    Does prog 64 [.agg #[arv, rsv], tv, ii ((n : Int))] F (L) (fun v F' L' => ∃ (a : Value), (.tuple #[a, .bool ((walkGo ar rs 1 n t).2)] : Value) = v ∧ (IntsF F' a (endL t (walkGo ar rs 1 n t).1)) ∧ L = L') := by
 refine qD func64 rfl rfl rfl ?_
 have hwl := walkGo_len (ar := ar) (rs := rs) (st := 1) n t
 refine qc (qa (cX (qW [arv, rsv] rfl rfl ?_)))
 intro b1
 refine qg (sN) rfl (qg (.bool (false)) rfl (qb (qc (qa (cX (qq [arv, rsv] qX qL rfl rfl (Rd.ownN [] rfl rfl) (qf (tv) rfl (qf (ii ((n : Int))) rfl (cX (qp (args := [.agg #[arv, rsv], tv, ii (1), ii (n : Int)]) call129 rfl (walkBy_spec (st := 1) (n := n) har hrs ht (hsys := (by first | assumption | rfl | omega | simp)) (ho := (by first | assumption | rfl | omega | simp)) (hst := (by first | assumption | rfl | omega | simp)) (hn := (by first | assumption | rfl | omega | simp))) ?_))))))))))
 rintro _ F1 _ le1 ⟨x1, x2, rfl, hr1, hr2, hr3, rfl⟩
 refine qf (.tuple #[.agg #[x1, x2], .bool ((walkGo ar rs 1 n t).2)]) rfl (cX (qT (.agg #[x1, x2]) rfl rfl (cX (qT (.bool ((walkGo ar rs 1 n t).2)) rfl rfl (cX (jh [sN, sN] zeroValue132 rfl ?_))))))
 intro b2
 refine cX (qR [] _ [x1, x2] js rfl rfl rfl (qz (qM (qE hr1)) (qz (qM (StepsF.isSl hr2)) qU)) rfl rfl rfl (qg (.bool ((walkGo ar rs 1 n t).2)) rfl (qb (qc (qa (cX (qq [x1, x2] isAgg132 js rfl rfl (Rd.ownN [] rfl rfl) (cX (qp (args := [.agg #[x1, x2]]) call130 rfl (walkEnd_spec hr1 hr2 (hlss := (by first | assumption | rfl | omega | simp))) ?_)))))))))
 rintro _ _ _ _ ⟨rfl, x3, rfl, hr4, rfl⟩
 refine qf (.bool ((walkGo ar rs 1 n t).2)) rfl (qg (x3) rfl (qg (.bool ((walkGo ar rs 1 n t).2)) rfl (qb (qr (qo (L' := L) [x3, .bool ((walkGo ar rs 1 n t).2)] (.tuple #[x3, .bool ((walkGo ar rs 1 n t).2)]) (.tmp rfl (.tmp rfl .nil)) rfl le1 rF (sD (sD sR)) ?_)))))
 exact ⟨_, rfl, hr4, rfl⟩

/- impl.equalBy$1 -/
theorem equalBy1_spec {F : FH} {L : List HP} {tv : Value} {t : List Int} (ht : IntsF F tv t) {arv : Value} {ar : List Int} (har : IntsF F arv ar) {rsv : Value} {rs : List (List Int × List Int)} (hrs : PairsF F rsv rs) {b : Nat} (hzb : FzC F b [arv, rsv]) {n : Nat} {c : Nat} (hzc : FzC F c [ii ((n : Int))]) (hsys : sysOk ar rs = true) (ho : termOk ar t = true) (hn : n ≤ 60) :
    Does prog 134 [tv, ptr b 0, ptr c 0] F (L) (fun v F' L' => ∃ (a : Value), (.tuple #[a, .bool ((walkGo ar rs 1 n t).2)] : Value) = v ∧ (IntsF F' a (endL t (walkGo ar rs 1 n t).1)) ∧ L = L') := by
 refine qD func134 rfl rfl rfl (qc (qa (qg (sN) rfl (qg (.bool (false)) rfl (qb (qc (qa (cX (qq [arv, rsv] qX qL rfl rfl (FzC.rd hzb rfl) (qf (tv) rfl (cX (qj isAgg3 rfl (FzC.rd1 hzc rfl) (cX (qp (args := [.agg #[arv, rsv], tv, ii (n : Int)]) call64 rfl (normalOf_spec (n := n) har hrs ht (hsys := (by first | assumption | rfl | omega | simp)) (ho := (by first | assumption | rfl | omega | simp)) (hn := (by first | assumption | rfl | omega | simp))) ?_))))))))))))))
 rintro _ F1 _ le1 ⟨x1, rfl, hr1, rfl⟩
 refine cX (qT (x1) rfl rfl (cX (qT (.bool ((walkGo ar rs 1 n t).2)) rfl rfl (qg (x1) rfl (qg (.bool ((walkGo ar rs 1 n t).2)) rfl (qb (qr (qo (L' := L) [x1, .bool ((walkGo ar rs 1 n t).2)] (.tuple #[x1, .bool ((walkGo ar rs 1 n t).2)]) (.tmp rfl (.tmp rfl .nil)) rfl le1 rF sR ?_))))))))
 exact ⟨_, rfl, hr1, rfl⟩

/- impl.both[[]int64] -/
theorem both_spec {F : FH} {L : List HP} {xv : Value} {x : List Int} (hx : IntsF F xv x) {yv : Value} {y : List Int} (hy : IntsF F yv y) {arv : Value} {ar : List Int} (har : IntsF F arv ar) {rsv : Value} {rs : List (List Int × List Int)} (hrs : PairsF F rsv rs) {b : Nat} (hzb : FzC F b [arv, rsv]) {n : Nat} {c : Nat} (hzc : FzC F c [ii ((n : Int))]) (hsys : sysOk ar rs = true) (hox : termOk ar x = true) (hoy : termOk ar y = true) (hn : n ≤ 60) :
    Does prog 133 [xv, yv, .func (.func 134) #[] #[ptr b 0, ptr c 0]] F (L) (fun v F' L' => ∃ (a : Value), ∃ (d : Value), (.tuple #[a, d, .bool (((walkGo ar rs 1 n x).2 && (walkGo ar rs 1 n y).2))] : Value) = v ∧ (IntsF F' a (endL x (walkGo ar rs 1 n x).1)) ∧ (IntsF F' d (endL y (walkGo ar rs 1 n y).1)) ∧ L = L') := by
 refine qD func133 rfl rfl rfl (qc (qa (qg (sN) rfl (qg (sN) rfl (qg (.bool (false)) rfl (qb (qc (qa (qf (.func (.func 134) #[] #[ptr b 0, ptr c 0]) rfl (qf (xv) rfl (cX (XOp.callV (first := []) (captured := [ptr b 0, ptr c 0]) (args := [xv, ptr b 0, ptr c 0]) call134 rfl rfl (equalBy1_spec hx har hrs hzb hzc (hsys := (by first | assumption | rfl | omega | simp)) (ho := (by first | assumption | rfl | omega | simp)) (hn := (by first | assumption | rfl | omega | simp))) ?_))))))))))))
 rintro _ F1 _ le1 ⟨x1, rfl, hr1, rfl⟩
 replace hy := hy.mono le1
 replace har := har.mono le1
 replace hrs := hrs.mono le1
 replace hzb := hzb.mono le1
 replace hzc := hzc.mono le1
 refine qf (.tuple #[x1, .bool ((walkGo ar rs 1 n x).2)]) rfl (cX (qT (x1) rfl rfl (cX (qT (.bool ((walkGo ar rs 1 n x).2)) rfl rfl (qg (x1) rfl (qg (.bool ((walkGo ar rs 1 n x).2)) rfl (qb (qc (qa (qf (.func (.func 134) #[] #[ptr b 0, ptr c 0]) rfl (qf (yv) rfl (cX (XOp.callV (first := []) (captured := [ptr b 0, ptr c 0]) (args := [yv, ptr b 0, ptr c 0]) call134 rfl rfl (equalBy1_spec hy har hrs hzb hzc (hsys := (by first | assumption | rfl | omega | simp)) (ho := (by first | assumption | rfl | omega | simp)) (hn := (by first | assumption | rfl | omega | simp))) ?_)))))))))))))
 rintro _ F2 _ le2 ⟨x2, rfl, hr2, rfl⟩
 replace hr1 := hr1.mono le2
 refine qf (.tuple #[x2, .bool ((walkGo ar rs 1 n y).2)]) rfl (cX (qT (x2) rfl rfl (cX (qT (.bool ((walkGo ar rs 1 n y).2)) rfl rfl (qg (x2) rfl (qg (.bool ((walkGo ar rs 1 n y).2)) rfl (qb (qc (qa (qf (x1) rfl (qf (x2) rfl (qf (.bool ((walkGo ar rs 1 n x).2)) rfl (qf (.bool ((walkGo ar rs 1 n x).2)) rfl ?_)))))))))))))
 by_cases h1 : ((walkGo ar rs 1 n x).2) = true
 ·refine qt (t := 28) rfl (vB h1) (qm (.bool ((walkGo ar rs 1 n y).2)) rfl (cX (ja (.bool ((walkGo ar rs 1 n y).2)) (vB h1) rfl (qg (x1) rfl (qg (x2) rfl (qg (.bool ((walkGo ar rs 1 n y).2)) rfl (qb (qr (qo (L' := L) [x1, x2, .bool ((walkGo ar rs 1 n y).2)] (.tuple #[x1, x2, .bool ((walkGo ar rs 1 n y).2)]) (.tmp rfl (.tmp rfl (.tmp rfl .nil))) rfl (qk le1 le2) rF sR ?_)))))))))
  exact ⟨_, _, by first | rfl | (rw [‹(walkGo ar rs 1 n x).2 = _›]; rfl), hr1, hr2, rfl⟩
 rw [Bool.not_eq_true] at h1
 refine qs (t := 28) rfl (vB h1) (cX (qV (.bool (false)) (vB h1) rfl (qg (x1) rfl (qg (x2) rfl (qg (.bool (false)) rfl (qb (qr (qo (L' := L) [x1, x2, .bool (false)] (.tuple #[x1, x2, .bool (false)]) (.tmp rfl (.tmp rfl (.tmp rfl .nil))) rfl (qk le1 le2) rF sR ?_))))))))
 exact ⟨_, _, by first | rfl | (rw [‹(walkGo ar rs 1 n x).2 = _›]; rfl), hr1, hr2, rfl⟩

/- impl.equalBy -/
theorem equalBy_spec {F : FH} {L : List HP} {arv : Value} {ar : List Int} (har : IntsF F arv ar) {rsv : Value} {rs : List (List Int × List Int)} (hrs : PairsF F rsv rs) {av : Value} {a : List Int} (ha : IntsF F av a) {bv : Value} {b : List Int} (hb : IntsF F bv b) {n : Nat} (hsys : sysOk ar rs = true) (hoa : termOk ar a = true) (hob : termOk ar b = true) (hn : n ≤ 60) :
    Does prog 71 [.agg #[arv, rsv], av, bv, ii ((n : Int))] F (L) (fun v F' L' => (ii (eqN ar rs a b n) : Value) = v ∧ F = F' ∧ L = L') := by
 refine qD func71 rfl rfl rfl ?_
 have hwa := walkGo_ok (ar := ar) (rs := rs) (st := 1) n a (right_iff.2 ⟨hsys, hoa⟩)
 have hwb := walkGo_ok (ar := ar) (rs := rs) (st := 1) n b (right_iff.2 ⟨hsys, hob⟩)
 have hla := termOk_len (right_iff.1 hwa.2.1).2
 have hlb := termOk_len (right_iff.1 hwb.2.1).2
 refine qc (qa (cX (qW [arv, rsv] rfl rfl ?_)))
 intro b1
 refine cX (qW [ii ((n : Int))] rfl rfl ?_)
 intro b2
 refine qg (ii (0)) rfl (qb (qc (qa (qf (av) rfl (qf (bv) rfl (cX (jH [] [ptr b1 0, ptr b2 0] rfl rfl (XL.freeze [_] _ _ rfl (fun F1 le1 hz1 => ?_)))))))))
 replace har := har.mono le1
 replace hrs := hrs.mono le1
 replace ha := ha.mono le1
 replace hb := hb.mono le1
 have hf1 : FzC F1 b1 [arv, rsv] := Fz.cells hz1
 refine XL.freeze [] _ _ rfl (fun F2 le2 hz2 => ?_)
 replace har := har.mono le2
 replace hrs := hrs.mono le2
 replace ha := ha.mono le2
 replace hb := hb.mono le2
 replace hf1 := hf1.mono le2
 have hf2 : FzC F2 b2 [ii ((n : Int))] := Fz.cells hz2
 refine cX (qp (args := [av, bv, .func (.func 134) #[] #[ptr b1 0, ptr b2 0]]) call133 rfl (both_spec ha hb har hrs hf1 hf2 (hsys := (by first | assumption | rfl | omega | simp)) (hox := (by first | assumption | rfl | omega | simp)) (hoy := (by first | assumption | rfl | omega | simp)) (hn := (by first | assumption | rfl | omega | simp))) ?_)
 rintro _ F3 _ le3 ⟨x1, x2, rfl, hr1, hr2, rfl⟩
 refine qf (.tuple #[x1, x2, .bool (((walkGo ar rs 1 n a).2 && (walkGo ar rs 1 n b).2))]) rfl (cX (qT (x1) rfl rfl (cX (qT (x2) rfl rfl (cX (qT (.bool (((walkGo ar rs 1 n a).2 && (walkGo ar rs 1 n b).2))) rfl rfl (qg (x1) rfl (qg (x2) rfl (qg (.bool (((walkGo ar rs 1 n a).2 && (walkGo ar rs 1 n b).2))) rfl (qb (qc (qI (qc (qa (qf (.bool (((walkGo ar rs 1 n a).2 && (walkGo ar rs 1 n b).2))) rfl (cX (jt rfl ?_)))))))))))))))))
 refine qg (.bool (!(((walkGo ar rs 1 n a).2 && (walkGo ar rs 1 n b).2)))) rfl (qb ?_)
 refine jB (t := !(((walkGo ar rs 1 n a).2 && (walkGo ar rs 1 n b).2))) rfl (fun h1 => ?_) (fun h1 => ?_)
 ·refine qc (qa (qg (ii (-1)) rfl (qb (qr (qF (qi (qo (L' := L) [ii (-1)] (ii (-1)) (.tmp rfl .nil) rfl rF (qk (qk le1 le2) le3) sR ?_)))))))
  exact ⟨(vI (by rw [eqN, if_neg (fun h => by simp_all)])), rfl, rfl⟩
 refine qc (qa (qf (x1) rfl (qf (x2) rfl (cX (qp (args := [x1, x2]) call67 rfl (Equal_spec hr1 hr2 (hbd := (by first | assumption | rfl | omega | (left; simp; done) | (right; simp; done)))) ?_)))))
 rintro _ _ _ _ ⟨rfl, rfl, rfl⟩
 refine qg (.bool (decide ((endL a (walkGo ar rs 1 n a).1) = (endL b (walkGo ar rs 1 n b).1)))) rfl (qb ?_)
 refine qA (p := (endL a (walkGo ar rs 1 n a).1) = (endL b (walkGo ar rs 1 n b).1)) rfl (fun h2 => ?_) (fun h2 => ?_)
 ·refine qc (qa (qg (ii (1)) rfl (qb (qr (qF (qi (qo (L' := L) [ii (1)] (ii (1)) (.tmp rfl .nil) rfl rF (qk (qk le1 le2) le3) sR ?_)))))))
  exact ⟨(vI (by rw [eqN, if_pos (by simp_all), if_pos (by assumption)])), rfl, rfl⟩
 refine qx (qc (qa (qg (ii (0)) rfl (qb (qr (qo (L' := L) [ii (0)] (ii (0)) (.tmp rfl .nil) rfl rF (qk (qk le1 le2) le3) sR ?_))))))
 exact ⟨(vI (by rw [eqN, if_pos (by simp_all), if_neg (by assumption)])), rfl, rfl⟩

/- impl.EqualBy -/
theorem EqualBy_spec {F : FH} {L : List HP} {arv : Value} {ar : List Int} (har : IntsF F arv ar) {rsv : Value} {rs : List (List Int × List Int)} (hrs : PairsF F rsv rs) {av : Value} {a : List Int} (ha : IntsF F av a) {bv : Value} {b : List Int} (hb : IntsF F bv b) {n : Int} :
    Does prog 20 [.agg #[arv, rsv], av, bv, ii (n)] F (L) (fun v F' L' => (ii (eqB ar rs a b n) : Value) = v ∧ F = F' ∧ L = L') := by
 refine qD func20 rfl rfl rfl (qc (qa (cX (qW [arv, rsv] rfl rfl ?_))))
 intro b1
 refine qg (ii (0)) rfl (qb (qc (qc (qa (cX (qq [arv, rsv] qX qL rfl rfl (Rd.ownN [] rfl rfl) (qf (ii (n)) rfl (qf (av) rfl (qf (bv) rfl (cX (ql (s := 1) [av, bv] [sN] [(0, [av]), (1, [bv])] qy qu jK rfl (by decide) rfl (.cons (cells_one (qE ha)) (.cons (cells_one (qE hb)) CellsAre.nil)) rfl ?_)))))))))))
 intro v1 hv1
 have hc1 : RowsC F [av, bv] ([a, b] : List (List Int)) := (RowsC.snoc (RowsC.snoc (CO.nil : RowsC F [] []) ha) hb)
 refine jy [] _ _ rfl (fun F1 le1 hz1 => ?_)
 replace har := har.mono le1
 replace hrs := hrs.mono le1
 replace ha := ha.mono le1
 replace hb := hb.mono le1
 replace hc1 := hc1.mono le1
 have hf1 : RowsF F1 v1 (([a, b] : List (List Int))) := CO.fz hc1 (by first | rfl | omega | (rw [List.length_set]; omega) | (simp; done)) hz1.fz
 refine cX (qp (args := [.agg #[arv, rsv], ii (n), v1]) call63 rfl (wordOk_spec (n := n) har hrs hf1 (hlt := (by first | assumption | rfl | omega | simp))) ?_)
 rintro _ _ _ _ ⟨rfl, rfl, rfl⟩
 refine cX (jt rfl (qb ?_))
 refine jB (t := !(wordOkL ar rs n (([a, b] : List (List Int))))) rfl (fun h1 => ?_) (fun h1 => ?_)
 ·refine qc (qa (qg (ii (-1)) rfl (qb (qr (qi (qo (L' := L) [ii (-1)] (ii (-1)) (.tmp rfl .nil) rfl rF le1 (sD sR) ?_))))))
  exact ⟨(vI (by rw [eqB, if_neg]; intro h; have h1 := right_iff.1 h.1.1; have h2 := right_iff.1 h.1.2; simp_all [wordOkL] <;> omega)), rfl, rfl⟩
 have hwo : wordOkL ar rs n [a, b] = true := by simpa using h1
 unfold wordOkL at hwo
 simp only [Bool.and_eq_true, decide_eq_true_eq, List.all_cons, List.all_nil] at hwo
 obtain ⟨⟨hsys, hn0⟩, hoa, hob, _⟩ := hwo
 refine qx (qc (qa (cX (qq [arv, rsv] qX qL rfl rfl (Rd.ownN [] rfl rfl) (qf (av) rfl (qf (bv) rfl (qf (ii (n)) rfl (cX (qp (args := [.agg #[arv, rsv], av, bv, ii (((n).toNat : Nat) : Int)]) call71 (by rw [show (((n).toNat : Nat) : Int) = n from by omega]; rfl) (equalBy_spec (n := (n).toNat) har hrs ha hb (hsys := (by first | assumption | rfl | omega | simp)) (hoa := (by first | assumption | rfl | omega | simp)) (hob := (by first | assumption | rfl | omega | simp)) (hn := (by first | assumption | rfl | omega | simp))) ?_)))))))))
 rintro _ _ _ _ ⟨rfl, rfl, rfl⟩
 refine qg (ii (eqN ar rs a b ((n).toNat))) rfl (qb (qr (qo (L' := L) [ii (eqN ar rs a b ((n).toNat))] (ii (eqN ar rs a b ((n).toNat))) (.tmp rfl .nil) rfl rF le1 (sD sR) ?_)))
 exact ⟨(vI (by rw [eqB, if_pos ⟨⟨right_iff.2 ⟨hsys, hoa⟩, right_iff.2 ⟨hsys, hob⟩⟩, hn0⟩])), rfl, rfl⟩

/- spec.l22All -/
theorem l22All_spec {F : FH} {L : List HP} {arv : Value} {ar : List Int} (har : IntsF F arv ar) {rsv : Value} {rs : List (List Int × List Int)} (hrs : PairsF F rsv rs) {tsv : Value} {ts : List (List Int)} (hts : RowsF F tsv ts) {n : Int} (hla : ar.length ≤ 4000000) (hlr : rs.length ≤ 4000000) (hrb : ∀ i, i < rs.length → (rs.getD i ([], [])).1.length ≤ 4000000 ∧ (rs.getD i ([], [])).2.length ≤ 4000000) (hlt : ts.length ≤ 4000000) (htb : ∀ i, i < ts.length → (ts.getD i []).length ≤ 4000000) :
    Does prog 68 [.agg #[arv, rsv], tsv, ii (n)] F (L) (fun v F' L' => (.bool (allOk ar rs ts n) : Value) = v ∧ F = F' ∧ L = L') := by
 refine qD func68 rfl rfl rfl (qc (qa (cX (qW [arv, rsv] rfl rfl ?_))))
 intro b1
 refine qg (.bool (false)) rfl (qb (qc (qc (qa (qf (tsv) rfl (cX (qC qy rfl hts.slv (cX (jA rfl rfl (qf (.bool (decide (((ts.length : Int) : Int) > 16))) rfl ?_))))))))))
 by_cases h1 : ((ts.length : Int) : Int) > 16
 ·refine qs (t := 11) rfl (vT h1) (qs (t := 11) rfl (vT h1) (qs (t := 11) rfl (vT h1) (cX (ja (.bool (true)) (vT h1) rfl (qf (.bool (true)) rfl (qs (t := 16) rfl rfl (qs (t := 16) rfl rfl (qs (t := 16) rfl rfl (cX (ja (.bool (true)) rfl rfl (qb ?_)))))))))))
  refine jN rfl (qc (qa (qg (.bool (false)) rfl (qb (qr (qi (qo (L' := L) [.bool (false)] (.bool (false)) (.tmp rfl .nil) rfl rF rF (sD sR) ?_)))))))
  exact ⟨(vB (by unfold allOk; simp_all <;> omega)), rfl, rfl⟩
 refine qt (t := 11) rfl (vF h1) (qq [arv, rsv] qX qL rfl rfl (Rd.ownN [] rfl rfl) (qt (t := 11) rfl (vF h1) (qp (args := [.agg #[arv, rsv]]) call95 rfl (sSystemOk_spec har hrs (hla := (by first | assumption | rfl | omega | simp)) (hlr := (by first | assumption | rfl | omega | simp)) (hrb := (by first | assumption | rfl | omega | simp))) ?_)))
 rintro _ _ _ _ ⟨rfl, rfl, rfl⟩
 refine qt (t := 11) rfl (vF h1) (jt rfl (cX (qV (.bool (!(sysOk ar rs))) (vF h1) rfl (qf (.bool (!(sysOk ar rs))) rfl ?_))))
 by_cases h2 : (!(sysOk ar rs)) = true
 ·refine qs (t := 16) rfl (vB h2) (qs (t := 16) rfl (vB h2) (qs (t := 16) rfl (vB h2) (cX (ja (.bool (true)) (vB h2) rfl (qb (jN rfl (qc (qa (qg (.bool (false)) rfl (qb (qr (qi (qo (L' := L) [.bool (false)] (.bool (false)) (.tmp rfl .nil) rfl rF rF (sD sR) ?_)))))))))))))
  exact ⟨(vB (by unfold allOk; simp_all <;> omega)), rfl, rfl⟩
 rw [Bool.not_eq_true] at h2
 refine qt (t := 16) rfl (vB h2) (qm (ii (n)) rfl (qt (t := 16) rfl (vB h2) (qp (args := [ii (n), ii (0), ii (60)]) call112 rfl (l1In_spec (n := n) (a := 0) (b := 60)) ?_)))
 rintro _ _ _ _ ⟨rfl, rfl, rfl⟩
 refine qt (t := 16) rfl (vB h2) (XOp.notD rfl (cX (qV (.bool (decide (¬(0 ≤ n ∧ n ≤ 60)))) (vB h2) rfl (qb ?_))))
 refine qA (p := ¬(0 ≤ n ∧ n ≤ 60)) rfl (fun h3 => ?_) (fun h3 => ?_)
 ·refine qc (qa (qg (.bool (false)) rfl (qb (qr (qi (qo (L' := L) [.bool (false)] (.bool (false)) (.tmp rfl .nil) rfl rF rF (sD sR) ?_))))))
  exact ⟨(vB (by unfold allOk; simp_all <;> omega)), rfl, rfl⟩
 refine qx (qc (qc (qa (qg (ii (0)) rfl (qb (qI (jm (α := Nat) (fun k => [(1, tsv), (3, ptr b1 0), (7, ii ((k : Int)))]) (fun k => cellsH b1 [arv, rsv] 32 :: L) (fun k F' => F = F' ∧ (k ≤ ts.length) ∧ (∀ i, i < k → termOk ar (ts.getD i []) = true)) (fun k => ts.length - k) 0 ⟨rfl, rfl, rfl, ⟨⟩⟩ (sC sR) ⟨rfl, (by (try dsimp only) <;> omega), (fun i hi => absurd hi (by omega))⟩ ?_)))))))
 rintro k rE _ _ ⟨rfl, hk, hall⟩
 show X _ _ _ _ (envs [(1, tsv), (3, ptr b1 0), (7, ii ((k : Int)))] rE) _ (cellsH b1 [arv, rsv] 32 :: L)
 have htbk := htb k
 refine qc (qc (qa (qf (ii ((k : Int))) rfl (qf (tsv) rfl (cX (qC qy rfl hts.slv (cX (qZ rfl rfl (qb ?_)))))))))
 refine qA (p := (k : Int) < (ts.length : Int)) rfl (fun h4 => ?_) (fun h4 => ?_)
 ·refine qx (qc (qI (qc ?_)))
  obtain ⟨a1, ha1, hr1⟩ := hts.rd (i := k) (by omega)
  refine jM [cellsH b1 [arv, rsv] 32] L 6 [] [[], [0], [], [], [2, 3], [4]] (phiL [qe (ptr b1 0), qe (.agg #[arv]), qe tsv, qe (ii ((k : Int)) : Value), qe (.pointer (some (elemA tsv (k)))), qe a1]) (ownL []) mixed rfl rfl (by kernel_rfl) ?_ ?_
  ·refine pD (fun W R z9 => ?_) ?_
   ·refine qh (qn (0) qJ rfl qP (by decide) rfl rfl ?_)
    exact ⟨rfl, rfl, rfl⟩
   refine pD (fun W R z9 => ?_) ?_
   ·rw [eS (l := [(0, _)]) ⟨z9 0 rfl, ⟨⟩⟩]
    refine qh (qq [arv] jk qP rfl rfl (Rd.ownN [] rfl rfl) ?_)
    exact ⟨rfl, rfl, rfl⟩
   refine pD (fun W R z9 => ?_) ?_
   ·refine qh (qm (tsv) rfl ?_)
    exact ⟨rfl, rfl, rfl⟩
   refine pD (fun W R z9 => ?_) ?_
   ·refine qh (qm (ii ((k : Int))) rfl ?_)
    exact ⟨rfl, rfl, rfl⟩
   refine pD (fun W R z9 => ?_) ?_
   ·rw [eS (l := [(2, _), (3, _)]) ⟨z9 2 rfl, z9 3 rfl, ⟨⟩⟩]
    refine qh (qB k qy qu rfl rfl rfl hts.slv (by omega) (Nat.mul_one _) ?_)
    exact ⟨rfl, rfl, rfl⟩
   refine pD (fun W R z9 => ?_) ?_
   ·rw [eS (l := [(4, _)]) ⟨z9 4 rfl, ⟨⟩⟩]
    refine qh (qj qY rfl (hr1 _) ?_)
    exact ⟨rfl, rfl, rfl⟩
   exact stepsP.nil
  intro W hphi
  rw [eS (l := [(1, _), (5, _)]) ⟨(hphi 1 (by decide)), (hphi 5 (by decide)), ⟨⟩⟩]
  show XL _ _ _ _ _ _ _ (cellsH b1 [arv, rsv] 32 :: L)
  refine cX (qp (args := [.agg #[arv], a1]) call81 rfl (sTermOk_spec har ha1 (hla := (by first | assumption | rfl | omega | simp)) (hlt := (by first | assumption | rfl | omega | simp))) ?_)
  rintro _ _ _ _ ⟨rfl, rfl, rfl⟩
  refine cX (jt rfl (qb ?_))
  refine jB (t := !(termOk ar ((ts.getD k [])))) rfl (fun h5 => ?_) (fun h5 => ?_)
  ·refine qc (qa (qg (.bool (false)) rfl (qb (qr (qF (qi (qi (qF (qi (qo (L' := L) [.bool (false)] (.bool (false)) (.tmp rfl .nil) rfl rF rF (sD sR) ?_))))))))))
   exact ⟨(vB (by rw [allOk, all_fail [] (k := k) (by omega) (by simp_all)]; simp)), rfl, rfl⟩
  refine qx (qa (qf (ii ((k : Int))) rfl (cX (qK (((k + 1 : Nat) : Int)) rfl rfl (by omega) (by omega) (qg (ii (((k + 1 : Nat) : Int))) rfl (qb ?_))))))
  exact ⟨k + 1, _, FLe.refl _, rF, ⟨rfl, rfl, rfl, ⟨⟩⟩, (sC sR), ⟨rfl, (by (try dsimp only) <;> omega), (fun i hi => (Nat.lt_or_ge i k).elim (fun h => hall i h) (fun h => by obtain rfl : i = k := (by omega); simp_all))⟩, (by omega)⟩
 refine je (qv (qv (qN (qc (qa (qg (.bool (true)) rfl (qb (qr (qo (L' := L) [.bool (true)] (.bool (true)) (.tmp rfl .nil) rfl rF rF (sD sR) ?_)))))))))
 exact ⟨(vB (by rw [allOk, (all_getD_iff []).2 (fun i hi => hall i (by omega))]; simp_all <;> omega)), rfl, rfl⟩

/- impl.ClassesBy$1 -/
theorem ClassesBy1_spec {F : FH} {L : List HP} {yv : Value} {y : List Int} (hy : IntsF F yv y) {xv : Value} {x : List Int} (hx : IntsF F xv x) {b : Nat} (hzb : FzC F b [xv]) (hbx : x.length ≤ 4000000) :
    Does prog 66 [yv, ptr b 0] F (L) (fun v F' L' => (.bool (decide (y = x)) : Value) = v ∧ F = F' ∧ L = L') := by
 refine qD func66 rfl rfl rfl (qc (qa (qg (.bool (false)) rfl (qb (qc (qa (qf (yv) rfl (cX (qj qY rfl (FzC.rd1 hzb rfl) (cX (qp (args := [yv, xv]) call67 rfl (Equal_spec hy hx (hbd := (by first | assumption | rfl | omega | (left; simp; done) | (right; simp; done)))) ?_)))))))))))
 rintro _ _ _ _ ⟨rfl, rfl, rfl⟩
 refine qg (.bool (decide (y = x))) rfl (qb (qr (qo (L' := L) [.bool (decide (y = x))] (.bool (decide (y = x))) (.tmp rfl .nil) rfl rF rF sR ?_)))
 exact ⟨rfl, rfl, rfl⟩

/- slices.IndexFunc[[][]int64,[]int64] -/
theorem IndexFuncSame_spec {F : FH} {L : List HP} {tsv : Value} {ts : List (List Int)} (hts : RowsF F tsv ts) {xv : Value} {x : List Int} (hx : IntsF F xv x) {b : Nat} (hzb : FzC F b [xv]) (hlt : ts.length ≤ 4000000) (hbx : x.length ≤ 4000000) :
    Does prog 65 [tsv, .func (.func 66) #[] #[ptr b 0]] F (L) (fun v F' L' => (ii (badG (fun y => !decide (y = x)) ts) : Value) = v ∧ F = F' ∧ L = L') := by
 refine qD func65 rfl rfl rfl (qc (qa (qg (ii (0)) rfl (qb (qc (qc (qa (qf (tsv) rfl (cX (qC qy rfl hts.slv (qf (ii (0)) rfl (qb (qI (jm (α := Nat) (fun k => [(0, tsv), (1, .func (.func 66) #[] #[ptr b 0]), (7, ii ((ts.length : Int))), (8, ii ((k : Int)))]) (fun k => L) (fun k F' => F = F' ∧ (k ≤ ts.length) ∧ (∀ i, i < k → (fun y => !decide (y = x)) (ts.getD i []) = true)) (fun k => ts.length - k) 0 ⟨rfl, rfl, rfl, rfl, ⟨⟩⟩ sR ⟨rfl, (by (try dsimp only) <;> omega), (fun i hi => absurd hi (by omega))⟩ ?_))))))))))))))
 rintro k rE _ _ ⟨rfl, hk, hall⟩
 show X _ _ _ _ (envs [(0, tsv), (1, .func (.func 66) #[] #[ptr b 0]), (7, ii ((ts.length : Int))), (8, ii ((k : Int)))] rE) _ (L)
 refine qc (qa (cX (qZ rfl rfl (qb (qc ?_)))))
 refine qA (p := (k : Int) < (ts.length : Int)) rfl (fun h1 => ?_) (fun h1 => ?_)
 ·refine qx (qc (qI (qc (qa (qf (ii ((k : Int))) rfl (qg (ii ((k : Int))) rfl (qb (qc (qa (qf (.func (.func 66) #[] #[ptr b 0]) rfl (qf (tsv) rfl (qf (ii ((k : Int))) rfl (cX (qB k qy qu rfl rfl rfl hts.slv (by omega) (Nat.mul_one _) ?_))))))))))))))
  obtain ⟨a1, ha1, hr1⟩ := hts.rd (i := k) (by omega)
  refine cX (qj qY rfl (hr1 _) (cX (XOp.callV (first := []) (captured := [ptr b 0]) (args := [a1, ptr b 0]) call66 rfl rfl (ClassesBy1_spec ha1 hx hzb (hbx := (by first | assumption | rfl | omega | simp))) ?_)))
  rintro _ _ _ _ ⟨rfl, rfl, rfl⟩
  refine qb ?_
  refine jB (t := decide (((ts.getD k [])) = x)) rfl (fun h2 => ?_) (fun h2 => ?_)
  ·refine qc (qa (qf (ii ((k : Int))) rfl (qg (ii ((k : Int))) rfl (qb (qr (qF (qi (qi (qF (qi (qo (L' := L) [ii ((k : Int))] (ii ((k : Int))) (.tmp rfl .nil) rfl rF rF sR ?_)))))))))))
   exact ⟨(vI (badG_at [] (by omega) (by simp_all) hall)), rfl, rfl⟩
  refine qx (qa (cX (qK (((k + 1 : Nat) : Int)) rfl rfl (by omega) (by omega) (qf (ii (((k + 1 : Nat) : Int))) rfl (qb ?_)))))
  exact ⟨k + 1, _, FLe.refl _, rF, ⟨rfl, rfl, rfl, rfl, ⟨⟩⟩, sR, ⟨rfl, (by (try dsimp only) <;> omega), (fun i hi => (Nat.lt_or_ge i k).elim (fun h => hall i h) (fun h => by obtain rfl : i = k := (by omega); simp_all))⟩, (by omega)⟩
 refine je (qv (qv (qN (qc (qa (qg (ii (-1)) rfl (qb (qr (qo (L' := L) [ii (-1)] (ii (-1)) (.tmp rfl .nil) rfl rF rF sR ?_)))))))))
 exact ⟨(vI (badG_none [] (fun i hi => hall i (by omega)))), rfl, rfl⟩

/- impl.ClassesBy -/
theorem ClassesBy_spec {F : FH} {L : List HP} {arv : Value} {ar : List Int} (har : IntsF F arv ar) {rsv : Value} {rs : List (List Int × List Int)} (hrs : PairsF F rsv rs) {tsv : Value} {ts : List (List Int)} (hts : RowsF F tsv ts) {n : Int} (hlt : ts.length ≤ 4000000) :
    Does prog 17 [.agg #[arv, rsv], tsv, ii (n)] F (L) (fun v F' L' => ∃ (r : Value), (r : Value) = v ∧ (IntsF F' r (clsL ar rs ts n)) ∧ (Fresh F F' (star [intsH 2 r (clsL ar rs ts n)])) ∧ L = L') := by
 refine qD func17 rfl rfl rfl (qc (qa (cX (qW [arv, rsv] rfl rfl ?_))))
 intro b1
 refine qg (sN) rfl (qb (qc (qc (qa (qf (tsv) rfl (cX (qC qy rfl hts.slv (cX (jA rfl rfl (qf (.bool (decide (((ts.length : Int) : Int) > 16))) rfl ?_))))))))))
 by_cases h1 : ((ts.length : Int) : Int) > 16
 ·refine qs (t := 16) rfl (vT h1) (qs (t := 16) rfl (vT h1) (qs (t := 16) rfl (vT h1) (qs (t := 16) rfl (vT h1) (qs (t := 16) rfl (vT h1) (cX (ja (.bool (true)) (vT h1) rfl (qb (jN rfl (qc (qa (qg (sN) rfl ?_)))))))))))
  refine qb (qr (qi (qo (L' := L) [sN] (sN) (.tmp rfl .nil) rfl rF rF (sD sR) ?_)))
  have e9 : clsL ar rs ts n = [] := by first | (refine clsL_no1 ?_; omega) | (refine clsL_no2 ?_; simpa using h2)
  exact ⟨_, rfl, by rw [e9]; exact IntsF.nilV, by rw [e9]; exact Fresh.one (Fresh.ofNil _), rfl⟩
 refine qt (t := 16) rfl (vF h1) (qq [arv, rsv] qX qL rfl rfl (Rd.ownN [] rfl rfl) (qt (t := 16) rfl (vF h1) (qm (ii (n)) rfl (qt (t := 16) rfl (vF h1) (qm (tsv) rfl (qt (t := 16) rfl (vF h1) (qp (args := [.agg #[arv, rsv], ii (n), tsv]) call63 rfl (wordOk_spec (n := n) har hrs hts (hlt := (by first | assumption | rfl | omega | simp))) ?_)))))))
 rintro _ _ _ _ ⟨rfl, rfl, rfl⟩
 refine qt (t := 16) rfl (vF h1) (jt rfl (cX (qV (.bool (!(wordOkL ar rs n ts))) (vF h1) rfl (qb ?_))))
 refine jB (t := !(wordOkL ar rs n ts)) rfl (fun h2 => ?_) (fun h2 => ?_)
 ·refine qc (qa (qg (sN) rfl (qb (qr (qi (qo (L' := L) [sN] (sN) (.tmp rfl .nil) rfl rF rF (sD sR) ?_))))))
  have e9 : clsL ar rs ts n = [] := by first | (refine clsL_no1 ?_; omega) | (refine clsL_no2 ?_; simpa using h2)
  exact ⟨_, rfl, by rw [e9]; exact IntsF.nilV, by rw [e9]; exact Fresh.one (Fresh.ofNil _), rfl⟩
 have hwt : wordOkL ar rs n ts = true := by simpa using h2
 unfold wordOkL at hwt
 simp only [Bool.and_eq_true, decide_eq_true_eq] at hwt
 have hall := hwt.2
 have hsys := hwt.1.1
 have hn0 := hwt.1.2
 have hok : allOk ar rs ts n = true := allOk_iff.2 ⟨hsys, hn0, hall, by omega⟩
 refine qx (qc (qa (qg (sN) rfl (qb (qc (qa (qg (sN) rfl (qb (qc (qc (qa (qf (tsv) rfl (cX (qC qy rfl hts.slv (qf (ii (0)) rfl (qb (qI (jm (α := Nat × Value × RowL × List Value × Value × List Int × FH) (fun xQ => [(2, ii (n)), (3, ptr b1 0), (7, xQ.2.1), (8, xQ.2.2.2.2.1), (23, tsv), (24, ii ((ts.length : Int))), (25, ii (((xQ.1 : Nat) : Int)))]) (fun xQ => slH 27 1 xQ.2.1 xQ.1 xQ.2.2.2.1 :: intsH 2 xQ.2.2.2.2.1 xQ.2.2.2.2.2.1 :: cellsH b1 [arv, rsv] 32 :: L) (fun xQ F' => xQ.2.2.2.2.2.2 = F' ∧ F ≤ xQ.2.2.2.2.2.2 ∧ (IsSl xQ.2.1) ∧ (IsSl xQ.2.2.2.2.1) ∧ (xQ.1 ≤ ts.length) ∧ (RowsC xQ.2.2.2.2.2.2 xQ.2.2.2.1 xQ.2.2.1) ∧ (xQ.2.2.1 = nfR ar rs ts n xQ.1) ∧ (xQ.2.2.2.2.2.1 = clsTo ar rs ts n xQ.1) ∧ (∀ i, i < xQ.1 → nfF ar rs n (ts.getD i []) = true)) (fun xQ => ts.length - xQ.1) (0, sN, [], [], sN, [], F) ⟨rfl, rfl, rfl, rfl, rfl, rfl, rfl, ⟨⟩⟩ (Sub.trans (Sub.addNil 27 1 _ _) (sC (Sub.trans (intsH.addNil 2 none _) (sC (sC sR))))) ⟨rfl, FLe.refl _, (⟨_, _, _, rfl⟩), (⟨_, _, _, rfl⟩), (by (try dsimp only) <;> omega), (CO.nil), (rfl), (rfl), (fun i hi => absurd hi (by omega))⟩ ?_))))))))))))))))))
 rintro ⟨k, rv, vs, rcs, ov, os, G1⟩ rE _ _ ⟨rfl, leG, hrv, hov, hk, hC, hvs, hos, hfl⟩
 show X _ _ _ _ (envs [(2, ii (n)), (3, ptr b1 0), (7, rv), (8, ov), (23, tsv), (24, ii ((ts.length : Int))), (25, ii ((k : Int)))] rE) _ (slH 27 1 rv k rcs :: intsH 2 ov os :: cellsH b1 [arv, rsv] 32 :: L)
 replace leG : F ≤ G1 := leG
 dsimp only at hrv hov hk hC hvs hos hfl
 have hot := fun (h : k < ts.length) => all_at hall h
 have htl9 := fun (h : k < ts.length) => termOk_len (all_at hall h)
 have hvl : vs.length = k := by rw [hvs]; exact nfR_len
 have hol : os.length = k := by rw [hos]; exact clsTo_len
 have leG1 := leG
 replace har := har.mono leG1
 replace hrs := hrs.mono leG1
 replace hts := hts.mono leG1
 refine qc (qa (cX (qZ rfl rfl (qb (qc ?_)))))
 refine qA (p := (k : Int) < (ts.length : Int)) rfl (fun h3 => ?_) (fun h3 => ?_)
 ·refine qx (qc (qI (qc (qa (cX (qB k qy qu rfl rfl rfl hts.slv (by omega) (Nat.mul_one _) ?_))))))
  obtain ⟨a1, ha1, hr1⟩ := hts.rd (i := k) (by omega)
  refine cX (qj qY rfl (hr1 _) (qg (a1) rfl (qb (qc (qa (cX (qq [arv, rsv] qX qL rfl rfl (Rd.ownN [_, _] rfl rfl) (qf (a1) rfl (qf (ii (n)) rfl (cX (qp (args := [.agg #[arv, rsv], a1, ii (((n).toNat : Nat) : Int)]) call64 (by rw [show (((n).toNat : Nat) : Int) = n from by omega]; rfl) (normalOf_spec (n := (n).toNat) har hrs ha1 (hsys := (by first | assumption | rfl | omega | simp)) (ho := (hot (by omega))) (hn := (by first | assumption | rfl | omega | simp))) ?_)))))))))))
  rintro _ F1 _ le1 ⟨x1, rfl, hr2, rfl⟩
  replace hC := hC.mono le1
  refine qf (.tuple #[x1, .bool ((walkGo ar rs 1 ((n).toNat) ((ts.getD k []))).2)]) rfl (cX (qT (x1) rfl rfl (cX (qT (.bool ((walkGo ar rs 1 ((n).toNat) ((ts.getD k []))).2)) rfl rfl (cX (jh [sN] jK rfl ?_))))))
  intro b2
  refine cX (jz [] _ [x1] qu rfl rfl (qM (qE hr2)) rfl rfl rfl (qg (.bool ((walkGo ar rs 1 ((n).toNat) ((ts.getD k []))).2)) rfl (qb (qc (qc (qa (qf (.bool ((walkGo ar rs 1 ((n).toNat) ((ts.getD k []))).2)) rfl (cX (jt rfl (qb ?_))))))))))
  refine jB (t := !((walkGo ar rs 1 ((n).toNat) ((ts.getD k []))).2)) rfl (fun h4 => ?_) (fun h4 => ?_)
  ·refine qc (qa (qg (sN) rfl (qb (qr (qi (qF (qi (qi (qF (qi (qo (L' := L) [sN] (sN) (.tmp rfl .nil) rfl (qk leG1 le1) rF (sD (sD (sD (sD sR)))) ?_)))))))))))
   have e9 : clsL ar rs ts n = [] := clsL_no3 (k := k) (by omega) (show (walkGo ar rs 1 n.toNat (ts.getD k [])).2 = false by simp_all)
   exact ⟨_, rfl, by rw [e9]; exact IntsF.nilV, by rw [e9]; exact Fresh.one (Fresh.ofNil _), rfl⟩
  refine qx (qc (qa (qf (rv) rfl (cX (qj qY rfl (Rd.own [] rfl rfl) (cX (ql (s := 1) [x1] [sN] [(0, [x1])] qy qu jK rfl (by decide) rfl (.cons (cells_one (qE hr2)) CellsAre.nil) rfl ?_)))))))
  intro v1 hv1
  refine cX (jQ (m := 1) (bytes := 24) (cs := rcs) [_, _] _ [x1] qy typeInfo27 rfl rfl rfl rfl rfl rfl rfl (SlV.own [] rfl) rfl (Rd.lit [] rfl) (qz (qM (qE hr2)) qU) (by (try simp only [List.length_append, List.length_nil, List.length_cons, List.length_singleton]); omega) (by (try simp only [List.length_append, List.length_nil, List.length_cons, List.length_singleton]); omega) ?_)
  intro v2 hs1 hn1 hm1
  have hc1 := RowsC.snoc hC hr2
  refine qg (v2) rfl (qb (qa (qf (ov) rfl (qf (v2) rfl (cX (jH [] [ptr b2 0] rfl rfl (XL.freeze [_] _ _ rfl (fun F2 le2 hz1 => ?_))))))))
  replace hr2 := hr2.mono le2
  replace hc1 := hc1.mono le2
  have hf1 : FzC F2 b2 [x1] := Fz.cells hz1
  refine cX (XOp.lend [_] _ _ rfl (fun F3 le3 hz2 => ?_))
  have hf2 : RowsF _ v2 (vs ++ [endL ((ts.getD k [])) (walkGo ar rs 1 ((n).toNat) ((ts.getD k []))).1]) := (CO.fz (RowsC.mono hc1 (qk le3 rF)) (by first | rfl | assumption | omega | (rw [List.length_append]; simp only [List.length_singleton]; omega)) hz2 : RowsF _ v2 (vs ++ [endL ((ts.getD k [])) (walkGo ar rs 1 ((n).toNat) ((ts.getD k []))).1]))
  refine id (qp (args := [v2, .func (.func 66) #[] #[ptr b2 0]]) call65 rfl (IndexFuncSame_spec hf2 ((hr2.mono le3)) ((hf1.mono le3)) (hlt := (by rw [List.length_append]; simp only [List.length_singleton]; omega)) (hbx := (by have := nfE_len (n := n) hsys (hot (by omega)); omega))) ?_)
  rintro _ _ _ _ ⟨rfl, rfl, rfl⟩
  show XL _ _ _ _ _ _ _ (slH 27 1 v2 ((k) + 1) (rcs ++ [x1]) :: slH 27 1 v1 1 [x1] :: intsH 2 ov os :: cellsH b1 [arv, rsv] 32 :: L)
  refine cX (ql (s := 1) [ii (badG (fun y => !decide (y = (endL ((ts.getD k [])) (walkGo ar rs 1 ((n).toNat) ((ts.getD k []))).1))) (vs ++ [endL ((ts.getD k [])) (walkGo ar rs 1 ((n).toNat) ((ts.getD k []))).1]))] [ii (0)] [(0, [ii (badG (fun y => !decide (y = (endL ((ts.getD k [])) (walkGo ar rs 1 ((n).toNat) ((ts.getD k []))).1))) (vs ++ [endL ((ts.getD k [])) (walkGo ar rs 1 ((n).toNat) ((ts.getD k []))).1]))])] qd qw qG rfl (by decide) rfl (.cons rfl CellsAre.nil) rfl ?_)
  intro v3 hv2
  refine cX (XOp.append1 (u := badG (fun y => !decide (y = (endL ((ts.getD k [])) (walkGo ar rs 1 ((n).toNat) ((ts.getD k []))).1))) (vs ++ [endL ((ts.getD k [])) (walkGo ar rs 1 ((n).toNat) ((ts.getD k []))).1])) [_, _, _] _ qd typeInfo2 rfl rfl rfl rfl rfl rfl (SlV.own [] rfl) (Rd.sl [] rfl rfl) (by (try simp only [List.length_append, List.length_nil, List.length_cons, List.length_singleton, List.length_take, List.length_drop]); omega) ?_)
  intro v4 hs2 hn2
  refine qg (v4) rfl (qb (qa (cX (qK (((k + 1 : Nat) : Int)) rfl rfl (by omega) (by omega) (qf (ii (((k + 1 : Nat) : Int))) rfl (qb ?_))))))
  exact ⟨(k + 1, v2, vs ++ [endL ((ts.getD k [])) (walkGo ar rs 1 ((n).toNat) ((ts.getD k []))).1], rcs ++ [x1], v4, os ++ [badG (fun y => !decide (y = (endL ((ts.getD k [])) (walkGo ar rs 1 ((n).toNat) ((ts.getD k []))).1))) (vs ++ [endL ((ts.getD k [])) (walkGo ar rs 1 ((n).toNat) ((ts.getD k []))).1])], F2), _, (qk (qk leG1 le1) le2), rF, ⟨rfl, rfl, rfl, rfl, rfl, rfl, rfl, ⟨⟩⟩, (sD (sC (sD (sC (sC sR))))), ⟨rfl, (qk (qk leG1 le1) le2), (hs1), (hs2), (by (try dsimp only) <;> omega), (hc1), (by (try dsimp only); subst hvs hos; exact nfR_next), (by (try dsimp only); subst hvs hos; exact clsTo_next), (fun i hi => (Nat.lt_or_ge i k).elim (fun h => hfl i h) (fun h => by obtain rfl : i = k := (by omega); show (walkGo ar rs 1 n.toNat (ts.getD _ [])).2 = true; simp_all))⟩, (by omega)⟩
 refine je (qv (qv (qN (qc (qa (qf (ov) rfl (qg (ov) rfl (qb (qH [_] _ _ rfl (fun F4 le4 hz3 => ?_))))))))))
 have hf3 : IntsF F4 ov os := intsH.fz (xs := os) hz3.fz
 refine qr (qo (L' := L) [ov] (ov) (.tmp rfl .nil) rfl (qk leG1 le4) rF (sD (sD sR)) ?_)
 have e9 : clsL ar rs ts n = os := by rw [clsL_yes hok (fun i hi => hfl i (by omega)), hos, show k = ts.length from by omega]
 exact ⟨_, rfl, by rw [e9]; exact hf3, by rw [e9]; exact Fresh.one (hz3.base leG1), rfl⟩

/- spec.l1TermPlace -/
theorem l1TermPlaceC_spec {F : FH} {L : List HP} {tsv : Value} {ts : List (List Int)} (hts : RowsF F tsv ts) {xv : Value} {x : List Int} (hx : IntsF F xv x) (hlt : ts.length ≤ 4000000) (htb : ∀ i, i < ts.length → (ts.getD i []).length ≤ 4000000) (hlx : x.length ≤ 4000000) :
    Does prog 70 [tsv, xv] F (L) (fun v F' L' => (ii (badG (fun y => !decide (y = x)) ts) : Value) = v ∧ F = F' ∧ L = L') := by
 refine qD func70 rfl rfl rfl (qc (qa (qg (ii (0)) rfl (qb (qc (qc (qa (qg (ii (0)) rfl (qb (qI (jm (α := Nat) (fun k => [(0, tsv), (1, xv), (5, ii ((k : Int)))]) (fun k => L) (fun k F' => F = F' ∧ (k ≤ ts.length) ∧ (∀ i, i < k → (fun y => !decide (y = x)) (ts.getD i []) = true)) (fun k => ts.length - k) 0 ⟨rfl, rfl, rfl, ⟨⟩⟩ sR ⟨rfl, (by (try dsimp only) <;> omega), (fun i hi => absurd hi (by omega))⟩ ?_)))))))))))
 rintro k rE _ _ ⟨rfl, hk, hall⟩
 show X _ _ _ _ (envs [(0, tsv), (1, xv), (5, ii ((k : Int)))] rE) _ (L)
 have htbk := htb k
 refine qc (qc (qa (qf (ii ((k : Int))) rfl (qf (tsv) rfl (cX (qC qy rfl hts.slv (cX (qZ rfl rfl (qb ?_)))))))))
 refine qA (p := (k : Int) < (ts.length : Int)) rfl (fun h1 => ?_) (fun h1 => ?_)
 ·refine qx (qc (qI (qc (qa (qf (tsv) rfl (qf (ii ((k : Int))) rfl (cX (qB k qy qu rfl rfl rfl hts.slv (by omega) (Nat.mul_one _) ?_))))))))
  obtain ⟨a1, ha1, hr1⟩ := hts.rd (i := k) (by omega)
  refine cX (qj qY rfl (hr1 _) (qf (xv) rfl (cX (qp (args := [a1, xv]) call126 rfl (SameTerm_spec ha1 hx (hbd := (by first | assumption | rfl | omega | (left; simp; done) | (right; simp; done)))) ?_))))
  rintro _ _ _ _ ⟨rfl, rfl, rfl⟩
  refine qb ?_
  refine qA (p := ((ts.getD k [])) = x) rfl (fun h2 => ?_) (fun h2 => ?_)
  ·refine qc (qa (qf (ii ((k : Int))) rfl (qg (ii ((k : Int))) rfl (qb (qr (qF (qi (qi (qF (qi (qo (L' := L) [ii ((k : Int))] (ii ((k : Int))) (.tmp rfl .nil) rfl rF rF sR ?_)))))))))))
   exact ⟨(vI (badG_at [] (by omega) (by simp_all) hall)), rfl, rfl⟩
  refine qx (qa (qf (ii ((k : Int))) rfl (cX (qK (((k + 1 : Nat) : Int)) rfl rfl (by omega) (by omega) (qg (ii (((k + 1 : Nat) : Int))) rfl (qb ?_))))))
  exact ⟨k + 1, _, FLe.refl _, rF, ⟨rfl, rfl, rfl, ⟨⟩⟩, sR, ⟨rfl, (by (try dsimp only) <;> omega), (fun i hi => (Nat.lt_or_ge i k).elim (fun h => hall i h) (fun h => by obtain rfl : i = k := (by omega); simp_all))⟩, (by omega)⟩
 refine je (qv (qv (qN (qc (qa (qg (ii (-1)) rfl (qb (qr (qo (L' := L) [ii (-1)] (ii (-1)) (.tmp rfl .nil) rfl rF rF sR ?_)))))))))
 exact ⟨(vI (badG_none [] (fun i hi => hall i (by omega)))), rfl, rfl⟩

/- spec.ClassesBy -/
theorem sClassesBy_spec {F : FH} {L : List HP} {arv : Value} {ar : List Int} (har : IntsF F arv ar) {rsv : Value} {rs : List (List Int × List Int)} (hrs : PairsF F rsv rs) {tsv : Value} {ts : List (List Int)} (hts : RowsF F tsv ts) {n : Int} (hla : ar.length ≤ 4000000) (hlr : rs.length ≤ 4000000) (hrb : ∀ i, i < rs.length → (rs.getD i ([], [])).1.length ≤ 4000000 ∧ (rs.getD i ([], [])).2.length ≤ 4000000) (hlt : ts.length ≤ 4000000) (htb : ∀ i, i < ts.length → (ts.getD i []).length ≤ 4000000) :
    Does prog 19 [.agg #[arv, rsv], tsv, ii (n)] F (L) (fun v F' L' => ∃ (r : Value), (r : Value) = v ∧ (IntsF F' r (clsL ar rs ts n)) ∧ L = L') := by
 refine qD func19 rfl rfl rfl (qc (qa (cX (qW [arv, rsv] rfl rfl ?_))))
 intro b1
 refine qg (sN) rfl (qb (qc (qa (cX (ql (s := 1) [] [ii (0)] [] qd qw qG rfl (by decide) rfl CellsAre.nil rfl ?_)))))
 intro v1 hv1
 refine qg (v1) rfl (qb (qc (qc (qa (cX (qq [arv, rsv] qX qL rfl rfl (Rd.ownN [_] rfl rfl) (qf (tsv) rfl (qf (ii (n)) rfl (cX (qp (args := [.agg #[arv, rsv], tsv, ii (n)]) call68 rfl (l22All_spec (n := n) har hrs hts (hla := (by first | assumption | rfl | omega | simp)) (hlr := (by first | assumption | rfl | omega | simp)) (hrb := (by first | assumption | rfl | omega | simp)) (hlt := (by first | assumption | rfl | omega | simp)) (htb := (by first | assumption | rfl | omega | simp))) ?_))))))))))
 rintro _ _ _ _ ⟨rfl, rfl, rfl⟩
 refine cX (jt rfl (qb ?_))
 refine jB (t := !(allOk ar rs ts n)) rfl (fun h1 => ?_) (fun h1 => ?_)
 ·refine qc (qa (qf (v1) rfl (qg (v1) rfl (qb ?_))))
  show X _ _ _ _ _ _ (intsH 2 v1 ([] : List Int) :: cellsH b1 [arv, rsv] 32 :: L)
  refine qH [] _ _ rfl (fun F1 le1 hz1 => ?_)
  replace har := har.mono le1
  replace hrs := hrs.mono le1
  replace hts := hts.mono le1
  have hf1 : IntsF F1 v1 ([]) := intsH.fz (xs := []) hz1.fz
  refine qr (qi (qo (L' := L) [v1] (v1) (.tmp rfl .nil) rfl le1 rF (sD sR) ?_))
  have e9 : clsL ar rs ts n = [] := clsL_no (by simpa using h1)
  exact ⟨_, rfl, by rw [e9]; exact hf1, rfl⟩
 have hok : allOk ar rs ts n = true := by simpa using h1
 have hao2 := allOk_iff.1 hok
 have hsys := hao2.1
 have hn0 := hao2.2.1
 have hall := hao2.2.2.1
 have hll := hao2.2.2.2
 refine qx (qc (qa (cX (ql (s := 1) [] [sN] [] qy qu jK rfl (by decide) rfl CellsAre.nil rfl ?_))))
 intro v2 hv2
 refine qg (v2) rfl (qb (qc (qc (qa (qg (ii (0)) rfl (qb (qI (jm (α := Nat × Value × RowL × List Value × Value × List Int × FH) (fun xQ => [(1, tsv), (2, ii (n)), (3, ptr b1 0), (7, xQ.2.2.2.2.1), (8, xQ.2.1), (9, ii (((xQ.1 : Nat) : Int)))]) (fun xQ => slH 27 1 xQ.2.1 xQ.1 xQ.2.2.2.1 :: intsH 2 xQ.2.2.2.2.1 xQ.2.2.2.2.2.1 :: cellsH b1 [arv, rsv] 32 :: L) (fun xQ F' => xQ.2.2.2.2.2.2 = F' ∧ F ≤ xQ.2.2.2.2.2.2 ∧ (IsSl xQ.2.1) ∧ (IsSl xQ.2.2.2.2.1) ∧ (xQ.1 ≤ ts.length) ∧ (RowsC xQ.2.2.2.2.2.2 xQ.2.2.2.1 xQ.2.2.1) ∧ (xQ.2.2.1 = nfR ar rs ts n xQ.1) ∧ (xQ.2.2.2.2.2.1 = clsTo ar rs ts n xQ.1) ∧ (∀ i, i < xQ.1 → nfF ar rs n (ts.getD i []) = true)) (fun xQ => ts.length - xQ.1) (0, v2, [], [], v1, [], F) ⟨rfl, rfl, rfl, rfl, rfl, rfl, ⟨⟩⟩ (sC (sC (sC sR))) ⟨rfl, FLe.refl _, ((qS hv2)), ((qS hv1)), (by (try dsimp only) <;> omega), (CO.nil), (rfl), (rfl), (fun i hi => absurd hi (by omega))⟩ ?_))))))))
 rintro ⟨k, rv, vs, rcs, ov, os, G1⟩ rE _ _ ⟨rfl, leG, hrv, hov, hk, hC, hvs, hos, hfl⟩
 show X _ _ _ _ (envs [(1, tsv), (2, ii (n)), (3, ptr b1 0), (7, ov), (8, rv), (9, ii ((k : Int)))] rE) _ (slH 27 1 rv k rcs :: intsH 2 ov os :: cellsH b1 [arv, rsv] 32 :: L)
 replace leG : F ≤ G1 := leG
 dsimp only at hrv hov hk hC hvs hos hfl
 have hot := fun (h : k < ts.length) => all_at hall h
 have htl9 := fun (h : k < ts.length) => termOk_len (all_at hall h)
 have hvl : vs.length = k := by rw [hvs]; exact nfR_len
 have hol : os.length = k := by rw [hos]; exact clsTo_len
 have leG1 := leG
 replace har := har.mono leG1
 replace hrs := hrs.mono leG1
 replace hts := hts.mono leG1
 refine qc (qc (qa (qf (ii ((k : Int))) rfl (qf (tsv) rfl (cX (qC qy rfl hts.slv (cX (qZ rfl rfl (qb ?_)))))))))
 refine qA (p := (k : Int) < (ts.length : Int)) rfl (fun h2 => ?_) (fun h2 => ?_)
 ·refine qx (qc (qI (qc ?_)))
  obtain ⟨a1, ha1, hr1⟩ := hts.rd (i := k) (by omega)
  refine X.drawG [slH 27 1 rv k rcs, intsH 2 ov os, cellsH b1 [arv, rsv] 32] L 11 [[], [], [], [], [], [], [], [6], [6], [], [6]] [[], [], [], [1, 2], [3], [], [0, 4, 5], [6], [6, 7], [6, 7], [6, 8]] [] (phiG [pe (.agg #[arv, rsv]), pe tsv, pe (ii ((k : Int)) : Value), pe (.pointer (some (elemA tsv (k)))), pe a1, pe (ii (n)), fun FF us v => (.tuple #[((tupAt v 0)), .bool ((normB ar rs ((ts.getD k [])) 1 n).2)] : Value) = v ∧ (IntsF FF ((tupAt v 0)) (normB ar rs ((ts.getD k [])) 1 n).1), fun FF us v => v = (.tuple #[((tupAt (us.getD 0 undef) 0)), .bool ((normB ar rs ((ts.getD k [])) 1 n).2)] : Value), fun FF us v => v = ((tupAt (us.getD 0 undef) 0)), pe (.bool ((normB ar rs ((ts.getD k [])) 1 n).2)), fun FF us v => v = ((tupAt (us.getD 0 undef) 0))]) (ownL []) mixed rfl rfl (by kernel_rfl) (by kernel_rfl) (MonoG.get (m1 (m1 (m1 (m1 (m1 (m1 (mC (fun le h => ⟨h.1, h.2.mono le⟩) (mC (fun le h => h) (mC (fun le h => h) (m1 (mC (fun le h => h) MonoG.nil)))))))))))) ?_ ?_
  ·refine gD (fun W Fs R lF z9 => ?_) ?_
   ·replace har := har.mono lF
    replace hrs := hrs.mono lF
    replace hts := hts.mono lF
    replace hC := hC.mono lF
    replace ha1 := ha1.mono lF
    replace hr1 := Rd.monoA hr1 lF
    refine qh (qq [arv, rsv] qX qL rfl rfl (Rd.ownN [_, _] rfl rfl) ?_)
    exact ⟨rfl, rfl⟩
   refine gD (fun W Fs R lF z9 => ?_) ?_
   ·refine qh (qm (tsv) rfl ?_)
    exact ⟨rfl, rfl⟩
   refine gD (fun W Fs R lF z9 => ?_) ?_
   ·refine qh (qm (ii ((k : Int))) rfl ?_)
    exact ⟨rfl, rfl⟩
   refine gD (fun W Fs R lF z9 => ?_) ?_
   ·replace har := har.mono lF
    replace hrs := hrs.mono lF
    replace hts := hts.mono lF
    replace hC := hC.mono lF
    replace ha1 := ha1.mono lF
    replace hr1 := Rd.monoA hr1 lF
    rw [eS (l := [(1, _), (2, _)]) ⟨z9 1 rfl, z9 2 rfl, ⟨⟩⟩]
    refine qh (qB k qy qu rfl rfl rfl hts.slv (by omega) (Nat.mul_one _) ?_)
    exact ⟨rfl, rfl⟩
   refine gD (fun W Fs R lF z9 => ?_) ?_
   ·replace har := har.mono lF
    replace hrs := hrs.mono lF
    replace hC := hC.mono lF
    replace ha1 := ha1.mono lF
    replace hr1 := Rd.monoA hr1 lF
    rw [eS (l := [(3, _)]) ⟨z9 3 rfl, ⟨⟩⟩]
    refine qh (qj qY rfl (hr1 _) ?_)
    exact ⟨rfl, rfl⟩
   refine gD (fun W Fs R lF z9 => ?_) ?_
   ·refine qh (qm (ii (n)) rfl ?_)
    exact ⟨rfl, rfl⟩
   refine gD (fun W Fs R lF z9 => ?_) ?_
   ·replace har := har.mono lF
    replace hrs := hrs.mono lF
    replace hC := hC.mono lF
    replace ha1 := ha1.mono lF
    rw [eS (l := [(0, _), (4, _), (5, _)]) ⟨z9 0 rfl, z9 4 rfl, z9 5 rfl, ⟨⟩⟩]
    refine qh (qp (args := [.agg #[arv, rsv], a1, ii (1), ii (n)]) call69 rfl (sNormalBy_spec (st := 1) (n := n) har hrs ha1 (hla := (by first | assumption | rfl | omega | simp)) (hlr := (by first | assumption | rfl | omega | simp)) (hrb := (by first | assumption | rfl | omega | simp)) (hlt := (by first | assumption | rfl | omega | simp))) ?_)
    rintro _ F3 _ le3 ⟨x2, rfl, hr3, rfl⟩
    replace hC := hC.mono le3
    exact ⟨⟨rfl, hr3⟩, rfl⟩
   refine gD (fun W Fs R lF z9 => ?_) ?_
   ·obtain ⟨e6, f6_1hr⟩ := z9 6 rfl
    rw [eS (l := [(6, (.tuple #[((tupAt (W 6) 0)), .bool ((normB ar rs ((ts.getD k [])) 1 n).2)]))]) ⟨(e6).symm, ⟨⟩⟩]
    refine qh (qm (.tuple #[((tupAt (W 6) 0)), .bool ((normB ar rs ((ts.getD k [])) 1 n).2)]) rfl ?_)
    exact ⟨rfl, rfl⟩
   refine gD (fun W Fs R lF z9 => ?_) ?_
   ·obtain ⟨e6, f6_1hr⟩ := z9 6 rfl
    have e7 : W 7 = (.tuple #[((tupAt (W 6) 0)), .bool ((normB ar rs ((ts.getD k [])) 1 n).2)] : Value) := z9 7 rfl
    rw [eS (l := [(6, (.tuple #[((tupAt (W 6) 0)), .bool ((normB ar rs ((ts.getD k [])) 1 n).2)])), (7, (.tuple #[((tupAt (W 6) 0)), .bool ((normB ar rs ((ts.getD k [])) 1 n).2)]))]) ⟨(e6).symm, e7, ⟨⟩⟩]
    refine qh (qT (((tupAt (W 6) 0))) rfl rfl ?_)
    exact ⟨rfl, rfl⟩
   refine gD (fun W Fs R lF z9 => ?_) ?_
   ·obtain ⟨e6, f6_1hr⟩ := z9 6 rfl
    have e7 : W 7 = (.tuple #[((tupAt (W 6) 0)), .bool ((normB ar rs ((ts.getD k [])) 1 n).2)] : Value) := z9 7 rfl
    rw [eS (l := [(6, (.tuple #[((tupAt (W 6) 0)), .bool ((normB ar rs ((ts.getD k [])) 1 n).2)])), (7, (.tuple #[((tupAt (W 6) 0)), .bool ((normB ar rs ((ts.getD k [])) 1 n).2)]))]) ⟨(e6).symm, e7, ⟨⟩⟩]
    refine qh (qT (.bool ((normB ar rs ((ts.getD k [])) 1 n).2)) rfl rfl ?_)
    exact ⟨rfl, rfl⟩
   refine gD (fun W Fs R lF z9 => ?_) ?_
   ·obtain ⟨e6, f6_1hr⟩ := z9 6 rfl
    have e8 : W 8 = ((tupAt (W 6) 0)) := z9 8 rfl
    rw [eS (l := [(6, (.tuple #[((tupAt (W 6) 0)), .bool ((normB ar rs ((ts.getD k [])) 1 n).2)])), (8, ((tupAt (W 6) 0)))]) ⟨(e6).symm, e8, ⟨⟩⟩]
    refine qh (XOp.assign (((tupAt (W 6) 0))) rfl ?_)
    exact ⟨rfl, rfl⟩
   exact stepsG.nil
  intro W F4 le4 hphi
  obtain ⟨e6, f6_1hr⟩ := hphi 6 (by decide)
  have e7 : W 7 = (.tuple #[((tupAt (W 6) 0)), .bool ((normB ar rs ((ts.getD k [])) 1 n).2)] : Value) := hphi 7 (by decide)
  have e8 : W 8 = ((tupAt (W 6) 0)) := hphi 8 (by decide)
  have e10 : W 10 = ((tupAt (W 6) 0)) := hphi 10 (by decide)
  generalize hu1 : ((tupAt (W 6) 0)) = u1 at e6 f6_1hr e7 e8 e10
  rw [eS (l := [(6, (.tuple #[u1, .bool ((normB ar rs ((ts.getD k [])) 1 n).2)])), (9, _), (10, u1)]) ⟨(e6).symm, (hphi 9 (by decide)), e10, ⟨⟩⟩]
  replace hC := hC.mono le4
  show XL _ _ _ _ _ _ _ (slH 27 1 rv k rcs :: intsH 2 ov os :: cellsH b1 [arv, rsv] 32 :: L)
  refine qg (.bool ((normB ar rs ((ts.getD k [])) 1 n).2)) rfl (qb (qc (qc (qa (qf (.bool ((normB ar rs ((ts.getD k [])) 1 n).2)) rfl (cX (jt rfl (qb ?_))))))))
  refine jB (t := !((normB ar rs ((ts.getD k [])) 1 n).2)) rfl (fun h3 => ?_) (fun h3 => ?_)
  ·have hnF : nfF ar rs n (ts.getD k []) = false := by rw [← (normB_nf hsys (hot (by omega)) hn0).1]; simpa using h3
   refine qc (qa (cX (ql (s := 1) [] [ii (0)] [] qd qw qG rfl (by decide) rfl CellsAre.nil rfl ?_)))
   intro v3 hv3
   refine qg (v3) rfl (qb ?_)
   show X _ _ _ _ _ _ (intsH 2 v3 ([] : List Int) :: slH 27 1 rv k rcs :: intsH 2 ov os :: cellsH b1 [arv, rsv] 32 :: L)
   refine qH [] _ _ rfl (fun F5 le5 hz2 => ?_)
   replace hC := hC.mono le5
   replace f6_1hr := f6_1hr.mono le5
   have hf2 : IntsF F5 v3 ([]) := intsH.fz (xs := []) hz2.fz
   refine qr (qi (qF (qi (qi (qF (qi (qo (L' := L) [v3] (v3) (.tmp rfl .nil) rfl (qk (qk leG1 le4) le5) rF (sD (sD (sD sR))) ?_)))))))
   have e9 : clsL ar rs ts n = [] := clsL_no3 (k := k) (by omega) hnF
   exact ⟨_, rfl, by rw [e9]; exact hf2, rfl⟩
  have hnF : nfF ar rs n (ts.getD k []) = true := by rw [← (normB_nf hsys (hot (by omega)) hn0).1]; simpa using h3
  have hnE := (normB_nf hsys (hot (by omega)) hn0).2 hnF
  have hnL := normB_len (ar := ar) (rs := rs) (t := (ts.getD k [])) (st := 1) (n := n)
  refine qx (qc (qa (qf (rv) rfl (qf (u1) rfl (cX (ql (s := 1) [u1] [sN] [(0, [u1])] qy qu jK rfl (by decide) rfl (.cons (cells_one (qE f6_1hr)) CellsAre.nil) rfl ?_))))))
  intro v4 hv4
  refine cX (jQ (m := 1) (bytes := 24) (cs := rcs) [_] _ [u1] qy typeInfo27 rfl rfl rfl rfl rfl rfl rfl (SlV.own [] rfl) rfl (Rd.lit [] rfl) (qz (qM (qE f6_1hr)) qU) (by (try simp only [List.length_append, List.length_nil, List.length_cons, List.length_singleton]); omega) (by (try simp only [List.length_append, List.length_nil, List.length_cons, List.length_singleton]); omega) ?_)
  intro v5 hs1 hn1 hm1
  have hc1 := RowsC.snoc hC f6_1hr
  refine qg (v5) rfl (qb (qa (qf (ov) rfl (qf (v5) rfl (qf (u1) rfl (cX (XOp.lend [_] _ _ rfl (fun F6 le6 hz3 => ?_))))))))
  have hf3 : RowsF _ v5 (vs ++ [(normB ar rs ((ts.getD k [])) 1 n).1]) := (CO.fz (RowsC.mono hc1 (qk le6 rF)) (by first | rfl | assumption | omega | (rw [List.length_append]; simp only [List.length_singleton]; omega)) hz3 : RowsF _ v5 (vs ++ [(normB ar rs ((ts.getD k [])) 1 n).1]))
  refine id (qp (args := [v5, u1]) call70 rfl (l1TermPlaceC_spec hf3 ((f6_1hr.mono le6)) (hlt := (by rw [List.length_append]; simp only [List.length_singleton]; omega)) (htb := (by rw [hnE, hvs, nfR_next]; exact fun i hi => by have := nfR_bound hsys hall (by omega) i hi; omega)) (hlx := (by omega))) ?_)
  rintro _ _ _ _ ⟨rfl, rfl, rfl⟩
  show XL _ _ _ _ _ _ _ (slH 27 1 v5 ((k) + 1) (rcs ++ [u1]) :: slH 27 1 v4 1 [u1] :: intsH 2 ov os :: cellsH b1 [arv, rsv] 32 :: L)
  refine cX (ql (s := 1) [ii (badG (fun y => !decide (y = ((normB ar rs ((ts.getD k [])) 1 n).1))) (vs ++ [(normB ar rs ((ts.getD k [])) 1 n).1]))] [ii (0)] [(0, [ii (badG (fun y => !decide (y = ((normB ar rs ((ts.getD k [])) 1 n).1))) (vs ++ [(normB ar rs ((ts.getD k [])) 1 n).1]))])] qd qw qG rfl (by decide) rfl (.cons rfl CellsAre.nil) rfl ?_)
  intro v6 hv5
  refine cX (XOp.append1 (u := badG (fun y => !decide (y = ((normB ar rs ((ts.getD k [])) 1 n).1))) (vs ++ [(normB ar rs ((ts.getD k [])) 1 n).1])) [_, _, _] _ qd typeInfo2 rfl rfl rfl rfl rfl rfl (SlV.own [] rfl) (Rd.sl [] rfl rfl) (by (try simp only [List.length_append, List.length_nil, List.length_cons, List.length_singleton, List.length_take, List.length_drop]); omega) ?_)
  intro v7 hs2 hn2
  refine qg (v7) rfl (qb (qa (qf (ii ((k : Int))) rfl (cX (qK (((k + 1 : Nat) : Int)) rfl rfl (by omega) (by omega) (qg (ii (((k + 1 : Nat) : Int))) rfl (qb ?_)))))))
  exact ⟨(k + 1, v5, vs ++ [(normB ar rs ((ts.getD k [])) 1 n).1], rcs ++ [u1], v7, os ++ [badG (fun y => !decide (y = ((normB ar rs ((ts.getD k [])) 1 n).1))) (vs ++ [(normB ar rs ((ts.getD k [])) 1 n).1])], F4), _, (qk leG1 le4), rF, ⟨rfl, rfl, rfl, rfl, rfl, rfl, ⟨⟩⟩, (sD (sC (sD (sC (sC sR))))), ⟨rfl, (qk leG1 le4), (hs1), (hs2), (by (try dsimp only) <;> omega), (hc1), (by (try dsimp only); subst hvs hos; rw [hnE]; exact nfR_next), (by (try dsimp only); subst hvs hos; rw [hnE]; exact clsTo_next), (fun i hi => (Nat.lt_or_ge i k).elim (fun h => hfl i h) (fun h => by obtain rfl : i = k := (by omega); exact hnF))⟩, (by omega)⟩
 refine je (qv (qv (qN (qc (qa (qf (ov) rfl (qg (ov) rfl (qb (qH [_] _ _ rfl (fun F7 le7 hz4 => ?_))))))))))
 have hf4 : IntsF F7 ov os := intsH.fz (xs := os) hz4.fz
 refine qr (qo (L' := L) [ov] (ov) (.tmp rfl .nil) rfl (qk leG1 le7) rF (sD (sD sR)) ?_)
 have e9 : clsL ar rs ts n = os := by rw [clsL_yes hok (fun i hi => hfl i (by omega)), hos, show k = ts.length from by omega]
 exact ⟨_, rfl, by rw [e9]; exact hf4, rfl⟩

/- laws.big -/
theorem big_spec {F : FH} {L : List HP} {bsv : Value} {bs : List Int} (hbs : BytesF F bsv bs) :
    Does prog 11 [bsv] F (L) (fun v F' L' => (.bool (decide ((bs.length : Int) > 4096)) : Value) = v ∧ F = F' ∧ L = L') := by
 refine qD func11 rfl rfl rfl (qc (qa (qg (.bool (false)) rfl (qb (qc (qa (qf (bsv) rfl (cX (qC runUnderlying22 rfl hbs.slv (cX (jA rfl rfl (qg (.bool (decide (((bs.length : Int) : Int) > 4096))) rfl (qb (qr (qo (L' := L) [.bool (decide (((bs.length : Int) : Int) > 4096))] (.bool (decide (((bs.length : Int) : Int) > 4096))) (.tmp rfl .nil) rfl rF rF sR ?_)))))))))))))))
 exact ⟨rfl, rfl, rfl⟩

/- laws.roll -/
theorem roll_spec {F : FH} {L : List HP} {bsv : Value} {bs : List Int} (hbs : BytesF F bsv bs) (hlb : bs.length ≤ 4000000) {s : Int} :
    Does prog 12 [bsv, .int .u64 (s)] F (L) (fun v F' L' => ∃ cb : Nat, (ptr cb 0 : Value) = v ∧ F = F' ∧ curH .u64 88 cb bsv bs.length :: L = L') := by
 refine qD func12 rfl rfl rfl (qc (qa (qg ((.pointer none)) rfl (qb (qc (qa (qf (bsv) rfl (qf (.int .u64 (s)) rfl (cX (XOp.mulW (a := s) (b := 7919) rfl rfl ?_))))))))))
 intro r1
 refine qf (bsv) rfl (cX (qC runUnderlying22 rfl hbs.slv (cX (XOp.convW (k' := .i64) (a := (bs.length : Int)) runUnderlying3 runUnderlying26 rfl ?_))))
 intro r2
 refine cX (XOp.addW (a := r1) (b := r2) rfl rfl ?_)
 intro r3
 refine cX (jc [bsv, ii (0), .int .u64 (r3)] [sN, ii (0), .int .u64 (0)] [(0, 1), (1, 1), (2, 1)] [(0, [bsv]), (2, [.int .u64 (r3)])] jE zeroValue88 rfl (.cons rfl sizeOf22 (.cons rfl jL (.cons rfl sizeOf26 PlacesAre.nil))) rfl (.cons (cells_one (BytesF.isSl hbs)) (.cons rfl CellsAre.nil)) (cX (qW [bsv, ii (0), .int .u64 (r3)] rfl rfl ?_)))
 intro b1
 refine qg (ptr b1 0) rfl (qb (qc (qc (qa (qg (ii (0)) rfl (qb (qI (jm (α := Nat × Int) (fun xQ => [(0, bsv), (5, ptr b1 0), (6, ii (((xQ.1 : Nat) : Int)))]) (fun xQ => cellsH b1 [bsv, ii (0), .int .u64 (xQ.2)] 88 :: L) (fun xQ F' => F = F' ∧ (xQ.1 ≤ bs.length)) (fun xQ => bs.length - xQ.1) (0, r3) ⟨rfl, rfl, rfl, ⟨⟩⟩ (sC sR) ⟨rfl, (Nat.zero_le _)⟩ ?_))))))))
 rintro ⟨k, h⟩ rE _ _ ⟨rfl, hk⟩
 show X _ _ _ _ (envs [(0, bsv), (5, ptr b1 0), (6, ii ((k : Int)))] rE) _ (cellsH b1 [bsv, ii (0), .int .u64 (h)] 88 :: L)
 dsimp only at hk
 refine qc (qc (qa (qf (ii ((k : Int))) rfl (qf (bsv) rfl (cX (qC runUnderlying22 rfl hbs.slv (cX (qZ rfl rfl (qb ?_)))))))))
 refine qA (p := (k : Int) < (bs.length : Int)) rfl (fun h1 => ?_) (fun h1 => ?_)
 ·refine qx (qc (qI ?_))
  refine X.drawG [cellsH b1 [bsv, ii (0), .int .u64 (h)] 88] L 13 [] [[], [], [1], [2], [3], [4], [], [], [6, 7], [8], [9], [5, 10], [11]] [] (phiG [pe (ptr b1 0), pe (ptr b1 0), pe (ptr b1 0), pe (ptr b1 2), pe (.int .u64 (h)), fun FF us v => (.int .u64 ((intAt v)) : Value) = v, pe bsv, pe (ii ((k : Int)) : Value), pe (.pointer (some (elemA bsv (k)))), pe (.int .u8 (bs.getD k 0)), fun FF us v => (.int .u64 ((intAt v)) : Value) = v, fun FF us v => (.int .u64 ((intAt v)) : Value) = v, fun FF us v => (.int .u64 ((intAt v)) : Value) = v]) (ownL []) mixed rfl rfl (by kernel_rfl) (by kernel_rfl) (MonoG.get (m1 (m1 (m1 (m1 (m1 (mC (fun le h => h) (m1 (m1 (m1 (m1 (mC (fun le h => h) (mC (fun le h => h) (mC (fun le h => h) MonoG.nil)))))))))))))) ?_ ?_
  ·refine gD (fun W Fs R lF z9 => ?_) ?_
   ·refine qh (qm (ptr b1 0) rfl ?_)
    exact ⟨rfl, rfl⟩
   refine gD (fun W Fs R lF z9 => ?_) ?_
   ·refine qh (qm (ptr b1 0) rfl ?_)
    exact ⟨rfl, rfl⟩
   refine gD (fun W Fs R lF z9 => ?_) ?_
   ·replace hbs := hbs.mono lF
    rw [eS (l := [(1, _)]) ⟨z9 1 rfl, ⟨⟩⟩]
    refine qh (jn rfl ?_)
    exact ⟨rfl, rfl⟩
   refine gD (fun W Fs R lF z9 => ?_) ?_
   ·rw [eS (l := [(2, _)]) ⟨z9 2 rfl, ⟨⟩⟩]
    refine qh (qn (2) jE rfl sizeOf26 (by decide) rfl rfl ?_)
    exact ⟨rfl, rfl⟩
   refine gD (fun W Fs R lF z9 => ?_) ?_
   ·replace hbs := hbs.mono lF
    rw [eS (l := [(3, _)]) ⟨z9 3 rfl, ⟨⟩⟩]
    refine qh (qj isAgg26 rfl (Rd.own [] rfl rfl) ?_)
    exact ⟨rfl, rfl⟩
   refine gD (fun W Fs R lF z9 => ?_) ?_
   ·rw [eS (l := [(4, _)]) ⟨z9 4 rfl, ⟨⟩⟩]
    refine qh (XOp.mulW (a := h) (b := 1099511628211) rfl rfl ?_)
    intro r8
    exact ⟨rfl, rfl⟩
   refine gD (fun W Fs R lF z9 => ?_) ?_
   ·refine qh (qm (bsv) rfl ?_)
    exact ⟨rfl, rfl⟩
   refine gD (fun W Fs R lF z9 => ?_) ?_
   ·refine qh (qm (ii ((k : Int))) rfl ?_)
    exact ⟨rfl, rfl⟩
   refine gD (fun W Fs R lF z9 => ?_) ?_
   ·replace hbs := hbs.mono lF
    rw [eS (l := [(6, _), (7, _)]) ⟨z9 6 rfl, z9 7 rfl, ⟨⟩⟩]
    refine qh (qB k runUnderlying22 sizeOf5 rfl rfl rfl hbs.slv (by omega) (Nat.mul_one _) ?_)
    exact ⟨rfl, rfl⟩
   refine gD (fun W Fs R lF z9 => ?_) ?_
   ·replace hbs := hbs.mono lF
    rw [eS (l := [(8, _)]) ⟨z9 8 rfl, ⟨⟩⟩]
    refine qh (qj isAgg5 rfl (hbs.rd (by omega) _) ?_)
    exact ⟨rfl, rfl⟩
   refine gD (fun W Fs R lF z9 => ?_) ?_
   ·replace hbs := hbs.mono lF
    rw [eS (l := [(9, _)]) ⟨z9 9 rfl, ⟨⟩⟩]
    refine qh (XOp.convW (k' := .u8) (a := bs.getD k 0) runUnderlying5 runUnderlying26 rfl ?_)
    intro r9
    exact ⟨rfl, rfl⟩
   refine gD (fun W Fs R lF z9 => ?_) ?_
   ·have e5 : (.int .u64 ((intAt (W 5))) : Value) = (W 5) := z9 5 rfl
    have e10 : (.int .u64 ((intAt (W 10))) : Value) = (W 10) := z9 10 rfl
    rw [eS (l := [(5, (.int .u64 ((intAt (W 5))))), (10, (.int .u64 ((intAt (W 10)))))]) ⟨(e5).symm, (e10).symm, ⟨⟩⟩]
    refine qh (XOp.addW (a := (intAt (W 5))) (b := (intAt (W 10))) rfl rfl ?_)
    intro r10
    exact ⟨rfl, rfl⟩
   refine gD (fun W Fs R lF z9 => ?_) ?_
   ·have e11 : (.int .u64 ((intAt (W 11))) : Value) = (W 11) := z9 11 rfl
    rw [eS (l := [(11, (.int .u64 ((intAt (W 11)))))]) ⟨(e11).symm, ⟨⟩⟩]
    refine qh (XOp.addW (a := (intAt (W 11))) (b := 3) rfl rfl ?_)
    intro r11
    exact ⟨rfl, rfl⟩
   exact stepsG.nil
  intro W F1 le1 hphi
  have e5 : (.int .u64 ((intAt (W 5))) : Value) = (W 5) := hphi 5 (by decide)
  have e10 : (.int .u64 ((intAt (W 10))) : Value) = (W 10) := hphi 10 (by decide)
  have e11 : (.int .u64 ((intAt (W 11))) : Value) = (W 11) := hphi 11 (by decide)
  have e12 : (.int .u64 ((intAt (W 12))) : Value) = (W 12) := hphi 12 (by decide)
  generalize hu1 : (intAt (W 5)) = u1 at e5 e10 e11 e12
  generalize hu2 : (intAt (W 10)) = u2 at e5 e10 e11 e12
  generalize hu3 : (intAt (W 11)) = u3 at e5 e10 e11 e12
  generalize hu4 : (intAt (W 12)) = u4 at e5 e10 e11 e12
  rw [eS (l := [(0, _), (12, (.int .u64 (u4)))]) ⟨(hphi 0 (by decide)), (e12).symm, ⟨⟩⟩]
  show XL _ _ _ _ _ _ _ (cellsH b1 [bsv, ii (0), .int .u64 (h)] 88 :: L)
  refine cX (jn rfl (cX (qn (2) jE rfl sizeOf26 (by decide) rfl rfl (cX (jz [] _ [bsv, ii (0), .int .u64 (u4)] sizeOf26 rfl rfl rfl rfl rfl rfl (qb (qa (qf (ii ((k : Int))) rfl (cX (qK (((k + 1 : Nat) : Int)) rfl rfl (by omega) (by omega) (qg (ii (((k + 1 : Nat) : Int))) rfl (qb ?_))))))))))))
  exact ⟨(k + 1, u4), _, FLe.refl _, le1, ⟨rfl, rfl, rfl, ⟨⟩⟩, (sC sR), ⟨rfl, (by (try dsimp only) <;> omega)⟩, (by omega)⟩
 refine je (qv (qv (qN (qc (qa (qf (ptr b1 0) rfl (qg (ptr b1 0) rfl (qb (qr (qo (L' := curH .u64 88 b1 bsv bs.length :: L) [ptr b1 0] (ptr b1 0) (.tmp rfl .nil) rfl rF rF (Sub.keep (curH.of (by omega) (by omega)) sR) ?_))))))))))
 exact ⟨_, rfl, rfl, rfl⟩

/- (*laws.dice).below -/
theorem below_spec0 {F : FH} {L : List HP} {cb : Nat} {bsv : Value} {bs : List Int} (hbs : BytesF F bsv bs) (hbl : bs.length ≤ 4000000) {i h n : Int} (h0 : 0 ≤ i) (h1 : i ≤ bs.length) (hn : 1 ≤ n ∧ n ≤ 1000000) :
    Does prog 14 [ptr cb 0, ii (n)] F (cellsH cb [bsv, ii (i), .int .u64 (h)] 88 :: L) (fun v F' L' => (F = F' ∧ ∃ x : Int, (.int .i64 x : Value) = v ∧ (0 ≤ x ∧ x < n)) ∧ ∃ i' h' : Int, 0 ≤ i' ∧ i' ≤ bs.length ∧ cellsH cb [bsv, ii (i'), .int .u64 (h')] 88 :: L = L') := by
 refine qD func14 rfl rfl rfl (qc (qa (qg (ii (0)) rfl (qb (qc (qa (qf (ptr cb 0) rfl (qf (ptr cb 0) rfl (cX (jn rfl (cX (qn (2) jE rfl sizeOf26 (by decide) rfl rfl (cX (qj isAgg26 rfl (Rd.own [] rfl rfl) (cX (XOp.mulW (a := h) (b := 6364136223846793005) rfl rfl ?_))))))))))))))))
 intro r1
 refine cX (XOp.addW (a := r1) (b := 1442695040888963407) rfl rfl ?_)
 intro r2
 refine cX (jn rfl (cX (qn (2) jE rfl sizeOf26 (by decide) rfl rfl (cX (jz [] _ [bsv, ii (i), .int .u64 (r2)] sizeOf26 rfl rfl rfl rfl rfl rfl (qb (qc (qa (qf (ptr cb 0) rfl (cX (jn rfl (cX (qn (2) jE rfl sizeOf26 (by decide) rfl rfl (cX (qj isAgg26 rfl (Rd.own [] rfl rfl) (cX (XOp.shrW (a := r2) (b := 33) rfl rfl (by decide) ?_)))))))))))))))))
 intro r3
 refine cX (XOp.andW (a := r3) (b := 16777215) rfl rfl rfl (by decide) ?_)
 intro r4 hr1
 refine cX (XOp.convI (k' := .u64) (a := r4) (r4) runUnderlying26 runUnderlying2 rfl (IntWalk.i64_in _ (by omega)) (qg (ii (r4)) rfl (qb (qc (qc ?_)))))
 refine jM [cellsH cb [bsv, ii (i), .int .u64 (r2)] 88] L 9 [] [[], [0], [1], [2], [], [4], [5], [6], [7]] (phiL [qe (ptr cb 0), qe (ptr cb 0), qe (ptr cb 1), qe (ii (i)), qe (ptr cb 0), qe (ptr cb 0), qe (ptr cb 0), qe bsv, qe (ii ((bs.length : Int)) : Value)]) (ownL []) mixed rfl rfl (by kernel_rfl) ?_ ?_
 ·refine pD (fun W R z9 => ?_) ?_
  ·refine qh (qm (ptr cb 0) rfl ?_)
   exact ⟨rfl, rfl, rfl⟩
  refine pD (fun W R z9 => ?_) ?_
  ·rw [eS (l := [(0, _)]) ⟨z9 0 rfl, ⟨⟩⟩]
   refine qh (jn rfl ?_)
   exact ⟨rfl, rfl, rfl⟩
  refine pD (fun W R z9 => ?_) ?_
  ·rw [eS (l := [(1, _)]) ⟨z9 1 rfl, ⟨⟩⟩]
   refine qh (qn (1) jE rfl jL (by decide) rfl rfl ?_)
   exact ⟨rfl, rfl, rfl⟩
  refine pD (fun W R z9 => ?_) ?_
  ·rw [eS (l := [(2, _)]) ⟨z9 2 rfl, ⟨⟩⟩]
   refine qh (qj isAgg3 rfl (Rd.own [] rfl rfl) ?_)
   exact ⟨rfl, rfl, rfl⟩
  refine pD (fun W R z9 => ?_) ?_
  ·refine qh (qm (ptr cb 0) rfl ?_)
   exact ⟨rfl, rfl, rfl⟩
  refine pD (fun W R z9 => ?_) ?_
  ·rw [eS (l := [(4, _)]) ⟨z9 4 rfl, ⟨⟩⟩]
   refine qh (jn rfl ?_)
   exact ⟨rfl, rfl, rfl⟩
  refine pD (fun W R z9 => ?_) ?_
  ·rw [eS (l := [(5, _)]) ⟨z9 5 rfl, ⟨⟩⟩]
   refine qh (qn (0) jE rfl sizeOf22 (by decide) rfl rfl ?_)
   exact ⟨rfl, rfl, rfl⟩
  refine pD (fun W R z9 => ?_) ?_
  ·rw [eS (l := [(6, _)]) ⟨z9 6 rfl, ⟨⟩⟩]
   refine qh (qj isAgg22 rfl (Rd.own [] rfl rfl) ?_)
   exact ⟨rfl, rfl, rfl⟩
  refine pD (fun W R z9 => ?_) ?_
  ·rw [eS (l := [(7, _)]) ⟨z9 7 rfl, ⟨⟩⟩]
   refine qh (qC runUnderlying22 rfl hbs.slv ?_)
   exact ⟨rfl, rfl, rfl⟩
  exact stepsP.nil
 intro W hphi
 rw [eS (l := [(3, _), (8, _)]) ⟨(hphi 3 (by decide)), (hphi 8 (by decide)), ⟨⟩⟩]
 show XL _ _ _ _ _ _ _ (cellsH cb [bsv, ii (i), .int .u64 (r2)] 88 :: L)
 refine cX (qZ rfl rfl (qb ?_))
 refine qA (p := (i : Int) < (bs.length : Int)) rfl (fun h1 => ?_) (fun h1 => ?_)
 ·have hrg := hbs.range (i := i.toNat) (by omega)
  refine qc ?_
  refine jM [cellsH cb [bsv, ii (i), .int .u64 (r2)] 88] L 12 [] [[], [], [1], [2], [3], [], [5], [6], [7], [4, 8], [9], [10]] (phiL [qe (ii (r4)), qe (ptr cb 0), qe (ptr cb 0), qe (ptr cb 0), qe bsv, qe (ptr cb 0), qe (ptr cb 0), qe (ptr cb 1), qe (ii (i)), qe (.pointer (some (elemA bsv ((i).toNat)))), qe (.int .u8 (bs.getD ((i).toNat) 0)), qe (ii (bs.getD ((i).toNat) 0))]) (ownL []) mixed rfl rfl (by kernel_rfl) ?_ ?_
  ·refine pD (fun W R z9 => ?_) ?_
   ·refine qh (qm (ii (r4)) rfl ?_)
    exact ⟨rfl, rfl, rfl⟩
   refine pD (fun W R z9 => ?_) ?_
   ·refine qh (qm (ptr cb 0) rfl ?_)
    exact ⟨rfl, rfl, rfl⟩
   refine pD (fun W R z9 => ?_) ?_
   ·rw [eS (l := [(1, _)]) ⟨z9 1 rfl, ⟨⟩⟩]
    refine qh (jn rfl ?_)
    exact ⟨rfl, rfl, rfl⟩
   refine pD (fun W R z9 => ?_) ?_
   ·rw [eS (l := [(2, _)]) ⟨z9 2 rfl, ⟨⟩⟩]
    refine qh (qn (0) jE rfl sizeOf22 (by decide) rfl rfl ?_)
    exact ⟨rfl, rfl, rfl⟩
   refine pD (fun W R z9 => ?_) ?_
   ·rw [eS (l := [(3, _)]) ⟨z9 3 rfl, ⟨⟩⟩]
    refine qh (qj isAgg22 rfl (Rd.own [] rfl rfl) ?_)
    exact ⟨rfl, rfl, rfl⟩
   refine pD (fun W R z9 => ?_) ?_
   ·refine qh (qm (ptr cb 0) rfl ?_)
    exact ⟨rfl, rfl, rfl⟩
   refine pD (fun W R z9 => ?_) ?_
   ·rw [eS (l := [(5, _)]) ⟨z9 5 rfl, ⟨⟩⟩]
    refine qh (jn rfl ?_)
    exact ⟨rfl, rfl, rfl⟩
   refine pD (fun W R z9 => ?_) ?_
   ·rw [eS (l := [(6, _)]) ⟨z9 6 rfl, ⟨⟩⟩]
    refine qh (qn (1) jE rfl jL (by decide) rfl rfl ?_)
    exact ⟨rfl, rfl, rfl⟩
   refine pD (fun W R z9 => ?_) ?_
   ·rw [eS (l := [(7, _)]) ⟨z9 7 rfl, ⟨⟩⟩]
    refine qh (qj isAgg3 rfl (Rd.own [] rfl rfl) ?_)
    exact ⟨rfl, rfl, rfl⟩
   refine pD (fun W R z9 => ?_) ?_
   ·rw [eS (l := [(4, _), (8, _)]) ⟨z9 4 rfl, z9 8 rfl, ⟨⟩⟩]
    refine qh (qB ((i).toNat) runUnderlying22 sizeOf5 rfl rfl (by omega) hbs.slv (by omega) (Nat.mul_one _) ?_)
    exact ⟨rfl, rfl, rfl⟩
   refine pD (fun W R z9 => ?_) ?_
   ·rw [eS (l := [(9, _)]) ⟨z9 9 rfl, ⟨⟩⟩]
    refine qh (qj isAgg5 rfl (hbs.rd (by omega) _) ?_)
    exact ⟨rfl, rfl, rfl⟩
   refine pD (fun W R z9 => ?_) ?_
   ·rw [eS (l := [(10, _)]) ⟨z9 10 rfl, ⟨⟩⟩]
    refine qh (XOp.convI (k' := .u8) (a := bs.getD ((i).toNat) 0) (bs.getD ((i).toNat) 0) runUnderlying5 runUnderlying2 rfl (IntWalk.i64_in _ (by omega)) ?_)
    exact ⟨rfl, rfl, rfl⟩
   exact stepsP.nil
  intro W hphi
  rw [eS (l := [(0, _), (11, _)]) ⟨(hphi 0 (by decide)), (hphi 11 (by decide)), ⟨⟩⟩]
  show XL _ _ _ _ _ _ _ (cellsH cb [bsv, ii (i), .int .u64 (r2)] 88 :: L)
  refine cX (qK (r4 + (bs.getD ((i).toNat) 0)) rfl rfl (by omega) (by omega) (qg (ii (r4 + (bs.getD ((i).toNat) 0))) rfl (qb (qa (qf (ptr cb 0) rfl (qf (ptr cb 0) rfl (cX (jn rfl (cX (qn (1) jE rfl jL (by decide) rfl rfl (cX (qj isAgg3 rfl (Rd.own [] rfl rfl) (cX (qK (i + 1) rfl rfl (by omega) (by omega) (cX (jn rfl ?_))))))))))))))))
  refine cX (qn (1) jE rfl jL (by decide) rfl rfl (cX (jz [] _ [bsv, ii (i + 1), .int .u64 (r2)] jL rfl rfl rfl rfl rfl rfl (qb (qc (qa (qf (ii (r4 + (bs.getD ((i).toNat) 0))) rfl (qf (ii (n)) rfl (cX (XOp.remV (a := r4 + (bs.getD ((i).toNat) 0)) (b := n) rfl rfl (by omega) (by omega) ?_))))))))))
  intro r5 hr2
  refine qg (ii (r5)) rfl (qb (qr (qo (L' := cellsH cb [bsv, ii (i + 1), .int .u64 (r2)] 88 :: L) [ii (r5)] (ii (r5)) (.tmp rfl .nil) rfl rF rF (sC sR) ?_)))
  exact ⟨⟨rfl, _, rfl, hr2⟩, _, _, by omega, by omega, rfl⟩
 refine qx (qc (qa (qf (ii (r4)) rfl (qf (ii (n)) rfl (cX (XOp.remV (a := r4) (b := n) rfl rfl (by omega) (by omega) ?_))))))
 intro r6 hr3
 refine qg (ii (r6)) rfl (qb (qr (qo (L' := cellsH cb [bsv, ii (i), .int .u64 (r2)] 88 :: L) [ii (r6)] (ii (r6)) (.tmp rfl .nil) rfl rF rF (sC sR) ?_)))
 exact ⟨⟨rfl, _, rfl, hr3⟩, _, _, by omega, by omega, rfl⟩
theorem below_spec {F : FH} {L : List HP} {cb : Nat} {bsv : Value} {bs : List Int} (hbs : BytesF F bsv bs) (hbl : bs.length ≤ 4000000) {n : Int} (hn : 1 ≤ n ∧ n ≤ 1000000) : Does prog 14 [ptr cb 0, .int .i64 n] F (curH .u64 88 cb bsv bs.length :: L) (fun v F' L' => (F = F' ∧ ∃ (x : Int), (.int .i64 x : Value) = v ∧ (0 ≤ x ∧ x < n)) ∧ curH .u64 88 cb bsv bs.length :: L = L') :=
  Does.cur (Q := fun v F' => F = F' ∧ ∃ (x : Int), (.int .i64 x : Value) = v ∧ (0 ≤ x ∧ x < n)) fun i h h0 h1 => below_spec0 hbs hbl h0 h1 hn

/- laws.w6Sig -/
theorem w6Sig_spec {F : FH} {L : List HP} :
    Does prog 60 [] F (L) (fun v F' L' => ∃ (a : Value), (.agg #[a] : Value) = v ∧ (IntsF F' a [2, 1, 0]) ∧ L = L') := by
 refine qD func60 rfl rfl rfl (qc (qa (cX (jh [sN] zeroValue29 rfl ?_))))
 intro b1
 refine qb (qc (qa (cX (ql (s := 1) [ii (2), ii (1), ii (0)] [ii (0)] [(0, [ii (2)]), (1, [ii (1)]), (2, [ii (0)])] qd qw qG rfl (by decide) rfl (.cons rfl (.cons rfl (.cons rfl CellsAre.nil))) rfl ?_))))
 intro v1 hv1
 refine cX (jc [v1] [sN] [(0, 1)] [(0, [v1])] jJ zeroValue29 rfl (.cons rfl qu PlacesAre.nil) rfl (.cons (cells_one (qS hv1)) CellsAre.nil) (cX (qR [_] _ [v1] qP rfl rfl rfl (qz (qM (qS hv1)) qU) rfl rfl rfl (qb ?_))))
 show X _ _ _ _ _ _ (intsH 2 v1 ([2, 1, 0] : List Int) :: cellsH b1 [v1] 29 :: L)
 refine qH [] _ _ rfl (fun F1 le1 hz1 => ?_)
 have hf1 : IntsF F1 v1 ([2, 1, 0]) := intsH.fz (xs := [2, 1, 0]) hz1.fz
 refine qr (qo (L' := L) [.agg #[v1]] (.agg #[v1]) (.cell rfl (jC [v1] jk qP rfl (Rd.ownN [] rfl rfl)) .nil) rfl le1 rF (sD sR) ?_)
 exact ⟨_, rfl, hf1, rfl⟩

/- laws.w6Term -/
theorem w6Term_spec_step {dp : Nat} (ih : ∀ m : Nat, m < dp → ∀ {F : FH} {L : List HP} {cb : Nat} {bsv : Value} {bs : List Int} (hbs : BytesF F bsv bs) (hbl : bs.length ≤ 4000000) {vs : Int} (hv : 0 ≤ vs ∧ vs ≤ 24) (hd : m ≤ 4), Does prog 15 [ptr cb 0, ii ((m : Int)), ii (vs)] F (curH .u64 88 cb bsv bs.length :: L) (fun v F' L' => (∃ (a : Value), ∃ (t : List Int), (a : Value) = v ∧ (IntsF F' a t) ∧ (goodT [2, 1, 0] t) ∧ (t.length ≤ szB m) ∧ (1 ≤ t.length)) ∧ curH .u64 88 cb bsv bs.length :: L = L')) {F : FH} {L : List HP} {cb : Nat} {bsv : Value} {bs : List Int} (hbs : BytesF F bsv bs) (hbl : bs.length ≤ 4000000) {vs : Int} (hv : 0 ≤ vs ∧ vs ≤ 24) (hd : dp ≤ 4) :
    Does prog 15 [ptr cb 0, ii (((dp : Nat) : Int)), ii (vs)] F (curH .u64 88 cb bsv bs.length :: L) (fun v F' L' => (∃ (a : Value), ∃ (t : List Int), (a : Value) = v ∧ (IntsF F' a t) ∧ (goodT [2, 1, 0] t) ∧ (t.length ≤ szB dp) ∧ (1 ≤ t.length)) ∧ curH .u64 88 cb bsv bs.length :: L = L') := by
 refine qD func15 rfl rfl rfl ?_
 have hz9 := szB_le (d := dp - 1) (e := 3) (by omega)
 have hz8 : szB 3 = 15 := rfl
 refine qc (qa (qg (sN) rfl (qb (qc (qc (qa (qf (ii (((dp : Nat) : Int))) rfl (cX (XOp.leq rfl rfl (qf (.bool (decide ((((dp : Nat) : Int) : Int) ≤ 1))) rfl ?_))))))))))
 by_cases h1 : (((dp : Nat) : Int) : Int) ≤ 1
 ·refine qs (t := 9) rfl (vT h1) (qs (t := 9) rfl (vT h1) (qs (t := 9) rfl (vT h1) (cX (ja (.bool (true)) (vT h1) rfl (qb (jN rfl (qc (qc (qa (qf (ii (vs)) rfl (cX (jA rfl rfl (qf (.bool (decide ((vs : Int) > 0))) rfl ?_)))))))))))))
  by_cases h2 : (vs : Int) > 0
  ·refine qt (t := 16) rfl (vT h2) (qm (ptr cb 0) rfl (qt (t := 16) rfl (vT h2) (qp (args := [ptr cb 0, ii (2)]) call14 rfl (jI [] (below_spec (n := 2) hbs (by omega) (hn := (by first | assumption | rfl | omega | simp)))) ?_)))
   rintro _ _ _ _ ⟨⟨rfl, x1, rfl, hr1⟩, rfl⟩
   show XL _ _ _ _ _ _ _ (curH .u64 88 cb bsv bs.length :: L)
   refine qt (t := 16) rfl (vT h2) (jq rfl rfl (cX (ja (.bool (decide ((x1 : Int) = 0))) (vT h2) rfl (qb ?_))))
   refine qA (p := (x1 : Int) = 0) rfl (fun h3 => ?_) (fun h3 => ?_)
   ·refine qc (qa (qf (ptr cb 0) rfl (qf (ii (vs)) rfl (cX (qp (args := [ptr cb 0, ii (vs)]) call14 rfl (jI [] (below_spec (n := vs) hbs (by omega) (hn := (by first | assumption | rfl | omega | simp)))) ?_)))))
    rintro _ _ _ _ ⟨⟨rfl, x2, rfl, hr2⟩, rfl⟩
    show XL _ _ _ _ _ _ _ (curH .u64 88 cb bsv bs.length :: L)
    refine cX (jf ((-1) - x2) rfl rfl (by omega) (by omega) (cX (ql (s := 1) [ii ((-1) - x2)] [ii (0)] [(0, [ii ((-1) - x2)])] qd qw qG rfl (by decide) rfl (.cons rfl CellsAre.nil) rfl ?_)))
    intro v1 hv1
    refine qg (v1) rfl (qb ?_)
    show X _ _ _ _ _ _ (intsH 2 v1 ([(-1) - x2] : List Int) :: curH .u64 88 cb bsv bs.length :: L)
    refine qH [] _ _ rfl (fun F3 le3 hz1 => ?_)
    replace hbs := hbs.mono le3
    have hf1 : IntsF F3 v1 ([(-1) - x2]) := intsH.fz (xs := [(-1) - x2]) hz1.fz
    refine qr (qi (qi (qo (L' := curH .u64 88 cb bsv bs.length :: L) [v1] (v1) (.tmp rfl .nil) rfl le3 rF (sC sR) ?_)))
    exact ⟨⟨_, _, rfl, hf1, goodT.var (by omega) (by omega), szB_pos dp, Nat.le_refl _⟩, rfl⟩
   refine qx (qc (qa (cX (ql (s := 1) [ii (2)] [ii (0)] [(0, [ii (2)])] qd qw qG rfl (by decide) rfl (.cons rfl CellsAre.nil) rfl ?_))))
   intro v2 hv2
   refine qg (v2) rfl (qb ?_)
   show X _ _ _ _ _ _ (intsH 2 v2 ([2] : List Int) :: curH .u64 88 cb bsv bs.length :: L)
   refine qH [] _ _ rfl (fun F4 le4 hz2 => ?_)
   replace hbs := hbs.mono le4
   have hf2 : IntsF F4 v2 ([2]) := intsH.fz (xs := [2]) hz2.fz
   refine qr (qi (qo (L' := curH .u64 88 cb bsv bs.length :: L) [v2] (v2) (.tmp rfl .nil) rfl le4 rF (sC sR) ?_))
   exact ⟨⟨_, _, rfl, hf2, goodT.one (by decide) (by decide) (by decide), szB_pos dp, Nat.le_refl _⟩, rfl⟩
  refine qs (t := 16) rfl (vF h2) (qs (t := 16) rfl (vF h2) (qs (t := 16) rfl (vF h2) (cX (qV (.bool (false)) (vF h2) rfl (qb (X.condF rfl (qx (qc (qa (cX (ql (s := 1) [ii (2)] [ii (0)] [(0, [ii (2)])] qd qw qG rfl (by decide) rfl (.cons rfl CellsAre.nil) rfl ?_)))))))))))
  intro v3 hv3
  refine qg (v3) rfl (qb ?_)
  show X _ _ _ _ _ _ (intsH 2 v3 ([2] : List Int) :: curH .u64 88 cb bsv bs.length :: L)
  refine qH [] _ _ rfl (fun F5 le5 hz3 => ?_)
  replace hbs := hbs.mono le5
  have hf3 : IntsF F5 v3 ([2]) := intsH.fz (xs := [2]) hz3.fz
  refine qr (qi (qo (L' := curH .u64 88 cb bsv bs.length :: L) [v3] (v3) (.tmp rfl .nil) rfl le5 rF (sC sR) ?_))
  exact ⟨⟨_, _, rfl, hf3, goodT.one (by decide) (by decide) (by decide), szB_pos dp, Nat.le_refl _⟩, rfl⟩
 refine qt (t := 9) rfl (vF h1) (qm (ptr cb 0) rfl (qt (t := 9) rfl (vF h1) (qp (args := [ptr cb 0, ii (4)]) call14 rfl (jI [] (below_spec (n := 4) hbs (by omega) (hn := (by first | assumption | rfl | omega | simp)))) ?_)))
 rintro _ _ _ _ ⟨⟨rfl, x3, rfl, hr3⟩, rfl⟩
 show XL _ _ _ _ _ _ _ (curH .u64 88 cb bsv bs.length :: L)
 refine qt (t := 9) rfl (vF h1) (jq rfl rfl (cX (qV (.bool (decide ((x3 : Int) = 0))) (vF h1) rfl (qb ?_))))
 refine qA (p := (x3 : Int) = 0) rfl (fun h4 => ?_) (fun h4 => ?_)
 ·refine qc (qc (qa (qf (ii (vs)) rfl (cX (jA rfl rfl (qf (.bool (decide ((vs : Int) > 0))) rfl ?_))))))
  by_cases h5 : (vs : Int) > 0
  ·refine qt (t := 16) rfl (vT h5) (qm (ptr cb 0) rfl (qt (t := 16) rfl (vT h5) (qp (args := [ptr cb 0, ii (2)]) call14 rfl (jI [] (below_spec (n := 2) hbs (by omega) (hn := (by first | assumption | rfl | omega | simp)))) ?_)))
   rintro _ _ _ _ ⟨⟨rfl, x4, rfl, hr4⟩, rfl⟩
   show XL _ _ _ _ _ _ _ (curH .u64 88 cb bsv bs.length :: L)
   refine qt (t := 16) rfl (vT h5) (jq rfl rfl (cX (ja (.bool (decide ((x4 : Int) = 0))) (vT h5) rfl (qb ?_))))
   refine qA (p := (x4 : Int) = 0) rfl (fun h6 => ?_) (fun h6 => ?_)
   ·refine qc (qa (qf (ptr cb 0) rfl (qf (ii (vs)) rfl (cX (qp (args := [ptr cb 0, ii (vs)]) call14 rfl (jI [] (below_spec (n := vs) hbs (by omega) (hn := (by first | assumption | rfl | omega | simp)))) ?_)))))
    rintro _ _ _ _ ⟨⟨rfl, x5, rfl, hr5⟩, rfl⟩
    show XL _ _ _ _ _ _ _ (curH .u64 88 cb bsv bs.length :: L)
    refine cX (jf ((-1) - x5) rfl rfl (by omega) (by omega) (cX (ql (s := 1) [ii ((-1) - x5)] [ii (0)] [(0, [ii ((-1) - x5)])] qd qw qG rfl (by decide) rfl (.cons rfl CellsAre.nil) rfl ?_)))
    intro v4 hv4
    refine qg (v4) rfl (qb ?_)
    show X _ _ _ _ _ _ (intsH 2 v4 ([(-1) - x5] : List Int) :: curH .u64 88 cb bsv bs.length :: L)
    refine qH [] _ _ rfl (fun F9 le9 hz4 => ?_)
    replace hbs := hbs.mono le9
    have hf4 : IntsF F9 v4 ([(-1) - x5]) := intsH.fz (xs := [(-1) - x5]) hz4.fz
    refine qr (qi (qi (qo (L' := curH .u64 88 cb bsv bs.length :: L) [v4] (v4) (.tmp rfl .nil) rfl le9 rF (sC sR) ?_)))
    exact ⟨⟨_, _, rfl, hf4, goodT.var (by omega) (by omega), szB_pos dp, Nat.le_refl _⟩, rfl⟩
   refine qx (qc (qa (cX (ql (s := 1) [ii (2)] [ii (0)] [(0, [ii (2)])] qd qw qG rfl (by decide) rfl (.cons rfl CellsAre.nil) rfl ?_))))
   intro v5 hv5
   refine qg (v5) rfl (qb ?_)
   show X _ _ _ _ _ _ (intsH 2 v5 ([2] : List Int) :: curH .u64 88 cb bsv bs.length :: L)
   refine qH [] _ _ rfl (fun F10 le10 hz5 => ?_)
   replace hbs := hbs.mono le10
   have hf5 : IntsF F10 v5 ([2]) := intsH.fz (xs := [2]) hz5.fz
   refine qr (qi (qo (L' := curH .u64 88 cb bsv bs.length :: L) [v5] (v5) (.tmp rfl .nil) rfl le10 rF (sC sR) ?_))
   exact ⟨⟨_, _, rfl, hf5, goodT.one (by decide) (by decide) (by decide), szB_pos dp, Nat.le_refl _⟩, rfl⟩
  refine qs (t := 16) rfl (vF h5) (qs (t := 16) rfl (vF h5) (qs (t := 16) rfl (vF h5) (cX (qV (.bool (false)) (vF h5) rfl (qb (X.condF rfl (qx (qc (qa (cX (ql (s := 1) [ii (2)] [ii (0)] [(0, [ii (2)])] qd qw qG rfl (by decide) rfl (.cons rfl CellsAre.nil) rfl ?_)))))))))))
  intro v6 hv6
  refine qg (v6) rfl (qb ?_)
  show X _ _ _ _ _ _ (intsH 2 v6 ([2] : List Int) :: curH .u64 88 cb bsv bs.length :: L)
  refine qH [] _ _ rfl (fun F11 le11 hz6 => ?_)
  replace hbs := hbs.mono le11
  have hf6 : IntsF F11 v6 ([2]) := intsH.fz (xs := [2]) hz6.fz
  refine qr (qi (qo (L' := curH .u64 88 cb bsv bs.length :: L) [v6] (v6) (.tmp rfl .nil) rfl le11 rF (sC sR) ?_))
  exact ⟨⟨_, _, rfl, hf6, goodT.one (by decide) (by decide) (by decide), szB_pos dp, Nat.le_refl _⟩, rfl⟩
 refine qx (qc (qc (qa (qf (ptr cb 0) rfl (cX (qp (args := [ptr cb 0, ii (2)]) call14 rfl (jI [] (below_spec (n := 2) hbs (by omega) (hn := (by first | assumption | rfl | omega | simp)))) ?_))))))
 rintro _ _ _ _ ⟨⟨rfl, x6, rfl, hr6⟩, rfl⟩
 show XL _ _ _ _ _ _ _ (curH .u64 88 cb bsv bs.length :: L)
 refine cX (jq rfl rfl (qb ?_))
 refine qA (p := (x6 : Int) = 0) rfl (fun h7 => ?_) (fun h7 => ?_)
 ·refine qc (qa (cX (ql (s := 1) [ii (1)] [ii (0)] [(0, [ii (1)])] qd qw qG rfl (by decide) rfl (.cons rfl CellsAre.nil) rfl ?_)))
  intro v7 hv7
  refine qf (ptr cb 0) rfl (qf (ii (((dp : Nat) : Int))) rfl (cX (jf (((dp - 1 : Nat) : Int)) rfl rfl (by omega) (by omega) (qf (ii (vs)) rfl (cX (qp (args := [ptr cb 0, ii ((dp - 1 : Nat) : Int), ii (vs)]) call15 rfl (jI [_] (ih (dp - 1) (by omega) (vs := vs) hbs (by omega) (hv := (by first | assumption | rfl | omega | simp)) (hd := (by first | assumption | rfl | omega | simp)))) ?_))))))
  rintro _ F13 _ le13 ⟨⟨x7, x8, rfl, hr7, hr8, hr9, hr10⟩, rfl⟩
  replace hbs := hbs.mono le13
  show XL _ _ _ _ _ _ _ (slH 2 1 v7 1 [ii (1)] :: curH .u64 88 cb bsv bs.length :: L)
  show XL _ _ _ _ _ _ _ (intsH 2 v7 ([1] : List Int) :: curH .u64 88 cb bsv bs.length :: L)
  refine cX (jP [] _ qd typeInfo2 rfl rfl rfl rfl rfl rfl hr7 (by (try simp only [List.length_append, List.length_nil, List.length_cons, List.length_singleton, List.length_take, List.length_drop]); omega) ?_)
  intro v8 hs1 hn1 hm1
  refine qg (v8) rfl (qb (qH [] _ _ rfl (fun F14 le14 hz7 => ?_)))
  replace hbs := hbs.mono le14
  have hf7 : IntsF F14 v8 (([1]) ++ x8) := intsH.fz (xs := ([1]) ++ x8) hz7.fz
  refine qr (qi (qo (L' := curH .u64 88 cb bsv bs.length :: L) [v8] (v8) (.tmp rfl .nil) rfl (qk le13 le14) rF (sC sR) ?_))
  exact ⟨⟨_, _, rfl, hf7, goodT.node (n := 1) (by decide) (by decide) (by decide) (goodN.nil.snoc hr8), by have h9 := szB_next (d := dp) (by omega); simp only [List.length_append, List.length_cons, List.length_nil]; omega, by simp only [List.length_append, List.length_cons, List.length_nil]; omega⟩, rfl⟩
 refine qx (qc (qa (cX (ql (s := 1) [ii (0)] [ii (0)] [(0, [ii (0)])] qd qw qG rfl (by decide) rfl (.cons rfl CellsAre.nil) rfl ?_))))
 intro v9 hv8
 refine qf (ptr cb 0) rfl (qf (ii (((dp : Nat) : Int))) rfl (cX (jf (((dp - 1 : Nat) : Int)) rfl rfl (by omega) (by omega) (qf (ii (vs)) rfl (cX (qp (args := [ptr cb 0, ii ((dp - 1 : Nat) : Int), ii (vs)]) call15 rfl (jI [_] (ih (dp - 1) (by omega) (vs := vs) hbs (by omega) (hv := (by first | assumption | rfl | omega | simp)) (hd := (by first | assumption | rfl | omega | simp)))) ?_))))))
 rintro _ F15 _ le15 ⟨⟨x9, x10, rfl, hr11, hr12, hr13, hr14⟩, rfl⟩
 replace hbs := hbs.mono le15
 show XL _ _ _ _ _ _ _ (slH 2 1 v9 1 [ii (0)] :: curH .u64 88 cb bsv bs.length :: L)
 show XL _ _ _ _ _ _ _ (intsH 2 v9 ([0] : List Int) :: curH .u64 88 cb bsv bs.length :: L)
 refine cX (jP [] _ qd typeInfo2 rfl rfl rfl rfl rfl rfl hr11 (by (try simp only [List.length_append, List.length_nil, List.length_cons, List.length_singleton, List.length_take, List.length_drop]); omega) ?_)
 intro v10 hs2 hn2 hm2
 refine qf (ptr cb 0) rfl (qf (ii (((dp : Nat) : Int))) rfl (cX (jf (((dp - 1 : Nat) : Int)) rfl rfl (by omega) (by omega) (qf (ii (vs)) rfl (cX (qp (args := [ptr cb 0, ii ((dp - 1 : Nat) : Int), ii (vs)]) call15 rfl (jI [_] (ih (dp - 1) (by omega) (vs := vs) hbs (by omega) (hv := (by first | assumption | rfl | omega | simp)) (hd := (by first | assumption | rfl | omega | simp)))) ?_))))))
 rintro _ F16 _ le16 ⟨⟨x11, x12, rfl, hr15, hr16, hr17, hr18⟩, rfl⟩
 show XL _ _ _ _ _ _ _ (intsH 2 v10 (([0]) ++ x10) :: curH .u64 88 cb bsv bs.length :: L)
 refine cX (jP [] _ qd typeInfo2 rfl rfl rfl rfl rfl rfl hr15 (by (try simp only [List.length_append, List.length_nil, List.length_cons, List.length_singleton, List.length_take, List.length_drop]); omega) ?_)
 intro v11 hs3 hn3 hm3
 refine qg (v11) rfl (qb (qH [] _ _ rfl (fun F17 le17 hz8 => ?_)))
 have hf8 : IntsF F17 v11 ((([0]) ++ x10) ++ x12) := intsH.fz (xs := (([0]) ++ x10) ++ x12) hz8.fz
 refine qr (qo (L' := curH .u64 88 cb bsv bs.length :: L) [v11] (v11) (.tmp rfl .nil) rfl (qk (qk le15 le16) le17) rF (sC sR) ?_)
 exact ⟨⟨_, _, rfl, hf8, goodT.node (n := 2) (by decide) (by decide) (by decide) ((goodN.nil.snoc hr12).snoc hr16), by have h9 := szB_next (d := dp) (by omega); simp only [List.length_append, List.length_cons, List.length_nil]; omega, by simp only [List.length_append, List.length_cons, List.length_nil]; omega⟩, rfl⟩

theorem w6Term_spec (dp : Nat) : ∀ {F : FH} {L : List HP} {cb : Nat} {bsv : Value} {bs : List Int} (hbs : BytesF F bsv bs) (hbl : bs.length ≤ 4000000) {vs : Int} (hv : 0 ≤ vs ∧ vs ≤ 24) (hd : dp ≤ 4), Does prog 15 [ptr cb 0, ii (((dp : Nat) : Int)), ii (vs)] F (curH .u64 88 cb bsv bs.length :: L) (fun v F' L' => (∃ (a : Value), ∃ (t : List Int), (a : Value) = v ∧ (IntsF F' a t) ∧ (goodT [2, 1, 0] t) ∧ (t.length ≤ szB dp) ∧ (1 ≤ t.length)) ∧ curH .u64 88 cb bsv bs.length :: L = L') := by
  induction dp using Nat.strongRecOn with
  | _ dp ih =>
    intros
    exact w6Term_spec_step ih (by assumption) (by assumption) (by assumption) (by assumption)

/- laws.w6System -/
theorem w6System_spec {F : FH} {L : List HP} {cb : Nat} {bsv : Value} {bs : List Int} (hbs : BytesF F bsv bs) (hbl : bs.length ≤ 4000000) :
    Does prog 13 [ptr cb 0] F (curH .u64 88 cb bsv bs.length :: L) (fun v F' L' => (∃ (a : Value), ∃ (b : Value), ∃ (rs : List (List Int × List Int)), (.agg #[a, b] : Value) = v ∧ (IntsF F' a [2, 1, 0]) ∧ (PairsF F' b rs) ∧ (sysOk [2, 1, 0] rs = true)) ∧ curH .u64 88 cb bsv bs.length :: L = L') := by
 refine qD func13 rfl rfl rfl (qc (qa (cX (jh [sN, sN] zeroValue32 rfl ?_))))
 intro b1
 refine qb (qc (qa (cX (qp (args := []) call60 rfl (w6Sig_spec ) ?_))))
 rintro _ F1 _ le1 ⟨x1, rfl, hr1, rfl⟩
 replace hbs := hbs.mono le1
 refine cX (ql (s := 1) [ii (0), ii (2), ii (-1)] [ii (0)] [(0, [ii (0)]), (1, [ii (2)]), (2, [ii (-1)])] qd qw qG rfl (by decide) rfl (.cons rfl (.cons rfl (.cons rfl CellsAre.nil))) rfl ?_)
 intro v1 hv1
 refine cX (ql (s := 1) [ii (-1)] [ii (0)] [(0, [ii (-1)])] qd qw qG rfl (by decide) rfl (.cons rfl CellsAre.nil) rfl ?_)
 intro v2 hv2
 refine cX (jc [v1, v2] [sN, sN] [(0, 1), (1, 1)] [(0, [v1]), (1, [v2])] qO jg rfl (.cons rfl qu (.cons rfl qu PlacesAre.nil)) rfl (.cons (cells_one (qS hv1)) (.cons (cells_one (qS hv2)) CellsAre.nil)) (cX (ql (s := 1) [ii (0), ii (1), ii (-1), ii (-2)] [ii (0)] [(0, [ii (0)]), (1, [ii (1)]), (2, [ii (-1)]), (3, [ii (-2)])] qd qw qG rfl (by decide) rfl (.cons rfl (.cons rfl (.cons rfl (.cons rfl CellsAre.nil)))) rfl ?_)))
 intro v3 hv3
 refine cX (ql (s := 1) [ii (1), ii (0), ii (-1), ii (-2)] [ii (0)] [(0, [ii (1)]), (1, [ii (0)]), (2, [ii (-1)]), (3, [ii (-2)])] qd qw qG rfl (by decide) rfl (.cons rfl (.cons rfl (.cons rfl (.cons rfl CellsAre.nil)))) rfl ?_)
 intro v4 hv4
 refine cX (jc [v3, v4] [sN, sN] [(0, 1), (1, 1)] [(0, [v3]), (1, [v4])] qO jg rfl (.cons rfl qu (.cons rfl qu PlacesAre.nil)) rfl (.cons (cells_one (qS hv3)) (.cons (cells_one (qS hv4)) CellsAre.nil)) (cX (ql (s := 2) [v1, v2, v3, v4] [sN, sN] [(0, [v1, v2]), (1, [v3, v4])] jb jF jg rfl (by decide) rfl (.cons rfl (.cons rfl CellsAre.nil)) rfl ?_)))
 intro v5 hv5
 refine cX (jc [x1, v5] [sN, sN] [(0, 1), (1, 1)] [(0, [x1]), (1, [v5])] qJ zeroValue32 rfl (.cons rfl qP (.cons rfl ju PlacesAre.nil)) rfl (.cons rfl (.cons (cells_one (qS hv5)) CellsAre.nil)) (cX (jh [sN, sN] zeroValue32 rfl ?_)))
 intro b2
 refine cX (qR [] _ [x1, v5] qL rfl rfl rfl (qz (qM (qE hr1)) (qz (qM (qS hv5)) qU)) rfl rfl rfl (qb (qc (qc (qa (qf (ptr cb 0) rfl (cX (qp (args := [ptr cb 0, ii (4)]) call14 rfl (jI [_, _, _, _, _, _, _] (below_spec (n := 4) hbs (by omega) (hn := (by first | assumption | rfl | omega | simp)))) ?_))))))))
 rintro _ _ _ _ ⟨⟨rfl, x2, rfl, hr2⟩, rfl⟩
 show XL _ _ _ _ _ _ _ (cellsH b2 [x1, v5] 32 :: slH 72 2 v5 2 [v1, v2, v3, v4] :: slH 2 1 v4 4 [ii (1), ii (0), ii (-1), ii (-2)] :: slH 2 1 v3 4 [ii (0), ii (1), ii (-1), ii (-2)] :: slH 2 1 v2 1 [ii (-1)] :: slH 2 1 v1 3 [ii (0), ii (2), ii (-1)] :: cellsH b1 [sN, sN] 32 :: curH .u64 88 cb bsv bs.length :: L)
 refine qb (qI (qc (qa (cX (jq rfl rfl (qg (.bool (decide ((x2 : Int) = 0))) rfl (qb ?_)))))))
 refine qA (p := (x2 : Int) = 0) rfl (fun h1 => ?_) (fun h1 => ?_)
 ·refine qa (cX (qn (1) qJ rfl ju (by decide) rfl rfl (cX (qj isAgg30 rfl (Rd.own [] rfl rfl) (cX (ql (s := 1) [ii (0), ii (-1), ii (2)] [ii (0)] [(0, [ii (0)]), (1, [ii (-1)]), (2, [ii (2)])] qd qw qG rfl (by decide) rfl (.cons rfl (.cons rfl (.cons rfl CellsAre.nil))) rfl ?_))))))
  intro v6 hv6
  refine cX (ql (s := 1) [ii (-1)] [ii (0)] [(0, [ii (-1)])] qd qw qG rfl (by decide) rfl (.cons rfl CellsAre.nil) rfl ?_)
  intro v7 hv7
  refine cX (jc [v6, v7] [sN, sN] [(0, 1), (1, 1)] [(0, [v6]), (1, [v7])] qO jg rfl (.cons rfl qu (.cons rfl qu PlacesAre.nil)) rfl (.cons (cells_one (qS hv6)) (.cons (cells_one (qS hv7)) CellsAre.nil)) (cX (ql (s := 1) [ii (0), ii (-1), ii (1), ii (-2)] [ii (0)] [(0, [ii (0)]), (1, [ii (-1)]), (2, [ii (1)]), (3, [ii (-2)])] qd qw qG rfl (by decide) rfl (.cons rfl (.cons rfl (.cons rfl (.cons rfl CellsAre.nil)))) rfl ?_)))
  intro v8 hv8
  refine cX (ql (s := 1) [ii (1), ii (0), ii (-1), ii (-2)] [ii (0)] [(0, [ii (1)]), (1, [ii (0)]), (2, [ii (-1)]), (3, [ii (-2)])] qd qw qG rfl (by decide) rfl (.cons rfl (.cons rfl (.cons rfl (.cons rfl CellsAre.nil)))) rfl ?_)
  intro v9 hv9
  refine cX (jc [v8, v9] [sN, sN] [(0, 1), (1, 1)] [(0, [v8]), (1, [v9])] qO jg rfl (.cons rfl qu (.cons rfl qu PlacesAre.nil)) rfl (.cons (cells_one (qS hv8)) (.cons (cells_one (qS hv9)) CellsAre.nil)) (cX (ql (s := 2) [v6, v7, v8, v9] [sN, sN] [(0, [v6, v7]), (1, [v8, v9])] jb jF jg rfl (by decide) rfl (.cons rfl (.cons rfl CellsAre.nil)) rfl ?_)))
  intro v10 hv10
  show XL _ _ _ _ _ _ _ (slH 72 2 v10 2 [v6, v7, v8, v9] :: slH 2 1 v9 4 [ii (1), ii (0), ii (-1), ii (-2)] :: slH 2 1 v8 4 [ii (0), ii (-1), ii (1), ii (-2)] :: slH 2 1 v7 1 [ii (-1)] :: slH 2 1 v6 3 [ii (0), ii (-1), ii (2)] :: cellsH b2 [x1, v5] 32 :: slH 72 2 v5 2 [v1, v2, v3, v4] :: slH 2 1 v4 4 [ii (1), ii (0), ii (-1), ii (-2)] :: slH 2 1 v3 4 [ii (0), ii (1), ii (-1), ii (-2)] :: slH 2 1 v2 1 [ii (-1)] :: intsH 2 v1 ([0, 2, -1] : List Int) :: cellsH b1 [sN, sN] 32 :: curH .u64 88 cb bsv bs.length :: L)
  refine jy [_, _, _, _, _, _, _, _, _, _] _ _ rfl (fun F3 le3 hz1 => ?_)
  replace hr1 := hr1.mono le3
  have hf1 : IntsF F3 v1 ([0, 2, -1]) := intsH.fz (xs := [0, 2, -1]) hz1.fz
  show XL _ _ _ _ _ _ _ (slH 72 2 v10 2 [v6, v7, v8, v9] :: slH 2 1 v9 4 [ii (1), ii (0), ii (-1), ii (-2)] :: slH 2 1 v8 4 [ii (0), ii (-1), ii (1), ii (-2)] :: slH 2 1 v7 1 [ii (-1)] :: slH 2 1 v6 3 [ii (0), ii (-1), ii (2)] :: cellsH b2 [x1, v5] 32 :: slH 72 2 v5 2 [v1, v2, v3, v4] :: slH 2 1 v4 4 [ii (1), ii (0), ii (-1), ii (-2)] :: slH 2 1 v3 4 [ii (0), ii (1), ii (-1), ii (-2)] :: intsH 2 v2 ([-1] : List Int) :: cellsH b1 [sN, sN] 32 :: curH .u64 88 cb bsv bs.length :: L)
  refine jy [_, _, _, _, _, _, _, _, _] _ _ rfl (fun F4 le4 hz2 => ?_)
  replace hr1 := hr1.mono le4
  replace hf1 := hf1.mono le4
  have hf2 : IntsF F4 v2 ([-1]) := intsH.fz (xs := [-1]) hz2.fz
  show XL _ _ _ _ _ _ _ (slH 72 2 v10 2 [v6, v7, v8, v9] :: slH 2 1 v9 4 [ii (1), ii (0), ii (-1), ii (-2)] :: slH 2 1 v8 4 [ii (0), ii (-1), ii (1), ii (-2)] :: slH 2 1 v7 1 [ii (-1)] :: slH 2 1 v6 3 [ii (0), ii (-1), ii (2)] :: cellsH b2 [x1, v5] 32 :: slH 72 2 v5 2 [v1, v2, v3, v4] :: slH 2 1 v4 4 [ii (1), ii (0), ii (-1), ii (-2)] :: intsH 2 v3 ([0, 1, -1, -2] : List Int) :: cellsH b1 [sN, sN] 32 :: curH .u64 88 cb bsv bs.length :: L)
  refine jy [_, _, _, _, _, _, _, _] _ _ rfl (fun F5 le5 hz3 => ?_)
  replace hr1 := hr1.mono le5
  replace hf1 := hf1.mono le5
  replace hf2 := hf2.mono le5
  have hf3 : IntsF F5 v3 ([0, 1, -1, -2]) := intsH.fz (xs := [0, 1, -1, -2]) hz3.fz
  show XL _ _ _ _ _ _ _ (slH 72 2 v10 2 [v6, v7, v8, v9] :: slH 2 1 v9 4 [ii (1), ii (0), ii (-1), ii (-2)] :: slH 2 1 v8 4 [ii (0), ii (-1), ii (1), ii (-2)] :: slH 2 1 v7 1 [ii (-1)] :: slH 2 1 v6 3 [ii (0), ii (-1), ii (2)] :: cellsH b2 [x1, v5] 32 :: slH 72 2 v5 2 [v1, v2, v3, v4] :: intsH 2 v4 ([1, 0, -1, -2] : List Int) :: cellsH b1 [sN, sN] 32 :: curH .u64 88 cb bsv bs.length :: L)
  refine jy [_, _, _, _, _, _, _] _ _ rfl (fun F6 le6 hz4 => ?_)
  replace hr1 := hr1.mono le6
  replace hf1 := hf1.mono le6
  replace hf2 := hf2.mono le6
  replace hf3 := hf3.mono le6
  have hf4 : IntsF F6 v4 ([1, 0, -1, -2]) := intsH.fz (xs := [1, 0, -1, -2]) hz4.fz
  have hc1 : PairsC F6 [v1, v2, v3, v4] ([([0, 2, -1], [-1]), ([0, 1, -1, -2], [1, 0, -1, -2])] : List (List Int × List Int)) := (PairsC.snoc (PairsC.snoc (CO.nil : PairsC F6 [] []) hf1 hf2) hf3 hf4)
  show XL _ _ _ _ _ _ _ (slH 72 2 v10 2 [v6, v7, v8, v9] :: slH 2 1 v9 4 [ii (1), ii (0), ii (-1), ii (-2)] :: slH 2 1 v8 4 [ii (0), ii (-1), ii (1), ii (-2)] :: slH 2 1 v7 1 [ii (-1)] :: intsH 2 v6 ([0, -1, 2] : List Int) :: cellsH b2 [x1, v5] 32 :: slH 72 2 v5 2 ([v1, v2, v3, v4]) :: cellsH b1 [sN, sN] 32 :: curH .u64 88 cb bsv bs.length :: L)
  refine jy [_, _, _, _] _ _ rfl (fun F7 le7 hz5 => ?_)
  replace hr1 := hr1.mono le7
  replace hc1 := hc1.mono le7
  have hf5 : IntsF F7 v6 ([0, -1, 2]) := intsH.fz (xs := [0, -1, 2]) hz5.fz
  show XL _ _ _ _ _ _ _ (slH 72 2 v10 2 [v6, v7, v8, v9] :: slH 2 1 v9 4 [ii (1), ii (0), ii (-1), ii (-2)] :: slH 2 1 v8 4 [ii (0), ii (-1), ii (1), ii (-2)] :: intsH 2 v7 ([-1] : List Int) :: cellsH b2 [x1, v5] 32 :: slH 72 2 v5 2 ([v1, v2, v3, v4]) :: cellsH b1 [sN, sN] 32 :: curH .u64 88 cb bsv bs.length :: L)
  refine jy [_, _, _] _ _ rfl (fun F8 le8 hz6 => ?_)
  replace hr1 := hr1.mono le8
  replace hc1 := hc1.mono le8
  replace hf5 := hf5.mono le8
  have hf6 : IntsF F8 v7 ([-1]) := intsH.fz (xs := [-1]) hz6.fz
  show XL _ _ _ _ _ _ _ (slH 72 2 v10 2 [v6, v7, v8, v9] :: slH 2 1 v9 4 [ii (1), ii (0), ii (-1), ii (-2)] :: intsH 2 v8 ([0, -1, 1, -2] : List Int) :: cellsH b2 [x1, v5] 32 :: slH 72 2 v5 2 ([v1, v2, v3, v4]) :: cellsH b1 [sN, sN] 32 :: curH .u64 88 cb bsv bs.length :: L)
  refine jy [_, _] _ _ rfl (fun F9 le9 hz7 => ?_)
  replace hr1 := hr1.mono le9
  replace hc1 := hc1.mono le9
  replace hf5 := hf5.mono le9
  replace hf6 := hf6.mono le9
  have hf7 : IntsF F9 v8 ([0, -1, 1, -2]) := intsH.fz (xs := [0, -1, 1, -2]) hz7.fz
  show XL _ _ _ _ _ _ _ (slH 72 2 v10 2 [v6, v7, v8, v9] :: intsH 2 v9 ([1, 0, -1, -2] : List Int) :: cellsH b2 [x1, v5] 32 :: slH 72 2 v5 2 ([v1, v2, v3, v4]) :: cellsH b1 [sN, sN] 32 :: curH .u64 88 cb bsv bs.length :: L)
  refine jy [_] _ _ rfl (fun F10 le10 hz8 => ?_)
  replace hr1 := hr1.mono le10
  replace hc1 := hc1.mono le10
  replace hf5 := hf5.mono le10
  replace hf6 := hf6.mono le10
  replace hf7 := hf7.mono le10
  have hf8 : IntsF F10 v9 ([1, 0, -1, -2]) := intsH.fz (xs := [1, 0, -1, -2]) hz8.fz
  refine cX (jQ (m := 2) (bytes := 48) (cs := [v1, v2, v3, v4]) [_, _] _ [v6, v7, v8, v9] jb typeInfo72 rfl rfl rfl rfl rfl rfl rfl (SlV.own [] rfl) rfl (Rd.lit [] rfl) (qz (qM (qE hf5)) (qz (qM (qE hf6)) (qz (qM (qE hf7)) (qz (qM (qE hf8)) qU)))) (by (try simp only [List.length_append, List.length_nil, List.length_cons, List.length_singleton]); omega) (by (try simp only [List.length_append, List.length_nil, List.length_cons, List.length_singleton]); omega) ?_)
  intro v11 hs1 hn1 hm1
  have hc2 : PairsC F10 ([v1, v2, v3, v4] ++ [v6, v7, v8, v9]) ((([([0, 2, -1], [-1]), ([0, 1, -1, -2], [1, 0, -1, -2])] : List (List Int × List Int))) ++ [([0, -1, 2], [-1]), ([0, -1, 1, -2], [1, 0, -1, -2])]) := (PairsC.snoc (PairsC.snoc hc1 hf5 hf6) hf7 hf8)
  refine cX (qn (1) qJ rfl ju (by decide) rfl rfl (cX (jz [_] _ [x1, v11] ju rfl rfl (qM hs1) rfl rfl rfl (qb (qc (qa (cX (qq [x1, v11] qX qL rfl rfl (Rd.ownN [_] rfl rfl) (cX (qR [_, _, _] _ [x1, v11] qL rfl rfl rfl (qz (qM (qE hr1)) (qz (qM hs1) qU)) rfl rfl rfl (qb (qH [_, _] _ _ rfl (fun F11 le11 hz9 => ?_)))))))))))))
  replace hr1 := hr1.mono le11
  replace hc2 := hc2.mono le11
  have hf9 : PairsF F11 v11 (((([([0, 2, -1], [-1]), ([0, 1, -1, -2], [1, 0, -1, -2])] : List (List Int × List Int))) ++ [([0, -1, 2], [-1]), ([0, -1, 1, -2], [1, 0, -1, -2])])) := CO.fz hc2 (by first | rfl | omega | (rw [List.length_set]; omega) | (simp; done)) hz9.fz
  refine qr (qo (L' := curH .u64 88 cb bsv bs.length :: L) [.agg #[x1, v11]] (.agg #[x1, v11]) (.cell rfl (jC [x1, v11] qX qL rfl (Rd.ownN [_, _] rfl rfl)) .nil) rfl (qk (qk (qk (qk (qk (qk (qk (qk (qk le1 le3) le4) le5) le6) le7) le8) le9) le10) le11) rF (sD (sD (sD (sC sR)))) ?_)
  exact ⟨⟨_, _, _, rfl, hr1, hf9, by decide⟩, rfl⟩
 refine qc (qa (cX (jq rfl rfl (qg (.bool (decide ((x2 : Int) = 1))) rfl (qb ?_)))))
 refine qA (p := (x2 : Int) = 1) rfl (fun h2 => ?_) (fun h2 => ?_)
 ·refine qa (cX (ql (s := 1) [ii (1), ii (1), ii (-1)] [ii (0)] [(0, [ii (1)]), (1, [ii (1)]), (2, [ii (-1)])] qd qw qG rfl (by decide) rfl (.cons rfl (.cons rfl (.cons rfl CellsAre.nil))) rfl ?_))
  intro v12 hv11
  refine cX (ql (s := 1) [ii (-1)] [ii (0)] [(0, [ii (-1)])] qd qw qG rfl (by decide) rfl (.cons rfl CellsAre.nil) rfl ?_)
  intro v13 hv12
  refine cX (jc [v12, v13] [sN, sN] [(0, 1), (1, 1)] [(0, [v12]), (1, [v13])] qO jg rfl (.cons rfl qu (.cons rfl qu PlacesAre.nil)) rfl (.cons (cells_one (qS hv11)) (.cons (cells_one (qS hv12)) CellsAre.nil)) (cX (ql (s := 1) [ii (0), ii (2), ii (-1)] [ii (0)] [(0, [ii (0)]), (1, [ii (2)]), (2, [ii (-1)])] qd qw qG rfl (by decide) rfl (.cons rfl (.cons rfl (.cons rfl CellsAre.nil))) rfl ?_)))
  intro v14 hv13
  refine cX (ql (s := 1) [ii (-1)] [ii (0)] [(0, [ii (-1)])] qd qw qG rfl (by decide) rfl (.cons rfl CellsAre.nil) rfl ?_)
  intro v15 hv14
  refine cX (jc [v14, v15] [sN, sN] [(0, 1), (1, 1)] [(0, [v14]), (1, [v15])] qO jg rfl (.cons rfl qu (.cons rfl qu PlacesAre.nil)) rfl (.cons (cells_one (qS hv13)) (.cons (cells_one (qS hv14)) CellsAre.nil)) (cX (ql (s := 2) [v12, v13, v14, v15] [sN, sN] [(0, [v12, v13]), (1, [v14, v15])] jb jF jg rfl (by decide) rfl (.cons rfl (.cons rfl CellsAre.nil)) rfl ?_)))
  intro v16 hv15
  refine cX (qn (1) qJ rfl ju (by decide) rfl rfl (cX (jz [_, _, _, _, _] _ [x1, v16] ju rfl rfl (qM (qS hv15)) rfl rfl rfl (qb (qc (qa (cX (qq [x1, v16] qX qL rfl rfl (Rd.ownN [_, _, _, _, _] rfl rfl) (cX (qR [_, _, _, _, _, _, _, _, _, _, _] _ [x1, v16] qL rfl rfl rfl (qz (qM (qE hr1)) (qz (qM (qS hv15)) qU)) rfl rfl rfl (qb ?_)))))))))))
  show X _ _ _ _ _ _ (slH 72 2 v16 2 [v12, v13, v14, v15] :: slH 2 1 v15 1 [ii (-1)] :: slH 2 1 v14 3 [ii (0), ii (2), ii (-1)] :: slH 2 1 v13 1 [ii (-1)] :: intsH 2 v12 ([1, 1, -1] : List Int) :: cellsH b2 [x1, v16] 32 :: slH 72 2 v5 2 [v1, v2, v3, v4] :: slH 2 1 v4 4 [ii (1), ii (0), ii (-1), ii (-2)] :: slH 2 1 v3 4 [ii (0), ii (1), ii (-1), ii (-2)] :: slH 2 1 v2 1 [ii (-1)] :: slH 2 1 v1 3 [ii (0), ii (2), ii (-1)] :: cellsH b1 [x1, v16] 32 :: curH .u64 88 cb bsv bs.length :: L)
  refine qH [_, _, _, _] _ _ rfl (fun F12 le12 hz10 => ?_)
  replace hr1 := hr1.mono le12
  have hf10 : IntsF F12 v12 ([1, 1, -1]) := intsH.fz (xs := [1, 1, -1]) hz10.fz
  show X _ _ _ _ _ _ (slH 72 2 v16 2 [v12, v13, v14, v15] :: slH 2 1 v15 1 [ii (-1)] :: slH 2 1 v14 3 [ii (0), ii (2), ii (-1)] :: intsH 2 v13 ([-1] : List Int) :: cellsH b2 [x1, v16] 32 :: slH 72 2 v5 2 [v1, v2, v3, v4] :: slH 2 1 v4 4 [ii (1), ii (0), ii (-1), ii (-2)] :: slH 2 1 v3 4 [ii (0), ii (1), ii (-1), ii (-2)] :: slH 2 1 v2 1 [ii (-1)] :: slH 2 1 v1 3 [ii (0), ii (2), ii (-1)] :: cellsH b1 [x1, v16] 32 :: curH .u64 88 cb bsv bs.length :: L)
  refine qH [_, _, _] _ _ rfl (fun F13 le13 hz11 => ?_)
  replace hr1 := hr1.mono le13
  replace hf10 := hf10.mono le13
  have hf11 : IntsF F13 v13 ([-1]) := intsH.fz (xs := [-1]) hz11.fz
  show X _ _ _ _ _ _ (slH 72 2 v16 2 [v12, v13, v14, v15] :: slH 2 1 v15 1 [ii (-1)] :: intsH 2 v14 ([0, 2, -1] : List Int) :: cellsH b2 [x1, v16] 32 :: slH 72 2 v5 2 [v1, v2, v3, v4] :: slH 2 1 v4 4 [ii (1), ii (0), ii (-1), ii (-2)] :: slH 2 1 v3 4 [ii (0), ii (1), ii (-1), ii (-2)] :: slH 2 1 v2 1 [ii (-1)] :: slH 2 1 v1 3 [ii (0), ii (2), ii (-1)] :: cellsH b1 [x1, v16] 32 :: curH .u64 88 cb bsv bs.length :: L)
  refine qH [_, _] _ _ rfl (fun F14 le14 hz12 => ?_)
  replace hr1 := hr1.mono le14
  replace hf10 := hf10.mono le14
  replace hf11 := hf11.mono le14
  have hf12 : IntsF F14 v14 ([0, 2, -1]) := intsH.fz (xs := [0, 2, -1]) hz12.fz
  show X _ _ _ _ _ _ (slH 72 2 v16 2 [v12, v13, v14, v15] :: intsH 2 v15 ([-1] : List Int) :: cellsH b2 [x1, v16] 32 :: slH 72 2 v5 2 [v1, v2, v3, v4] :: slH 2 1 v4 4 [ii (1), ii (0), ii (-1), ii (-2)] :: slH 2 1 v3 4 [ii (0), ii (1), ii (-1), ii (-2)] :: slH 2 1 v2 1 [ii (-1)] :: slH 2 1 v1 3 [ii (0), ii (2), ii (-1)] :: cellsH b1 [x1, v16] 32 :: curH .u64 88 cb bsv bs.length :: L)
  refine qH [_] _ _ rfl (fun F15 le15 hz13 => ?_)
  replace hr1 := hr1.mono le15
  replace hf10 := hf10.mono le15
  replace hf11 := hf11.mono le15
  replace hf12 := hf12.mono le15
  have hf13 : IntsF F15 v15 ([-1]) := intsH.fz (xs := [-1]) hz13.fz
  have hc3 : PairsC F15 [v12, v13, v14, v15] ([([1, 1, -1], [-1]), ([0, 2, -1], [-1])] : List (List Int × List Int)) := (PairsC.snoc (PairsC.snoc (CO.nil : PairsC F15 [] []) hf10 hf11) hf12 hf13)
  refine qH [] _ _ rfl (fun F16 le16 hz14 => ?_)
  replace hr1 := hr1.mono le16
  replace hc3 := hc3.mono le16
  have hf14 : PairsF F16 v16 (([([1, 1, -1], [-1]), ([0, 2, -1], [-1])] : List (List Int × List Int))) := CO.fz hc3 (by first | rfl | omega | (rw [List.length_set]; omega) | (simp; done)) hz14.fz
  refine qr (qo (L' := curH .u64 88 cb bsv bs.length :: L) [.agg #[x1, v16]] (.agg #[x1, v16]) (.cell rfl (jC [x1, v16] qX qL rfl (Rd.ownN [_, _, _, _, _, _] rfl rfl)) .nil) rfl (qk (qk (qk (qk (qk le1 le12) le13) le14) le15) le16) rF (sD (sD (sD (sD (sD (sD (sD (sC sR)))))))) ?_)
  exact ⟨⟨_, _, _, rfl, hr1, hf14, by decide⟩, rfl⟩
 refine qc (qa (cX (jq rfl rfl (qg (.bool (decide ((x2 : Int) = 2))) rfl (qb ?_)))))
 refine qA (p := (x2 : Int) = 2) rfl (fun h3 => ?_) (fun h3 => ?_)
 ·refine qa (cX (ql (s := 1) [ii (0), ii (0), ii (-1), ii (-2), ii (-3)] [ii (0)] [(0, [ii (0)]), (1, [ii (0)]), (2, [ii (-1)]), (3, [ii (-2)]), (4, [ii (-3)])] qd qw qG rfl (by decide) rfl (.cons rfl (.cons rfl (.cons rfl (.cons rfl (.cons rfl CellsAre.nil))))) rfl ?_))
  intro v17 hv16
  refine cX (ql (s := 1) [ii (0), ii (-1), ii (0), ii (-2), ii (-3)] [ii (0)] [(0, [ii (0)]), (1, [ii (-1)]), (2, [ii (0)]), (3, [ii (-2)]), (4, [ii (-3)])] qd qw qG rfl (by decide) rfl (.cons rfl (.cons rfl (.cons rfl (.cons rfl (.cons rfl CellsAre.nil))))) rfl ?_)
  intro v18 hv17
  refine cX (jc [v17, v18] [sN, sN] [(0, 1), (1, 1)] [(0, [v17]), (1, [v18])] qO jg rfl (.cons rfl qu (.cons rfl qu PlacesAre.nil)) rfl (.cons (cells_one (qS hv16)) (.cons (cells_one (qS hv17)) CellsAre.nil)) (cX (ql (s := 1) [ii (0), ii (2), ii (-1)] [ii (0)] [(0, [ii (0)]), (1, [ii (2)]), (2, [ii (-1)])] qd qw qG rfl (by decide) rfl (.cons rfl (.cons rfl (.cons rfl CellsAre.nil))) rfl ?_)))
  intro v19 hv18
  refine cX (ql (s := 1) [ii (-1)] [ii (0)] [(0, [ii (-1)])] qd qw qG rfl (by decide) rfl (.cons rfl CellsAre.nil) rfl ?_)
  intro v20 hv19
  refine cX (jc [v19, v20] [sN, sN] [(0, 1), (1, 1)] [(0, [v19]), (1, [v20])] qO jg rfl (.cons rfl qu (.cons rfl qu PlacesAre.nil)) rfl (.cons (cells_one (qS hv18)) (.cons (cells_one (qS hv19)) CellsAre.nil)) (cX (ql (s := 1) [ii (0), ii (-1), ii (2)] [ii (0)] [(0, [ii (0)]), (1, [ii (-1)]), (2, [ii (2)])] qd qw qG rfl (by decide) rfl (.cons rfl (.cons rfl (.cons rfl CellsAre.nil))) rfl ?_)))
  intro v21 hv20
  refine cX (ql (s := 1) [ii (-1)] [ii (0)] [(0, [ii (-1)])] qd qw qG rfl (by decide) rfl (.cons rfl CellsAre.nil) rfl ?_)
  intro v22 hv21
  refine cX (jc [v21, v22] [sN, sN] [(0, 1), (1, 1)] [(0, [v21]), (1, [v22])] qO jg rfl (.cons rfl qu (.cons rfl qu PlacesAre.nil)) rfl (.cons (cells_one (qS hv20)) (.cons (cells_one (qS hv21)) CellsAre.nil)) (cX (ql (s := 2) [v17, v18, v19, v20, v21, v22] [sN, sN] [(0, [v17, v18]), (1, [v19, v20]), (2, [v21, v22])] jb jF jg rfl (by decide) rfl (.cons rfl (.cons rfl (.cons rfl CellsAre.nil))) rfl ?_)))
  intro v23 hv22
  refine cX (qn (1) qJ rfl ju (by decide) rfl rfl (cX (jz [_, _, _, _, _, _, _] _ [x1, v23] ju rfl rfl (qM (qS hv22)) rfl rfl rfl (qb (qc (qa (cX (qq [x1, v23] qX qL rfl rfl (Rd.ownN [_, _, _, _, _, _, _] rfl rfl) (cX (qR [_, _, _, _, _, _, _, _, _, _, _, _, _] _ [x1, v23] qL rfl rfl rfl (qz (qM (qE hr1)) (qz (qM (qS hv22)) qU)) rfl rfl rfl (qb ?_)))))))))))
  show X _ _ _ _ _ _ (slH 72 2 v23 3 [v17, v18, v19, v20, v21, v22] :: slH 2 1 v22 1 [ii (-1)] :: slH 2 1 v21 3 [ii (0), ii (-1), ii (2)] :: slH 2 1 v20 1 [ii (-1)] :: slH 2 1 v19 3 [ii (0), ii (2), ii (-1)] :: slH 2 1 v18 5 [ii (0), ii (-1), ii (0), ii (-2), ii (-3)] :: intsH 2 v17 ([0, 0, -1, -2, -3] : List Int) :: cellsH b2 [x1, v23] 32 :: slH 72 2 v5 2 [v1, v2, v3, v4] :: slH 2 1 v4 4 [ii (1), ii (0), ii (-1), ii (-2)] :: slH 2 1 v3 4 [ii (0), ii (1), ii (-1), ii (-2)] :: slH 2 1 v2 1 [ii (-1)] :: slH 2 1 v1 3 [ii (0), ii (2), ii (-1)] :: cellsH b1 [x1, v23] 32 :: curH .u64 88 cb bsv bs.length :: L)
  refine qH [_, _, _, _, _, _] _ _ rfl (fun F17 le17 hz15 => ?_)
  replace hr1 := hr1.mono le17
  have hf15 : IntsF F17 v17 ([0, 0, -1, -2, -3]) := intsH.fz (xs := [0, 0, -1, -2, -3]) hz15.fz
  show X _ _ _ _ _ _ (slH 72 2 v23 3 [v17, v18, v19, v20, v21, v22] :: slH 2 1 v22 1 [ii (-1)] :: slH 2 1 v21 3 [ii (0), ii (-1), ii (2)] :: slH 2 1 v20 1 [ii (-1)] :: slH 2 1 v19 3 [ii (0), ii (2), ii (-1)] :: intsH 2 v18 ([0, -1, 0, -2, -3] : List Int) :: cellsH b2 [x1, v23] 32 :: slH 72 2 v5 2 [v1, v2, v3, v4] :: slH 2 1 v4 4 [ii (1), ii (0), ii (-1), ii (-2)] :: slH 2 1 v3 4 [ii (0), ii (1), ii (-1), ii (-2)] :: slH 2 1 v2 1 [ii (-1)] :: slH 2 1 v1 3 [ii (0), ii (2), ii (-1)] :: cellsH b1 [x1, v23] 32 :: curH .u64 88 cb bsv bs.length :: L)
  refine qH [_, _, _, _, _] _ _ rfl (fun F18 le18 hz16 => ?_)
  replace hr1 := hr1.mono le18
  replace hf15 := hf15.mono le18
  have hf16 : IntsF F18 v18 ([0, -1, 0, -2, -3]) := intsH.fz (xs := [0, -1, 0, -2, -3]) hz16.fz
  show X _ _ _ _ _ _ (slH 72 2 v23 3 [v17, v18, v19, v20, v21, v22] :: slH 2 1 v22 1 [ii (-1)] :: slH 2 1 v21 3 [ii (0), ii (-1), ii (2)] :: slH 2 1 v20 1 [ii (-1)] :: intsH 2 v19 ([0, 2, -1] : List Int) :: cellsH b2 [x1, v23] 32 :: slH 72 2 v5 2 [v1, v2, v3, v4] :: slH 2 1 v4 4 [ii (1), ii (0), ii (-1), ii (-2)] :: slH 2 1 v3 4 [ii (0), ii (1), ii (-1), ii (-2)] :: slH 2 1 v2 1 [ii (-1)] :: slH 2 1 v1 3 [ii (0), ii (2), ii (-1)] :: cellsH b1 [x1, v23] 32 :: curH .u64 88 cb bsv bs.length :: L)
  refine qH [_, _, _, _] _ _ rfl (fun F19 le19 hz17 => ?_)
  replace hr1 := hr1.mono le19
  replace hf15 := hf15.mono le19
  replace hf16 := hf16.mono le19
  have hf17 : IntsF F19 v19 ([0, 2, -1]) := intsH.fz (xs := [0, 2, -1]) hz17.fz
  show X _ _ _ _ _ _ (slH 72 2 v23 3 [v17, v18, v19, v20, v21, v22] :: slH 2 1 v22 1 [ii (-1)] :: slH 2 1 v21 3 [ii (0), ii (-1), ii (2)] :: intsH 2 v20 ([-1] : List Int) :: cellsH b2 [x1, v23] 32 :: slH 72 2 v5 2 [v1, v2, v3, v4] :: slH 2 1 v4 4 [ii (1), ii (0), ii (-1), ii (-2)] :: slH 2 1 v3 4 [ii (0), ii (1), ii (-1), ii (-2)] :: slH 2 1 v2 1 [ii (-1)] :: slH 2 1 v1 3 [ii (0), ii (2), ii (-1)] :: cellsH b1 [x1, v23] 32 :: curH .u64 88 cb bsv bs.length :: L)
  refine qH [_, _, _] _ _ rfl (fun F20 le20 hz18 => ?_)
  replace hr1 := hr1.mono le20
  replace hf15 := hf15.mono le20
  replace hf16 := hf16.mono le20
  replace hf17 := hf17.mono le20
  have hf18 : IntsF F20 v20 ([-1]) := intsH.fz (xs := [-1]) hz18.fz
  show X _ _ _ _ _ _ (slH 72 2 v23 3 [v17, v18, v19, v20, v21, v22] :: slH 2 1 v22 1 [ii (-1)] :: intsH 2 v21 ([0, -1, 2] : List Int) :: cellsH b2 [x1, v23] 32 :: slH 72 2 v5 2 [v1, v2, v3, v4] :: slH 2 1 v4 4 [ii (1), ii (0), ii (-1), ii (-2)] :: slH 2 1 v3 4 [ii (0), ii (1), ii (-1), ii (-2)] :: slH 2 1 v2 1 [ii (-1)] :: slH 2 1 v1 3 [ii (0), ii (2), ii (-1)] :: cellsH b1 [x1, v23] 32 :: curH .u64 88 cb bsv bs.length :: L)
  refine qH [_, _] _ _ rfl (fun F21 le21 hz19 => ?_)
  replace hr1 := hr1.mono le21
  replace hf15 := hf15.mono le21
  replace hf16 := hf16.mono le21
  replace hf17 := hf17.mono le21
  replace hf18 := hf18.mono le21
  have hf19 : IntsF F21 v21 ([0, -1, 2]) := intsH.fz (xs := [0, -1, 2]) hz19.fz
  show X _ _ _ _ _ _ (slH 72 2 v23 3 [v17, v18, v19, v20, v21, v22] :: intsH 2 v22 ([-1] : List Int) :: cellsH b2 [x1, v23] 32 :: slH 72 2 v5 2 [v1, v2, v3, v4] :: slH 2 1 v4 4 [ii (1), ii (0), ii (-1), ii (-2)] :: slH 2 1 v3 4 [ii (0), ii (1), ii (-1), ii (-2)] :: slH 2 1 v2 1 [ii (-1)] :: slH 2 1 v1 3 [ii (0), ii (2), ii (-1)] :: cellsH b1 [x1, v23] 32 :: curH .u64 88 cb bsv bs.length :: L)
  refine qH [_] _ _ rfl (fun F22 le22 hz20 => ?_)
  replace hr1 := hr1.mono le22
  replace hf15 := hf15.mono le22
  replace hf16 := hf16.mono le22
  replace hf17 := hf17.mono le22
  replace hf18 := hf18.mono le22
  replace hf19 := hf19.mono le22
  have hf20 : IntsF F22 v22 ([-1]) := intsH.fz (xs := [-1]) hz20.fz
  have hc4 : PairsC F22 [v17, v18, v19, v20, v21, v22] ([([0, 0, -1, -2, -3], [0, -1, 0, -2, -3]), ([0, 2, -1], [-1]), ([0, -1, 2], [-1])] : List (List Int × List Int)) := (PairsC.snoc (PairsC.snoc (PairsC.snoc (CO.nil : PairsC F22 [] []) hf15 hf16) hf17 hf18) hf19 hf20)
  refine qH [] _ _ rfl (fun F23 le23 hz21 => ?_)
  replace hr1 := hr1.mono le23
  replace hc4 := hc4.mono le23
  have hf21 : PairsF F23 v23 (([([0, 0, -1, -2, -3], [0, -1, 0, -2, -3]), ([0, 2, -1], [-1]), ([0, -1, 2], [-1])] : List (List Int × List Int))) := CO.fz hc4 (by first | rfl | omega | (rw [List.length_set]; omega) | (simp; done)) hz21.fz
  refine qr (qo (L' := curH .u64 88 cb bsv bs.length :: L) [.agg #[x1, v23]] (.agg #[x1, v23]) (.cell rfl (jC [x1, v23] qX qL rfl (Rd.ownN [_, _, _, _, _, _] rfl rfl)) .nil) rfl (qk (qk (qk (qk (qk (qk (qk le1 le17) le18) le19) le20) le21) le22) le23) rF (sD (sD (sD (sD (sD (sD (sD (sC sR)))))))) ?_)
  exact ⟨⟨_, _, _, rfl, hr1, hf21, by decide⟩, rfl⟩
 refine qx (qc (qa (cX (qq [x1, v5] qX qL rfl rfl (Rd.ownN [] rfl rfl) (cX (qR [_, _, _, _, _, _] _ [x1, v5] qL rfl rfl rfl (qz (qM (qE hr1)) (qz (qM (qS hv5)) qU)) rfl rfl rfl (qb ?_)))))))
 show X _ _ _ _ _ _ (cellsH b2 [x1, v5] 32 :: slH 72 2 v5 2 [v1, v2, v3, v4] :: slH 2 1 v4 4 [ii (1), ii (0), ii (-1), ii (-2)] :: slH 2 1 v3 4 [ii (0), ii (1), ii (-1), ii (-2)] :: slH 2 1 v2 1 [ii (-1)] :: intsH 2 v1 ([0, 2, -1] : List Int) :: cellsH b1 [x1, v5] 32 :: curH .u64 88 cb bsv bs.length :: L)
 refine qH [_, _, _, _, _] _ _ rfl (fun F24 le24 hz22 => ?_)
 replace hr1 := hr1.mono le24
 have hf22 : IntsF F24 v1 ([0, 2, -1]) := intsH.fz (xs := [0, 2, -1]) hz22.fz
 show X _ _ _ _ _ _ (cellsH b2 [x1, v5] 32 :: slH 72 2 v5 2 [v1, v2, v3, v4] :: slH 2 1 v4 4 [ii (1), ii (0), ii (-1), ii (-2)] :: slH 2 1 v3 4 [ii (0), ii (1), ii (-1), ii (-2)] :: intsH 2 v2 ([-1] : List Int) :: cellsH b1 [x1, v5] 32 :: curH .u64 88 cb bsv bs.length :: L)
 refine qH [_, _, _, _] _ _ rfl (fun F25 le25 hz23 => ?_)
 replace hr1 := hr1.mono le25
 replace hf22 := hf22.mono le25
 have hf23 : IntsF F25 v2 ([-1]) := intsH.fz (xs := [-1]) hz23.fz
 show X _ _ _ _ _ _ (cellsH b2 [x1, v5] 32 :: slH 72 2 v5 2 [v1, v2, v3, v4] :: slH 2 1 v4 4 [ii (1), ii (0), ii (-1), ii (-2)] :: intsH 2 v3 ([0, 1, -1, -2] : List Int) :: cellsH b1 [x1, v5] 32 :: curH .u64 88 cb bsv bs.length :: L)
 refine qH [_, _, _] _ _ rfl (fun F26 le26 hz24 => ?_)
 replace hr1 := hr1.mono le26
 replace hf22 := hf22.mono le26
 replace hf23 := hf23.mono le26
 have hf24 : IntsF F26 v3 ([0, 1, -1, -2]) := intsH.fz (xs := [0, 1, -1, -2]) hz24.fz
 show X _ _ _ _ _ _ (cellsH b2 [x1, v5] 32 :: slH 72 2 v5 2 [v1, v2, v3, v4] :: intsH 2 v4 ([1, 0, -1, -2] : List Int) :: cellsH b1 [x1, v5] 32 :: curH .u64 88 cb bsv bs.length :: L)
 refine qH [_, _] _ _ rfl (fun F27 le27 hz25 => ?_)
 replace hr1 := hr1.mono le27
 replace hf22 := hf22.mono le27
 replace hf23 := hf23.mono le27
 replace hf24 := hf24.mono le27
 have hf25 : IntsF F27 v4 ([1, 0, -1, -2]) := intsH.fz (xs := [1, 0, -1, -2]) hz25.fz
 have hc5 : PairsC F27 [v1, v2, v3, v4] ([([0, 2, -1], [-1]), ([0, 1, -1, -2], [1, 0, -1, -2])] : List (List Int × List Int)) := (PairsC.snoc (PairsC.snoc (CO.nil : PairsC F27 [] []) hf22 hf23) hf24 hf25)
 refine qH [_] _ _ rfl (fun F28 le28 hz26 => ?_)
 replace hr1 := hr1.mono le28
 replace hc5 := hc5.mono le28
 have hf26 : PairsF F28 v5 (([([0, 2, -1], [-1]), ([0, 1, -1, -2], [1, 0, -1, -2])] : List (List Int × List Int))) := CO.fz hc5 (by first | rfl | omega | (rw [List.length_set]; omega) | (simp; done)) hz26.fz
 refine qr (qo (L' := curH .u64 88 cb bsv bs.length :: L) [.agg #[x1, v5]] (.agg #[x1, v5]) (.cell rfl (jC [x1, v5] qX qL rfl (Rd.ownN [_] rfl rfl)) .nil) rfl (qk (qk (qk (qk (qk le1 le24) le25) le26) le27) le28) rF (sD (sD (sC sR))) ?_)
 exact ⟨⟨_, _, _, rfl, hr1, hf26, by decide⟩, rfl⟩

/- spec.l7Steps -/
theorem l7Steps_spec {F : FH} {L : List HP} {arv : Value} {ar : List Int} (har : IntsF F arv ar) {rsv : Value} {rs : List (List Int × List Int)} (hrs : PairsF F rsv rs) {tv : Value} {t : List Int} (ht : IntsF F tv t) (hsys : sysOk ar rs = true) (ho : termOk ar t = true) :
    Does prog 62 [.agg #[arv, rsv], tv] F (L) (fun v F' L' => ∃ (a : Value), (a : Value) = v ∧ (StepsF F' a (stepsL ar rs t)) ∧ L = L') := by
 refine qD func62 rfl rfl rfl ?_
 have hnn := jv ht (by have := termOk_len ho; omega)
 have htl := termOk_len ho
 have hrl := (sysOk_iff.1 hsys).2.1
 have hsig := (sysOk_iff.1 hsys).1
 have hsl := sigOk_spec hsig
 refine qc (qa (cX (qW [arv, rsv] rfl rfl ?_)))
 intro b1
 refine qg (sN) rfl (qb (qc (qa (cX (ql (s := 3) [] [ii (0), ii (0), sN] [] jp sizeOf40 zeroValue40 rfl (by decide) rfl CellsAre.nil rfl ?_)))))
 intro v1 hv1
 refine qg (v1) rfl (qb (qc (qc (qa (qg (ii (0)) rfl (qb (qI (jm (α := Nat × Value × List StepT × List Value × Nat × FH) (fun xQ => [(1, tv), (2, ptr b1 0), (5, xQ.2.1), (6, ii (((xQ.1 : Nat) : Int)))]) (fun xQ => slH 40 3 xQ.2.1 xQ.2.2.2.2.1 xQ.2.2.2.1 :: cellsH b1 [arv, rsv] 32 :: L) (fun xQ F' => xQ.2.2.2.2.2 = F' ∧ F ≤ xQ.2.2.2.2.2 ∧ (xQ.1 ≤ t.length) ∧ (IsSl xQ.2.1) ∧ (StepsC xQ.2.2.2.2.2 xQ.2.2.2.1 xQ.2.2.1) ∧ (xQ.2.2.2.2.1 = xQ.2.2.1.length) ∧ (xQ.2.2.1 = stepsTo ar rs t xQ.1)) (fun xQ => t.length - xQ.1) (0, v1, [], [], 0, F) ⟨rfl, rfl, rfl, rfl, ⟨⟩⟩ (sC (sC sR)) ⟨rfl, FLe.refl _, (by (try dsimp only) <;> omega), ((qS hv1)), (CO.nil), (rfl), (rfl)⟩ ?_))))))))
 rintro ⟨k, sv, ss, cs, m, G1⟩ rE _ _ ⟨rfl, leG, hk, hsv, hC, hm, hss⟩
 show X _ _ _ _ (envs [(1, tv), (2, ptr b1 0), (5, sv), (6, ii ((k : Int)))] rE) _ (slH 40 3 sv m cs :: cellsH b1 [arv, rsv] 32 :: L)
 replace leG : F ≤ G1 := leG
 dsimp only at hk hsv hC hm hss
 have hsl1 := stepsTo_len (ar := ar) (t := t) (rs := rs) hrl k
 have hss0 := hss
 have leG1 := leG
 replace har := har.mono leG1
 replace hrs := hrs.mono leG1
 replace ht := ht.mono leG1
 refine qc (qc (qa (qf (ii ((k : Int))) rfl (qf (tv) rfl (cX (qC qd rfl ht.slv (cX (qZ rfl rfl (qb ?_)))))))))
 refine qA (p := (k : Int) < (t.length : Int)) rfl (fun h1 => ?_) (fun h1 => ?_)
 ·refine qx (qc (qI (qc (qa (qg (ii (0)) rfl (qb (qI (jm (α := Nat × Value × List StepT × List Value × Nat × FH) (fun xQ => [(1, tv), (2, ptr b1 0), (5, xQ.2.1), (6, ii ((k : Int))), (7, ii (((xQ.1 : Nat) : Int)))]) (fun xQ => slH 40 3 xQ.2.1 xQ.2.2.2.2.1 xQ.2.2.2.1 :: cellsH b1 [arv, rsv] 32 :: L) (fun xQ F' => xQ.2.2.2.2.2 = F' ∧ G1 ≤ xQ.2.2.2.2.2 ∧ (xQ.1 ≤ rs.length) ∧ (IsSl xQ.2.1) ∧ (StepsC xQ.2.2.2.2.2 xQ.2.2.2.1 xQ.2.2.1) ∧ (xQ.2.2.2.2.1 = xQ.2.2.1.length) ∧ (xQ.2.2.1 = stepsTo ar rs t k ++ stepsRow ar rs t k xQ.1)) (fun xQ => rs.length - xQ.1) (0, sv, ss, cs, m, G1) ⟨rfl, rfl, rfl, rfl, rfl, ⟨⟩⟩ (sC (sC sR)) ⟨rfl, FLe.refl _, (by (try dsimp only) <;> omega), (hsv), (hC), (hm), (by (try dsimp only); rw [hss0]; simp [stepsRow])⟩ ?_))))))))
  rintro ⟨r, sv, ss, cs, m, G2⟩ rE _ _ ⟨rfl, leG, hr, hsvi, hCi, hmi, hssi⟩
  show X _ _ _ _ (envs [(1, tv), (2, ptr b1 0), (5, sv), (6, ii ((k : Int))), (7, ii ((r : Int)))] rE) _ (slH 40 3 sv m cs :: cellsH b1 [arv, rsv] 32 :: L)
  replace leG : G1 ≤ G2 := leG
  dsimp only at hr hsvi hCi hmi hssi
  have hsl2 := stepsRow_len (ar := ar) (rs := rs) (t := t) (p := k) r
  have hssl : ss.length ≤ 1000 := by rw [hssi, List.length_append]; omega
  have leG2 := leG
  replace har := har.mono leG2
  replace hrs := hrs.mono leG2
  replace ht := ht.mono leG2
  replace hC := hC.mono leG2
  refine qc (qc (qa (qf (ii ((r : Int))) rfl (cX (qn (1) qJ rfl ju (by decide) rfl rfl (cX (qj isAgg30 rfl (Rd.own [_] rfl rfl) (cX (qC jb rfl hrs.slv (cX (qZ rfl rfl (qb ?_))))))))))))
  refine qA (p := (r : Int) < (rs.length : Int)) rfl (fun h2 => ?_) (fun h2 => ?_)
  ·refine qx (qc (qI (qc (qa (cX (qq [arv, rsv] qX qL rfl rfl (Rd.ownN [_] rfl rfl) (qf (tv) rfl (qf (ii ((k : Int))) rfl (qf (ii ((r : Int))) rfl (cX (qp (args := [.agg #[arv, rsv], tv, ii (k : Int), ii (r : Int)]) call113 rfl (l7Step_spec (p := k) (r := r) har hrs ht (hsys := (by first | assumption | rfl | omega | simp)) (ho := (by first | assumption | rfl | omega | simp)) (hp := (by first | assumption | rfl | omega | simp)) (hr := (by first | assumption | rfl | omega | simp))) ?_)))))))))))
   rintro _ F1 _ le1 ⟨x1, rfl, hr1, rfl⟩
   replace hC := hC.mono le1
   replace hCi := hCi.mono le1
   refine qf (.tuple #[x1, .bool ((stepL ar rs t k r).isSome)]) rfl (cX (qT (x1) rfl rfl (cX (qT (.bool ((stepL ar rs t k r).isSome)) rfl rfl (qg (x1) rfl (qg (.bool ((stepL ar rs t k r).isSome)) rfl (qb (qc (qa (qf (.bool ((stepL ar rs t k r).isSome)) rfl (qb ?_)))))))))))
   refine jB (t := (stepL ar rs t k r).isSome) rfl (fun h3 => ?_) (fun h3 => ?_)
   ·have hone : stepOne ar rs t k r = [((k : Int), (r : Int), (stepL ar rs t k r).getD [])] := (one_some h3).1
    refine qa (qf (sv) rfl (qf (ii ((k : Int))) rfl (qf (ii ((r : Int))) rfl (qf (x1) rfl (cX (jc [ii ((k : Int)), ii ((r : Int)), x1] [ii (0), ii (0), sN] [(0, 1), (1, 1), (2, 1)] [(0, [ii ((k : Int))]), (1, [ii ((r : Int))]), (2, [x1])] runUnderlying40 zeroValue40 rfl (.cons rfl qw (.cons rfl qw (.cons rfl qu PlacesAre.nil))) rfl (.cons rfl (.cons rfl (.cons (cells_one (qE hr1)) CellsAre.nil))) (cX (ql (s := 3) [ii ((k : Int)), ii ((r : Int)), x1] [ii (0), ii (0), sN] [(0, [ii ((k : Int)), ii ((r : Int)), x1])] jp sizeOf40 zeroValue40 rfl (by decide) rfl (.cons rfl CellsAre.nil) rfl ?_))))))))
    intro v2 hv2
    refine cX (jQ (m := 1) (bytes := 40) (cs := cs) [_] _ [ii ((k : Int)), ii ((r : Int)), x1] jp typeInfo40 rfl rfl rfl rfl rfl rfl rfl (SlV.own [] rfl) rfl (Rd.lit [] rfl) (qz rfl (qz rfl (qz (qM (qE hr1)) qU))) (by (try simp only [List.length_append, List.length_nil, List.length_cons, List.length_singleton]); omega) (by (try simp only [List.length_append, List.length_nil, List.length_cons, List.length_singleton]); omega) ?_)
    intro v3 hs1 hn1 hm1
    have hc1 := StepsC.snoc hCi (i := (k : Int)) (j := (r : Int)) hr1
    refine qg (v3) rfl (qb (qa (qf (ii ((r : Int))) rfl (cX (qK (((r + 1 : Nat) : Int)) rfl rfl (by omega) (by omega) (qg (ii (((r + 1 : Nat) : Int))) rfl (qb ?_)))))))
    exact ⟨(r + 1, v3, ss ++ [((k : Int), (r : Int), (stepL ar rs t k r).getD [])], cs ++ [ii ((k : Int)), ii ((r : Int)), x1], (m) + 1, F1), _, (qk leG2 le1), rF, ⟨rfl, rfl, rfl, rfl, rfl, ⟨⟩⟩, (sD (sC (sC sR))), ⟨rfl, (qk leG2 le1), (by (try dsimp only) <;> omega), (hs1), (hc1), (by (try dsimp only); (try rw [List.length_append, List.length_singleton]); omega), (by (try dsimp only); rw [hssi, stepsRow_succ, hone]; simp)⟩, (by omega)⟩
   have hone : stepOne ar rs t k r = [] := stepOne_no h3
   refine qx (qa (qf (ii ((r : Int))) rfl (cX (qK (((r + 1 : Nat) : Int)) rfl rfl (by omega) (by omega) (qg (ii (((r + 1 : Nat) : Int))) rfl (qb ?_))))))
   exact ⟨(r + 1, sv, ss, cs, m, F1), _, (qk leG2 le1), rF, ⟨rfl, rfl, rfl, rfl, rfl, ⟨⟩⟩, (sC (sC sR)), ⟨rfl, (qk leG2 le1), (by (try dsimp only) <;> omega), (hsvi), (hCi), (by (try dsimp only); (try rw [List.length_append, List.length_singleton]); omega), (by (try dsimp only); rw [hssi, stepsRow_succ, hone]; simp)⟩, (by omega)⟩
  refine je (qv (qv (qN (qa (qf (ii ((k : Int))) rfl (cX (qK (((k + 1 : Nat) : Int)) rfl rfl (by omega) (by omega) (qg (ii (((k + 1 : Nat) : Int))) rfl (qb ?_)))))))))
  exact ⟨(k + 1, sv, ss, cs, m, G2), _, (qk leG1 leG2), rF, ⟨rfl, rfl, rfl, rfl, ⟨⟩⟩, (sC (sC sR)), ⟨rfl, (qk leG1 leG2), (by (try dsimp only) <;> omega), (hsvi), (hCi), (hmi), (by (try dsimp only); rw [hssi, stepsTo_succ, show r = rs.length from by omega])⟩, (by omega)⟩
 refine je (qv (qv (qN (qc (qa (qf (sv) rfl (qg (sv) rfl (qb (qH [] _ _ rfl (fun F2 le2 hz1 => ?_))))))))))
 replace hC := hC.mono le2
 have hf1 : StepsF F2 sv ss := CO.fz hC (by first | rfl | omega | (rw [List.length_set]; omega) | (simp; done)) hz1.fz
 refine qr (qo (L' := L) [sv] (sv) (.tmp rfl .nil) rfl (qk leG1 le2) rF (sD sR) ?_)
 have e1 : stepsL ar rs t = ss := by rw [hss, show k = t.length from by omega]; rfl
 rw [e1]
 exact ⟨_, rfl, hf1, rfl⟩

/- spec.l1TermPlace -/
theorem l1TermPlace_spec {F : FH} {L : List HP} {tsv : Value} {ts : List (List Int)} (hts : RowsF F tsv ts) {xv : Value} {x : List Int} (hx : IntsF F xv x) (hlt : ts.length ≤ 4000000) (htb : ∀ i, i < ts.length → (ts.getD i []).length ≤ 4000000) (hlx : x.length ≤ 4000000) :
    Does prog 70 [tsv, xv] F (L) (fun v F' L' => (ii (badG (fun y => !decide (y = x)) ts) : Value) = v ∧ F = F' ∧ L = L') := by
 refine qD func70 rfl rfl rfl (qc (qa (qg (ii (0)) rfl (qb (qc (qc (qa (qg (ii (0)) rfl (qb (qI (jm (α := Nat) (fun k => [(0, tsv), (1, xv), (5, ii ((k : Int)))]) (fun k => L) (fun k F' => F = F' ∧ (k ≤ ts.length) ∧ (∀ i, i < k → (fun y => !decide (y = x)) (ts.getD i []) = true)) (fun k => ts.length - k) 0 ⟨rfl, rfl, rfl, ⟨⟩⟩ sR ⟨rfl, (by (try dsimp only) <;> omega), (fun i hi => absurd hi (by omega))⟩ ?_)))))))))))
 rintro k rE _ _ ⟨rfl, hk, hall⟩
 show X _ _ _ _ (envs [(0, tsv), (1, xv), (5, ii ((k : Int)))] rE) _ (L)
 have htbk := htb k
 refine qc (qc (qa (qf (ii ((k : Int))) rfl (qf (tsv) rfl (cX (qC qy rfl hts.slv (cX (qZ rfl rfl (qb ?_)))))))))
 refine qA (p := (k : Int) < (ts.length : Int)) rfl (fun h1 => ?_) (fun h1 => ?_)
 ·refine qx (qc (qI (qc (qa (qf (tsv) rfl (qf (ii ((k : Int))) rfl (cX (qB k qy qu rfl rfl rfl hts.slv (by omega) (Nat.mul_one _) ?_))))))))
  obtain ⟨a1, ha1, hr1⟩ := hts.rd (i := k) (by omega)
  refine cX (qj qY rfl (hr1 _) (qf (xv) rfl (cX (qp (args := [a1, xv]) call126 rfl (SameTerm_spec ha1 hx (hbd := (by first | assumption | rfl | omega | (left; simp; done) | (right; simp; done)))) ?_))))
  rintro _ _ _ _ ⟨rfl, rfl, rfl⟩
  refine qb ?_
  refine qA (p := ((ts.getD k [])) = x) rfl (fun h2 => ?_) (fun h2 => ?_)
  ·refine qc (qa (qf (ii ((k : Int))) rfl (qg (ii ((k : Int))) rfl (qb (qr (qF (qi (qi (qF (qi (qo (L' := L) [ii ((k : Int))] (ii ((k : Int))) (.tmp rfl .nil) rfl rF rF sR ?_)))))))))))
   exact ⟨(vI (badG_at [] (by omega) (by simp_all) hall)), rfl, rfl⟩
  refine qx (qa (qf (ii ((k : Int))) rfl (cX (qK (((k + 1 : Nat) : Int)) rfl rfl (by omega) (by omega) (qg (ii (((k + 1 : Nat) : Int))) rfl (qb ?_))))))
  exact ⟨k + 1, _, FLe.refl _, rF, ⟨rfl, rfl, rfl, ⟨⟩⟩, sR, ⟨rfl, (by (try dsimp only) <;> omega), (fun i hi => (Nat.lt_or_ge i k).elim (fun h => hall i h) (fun h => by obtain rfl : i = k := (by omega); simp_all))⟩, (by omega)⟩
 refine je (qv (qv (qN (qc (qa (qg (ii (-1)) rfl (qb (qr (qo (L' := L) [ii (-1)] (ii (-1)) (.tmp rfl .nil) rfl rF rF sR ?_)))))))))
 exact ⟨(vI (badG_none [] (fun i hi => hall i (by omega)))), rfl, rfl⟩

/- spec.StepsFrom -/
theorem sStepsFromW_spec {F : FH} {L : List HP} {arv : Value} {ar : List Int} (har : IntsF F arv ar) {rsv : Value} {rs : List (List Int × List Int)} (hrs : PairsF F rsv rs) {tv : Value} {t : List Int} (ht : IntsF F tv t) (hla : ar.length ≤ 4000000) (hlr : rs.length ≤ 4000000) (hrb : ∀ i, i < rs.length → (rs.getD i ([], [])).1.length ≤ 4000000 ∧ (rs.getD i ([], [])).2.length ≤ 4000000) (hlt : t.length ≤ 4000000) :
    Does prog 16 [.agg #[arv, rsv], tv] F (L) (fun v F' L' => ∃ (a : Value), (a : Value) = v ∧ (StepsF F' a (stepsS ar rs t)) ∧ L = L') := by
 refine qD func16 rfl rfl rfl (qc (qa (cX (qW [arv, rsv] rfl rfl ?_))))
 intro b1
 refine qg (sN) rfl (qb (qc (qc (qa (cX (qq [arv, rsv] qX qL rfl rfl (Rd.ownN [] rfl rfl) (qf (tv) rfl (cX (qp (args := [.agg #[arv, rsv], tv]) call61 rfl (l7Right_spec har hrs ht (hla := (by first | assumption | rfl | omega | simp)) (hlr := (by first | assumption | rfl | omega | simp)) (hrb := (by first | assumption | rfl | omega | simp)) (hlt := (by first | assumption | rfl | omega | simp))) ?_)))))))))
 rintro _ _ _ _ ⟨rfl, rfl, rfl⟩
 refine cX (jt rfl (qb ?_))
 refine jB (t := !(rightB ar rs t)) rfl (fun h1 => ?_) (fun h1 => ?_)
 ·refine qc (qa (cX (ql (s := 3) [] [ii (0), ii (0), sN] [] jp sizeOf40 zeroValue40 rfl (by decide) rfl CellsAre.nil rfl ?_)))
  intro v1 hv1
  refine qg (v1) rfl (qb ?_)
  have hc1 : StepsC F [] ([] : List StepT) := (CO.nil : StepsC F [] [])
  refine qH [] _ _ rfl (fun F1 le1 hz1 => ?_)
  replace har := har.mono le1
  replace hrs := hrs.mono le1
  replace ht := ht.mono le1
  replace hc1 := hc1.mono le1
  have hf1 : StepsF F1 v1 (([] : List StepT)) := CO.fz hc1 (by first | rfl | omega | (rw [List.length_set]; omega) | (simp; done)) hz1.fz
  refine qr (qi (qo (L' := L) [v1] (v1) (.tmp rfl .nil) rfl le1 rF (sD sR) ?_))
  have hri : rightB ar rs t = false := by simp_all
  rw [stepsS_no hri]
  exact ⟨_, rfl, hf1, rfl⟩
 have hri : rightB ar rs t = true := by simpa using h1
 have hsys := (right_iff.1 hri).1
 have ho := (right_iff.1 hri).2
 refine qx (qc (qa (cX (qq [arv, rsv] qX qL rfl rfl (Rd.ownN [] rfl rfl) (qf (tv) rfl (cX (qp (args := [.agg #[arv, rsv], tv]) call62 rfl (l7Steps_spec har hrs ht (hsys := (by first | assumption | rfl | omega | simp)) (ho := (by first | assumption | rfl | omega | simp))) ?_)))))))
 rintro _ F2 _ le2 ⟨x1, rfl, hr1, rfl⟩
 refine qg (x1) rfl (qb (qr (qo (L' := L) [x1] (x1) (.tmp rfl .nil) rfl le2 rF (sD sR) ?_)))
 rw [stepsS_yes hri]
 exact ⟨_, rfl, hr1, rfl⟩

/- laws.w6Term -/
theorem w6TermW_spec_step {dp : Nat} (ih : ∀ m : Nat, m < dp → ∀ {F : FH} {L : List HP} {cb : Nat} {bsv : Value} {bs : List Int} (hbs : BytesF F bsv bs) (hbl : bs.length ≤ 4000000) {vs : Int} (hv : 0 ≤ vs ∧ vs ≤ 24) (hd : m ≤ 4), Does prog 15 [ptr cb 0, ii ((m : Int)), ii (vs)] F (curH .u64 88 cb bsv bs.length :: L) (fun v F' L' => (∃ (a : Value), ∃ (t : List Int), (a : Value) = v ∧ (IntsF F' a t) ∧ (goodT [2, 1, 0] t) ∧ (t.length ≤ szB m) ∧ (1 ≤ t.length) ∧ (WdT m t)) ∧ curH .u64 88 cb bsv bs.length :: L = L')) {F : FH} {L : List HP} {cb : Nat} {bsv : Value} {bs : List Int} (hbs : BytesF F bsv bs) (hbl : bs.length ≤ 4000000) {vs : Int} (hv : 0 ≤ vs ∧ vs ≤ 24) (hd : dp ≤ 4) :
    Does prog 15 [ptr cb 0, ii (((dp : Nat) : Int)), ii (vs)] F (curH .u64 88 cb bsv bs.length :: L) (fun v F' L' => (∃ (a : Value), ∃ (t : List Int), (a : Value) = v ∧ (IntsF F' a t) ∧ (goodT [2, 1, 0] t) ∧ (t.length ≤ szB dp) ∧ (1 ≤ t.length) ∧ (WdT dp t)) ∧ curH .u64 88 cb bsv bs.length :: L = L') := by
 refine qD func15 rfl rfl rfl ?_
 have hz9 := szB_le (d := dp - 1) (e := 3) (by omega)
 have hz8 : szB 3 = 15 := rfl
 refine qc (qa (qg (sN) rfl (qb (qc (qc (qa (qf (ii (((dp : Nat) : Int))) rfl (cX (XOp.leq rfl rfl (qf (.bool (decide ((((dp : Nat) : Int) : Int) ≤ 1))) rfl ?_))))))))))
 by_cases h1 : (((dp : Nat) : Int) : Int) ≤ 1
 ·refine qs (t := 9) rfl (vT h1) (qs (t := 9) rfl (vT h1) (qs (t := 9) rfl (vT h1) (cX (ja (.bool (true)) (vT h1) rfl (qb (jN rfl (qc (qc (qa (qf (ii (vs)) rfl (cX (jA rfl rfl (qf (.bool (decide ((vs : Int) > 0))) rfl ?_)))))))))))))
  by_cases h2 : (vs : Int) > 0
  ·refine qt (t := 16) rfl (vT h2) (qm (ptr cb 0) rfl (qt (t := 16) rfl (vT h2) (qp (args := [ptr cb 0, ii (2)]) call14 rfl (jI [] (below_spec (n := 2) hbs (by omega) (hn := (by first | assumption | rfl | omega | simp)))) ?_)))
   rintro _ _ _ _ ⟨⟨rfl, x1, rfl, hr1⟩, rfl⟩
   show XL _ _ _ _ _ _ _ (curH .u64 88 cb bsv bs.length :: L)
   refine qt (t := 16) rfl (vT h2) (jq rfl rfl (cX (ja (.bool (decide ((x1 : Int) = 0))) (vT h2) rfl (qb ?_))))
   refine qA (p := (x1 : Int) = 0) rfl (fun h3 => ?_) (fun h3 => ?_)
   ·refine qc (qa (qf (ptr cb 0) rfl (qf (ii (vs)) rfl (cX (qp (args := [ptr cb 0, ii (vs)]) call14 rfl (jI [] (below_spec (n := vs) hbs (by omega) (hn := (by first | assumption | rfl | omega | simp)))) ?_)))))
    rintro _ _ _ _ ⟨⟨rfl, x2, rfl, hr2⟩, rfl⟩
    show XL _ _ _ _ _ _ _ (curH .u64 88 cb bsv bs.length :: L)
    refine cX (jf ((-1) - x2) rfl rfl (by omega) (by omega) (cX (ql (s := 1) [ii ((-1) - x2)] [ii (0)] [(0, [ii ((-1) - x2)])] qd qw qG rfl (by decide) rfl (.cons rfl CellsAre.nil) rfl ?_)))
    intro v1 hv1
    refine qg (v1) rfl (qb ?_)
    show X _ _ _ _ _ _ (intsH 2 v1 ([(-1) - x2] : List Int) :: curH .u64 88 cb bsv bs.length :: L)
    refine qH [] _ _ rfl (fun F3 le3 hz1 => ?_)
    replace hbs := hbs.mono le3
    have hf1 : IntsF F3 v1 ([(-1) - x2]) := intsH.fz (xs := [(-1) - x2]) hz1.fz
    refine qr (qi (qi (qo (L' := curH .u64 88 cb bsv bs.length :: L) [v1] (v1) (.tmp rfl .nil) rfl le3 rF (sC sR) ?_)))
    exact ⟨⟨_, _, rfl, hf1, goodT.var (by omega) (by omega), szB_pos dp, Nat.le_refl _, WdT.leaf (by omega)⟩, rfl⟩
   refine qx (qc (qa (cX (ql (s := 1) [ii (2)] [ii (0)] [(0, [ii (2)])] qd qw qG rfl (by decide) rfl (.cons rfl CellsAre.nil) rfl ?_))))
   intro v2 hv2
   refine qg (v2) rfl (qb ?_)
   show X _ _ _ _ _ _ (intsH 2 v2 ([2] : List Int) :: curH .u64 88 cb bsv bs.length :: L)
   refine qH [] _ _ rfl (fun F4 le4 hz2 => ?_)
   replace hbs := hbs.mono le4
   have hf2 : IntsF F4 v2 ([2]) := intsH.fz (xs := [2]) hz2.fz
   refine qr (qi (qo (L' := curH .u64 88 cb bsv bs.length :: L) [v2] (v2) (.tmp rfl .nil) rfl le4 rF (sC sR) ?_))
   exact ⟨⟨_, _, rfl, hf2, goodT.one (by decide) (by decide) (by decide), szB_pos dp, Nat.le_refl _, WdT.leaf (by omega)⟩, rfl⟩
  refine qs (t := 16) rfl (vF h2) (qs (t := 16) rfl (vF h2) (qs (t := 16) rfl (vF h2) (cX (qV (.bool (false)) (vF h2) rfl (qb (X.condF rfl (qx (qc (qa (cX (ql (s := 1) [ii (2)] [ii (0)] [(0, [ii (2)])] qd qw qG rfl (by decide) rfl (.cons rfl CellsAre.nil) rfl ?_)))))))))))
  intro v3 hv3
  refine qg (v3) rfl (qb ?_)
  show X _ _ _ _ _ _ (intsH 2 v3 ([2] : List Int) :: curH .u64 88 cb bsv bs.length :: L)
  refine qH [] _ _ rfl (fun F5 le5 hz3 => ?_)
  replace hbs := hbs.mono le5
  have hf3 : IntsF F5 v3 ([2]) := intsH.fz (xs := [2]) hz3.fz
  refine qr (qi (qo (L' := curH .u64 88 cb bsv bs.length :: L) [v3] (v3) (.tmp rfl .nil) rfl le5 rF (sC sR) ?_))
  exact ⟨⟨_, _, rfl, hf3, goodT.one (by decide) (by decide) (by decide), szB_pos dp, Nat.le_refl _, WdT.leaf (by omega)⟩, rfl⟩
 refine qt (t := 9) rfl (vF h1) (qm (ptr cb 0) rfl (qt (t := 9) rfl (vF h1) (qp (args := [ptr cb 0, ii (4)]) call14 rfl (jI [] (below_spec (n := 4) hbs (by omega) (hn := (by first | assumption | rfl | omega | simp)))) ?_)))
 rintro _ _ _ _ ⟨⟨rfl, x3, rfl, hr3⟩, rfl⟩
 show XL _ _ _ _ _ _ _ (curH .u64 88 cb bsv bs.length :: L)
 refine qt (t := 9) rfl (vF h1) (jq rfl rfl (cX (qV (.bool (decide ((x3 : Int) = 0))) (vF h1) rfl (qb ?_))))
 refine qA (p := (x3 : Int) = 0) rfl (fun h4 => ?_) (fun h4 => ?_)
 ·refine qc (qc (qa (qf (ii (vs)) rfl (cX (jA rfl rfl (qf (.bool (decide ((vs : Int) > 0))) rfl ?_))))))
  by_cases h5 : (vs : Int) > 0
  ·refine qt (t := 16) rfl (vT h5) (qm (ptr cb 0) rfl (qt (t := 16) rfl (vT h5) (qp (args := [ptr cb 0, ii (2)]) call14 rfl (jI [] (below_spec (n := 2) hbs (by omega) (hn := (by first | assumption | rfl | omega | simp)))) ?_)))
   rintro _ _ _ _ ⟨⟨rfl, x4, rfl, hr4⟩, rfl⟩
   show XL _ _ _ _ _ _ _ (curH .u64 88 cb bsv bs.length :: L)
   refine qt (t := 16) rfl (vT h5) (jq rfl rfl (cX (ja (.bool (decide ((x4 : Int) = 0))) (vT h5) rfl (qb ?_))))
   refine qA (p := (x4 : Int) = 0) rfl (fun h6 => ?_) (fun h6 => ?_)
   ·refine qc (qa (qf (ptr cb 0) rfl (qf (ii (vs)) rfl (cX (qp (args := [ptr cb 0, ii (vs)]) call14 rfl (jI [] (below_spec (n := vs) hbs (by omega) (hn := (by first | assumption | rfl | omega | simp)))) ?_)))))
    rintro _ _ _ _ ⟨⟨rfl, x5, rfl, hr5⟩, rfl⟩
    show XL _ _ _ _ _ _ _ (curH .u64 88 cb bsv bs.length :: L)
    refine cX (jf ((-1) - x5) rfl rfl (by omega) (by omega) (cX (ql (s := 1) [ii ((-1) - x5)] [ii (0)] [(0, [ii ((-1) - x5)])] qd qw qG rfl (by decide) rfl (.cons rfl CellsAre.nil) rfl ?_)))
    intro v4 hv4
    refine qg (v4) rfl (qb ?_)
    show X _ _ _ _ _ _ (intsH 2 v4 ([(-1) - x5] : List Int) :: curH .u64 88 cb bsv bs.length :: L)
    refine qH [] _ _ rfl (fun F9 le9 hz4 => ?_)
    replace hbs := hbs.mono le9
    have hf4 : IntsF F9 v4 ([(-1) - x5]) := intsH.fz (xs := [(-1) - x5]) hz4.fz
    refine qr (qi (qi (qo (L' := curH .u64 88 cb bsv bs.length :: L) [v4] (v4) (.tmp rfl .nil) rfl le9 rF (sC sR) ?_)))
    exact ⟨⟨_, _, rfl, hf4, goodT.var (by omega) (by omega), szB_pos dp, Nat.le_refl _, WdT.leaf (by omega)⟩, rfl⟩
   refine qx (qc (qa (cX (ql (s := 1) [ii (2)] [ii (0)] [(0, [ii (2)])] qd qw qG rfl (by decide) rfl (.cons rfl CellsAre.nil) rfl ?_))))
   intro v5 hv5
   refine qg (v5) rfl (qb ?_)
   show X _ _ _ _ _ _ (intsH 2 v5 ([2] : List Int) :: curH .u64 88 cb bsv bs.length :: L)
   refine qH [] _ _ rfl (fun F10 le10 hz5 => ?_)
   replace hbs := hbs.mono le10
   have hf5 : IntsF F10 v5 ([2]) := intsH.fz (xs := [2]) hz5.fz
   refine qr (qi (qo (L' := curH .u64 88 cb bsv bs.length :: L) [v5] (v5) (.tmp rfl .nil) rfl le10 rF (sC sR) ?_))
   exact ⟨⟨_, _, rfl, hf5, goodT.one (by decide) (by decide) (by decide), szB_pos dp, Nat.le_refl _, WdT.leaf (by omega)⟩, rfl⟩
  refine qs (t := 16) rfl (vF h5) (qs (t := 16) rfl (vF h5) (qs (t := 16) rfl (vF h5) (cX (qV (.bool (false)) (vF h5) rfl (qb (X.condF rfl (qx (qc (qa (cX (ql (s := 1) [ii (2)] [ii (0)] [(0, [ii (2)])] qd qw qG rfl (by decide) rfl (.cons rfl CellsAre.nil) rfl ?_)))))))))))
  intro v6 hv6
  refine qg (v6) rfl (qb ?_)
  show X _ _ _ _ _ _ (intsH 2 v6 ([2] : List Int) :: curH .u64 88 cb bsv bs.length :: L)
  refine qH [] _ _ rfl (fun F11 le11 hz6 => ?_)
  replace hbs := hbs.mono le11
  have hf6 : IntsF F11 v6 ([2]) := intsH.fz (xs := [2]) hz6.fz
  refine qr (qi (qo (L' := curH .u64 88 cb bsv bs.length :: L) [v6] (v6) (.tmp rfl .nil) rfl le11 rF (sC sR) ?_))
  exact ⟨⟨_, _, rfl, hf6, goodT.one (by decide) (by decide) (by decide), szB_pos dp, Nat.le_refl _, WdT.leaf (by omega)⟩, rfl⟩
 refine qx (qc (qc (qa (qf (ptr cb 0) rfl (cX (qp (args := [ptr cb 0, ii (2)]) call14 rfl (jI [] (below_spec (n := 2) hbs (by omega) (hn := (by first | assumption | rfl | omega | simp)))) ?_))))))
 rintro _ _ _ _ ⟨⟨rfl, x6, rfl, hr6⟩, rfl⟩
 show XL _ _ _ _ _ _ _ (curH .u64 88 cb bsv bs.length :: L)
 refine cX (jq rfl rfl (qb ?_))
 refine qA (p := (x6 : Int) = 0) rfl (fun h7 => ?_) (fun h7 => ?_)
 ·refine qc (qa (cX (ql (s := 1) [ii (1)] [ii (0)] [(0, [ii (1)])] qd qw qG rfl (by decide) rfl (.cons rfl CellsAre.nil) rfl ?_)))
  intro v7 hv7
  refine qf (ptr cb 0) rfl (qf (ii (((dp : Nat) : Int))) rfl (cX (jf (((dp - 1 : Nat) : Int)) rfl rfl (by omega) (by omega) (qf (ii (vs)) rfl (cX (qp (args := [ptr cb 0, ii ((dp - 1 : Nat) : Int), ii (vs)]) call15 rfl (jI [_] (ih (dp - 1) (by omega) (vs := vs) hbs (by omega) (hv := (by first | assumption | rfl | omega | simp)) (hd := (by first | assumption | rfl | omega | simp)))) ?_))))))
  rintro _ F13 _ le13 ⟨⟨x7, x8, rfl, hr7, hr8, hr9, hr10, hr11⟩, rfl⟩
  replace hbs := hbs.mono le13
  show XL _ _ _ _ _ _ _ (slH 2 1 v7 1 [ii (1)] :: curH .u64 88 cb bsv bs.length :: L)
  show XL _ _ _ _ _ _ _ (intsH 2 v7 ([1] : List Int) :: curH .u64 88 cb bsv bs.length :: L)
  refine cX (jP [] _ qd typeInfo2 rfl rfl rfl rfl rfl rfl hr7 (by (try simp only [List.length_append, List.length_nil, List.length_cons, List.length_singleton, List.length_take, List.length_drop]); omega) ?_)
  intro v8 hs1 hn1 hm1
  refine qg (v8) rfl (qb (qH [] _ _ rfl (fun F14 le14 hz7 => ?_)))
  replace hbs := hbs.mono le14
  have hf7 : IntsF F14 v8 (([1]) ++ x8) := intsH.fz (xs := ([1]) ++ x8) hz7.fz
  refine qr (qi (qo (L' := curH .u64 88 cb bsv bs.length :: L) [v8] (v8) (.tmp rfl .nil) rfl (qk le13 le14) rF (sC sR) ?_))
  exact ⟨⟨_, _, rfl, hf7, goodT.node (n := 1) (by decide) (by decide) (by decide) (goodN.nil.snoc hr8), by have h9 := szB_next (d := dp) (by omega); simp only [List.length_append, List.length_cons, List.length_nil]; omega, by simp only [List.length_append, List.length_cons, List.length_nil]; omega, WdT.one (by omega) hr11⟩, rfl⟩
 refine qx (qc (qa (cX (ql (s := 1) [ii (0)] [ii (0)] [(0, [ii (0)])] qd qw qG rfl (by decide) rfl (.cons rfl CellsAre.nil) rfl ?_))))
 intro v9 hv8
 refine qf (ptr cb 0) rfl (qf (ii (((dp : Nat) : Int))) rfl (cX (jf (((dp - 1 : Nat) : Int)) rfl rfl (by omega) (by omega) (qf (ii (vs)) rfl (cX (qp (args := [ptr cb 0, ii ((dp - 1 : Nat) : Int), ii (vs)]) call15 rfl (jI [_] (ih (dp - 1) (by omega) (vs := vs) hbs (by omega) (hv := (by first | assumption | rfl | omega | simp)) (hd := (by first | assumption | rfl | omega | simp)))) ?_))))))
 rintro _ F15 _ le15 ⟨⟨x9, x10, rfl, hr12, hr13, hr14, hr15, hr16⟩, rfl⟩
 replace hbs := hbs.mono le15
 show XL _ _ _ _ _ _ _ (slH 2 1 v9 1 [ii (0)] :: curH .u64 88 cb bsv bs.length :: L)
 show XL _ _ _ _ _ _ _ (intsH 2 v9 ([0] : List Int) :: curH .u64 88 cb bsv bs.length :: L)
 refine cX (jP [] _ qd typeInfo2 rfl rfl rfl rfl rfl rfl hr12 (by (try simp only [List.length_append, List.length_nil, List.length_cons, List.length_singleton, List.length_take, List.length_drop]); omega) ?_)
 intro v10 hs2 hn2 hm2
 refine qf (ptr cb 0) rfl (qf (ii (((dp : Nat) : Int))) rfl (cX (jf (((dp - 1 : Nat) : Int)) rfl rfl (by omega) (by omega) (qf (ii (vs)) rfl (cX (qp (args := [ptr cb 0, ii ((dp - 1 : Nat) : Int), ii (vs)]) call15 rfl (jI [_] (ih (dp - 1) (by omega) (vs := vs) hbs (by omega) (hv := (by first | assumption | rfl | omega | simp)) (hd := (by first | assumption | rfl | omega | simp)))) ?_))))))
 rintro _ F16 _ le16 ⟨⟨x11, x12, rfl, hr17, hr18, hr19, hr20, hr21⟩, rfl⟩
 show XL _ _ _ _ _ _ _ (intsH 2 v10 (([0]) ++ x10) :: curH .u64 88 cb bsv bs.length :: L)
 refine cX (jP [] _ qd typeInfo2 rfl rfl rfl rfl rfl rfl hr17 (by (try simp only [List.length_append, List.length_nil, List.length_cons, List.length_singleton, List.length_take, List.length_drop]); omega) ?_)
 intro v11 hs3 hn3 hm3
 refine qg (v11) rfl (qb (qH [] _ _ rfl (fun F17 le17 hz8 => ?_)))
 have hf8 : IntsF F17 v11 ((([0]) ++ x10) ++ x12) := intsH.fz (xs := (([0]) ++ x10) ++ x12) hz8.fz
 refine qr (qo (L' := curH .u64 88 cb bsv bs.length :: L) [v11] (v11) (.tmp rfl .nil) rfl (qk (qk le15 le16) le17) rF (sC sR) ?_)
 exact ⟨⟨_, _, rfl, hf8, goodT.node (n := 2) (by decide) (by decide) (by decide) ((goodN.nil.snoc hr13).snoc hr18), by have h9 := szB_next (d := dp) (by omega); simp only [List.length_append, List.length_cons, List.length_nil]; omega, by simp only [List.length_append, List.length_cons, List.length_nil]; omega, WdT.two (by omega) hr16 hr21⟩, rfl⟩

theorem w6TermW_spec (dp : Nat) : ∀ {F : FH} {L : List HP} {cb : Nat} {bsv : Value} {bs : List Int} (hbs : BytesF F bsv bs) (hbl : bs.length ≤ 4000000) {vs : Int} (hv : 0 ≤ vs ∧ vs ≤ 24) (hd : dp ≤ 4), Does prog 15 [ptr cb 0, ii (((dp : Nat) : Int)), ii (vs)] F (curH .u64 88 cb bsv bs.length :: L) (fun v F' L' => (∃ (a : Value), ∃ (t : List Int), (a : Value) = v ∧ (IntsF F' a t) ∧ (goodT [2, 1, 0] t) ∧ (t.length ≤ szB dp) ∧ (1 ≤ t.length) ∧ (WdT dp t)) ∧ curH .u64 88 cb bsv bs.length :: L = L') := by
  induction dp using Nat.strongRecOn with
  | _ dp ih =>
    intros
    exact w6TermW_spec_step ih (by assumption) (by assumption) (by assumption) (by assumption)

/- laws.w6System -/
theorem w6SystemW_spec {F : FH} {L : List HP} {cb : Nat} {bsv : Value} {bs : List Int} (hbs : BytesF F bsv bs) (hbl : bs.length ≤ 4000000) :
    Does prog 13 [ptr cb 0] F (curH .u64 88 cb bsv bs.length :: L) (fun v F' L' => (∃ (a : Value), ∃ (b : Value), ∃ (rs : List (List Int × List Int)), (.agg #[a, b] : Value) = v ∧ (IntsF F' a [2, 1, 0]) ∧ (PairsF F' b rs) ∧ (sysOk [2, 1, 0] rs = true) ∧ (EndsR rs)) ∧ curH .u64 88 cb bsv bs.length :: L = L') := by
 refine qD func13 rfl rfl rfl (qc (qa (cX (jh [sN, sN] zeroValue32 rfl ?_))))
 intro b1
 refine qb (qc (qa (cX (qp (args := []) call60 rfl (w6Sig_spec ) ?_))))
 rintro _ F1 _ le1 ⟨x1, rfl, hr1, rfl⟩
 replace hbs := hbs.mono le1
 refine cX (ql (s := 1) [ii (0), ii (2), ii (-1)] [ii (0)] [(0, [ii (0)]), (1, [ii (2)]), (2, [ii (-1)])] qd qw qG rfl (by decide) rfl (.cons rfl (.cons rfl (.cons rfl CellsAre.nil))) rfl ?_)
 intro v1 hv1
 refine cX (ql (s := 1) [ii (-1)] [ii (0)] [(0, [ii (-1)])] qd qw qG rfl (by decide) rfl (.cons rfl CellsAre.nil) rfl ?_)
 intro v2 hv2
 refine cX (jc [v1, v2] [sN, sN] [(0, 1), (1, 1)] [(0, [v1]), (1, [v2])] qO jg rfl (.cons rfl qu (.cons rfl qu PlacesAre.nil)) rfl (.cons (cells_one (qS hv1)) (.cons (cells_one (qS hv2)) CellsAre.nil)) (cX (ql (s := 1) [ii (0), ii (1), ii (-1), ii (-2)] [ii (0)] [(0, [ii (0)]), (1, [ii (1)]), (2, [ii (-1)]), (3, [ii (-2)])] qd qw qG rfl (by decide) rfl (.cons rfl (.cons rfl (.cons rfl (.cons rfl CellsAre.nil)))) rfl ?_)))
 intro v3 hv3
 refine cX (ql (s := 1) [ii (1), ii (0), ii (-1), ii (-2)] [ii (0)] [(0, [ii (1)]), (1, [ii (0)]), (2, [ii (-1)]), (3, [ii (-2)])] qd qw qG rfl (by decide) rfl (.cons rfl (.cons rfl (.cons rfl (.cons rfl CellsAre.nil)))) rfl ?_)
 intro v4 hv4
 refine cX (jc [v3, v4] [sN, sN] [(0, 1), (1, 1)] [(0, [v3]), (1, [v4])] qO jg rfl (.cons rfl qu (.cons rfl qu PlacesAre.nil)) rfl (.cons (cells_one (qS hv3)) (.cons (cells_one (qS hv4)) CellsAre.nil)) (cX (ql (s := 2) [v1, v2, v3, v4] [sN, sN] [(0, [v1, v2]), (1, [v3, v4])] jb jF jg rfl (by decide) rfl (.cons rfl (.cons rfl CellsAre.nil)) rfl ?_)))
 intro v5 hv5
 refine cX (jc [x1, v5] [sN, sN] [(0, 1), (1, 1)] [(0, [x1]), (1, [v5])] qJ zeroValue32 rfl (.cons rfl qP (.cons rfl ju PlacesAre.nil)) rfl (.cons rfl (.cons (cells_one (qS hv5)) CellsAre.nil)) (cX (jh [sN, sN] zeroValue32 rfl ?_)))
 intro b2
 refine cX (qR [] _ [x1, v5] qL rfl rfl rfl (qz (qM (qE hr1)) (qz (qM (qS hv5)) qU)) rfl rfl rfl (qb (qc (qc (qa (qf (ptr cb 0) rfl (cX (qp (args := [ptr cb 0, ii (4)]) call14 rfl (jI [_, _, _, _, _, _, _] (below_spec (n := 4) hbs (by omega) (hn := (by first | assumption | rfl | omega | simp)))) ?_))))))))
 rintro _ _ _ _ ⟨⟨rfl, x2, rfl, hr2⟩, rfl⟩
 show XL _ _ _ _ _ _ _ (cellsH b2 [x1, v5] 32 :: slH 72 2 v5 2 [v1, v2, v3, v4] :: slH 2 1 v4 4 [ii (1), ii (0), ii (-1), ii (-2)] :: slH 2 1 v3 4 [ii (0), ii (1), ii (-1), ii (-2)] :: slH 2 1 v2 1 [ii (-1)] :: slH 2 1 v1 3 [ii (0), ii (2), ii (-1)] :: cellsH b1 [sN, sN] 32 :: curH .u64 88 cb bsv bs.length :: L)
 refine qb (qI (qc (qa (cX (jq rfl rfl (qg (.bool (decide ((x2 : Int) = 0))) rfl (qb ?_)))))))
 refine qA (p := (x2 : Int) = 0) rfl (fun h1 => ?_) (fun h1 => ?_)
 ·refine qa (cX (qn (1) qJ rfl ju (by decide) rfl rfl (cX (qj isAgg30 rfl (Rd.own [] rfl rfl) (cX (ql (s := 1) [ii (0), ii (-1), ii (2)] [ii (0)] [(0, [ii (0)]), (1, [ii (-1)]), (2, [ii (2)])] qd qw qG rfl (by decide) rfl (.cons rfl (.cons rfl (.cons rfl CellsAre.nil))) rfl ?_))))))
  intro v6 hv6
  refine cX (ql (s := 1) [ii (-1)] [ii (0)] [(0, [ii (-1)])] qd qw qG rfl (by decide) rfl (.cons rfl CellsAre.nil) rfl ?_)
  intro v7 hv7
  refine cX (jc [v6, v7] [sN, sN] [(0, 1), (1, 1)] [(0, [v6]), (1, [v7])] qO jg rfl (.cons rfl qu (.cons rfl qu PlacesAre.nil)) rfl (.cons (cells_one (qS hv6)) (.cons (cells_one (qS hv7)) CellsAre.nil)) (cX (ql (s := 1) [ii (0), ii (-1), ii (1), ii (-2)] [ii (0)] [(0, [ii (0)]), (1, [ii (-1)]), (2, [ii (1)]), (3, [ii (-2)])] qd qw qG rfl (by decide) rfl (.cons rfl (.cons rfl (.cons rfl (.cons rfl CellsAre.nil)))) rfl ?_)))
  intro v8 hv8
  refine cX (ql (s := 1) [ii (1), ii (0), ii (-1), ii (-2)] [ii (0)] [(0, [ii (1)]), (1, [ii (0)]), (2, [ii (-1)]), (3, [ii (-2)])] qd qw qG rfl (by decide) rfl (.cons rfl (.cons rfl (.cons rfl (.cons rfl CellsAre.nil)))) rfl ?_)
  intro v9 hv9
  refine cX (jc [v8, v9] [sN, sN] [(0, 1), (1, 1)] [(0, [v8]), (1, [v9])] qO jg rfl (.cons rfl qu (.cons rfl qu PlacesAre.nil)) rfl (.cons (cells_one (qS hv8)) (.cons (cells_one (qS hv9)) CellsAre.nil)) (cX (ql (s := 2) [v6, v7, v8, v9] [sN, sN] [(0, [v6, v7]), (1, [v8, v9])] jb jF jg rfl (by decide) rfl (.cons rfl (.cons rfl CellsAre.nil)) rfl ?_)))
  intro v10 hv10
  show XL _ _ _ _ _ _ _ (slH 72 2 v10 2 [v6, v7, v8, v9] :: slH 2 1 v9 4 [ii (1), ii (0), ii (-1), ii (-2)] :: slH 2 1 v8 4 [ii (0), ii (-1), ii (1), ii (-2)] :: slH 2 1 v7 1 [ii (-1)] :: slH 2 1 v6 3 [ii (0), ii (-1), ii (2)] :: cellsH b2 [x1, v5] 32 :: slH 72 2 v5 2 [v1, v2, v3, v4] :: slH 2 1 v4 4 [ii (1), ii (0), ii (-1), ii (-2)] :: slH 2 1 v3 4 [ii (0), ii (1), ii (-1), ii (-2)] :: slH 2 1 v2 1 [ii (-1)] :: intsH 2 v1 ([0, 2, -1] : List Int) :: cellsH b1 [sN, sN] 32 :: curH .u64 88 cb bsv bs.length :: L)
  refine jy [_, _, _, _, _, _, _, _, _, _] _ _ rfl (fun F3 le3 hz1 => ?_)
  replace hr1 := hr1.mono le3
  have hf1 : IntsF F3 v1 ([0, 2, -1]) := intsH.fz (xs := [0, 2, -1]) hz1.fz
  show XL _ _ _ _ _ _ _ (slH 72 2 v10 2 [v6, v7, v8, v9] :: slH 2 1 v9 4 [ii (1), ii (0), ii (-1), ii (-2)] :: slH 2 1 v8 4 [ii (0), ii (-1), ii (1), ii (-2)] :: slH 2 1 v7 1 [ii (-1)] :: slH 2 1 v6 3 [ii (0), ii (-1), ii (2)] :: cellsH b2 [x1, v5] 32 :: slH 72 2 v5 2 [v1, v2, v3, v4] :: slH 2 1 v4 4 [ii (1), ii (0), ii (-1), ii (-2)] :: slH 2 1 v3 4 [ii (0), ii (1), ii (-1), ii (-2)] :: intsH 2 v2 ([-1] : List Int) :: cellsH b1 [sN, sN] 32 :: curH .u64 88 cb bsv bs.length :: L)
  refine jy [_, _, _, _, _, _, _, _, _] _ _ rfl (fun F4 le4 hz2 => ?_)
  replace hr1 := hr1.mono le4
  replace hf1 := hf1.mono le4
  have hf2 : IntsF F4 v2 ([-1]) := intsH.fz (xs := [-1]) hz2.fz
  show XL _ _ _ _ _ _ _ (slH 72 2 v10 2 [v6, v7, v8, v9] :: slH 2 1 v9 4 [ii (1), ii (0), ii (-1), ii (-2)] :: slH 2 1 v8 4 [ii (0), ii (-1), ii (1), ii (-2)] :: slH 2 1 v7 1 [ii (-1)] :: slH 2 1 v6 3 [ii (0), ii (-1), ii (2)] :: cellsH b2 [x1, v5] 32 :: slH 72 2 v5 2 [v1, v2, v3, v4] :: slH 2 1 v4 4 [ii (1), ii (0), ii (-1), ii (-2)] :: intsH 2 v3 ([0, 1, -1, -2] : List Int) :: cellsH b1 [sN, sN] 32 :: curH .u64 88 cb bsv bs.length :: L)
  refine jy [_, _, _, _, _, _, _, _] _ _ rfl (fun F5 le5 hz3 => ?_)
  replace hr1 := hr1.mono le5
  replace hf1 := hf1.mono le5
  replace hf2 := hf2.mono le5
  have hf3 : IntsF F5 v3 ([0, 1, -1, -2]) := intsH.fz (xs := [0, 1, -1, -2]) hz3.fz
  show XL _ _ _ _ _ _ _ (slH 72 2 v10 2 [v6, v7, v8, v9] :: slH 2 1 v9 4 [ii (1), ii (0), ii (-1), ii (-2)] :: slH 2 1 v8 4 [ii (0), ii (-1), ii (1), ii (-2)] :: slH 2 1 v7 1 [ii (-1)] :: slH 2 1 v6 3 [ii (0), ii (-1), ii (2)] :: cellsH b2 [x1, v5] 32 :: slH 72 2 v5 2 [v1, v2, v3, v4] :: intsH 2 v4 ([1, 0, -1, -2] : List Int) :: cellsH b1 [sN, sN] 32 :: curH .u64 88 cb bsv bs.length :: L)
  refine jy [_, _, _, _, _, _, _] _ _ rfl (fun F6 le6 hz4 => ?_)
  replace hr1 := hr1.mono le6
  replace hf1 := hf1.mono le6
  replace hf2 := hf2.mono le6
  replace hf3 := hf3.mono le6
  have hf4 : IntsF F6 v4 ([1, 0, -1, -2]) := intsH.fz (xs := [1, 0, -1, -2]) hz4.fz
  have hc1 : PairsC F6 [v1, v2, v3, v4] ([([0, 2, -1], [-1]), ([0, 1, -1, -2], [1, 0, -1, -2])] : List (List Int × List Int)) := (PairsC.snoc (PairsC.snoc (CO.nil : PairsC F6 [] []) hf1 hf2) hf3 hf4)
  show XL _ _ _ _ _ _ _ (slH 72 2 v10 2 [v6, v7, v8, v9] :: slH 2 1 v9 4 [ii (1), ii (0), ii (-1), ii (-2)] :: slH 2 1 v8 4 [ii (0), ii (-1), ii (1), ii (-2)] :: slH 2 1 v7 1 [ii (-1)] :: intsH 2 v6 ([0, -1, 2] : List Int) :: cellsH b2 [x1, v5] 32 :: slH 72 2 v5 2 ([v1, v2, v3, v4]) :: cellsH b1 [sN, sN] 32 :: curH .u64 88 cb bsv bs.length :: L)
  refine jy [_, _, _, _] _ _ rfl (fun F7 le7 hz5 => ?_)
  replace hr1 := hr1.mono le7
  replace hc1 := hc1.mono le7
  have hf5 : IntsF F7 v6 ([0, -1, 2]) := intsH.fz (xs := [0, -1, 2]) hz5.fz
  show XL _ _ _ _ _ _ _ (slH 72 2 v10 2 [v6, v7, v8, v9] :: slH 2 1 v9 4 [ii (1), ii (0), ii (-1), ii (-2)] :: slH 2 1 v8 4 [ii (0), ii (-1), ii (1), ii (-2)] :: intsH 2 v7 ([-1] : List Int) :: cellsH b2 [x1, v5] 32 :: slH 72 2 v5 2 ([v1, v2, v3, v4]) :: cellsH b1 [sN, sN] 32 :: curH .u64 88 cb bsv bs.length :: L)
  refine jy [_, _, _] _ _ rfl (fun F8 le8 hz6 => ?_)
  replace hr1 := hr1.mono le8
  replace hc1 := hc1.mono le8
  replace hf5 := hf5.mono le8
  have hf6 : IntsF F8 v7 ([-1]) := intsH.fz (xs := [-1]) hz6.fz
  show XL _ _ _ _ _ _ _ (slH 72 2 v10 2 [v6, v7, v8, v9] :: slH 2 1 v9 4 [ii (1), ii (0), ii (-1), ii (-2)] :: intsH 2 v8 ([0, -1, 1, -2] : List Int) :: cellsH b2 [x1, v5] 32 :: slH 72 2 v5 2 ([v1, v2, v3, v4]) :: cellsH b1 [sN, sN] 32 :: curH .u64 88 cb bsv bs.length :: L)
  refine jy [_, _] _ _ rfl (fun F9 le9 hz7 => ?_)
  replace hr1 := hr1.mono le9
  replace hc1 := hc1.mono le9
  replace hf5 := hf5.mono le9
  replace hf6 := hf6.mono le9
  have hf7 : IntsF F9 v8 ([0, -1, 1, -2]) := intsH.fz (xs := [0, -1, 1, -2]) hz7.fz
  show XL _ _ _ _ _ _ _ (slH 72 2 v10 2 [v6, v7, v8, v9] :: intsH 2 v9 ([1, 0, -1, -2] : List Int) :: cellsH b2 [x1, v5] 32 :: slH 72 2 v5 2 ([v1, v2, v3, v4]) :: cellsH b1 [sN, sN] 32 :: curH .u64 88 cb bsv bs.length :: L)
  refine jy [_] _ _ rfl (fun F10 le10 hz8 => ?_)
  replace hr1 := hr1.mono le10
  replace hc1 := hc1.mono le10
  replace hf5 := hf5.mono le10
  replace hf6 := hf6.mono le10
  replace hf7 := hf7.mono le10
  have hf8 : IntsF F10 v9 ([1, 0, -1, -2]) := intsH.fz (xs := [1, 0, -1, -2]) hz8.fz
  refine cX (jQ (m := 2) (bytes := 48) (cs := [v1, v2, v3, v4]) [_, _] _ [v6, v7, v8, v9] jb typeInfo72 rfl rfl rfl rfl rfl rfl rfl (SlV.own [] rfl) rfl (Rd.lit [] rfl) (qz (qM (qE hf5)) (qz (qM (qE hf6)) (qz (qM (qE hf7)) (qz (qM (qE hf8)) qU)))) (by (try simp only [List.length_append, List.length_nil, List.length_cons, List.length_singleton]); omega) (by (try simp only [List.length_append, List.length_nil, List.length_cons, List.length_singleton]); omega) ?_)
  intro v11 hs1 hn1 hm1
  have hc2 : PairsC F10 ([v1, v2, v3, v4] ++ [v6, v7, v8, v9]) ((([([0, 2, -1], [-1]), ([0, 1, -1, -2], [1, 0, -1, -2])] : List (List Int × List Int))) ++ [([0, -1, 2], [-1]), ([0, -1, 1, -2], [1, 0, -1, -2])]) := (PairsC.snoc (PairsC.snoc hc1 hf5 hf6) hf7 hf8)
  refine cX (qn (1) qJ rfl ju (by decide) rfl rfl (cX (jz [_] _ [x1, v11] ju rfl rfl (qM hs1) rfl rfl rfl (qb (qc (qa (cX (qq [x1, v11] qX qL rfl rfl (Rd.ownN [_] rfl rfl) (cX (qR [_, _, _] _ [x1, v11] qL rfl rfl rfl (qz (qM (qE hr1)) (qz (qM hs1) qU)) rfl rfl rfl (qb (qH [_, _] _ _ rfl (fun F11 le11 hz9 => ?_)))))))))))))
  replace hr1 := hr1.mono le11
  replace hc2 := hc2.mono le11
  have hf9 : PairsF F11 v11 (((([([0, 2, -1], [-1]), ([0, 1, -1, -2], [1, 0, -1, -2])] : List (List Int × List Int))) ++ [([0, -1, 2], [-1]), ([0, -1, 1, -2], [1, 0, -1, -2])])) := CO.fz hc2 (by first | rfl | omega | (rw [List.length_set]; omega) | (simp; done)) hz9.fz
  refine qr (qo (L' := curH .u64 88 cb bsv bs.length :: L) [.agg #[x1, v11]] (.agg #[x1, v11]) (.cell rfl (jC [x1, v11] qX qL rfl (Rd.ownN [_, _] rfl rfl)) .nil) rfl (qk (qk (qk (qk (qk (qk (qk (qk (qk le1 le3) le4) le5) le6) le7) le8) le9) le10) le11) rF (sD (sD (sD (sC sR)))) ?_)
  exact ⟨⟨_, _, _, rfl, hr1, hf9, by decide, by first | exact ends_a | exact ends_b | exact ends_c | exact ends_d⟩, rfl⟩
 refine qc (qa (cX (jq rfl rfl (qg (.bool (decide ((x2 : Int) = 1))) rfl (qb ?_)))))
 refine qA (p := (x2 : Int) = 1) rfl (fun h2 => ?_) (fun h2 => ?_)
 ·refine qa (cX (ql (s := 1) [ii (1), ii (1), ii (-1)] [ii (0)] [(0, [ii (1)]), (1, [ii (1)]), (2, [ii (-1)])] qd qw qG rfl (by decide) rfl (.cons rfl (.cons rfl (.cons rfl CellsAre.nil))) rfl ?_))
  intro v12 hv11
  refine cX (ql (s := 1) [ii (-1)] [ii (0)] [(0, [ii (-1)])] qd qw qG rfl (by decide) rfl (.cons rfl CellsAre.nil) rfl ?_)
  intro v13 hv12
  refine cX (jc [v12, v13] [sN, sN] [(0, 1), (1, 1)] [(0, [v12]), (1, [v13])] qO jg rfl (.cons rfl qu (.cons rfl qu PlacesAre.nil)) rfl (.cons (cells_one (qS hv11)) (.cons (cells_one (qS hv12)) CellsAre.nil)) (cX (ql (s := 1) [ii (0), ii (2), ii (-1)] [ii (0)] [(0, [ii (0)]), (1, [ii (2)]), (2, [ii (-1)])] qd qw qG rfl (by decide) rfl (.cons rfl (.cons rfl (.cons rfl CellsAre.nil))) rfl ?_)))
  intro v14 hv13
  refine cX (ql (s := 1) [ii (-1)] [ii (0)] [(0, [ii (-1)])] qd qw qG rfl (by decide) rfl (.cons rfl CellsAre.nil) rfl ?_)
  intro v15 hv14
  refine cX (jc [v14, v15] [sN, sN] [(0, 1), (1, 1)] [(0, [v14]), (1, [v15])] qO jg rfl (.cons rfl qu (.cons rfl qu PlacesAre.nil)) rfl (.cons (cells_one (qS hv13)) (.cons (cells_one (qS hv14)) CellsAre.nil)) (cX (ql (s := 2) [v12, v13, v14, v15] [sN, sN] [(0, [v12, v13]), (1, [v14, v15])] jb jF jg rfl (by decide) rfl (.cons rfl (.cons rfl CellsAre.nil)) rfl ?_)))
  intro v16 hv15
  refine cX (qn (1) qJ rfl ju (by decide) rfl rfl (cX (jz [_, _, _, _, _] _ [x1, v16] ju rfl rfl (qM (qS hv15)) rfl rfl rfl (qb (qc (qa (cX (qq [x1, v16] qX qL rfl rfl (Rd.ownN [_, _, _, _, _] rfl rfl) (cX (qR [_, _, _, _, _, _, _, _, _, _, _] _ [x1, v16] qL rfl rfl rfl (qz (qM (qE hr1)) (qz (qM (qS hv15)) qU)) rfl rfl rfl (qb ?_)))))))))))
  show X _ _ _ _ _ _ (slH 72 2 v16 2 [v12, v13, v14, v15] :: slH 2 1 v15 1 [ii (-1)] :: slH 2 1 v14 3 [ii (0), ii (2), ii (-1)] :: slH 2 1 v13 1 [ii (-1)] :: intsH 2 v12 ([1, 1, -1] : List Int) :: cellsH b2 [x1, v16] 32 :: slH 72 2 v5 2 [v1, v2, v3, v4] :: slH 2 1 v4 4 [ii (1), ii (0), ii (-1), ii (-2)] :: slH 2 1 v3 4 [ii (0), ii (1), ii (-1), ii (-2)] :: slH 2 1 v2 1 [ii (-1)] :: slH 2 1 v1 3 [ii (0), ii (2), ii (-1)] :: cellsH b1 [x1, v16] 32 :: curH .u64 88 cb bsv bs.length :: L)
  refine qH [_, _, _, _] _ _ rfl (fun F12 le12 hz10 => ?_)
  replace hr1 := hr1.mono le12
  have hf10 : IntsF F12 v12 ([1, 1, -1]) := intsH.fz (xs := [1, 1, -1]) hz10.fz
  show X _ _ _ _ _ _ (slH 72 2 v16 2 [v12, v13, v14, v15] :: slH 2 1 v15 1 [ii (-1)] :: slH 2 1 v14 3 [ii (0), ii (2), ii (-1)] :: intsH 2 v13 ([-1] : List Int) :: cellsH b2 [x1, v16] 32 :: slH 72 2 v5 2 [v1, v2, v3, v4] :: slH 2 1 v4 4 [ii (1), ii (0), ii (-1), ii (-2)] :: slH 2 1 v3 4 [ii (0), ii (1), ii (-1), ii (-2)] :: slH 2 1 v2 1 [ii (-1)] :: slH 2 1 v1 3 [ii (0), ii (2), ii (-1)] :: cellsH b1 [x1, v16] 32 :: curH .u64 88 cb bsv bs.length :: L)
  refine qH [_, _, _] _ _ rfl (fun F13 le13 hz11 => ?_)
  replace hr1 := hr1.mono le13
  replace hf10 := hf10.mono le13
  have hf11 : IntsF F13 v13 ([-1]) := intsH.fz (xs := [-1]) hz11.fz
  show X _ _ _ _ _ _ (slH 72 2 v16 2 [v12, v13, v14, v15] :: slH 2 1 v15 1 [ii (-1)] :: intsH 2 v14 ([0, 2, -1] : List Int) :: cellsH b2 [x1, v16] 32 :: slH 72 2 v5 2 [v1, v2, v3, v4] :: slH 2 1 v4 4 [ii (1), ii (0), ii (-1), ii (-2)] :: slH 2 1 v3 4 [ii (0), ii (1), ii (-1), ii (-2)] :: slH 2 1 v2 1 [ii (-1)] :: slH 2 1 v1 3 [ii (0), ii (2), ii (-1)] :: cellsH b1 [x1, v16] 32 :: curH .u64 88 cb bsv bs.length :: L)
  refine qH [_, _] _ _ rfl (fun F14 le14 hz12 => ?_)
  replace hr1 := hr1.mono le14
  replace hf10 := hf10.mono le14
  replace hf11 := hf11.mono le14
  have hf12 : IntsF F14 v14 ([0, 2, -1]) := intsH.fz (xs := [0, 2, -1]) hz12.fz
  show X _ _ _ _ _ _ (slH 72 2 v16 2 [v12, v13, v14, v15] :: intsH 2 v15 ([-1] : List Int) :: cellsH b2 [x1, v16] 32 :: slH 72 2 v5 2 [v1, v2, v3, v4] :: slH 2 1 v4 4 [ii (1), ii (0), ii (-1), ii (-2)] :: slH 2 1 v3 4 [ii (0), ii (1), ii (-1), ii (-2)] :: slH 2 1 v2 1 [ii (-1)] :: slH 2 1 v1 3 [ii (0), ii (2), ii (-1)] :: cellsH b1 [x1, v16] 32 :: curH .u64 88 cb bsv bs.length :: L)
  refine qH [_] _ _ rfl (fun F15 le15 hz13 => ?_)
  replace hr1 := hr1.mono le15
  replace hf10 := hf10.mono le15
  replace hf11 := hf11.mono le15
  replace hf12 := hf12.mono le15
  have hf13 : IntsF F15 v15 ([-1]) := intsH.fz (xs := [-1]) hz13.fz
  have hc3 : PairsC F15 [v12, v13, v14, v15] ([([1, 1, -1], [-1]), ([0, 2, -1], [-1])] : List (List Int × List Int)) := (PairsC.snoc (PairsC.snoc (CO.nil : PairsC F15 [] []) hf10 hf11) hf12 hf13)
  refine qH [] _ _ rfl (fun F16 le16 hz14 => ?_)
  replace hr1 := hr1.mono le16
  replace hc3 := hc3.mono le16
  have hf14 : PairsF F16 v16 (([([1, 1, -1], [-1]), ([0, 2, -1], [-1])] : List (List Int × List Int))) := CO.fz hc3 (by first | rfl | omega | (rw [List.length_set]; omega) | (simp; done)) hz14.fz
  refine qr (qo (L' := curH .u64 88 cb bsv bs.length :: L) [.agg #[x1, v16]] (.agg #[x1, v16]) (.cell rfl (jC [x1, v16] qX qL rfl (Rd.ownN [_, _, _, _, _, _] rfl rfl)) .nil) rfl (qk (qk (qk (qk (qk le1 le12) le13) le14) le15) le16) rF (sD (sD (sD (sD (sD (sD (sD (sC sR)))))))) ?_)
  exact ⟨⟨_, _, _, rfl, hr1, hf14, by decide, by first | exact ends_a | exact ends_b | exact ends_c | exact ends_d⟩, rfl⟩
 refine qc (qa (cX (jq rfl rfl (qg (.bool (decide ((x2 : Int) = 2))) rfl (qb ?_)))))
 refine qA (p := (x2 : Int) = 2) rfl (fun h3 => ?_) (fun h3 => ?_)
 ·refine qa (cX (ql (s := 1) [ii (0), ii (0), ii (-1), ii (-2), ii (-3)] [ii (0)] [(0, [ii (0)]), (1, [ii (0)]), (2, [ii (-1)]), (3, [ii (-2)]), (4, [ii (-3)])] qd qw qG rfl (by decide) rfl (.cons rfl (.cons rfl (.cons rfl (.cons rfl (.cons rfl CellsAre.nil))))) rfl ?_))
  intro v17 hv16
  refine cX (ql (s := 1) [ii (0), ii (-1), ii (0), ii (-2), ii (-3)] [ii (0)] [(0, [ii (0)]), (1, [ii (-1)]), (2, [ii (0)]), (3, [ii (-2)]), (4, [ii (-3)])] qd qw qG rfl (by decide) rfl (.cons rfl (.cons rfl (.cons rfl (.cons rfl (.cons rfl CellsAre.nil))))) rfl ?_)
  intro v18 hv17
  refine cX (jc [v17, v18] [sN, sN] [(0, 1), (1, 1)] [(0, [v17]), (1, [v18])] qO jg rfl (.cons rfl qu (.cons rfl qu PlacesAre.nil)) rfl (.cons (cells_one (qS hv16)) (.cons (cells_one (qS hv17)) CellsAre.nil)) (cX (ql (s := 1) [ii (0), ii (2), ii (-1)] [ii (0)] [(0, [ii (0)]), (1, [ii (2)]), (2, [ii (-1)])] qd qw qG rfl (by decide) rfl (.cons rfl (.cons rfl (.cons rfl CellsAre.nil))) rfl ?_)))
  intro v19 hv18
  refine cX (ql (s := 1) [ii (-1)] [ii (0)] [(0, [ii (-1)])] qd qw qG rfl (by decide) rfl (.cons rfl CellsAre.nil) rfl ?_)
  intro v20 hv19
  refine cX (jc [v19, v20] [sN, sN] [(0, 1), (1, 1)] [(0, [v19]), (1, [v20])] qO jg rfl (.cons rfl qu (.cons rfl qu PlacesAre.nil)) rfl (.cons (cells_one (qS hv18)) (.cons (cells_one (qS hv19)) CellsAre.nil)) (cX (ql (s := 1) [ii (0), ii (-1), ii (2)] [ii (0)] [(0, [ii (0)]), (1, [ii (-1)]), (2, [ii (2)])] qd qw qG rfl (by decide) rfl (.cons rfl (.cons rfl (.cons rfl CellsAre.nil))) rfl ?_)))
  intro v21 hv20
  refine cX (ql (s := 1) [ii (-1)] [ii (0)] [(0, [ii (-1)])] qd qw qG rfl (by decide) rfl (.cons rfl CellsAre.nil) rfl ?_)
  intro v22 hv21
  refine cX (jc [v21, v22] [sN, sN] [(0, 1), (1, 1)] [(0, [v21]), (1, [v22])] qO jg rfl (.cons rfl qu (.cons rfl qu PlacesAre.nil)) rfl (.cons (cells_one (qS hv20)) (.cons (cells_one (qS hv21)) CellsAre.nil)) (cX (ql (s := 2) [v17, v18, v19, v20, v21, v22] [sN, sN] [(0, [v17, v18]), (1, [v19, v20]), (2, [v21, v22])] jb jF jg rfl (by decide) rfl (.cons rfl (.cons rfl (.cons rfl CellsAre.nil))) rfl ?_)))
  intro v23 hv22
  refine cX (qn (1) qJ rfl ju (by decide) rfl rfl (cX (jz [_, _, _, _, _, _, _] _ [x1, v23] ju rfl rfl (qM (qS hv22)) rfl rfl rfl (qb (qc (qa (cX (qq [x1, v23] qX qL rfl rfl (Rd.ownN [_, _, _, _, _, _, _] rfl rfl) (cX (qR [_, _, _, _, _, _, _, _, _, _, _, _, _] _ [x1, v23] qL rfl rfl rfl (qz (qM (qE hr1)) (qz (qM (qS hv22)) qU)) rfl rfl rfl (qb ?_)))))))))))
  show X _ _ _ _ _ _ (slH 72 2 v23 3 [v17, v18, v19, v20, v21, v22] :: slH 2 1 v22 1 [ii (-1)] :: slH 2 1 v21 3 [ii (0), ii (-1), ii (2)] :: slH 2 1 v20 1 [ii (-1)] :: slH 2 1 v19 3 [ii (0), ii (2), ii (-1)] :: slH 2 1 v18 5 [ii (0), ii (-1), ii (0), ii (-2), ii (-3)] :: intsH 2 v17 ([0, 0, -1, -2, -3] : List Int) :: cellsH b2 [x1, v23] 32 :: slH 72 2 v5 2 [v1, v2, v3, v4] :: slH 2 1 v4 4 [ii (1), ii (0), ii (-1), ii (-2)] :: slH 2 1 v3 4 [ii (0), ii (1), ii (-1), ii (-2)] :: slH 2 1 v2 1 [ii (-1)] :: slH 2 1 v1 3 [ii (0), ii (2), ii (-1)] :: cellsH b1 [x1, v23] 32 :: curH .u64 88 cb bsv bs.length :: L)
  refine qH [_, _, _, _, _, _] _ _ rfl (fun F17 le17 hz15 => ?_)
  replace hr1 := hr1.mono le17
  have hf15 : IntsF F17 v17 ([0, 0, -1, -2, -3]) := intsH.fz (xs := [0, 0, -1, -2, -3]) hz15.fz
  show X _ _ _ _ _ _ (slH 72 2 v23 3 [v17, v18, v19, v20, v21, v22] :: slH 2 1 v22 1 [ii (-1)] :: slH 2 1 v21 3 [ii (0), ii (-1), ii (2)] :: slH 2 1 v20 1 [ii (-1)] :: slH 2 1 v19 3 [ii (0), ii (2), ii (-1)] :: intsH 2 v18 ([0, -1, 0, -2, -3] : List Int) :: cellsH b2 [x1, v23] 32 :: slH 72 2 v5 2 [v1, v2, v3, v4] :: slH 2 1 v4 4 [ii (1), ii (0), ii (-1), ii (-2)] :: slH 2 1 v3 4 [ii (0), ii (1), ii (-1), ii (-2)] :: slH 2 1 v2 1 [ii (-1)] :: slH 2 1 v1 3 [ii (0), ii (2), ii (-1)] :: cellsH b1 [x1, v23] 32 :: curH .u64 88 cb bsv bs.length :: L)
  refine qH [_, _, _, _, _] _ _ rfl (fun F18 le18 hz16 => ?_)
  replace hr1 := hr1.mono le18
  replace hf15 := hf15.mono le18
  have hf16 : IntsF F18 v18 ([0, -1, 0, -2, -3]) := intsH.fz (xs := [0, -1, 0, -2, -3]) hz16.fz
  show X _ _ _ _ _ _ (slH 72 2 v23 3 [v17, v18, v19, v20, v21, v22] :: slH 2 1 v22 1 [ii (-1)] :: slH 2 1 v21 3 [ii (0), ii (-1), ii (2)] :: slH 2 1 v20 1 [ii (-1)] :: intsH 2 v19 ([0, 2, -1] : List Int) :: cellsH b2 [x1, v23] 32 :: slH 72 2 v5 2 [v1, v2, v3, v4] :: slH 2 1 v4 4 [ii (1), ii (0), ii (-1), ii (-2)] :: slH 2 1 v3 4 [ii (0), ii (1), ii (-1), ii (-2)] :: slH 2 1 v2 1 [ii (-1)] :: slH 2 1 v1 3 [ii (0), ii (2), ii (-1)] :: cellsH b1 [x1, v23] 32 :: curH .u64 88 cb bsv bs.length :: L)
  refine qH [_, _, _, _] _ _ rfl (fun F19 le19 hz17 => ?_)
  replace hr1 := hr1.mono le19
  replace hf15 := hf15.mono le19
  replace hf16 := hf16.mono le19
  have hf17 : IntsF F19 v19 ([0, 2, -1]) := intsH.fz (xs := [0, 2, -1]) hz17.fz
  show X _ _ _ _ _ _ (slH 72 2 v23 3 [v17, v18, v19, v20, v21, v22] :: slH 2 1 v22 1 [ii (-1)] :: slH 2 1 v21 3 [ii (0), ii (-1), ii (2)] :: intsH 2 v20 ([-1] : List Int) :: cellsH b2 [x1, v23] 32 :: slH 72 2 v5 2 [v1, v2, v3, v4] :: slH 2 1 v4 4 [ii (1), ii (0), ii (-1), ii (-2)] :: slH 2 1 v3 4 [ii (0), ii (1), ii (-1), ii (-2)] :: slH 2 1 v2 1 [ii (-1)] :: slH 2 1 v1 3 [ii (0), ii (2), ii (-1)] :: cellsH b1 [x1, v23] 32 :: curH .u64 88 cb bsv bs.length :: L)
  refine qH [_, _, _] _ _ rfl (fun F20 le20 hz18 => ?_)
  replace hr1 := hr1.mono le20
  replace hf15 := hf15.mono le20
  replace hf16 := hf16.mono le20
  replace hf17 := hf17.mono le20
  have hf18 : IntsF F20 v20 ([-1]) := intsH.fz (xs := [-1]) hz18.fz
  show X _ _ _ _ _ _ (slH 72 2 v23 3 [v17, v18, v19, v20, v21, v22] :: slH 2 1 v22 1 [ii (-1)] :: intsH 2 v21 ([0, -1, 2] : List Int) :: cellsH b2 [x1, v23] 32 :: slH 72 2 v5 2 [v1, v2, v3, v4] :: slH 2 1 v4 4 [ii (1), ii (0), ii (-1), ii (-2)] :: slH 2 1 v3 4 [ii (0), ii (1), ii (-1), ii (-2)] :: slH 2 1 v2 1 [ii (-1)] :: slH 2 1 v1 3 [ii (0), ii (2), ii (-1)] :: cellsH b1 [x1, v23] 32 :: curH .u64 88 cb bsv bs.length :: L)
  refine qH [_, _] _ _ rfl (fun F21 le21 hz19 => ?_)
  replace hr1 := hr1.mono le21
  replace hf15 := hf15.mono le21
  replace hf16 := hf16.mono le21
  replace hf17 := hf17.mono le21
  replace hf18 := hf18.mono le21
  have hf19 : IntsF F21 v21 ([0, -1, 2]) := intsH.fz (xs := [0, -1, 2]) hz19.fz
  show X _ _ _ _ _ _ (slH 72 2 v23 3 [v17, v18, v19, v20, v21, v22] :: intsH 2 v22 ([-1] : List Int) :: cellsH b2 [x1, v23] 32 :: slH 72 2 v5 2 [v1, v2, v3, v4] :: slH 2 1 v4 4 [ii (1), ii (0), ii (-1), ii (-2)] :: slH 2 1 v3 4 [ii (0), ii (1), ii (-1), ii (-2)] :: slH 2 1 v2 1 [ii (-1)] :: slH 2 1 v1 3 [ii (0), ii (2), ii (-1)] :: cellsH b1 [x1, v23] 32 :: curH .u64 88 cb bsv bs.length :: L)
  refine qH [_] _ _ rfl (fun F22 le22 hz20 => ?_)
  replace hr1 := hr1.mono le22
  replace hf15 := hf15.mono le22
  replace hf16 := hf16.mono le22
  replace hf17 := hf17.mono le22
  replace hf18 := hf18.mono le22
  replace hf19 := hf19.mono le22
  have hf20 : IntsF F22 v22 ([-1]) := intsH.fz (xs := [-1]) hz20.fz
  have hc4 : PairsC F22 [v17, v18, v19, v20, v21, v22] ([([0, 0, -1, -2, -3], [0, -1, 0, -2, -3]), ([0, 2, -1], [-1]), ([0, -1, 2], [-1])] : List (List Int × List Int)) := (PairsC.snoc (PairsC.snoc (PairsC.snoc (CO.nil : PairsC F22 [] []) hf15 hf16) hf17 hf18) hf19 hf20)
  refine qH [] _ _ rfl (fun F23 le23 hz21 => ?_)
  replace hr1 := hr1.mono le23
  replace hc4 := hc4.mono le23
  have hf21 : PairsF F23 v23 (([([0, 0, -1, -2, -3], [0, -1, 0, -2, -3]), ([0, 2, -1], [-1]), ([0, -1, 2], [-1])] : List (List Int × List Int))) := CO.fz hc4 (by first | rfl | omega | (rw [List.length_set]; omega) | (simp; done)) hz21.fz
  refine qr (qo (L' := curH .u64 88 cb bsv bs.length :: L) [.agg #[x1, v23]] (.agg #[x1, v23]) (.cell rfl (jC [x1, v23] qX qL rfl (Rd.ownN [_, _, _, _, _, _] rfl rfl)) .nil) rfl (qk (qk (qk (qk (qk (qk (qk le1 le17) le18) le19) le20) le21) le22) le23) rF (sD (sD (sD (sD (sD (sD (sD (sC sR)))))))) ?_)
  exact ⟨⟨_, _, _, rfl, hr1, hf21, by decide, by first | exact ends_a | exact ends_b | exact ends_c | exact ends_d⟩, rfl⟩
 refine qx (qc (qa (cX (qq [x1, v5] qX qL rfl rfl (Rd.ownN [] rfl rfl) (cX (qR [_, _, _, _, _, _] _ [x1, v5] qL rfl rfl rfl (qz (qM (qE hr1)) (qz (qM (qS hv5)) qU)) rfl rfl rfl (qb ?_)))))))
 show X _ _ _ _ _ _ (cellsH b2 [x1, v5] 32 :: slH 72 2 v5 2 [v1, v2, v3, v4] :: slH 2 1 v4 4 [ii (1), ii (0), ii (-1), ii (-2)] :: slH 2 1 v3 4 [ii (0), ii (1), ii (-1), ii (-2)] :: slH 2 1 v2 1 [ii (-1)] :: intsH 2 v1 ([0, 2, -1] : List Int) :: cellsH b1 [x1, v5] 32 :: curH .u64 88 cb bsv bs.length :: L)
 refine qH [_, _, _, _, _] _ _ rfl (fun F24 le24 hz22 => ?_)
 replace hr1 := hr1.mono le24
 have hf22 : IntsF F24 v1 ([0, 2, -1]) := intsH.fz (xs := [0, 2, -1]) hz22.fz
 show X _ _ _ _ _ _ (cellsH b2 [x1, v5] 32 :: slH 72 2 v5 2 [v1, v2, v3, v4] :: slH 2 1 v4 4 [ii (1), ii (0), ii (-1), ii (-2)] :: slH 2 1 v3 4 [ii (0), ii (1), ii (-1), ii (-2)] :: intsH 2 v2 ([-1] : List Int) :: cellsH b1 [x1, v5] 32 :: curH .u64 88 cb bsv bs.length :: L)
 refine qH [_, _, _, _] _ _ rfl (fun F25 le25 hz23 => ?_)
 replace hr1 := hr1.mono le25
 replace hf22 := hf22.mono le25
 have hf23 : IntsF F25 v2 ([-1]) := intsH.fz (xs := [-1]) hz23.fz
 show X _ _ _ _ _ _ (cellsH b2 [x1, v5] 32 :: slH 72 2 v5 2 [v1, v2, v3, v4] :: slH 2 1 v4 4 [ii (1), ii (0), ii (-1), ii (-2)] :: intsH 2 v3 ([0, 1, -1, -2] : List Int) :: cellsH b1 [x1, v5] 32 :: curH .u64 88 cb bsv bs.length :: L)
 refine qH [_, _, _] _ _ rfl (fun F26 le26 hz24 => ?_)
 replace hr1 := hr1.mono le26
 replace hf22 := hf22.mono le26
 replace hf23 := hf23.mono le26
 have hf24 : IntsF F26 v3 ([0, 1, -1, -2]) := intsH.fz (xs := [0, 1, -1, -2]) hz24.fz
 show X _ _ _ _ _ _ (cellsH b2 [x1, v5] 32 :: slH 72 2 v5 2 [v1, v2, v3, v4] :: intsH 2 v4 ([1, 0, -1, -2] : List Int) :: cellsH b1 [x1, v5] 32 :: curH .u64 88 cb bsv bs.length :: L)
 refine qH [_, _] _ _ rfl (fun F27 le27 hz25 => ?_)
 replace hr1 := hr1.mono le27
 replace hf22 := hf22.mono le27
 replace hf23 := hf23.mono le27
 replace hf24 := hf24.mono le27
 have hf25 : IntsF F27 v4 ([1, 0, -1, -2]) := intsH.fz (xs := [1, 0, -1, -2]) hz25.fz
 have hc5 : PairsC F27 [v1, v2, v3, v4] ([([0, 2, -1], [-1]), ([0, 1, -1, -2], [1, 0, -1, -2])] : List (List Int × List Int)) := (PairsC.snoc (PairsC.snoc (CO.nil : PairsC F27 [] []) hf22 hf23) hf24 hf25)
 refine qH [_] _ _ rfl (fun F28 le28 hz26 => ?_)
 replace hr1 := hr1.mono le28
 replace hc5 := hc5.mono le28
 have hf26 : PairsF F28 v5 (([([0, 2, -1], [-1]), ([0, 1, -1, -2], [1, 0, -1, -2])] : List (List Int × List Int))) := CO.fz hc5 (by first | rfl | omega | (rw [List.length_set]; omega) | (simp; done)) hz26.fz
 refine qr (qo (L' := curH .u64 88 cb bsv bs.length :: L) [.agg #[x1, v5]] (.agg #[x1, v5]) (.cell rfl (jC [x1, v5] qX qL rfl (Rd.ownN [_] rfl rfl)) .nil) rfl (qk (qk (qk (qk (qk le1 le24) le25) le26) le27) le28) rF (sD (sD (sC sR))) ?_)
 exact ⟨⟨_, _, _, rfl, hr1, hf26, by decide, by first | exact ends_a | exact ends_b | exact ends_c | exact ends_d⟩, rfl⟩

/- laws.FnWordClasses -/
set_option maxHeartbeats 2000000 in
set_option maxRecDepth 20000 in
theorem FnWordClasses_does {F : FH} {L : List HP} {bsv : Value} {bs : List Int} (hbs : BytesF F bsv bs) (hlb : bs.length ≤ 9223372036854775807) :
    Does prog 3 [bsv] F (L) (fun v F' L' => (.bool (true) : Value) = v ∧ F = F' ∧ L = L') := by
 refine qD func3 rfl rfl rfl (qc (qa (qg (.bool (false)) rfl (qb (qc (qc (qa (qf (bsv) rfl (cX (qp (args := [bsv]) call11 rfl (big_spec hbs) ?_))))))))))
 rintro _ _ _ _ ⟨rfl, rfl, rfl⟩
 refine qb ?_
 refine qA (p := (bs.length : Int) > 4096) rfl (fun h1 => ?_) (fun h1 => ?_)
 ·refine qc (qa (qg (.bool (true)) rfl (qb (qr (qi (qo (L' := L) [.bool (true)] (.bool (true)) (.tmp rfl .nil) rfl rF rF sR ?_))))))
  exact ⟨rfl, rfl, rfl⟩
 have hlb2 : bs.length ≤ 4000000 := by omega
 refine qx (qc (qa (qf (bsv) rfl (cX (qp (args := [bsv, .int .u64 (702)]) call12 rfl (roll_spec hbs (by omega)) ?_)))))
 rintro _ _ _ _ ⟨cb1, rfl, rfl, rfl⟩
 show XL _ _ _ _ _ _ _ (curH .u64 88 cb1 bsv bs.length :: L)
 refine qg (ptr cb1 0) rfl (qb (qc (qa (qf (ptr cb1 0) rfl (cX (qp (args := [ptr cb1 0]) call13 rfl (jI [] (w6SystemW_spec hbs (by omega))) ?_))))))
 rintro _ F1 _ le1 ⟨⟨x1, x2, x3, rfl, hr1, hr2, hr3, hr4⟩, rfl⟩
 replace hbs := hbs.mono le1
 show XL _ _ _ _ _ _ _ (curH .u64 88 cb1 bsv bs.length :: L)
 have hsq := sysOk_iff.1 hr3
 have hrl := hsq.2.1
 have hrb : ∀ i, i < x3.length → (x3.getD i ([], [])).1.length ≤ 4000000 ∧ (x3.getD i ([], [])).2.length ≤ 4000000 := fun i hi => by have h9 := ruleOk_iff.1 (hsq.2.2 i hi); have := termOk_len h9.left; have := termOk_len h9.right; omega
 have hsys := hr3
 obtain ⟨c, hcd1, hcd2, hdec⟩ := hr4
 refine cX (jh [sN, sN] zeroValue32 rfl ?_)
 intro b1
 refine cX (qR [] _ [x1, x2] qL rfl rfl rfl (qz (qM (qE hr1)) (qz (qM (PairsF.isSl hr2)) qU)) rfl rfl rfl (qb (qc (qa (cX (ql (s := 1) [] [sN] [] qy qu jK rfl (by decide) rfl CellsAre.nil rfl ?_))))))
 intro v1 hv1
 refine qg (v1) rfl (qb (qc (qc (qa (qf (ptr cb1 0) rfl (cX (qp (args := [ptr cb1 0, ii (4)]) call14 rfl (jI [_, _] (below_spec (n := 4) hbs (by omega) (hn := (by first | assumption | rfl | omega | simp)))) ?_)))))))
 rintro _ _ _ _ ⟨⟨rfl, x4, rfl, hr5⟩, rfl⟩
 show XL _ _ _ _ _ _ _ (slH 27 1 v1 0 [] :: cellsH b1 [x1, x2] 32 :: curH .u64 88 cb1 bsv bs.length :: L)
 refine cX (qK (1 + x4) rfl rfl (by omega) (by omega) (qg (ii (1 + x4)) rfl (qb (qI ?_))))
 have hc1 : RowsC F1 [] ([] : List (List Int)) := (CO.nil : RowsC F1 [] [])
 refine jm (α := Nat × Value × List (List Int) × List Value × Nat × FH) (fun xQ => [(3, ptr cb1 0), (4, ptr b1 0), (5, xQ.2.1), (6, ii (((xQ.1 : Nat) : Int)))]) (fun xQ => slH 27 1 xQ.2.1 xQ.2.2.2.2.1 xQ.2.2.2.1 :: cellsH b1 [x1, x2] 32 :: curH .u64 88 cb1 bsv bs.length :: L) (fun xQ F' => xQ.2.2.2.2.2 = F' ∧ F1 ≤ xQ.2.2.2.2.2 ∧ (IsSl xQ.2.1) ∧ (RowsC xQ.2.2.2.2.2 xQ.2.2.2.1 xQ.2.2.1) ∧ (xQ.2.2.2.2.1 = xQ.2.2.1.length) ∧ (xQ.2.2.1.length + 2 * xQ.1 ≤ 8) ∧ (∀ i, i < xQ.2.2.1.length → LowW c (xQ.2.2.1.getD i []))) (fun xQ => xQ.1) ((1 + x4).toNat, v1, [], [], 0, F1) ⟨rfl, rfl, rfl, (vI (by (try dsimp only); omega)), ⟨⟩⟩ (sC (sC (sC sR))) ⟨rfl, FLe.refl _, ((qS hv1)), (hc1), (rfl), (by (try dsimp only); (try simp only [List.length_nil]); omega), (fun i hi => absurd hi (by simp))⟩ ?_
 rintro ⟨k, tv, ts, cs, m, G1⟩ rE _ _ ⟨rfl, leG, htv, hC, hm, hkl, hall⟩
 show X _ _ _ _ (envs [(3, ptr cb1 0), (4, ptr b1 0), (5, tv), (6, ii ((k : Int)))] rE) _ (slH 27 1 tv m cs :: cellsH b1 [x1, x2] 32 :: curH .u64 88 cb1 bsv bs.length :: L)
 replace leG : F1 ≤ G1 := leG
 dsimp only at htv hC hm hkl hall
 have leG1 := leG
 replace hbs := hbs.mono leG1
 replace hr1 := hr1.mono leG1
 replace hr2 := hr2.mono leG1
 refine qc (qc (qa (qf (ii ((k : Int))) rfl (cX (jA rfl rfl (qb ?_))))))
 refine qA (p := (k : Int) > 0) rfl (fun h2 => ?_) (fun h2 => ?_)
 ·refine qx (qc (qI (qc (qa (qf (ptr cb1 0) rfl (cX (qp (args := [ptr cb1 0, ii ((4 : Nat) : Int), ii (2)]) call15 rfl (jI [_, _] (w6TermW_spec 4 (vs := 2) hbs (by omega) (hv := (by first | assumption | rfl | omega | simp)) (hd := (by first | assumption | rfl | omega | simp)))) ?_)))))))
  rintro _ F3 _ le3 ⟨⟨x5, x6, rfl, hr6, hr7, hr8, hr9, hr10⟩, rfl⟩
  replace hbs := hbs.mono le3
  replace hr1 := hr1.mono le3
  replace hr2 := hr2.mono le3
  replace hC := hC.mono le3
  show XL _ _ _ _ _ _ _ (slH 27 1 tv m cs :: cellsH b1 [x1, x2] 32 :: curH .u64 88 cb1 bsv bs.length :: L)
  have hot : termOk [2, 1, 0] x6 = true := goodT.ok (by decide) ⟨hr9, by have h9 : szB 4 = 31 := rfl; omega⟩ hr7
  have hotl := termOk_len hot
  have hlow : LowW c x6 := WdT.low hr10 hot hcd2
  have hss := stepsS_len2 (ar := [2, 1, 0]) (rs := x3) (t := x6)
  have hnx := fun (i : Nat) (h : i < (stepsS [2, 1, 0] x3 x6).length) => hlow.step hcd1 hsys hdec h
  refine qg (x5) rfl (qb (qc (qa (qf (tv) rfl (qf (x5) rfl (cX (ql (s := 1) [x5] [sN] [(0, [x5])] qy qu jK rfl (by decide) rfl (.cons (cells_one (qE hr6)) CellsAre.nil) rfl ?_)))))))
  intro v2 hv2
  refine cX (jQ (m := 1) (bytes := 24) (cs := cs) [_] _ [x5] qy typeInfo27 rfl rfl rfl rfl rfl rfl rfl (SlV.own [] rfl) rfl (Rd.lit [] rfl) (qz (qM (qE hr6)) qU) (by (try simp only [List.length_append, List.length_nil, List.length_cons, List.length_singleton]); omega) (by (try simp only [List.length_append, List.length_nil, List.length_cons, List.length_singleton]); omega) ?_)
  intro v3 hs1 hn1 hm1
  have hc2 := RowsC.snoc hC hr6
  refine qg (v3) rfl (qb (qc (qa (cX (qq [x1, x2] qX qL rfl rfl (Rd.ownN [_, _] rfl rfl) (qf (x5) rfl (cX (qp (args := [.agg #[x1, x2], x5]) call16 rfl (sStepsFromW_spec hr1 hr2 hr6 (hla := (by first | assumption | rfl | omega | simp)) (hlr := (by first | assumption | rfl | omega | simp)) (hrb := (by first | assumption | rfl | omega | simp)) (hlt := (by first | assumption | rfl | omega | simp))) ?_))))))))
  rintro _ F4 _ le4 ⟨x7, rfl, hr11, rfl⟩
  replace hbs := hbs.mono le4
  replace hr1 := hr1.mono le4
  replace hr2 := hr2.mono le4
  replace hC := hC.mono le4
  replace hc2 := hc2.mono le4
  refine qg (x7) rfl (qb (qc (qa (qf (x7) rfl (cX (qC jp rfl hr11.slv (cX (jA rfl rfl (qb ?_)))))))))
  refine qA (p := ((((stepsS ([2, 1, 0]) x3 x6).length : Nat) : Int) : Int) > 0) rfl (fun h3 => ?_) (fun h3 => ?_)
  ·refine qa (qf (v3) rfl (qf (x7) rfl (qf (ptr cb1 0) rfl (qf (x7) rfl (cX (qC jp rfl hr11.slv (cX (qp (args := [ptr cb1 0, ii ((((stepsS ([2, 1, 0]) x3 x6).length : Nat) : Int))]) call14 rfl (jI [_, _, _] (below_spec (n := (((stepsS ([2, 1, 0]) x3 x6).length : Nat) : Int)) hbs (by omega) (hn := (by first | assumption | rfl | omega | simp)))) ?_))))))))
   rintro _ _ _ _ ⟨⟨rfl, x8, rfl, hr12⟩, rfl⟩
   show XL _ _ _ _ _ _ _ (slH 27 1 v2 1 [x5] :: slH 27 1 v3 ((m) + 1) (cs ++ [x5]) :: cellsH b1 [x1, x2] 32 :: curH .u64 88 cb1 bsv bs.length :: L)
   refine cX (qB ((x8).toNat) jp sizeOf40 rfl rfl (by omega) hr11.slv (by omega) rfl (cX (XOp.fieldE (((x8).toNat) * 3 + 2) runUnderlying40 rfl qu (by decide) rfl rfl ?_)))
   obtain ⟨a1, ha1, hr13, hr14, hr15⟩ := hr11.rd (i := (x8).toNat) (by omega)
   refine cX (qj qY rfl (hr15 _) (cX (ql (s := 1) [a1] [sN] [(0, [a1])] qy qu jK rfl (by decide) rfl (.cons (cells_one (qE ha1)) CellsAre.nil) rfl ?_)))
   intro v4 hv3
   refine cX (jQ (m := 1) (bytes := 24) (cs := cs ++ [x5]) [_, _] _ [a1] qy typeInfo27 rfl rfl rfl rfl rfl rfl rfl (SlV.own [] rfl) rfl (Rd.lit [] rfl) (qz (qM (qE ha1)) qU) (by (try simp only [List.length_append, List.length_nil, List.length_cons, List.length_singleton]); omega) (by (try simp only [List.length_append, List.length_nil, List.length_cons, List.length_singleton]); omega) ?_)
   intro v5 hs2 hn2 hm2
   have hc3 := RowsC.snoc hc2 ha1
   refine qg (v5) rfl (qb (qa (qf (ii ((k : Int))) rfl (cX (jf (((k : Int)) - 1) rfl rfl (by omega) (by omega) (qg (ii (((k : Int)) - 1)) rfl (qb ?_)))))))
   exact ⟨(k - 1, v5, (ts ++ [x6]) ++ [((stepsS ([2, 1, 0]) x3 x6).getD ((x8).toNat) (0, 0, [])).2.2], (cs ++ [x5]) ++ [a1], ((m) + 1) + 1, F4), _, (qk (qk leG1 le3) le4), rF, ⟨rfl, rfl, rfl, (vI (by (try dsimp only); omega)), ⟨⟩⟩, (sD (sD (sC (sC (sC sR))))), ⟨rfl, (qk (qk leG1 le3) le4), (hs2), (hc3), (by (try dsimp only); (try simp only [List.length_append, List.length_singleton]); omega), (by (try dsimp only); (try simp only [List.length_append, List.length_singleton]); omega), (by (try dsimp only); first | exact low_one (low_one hall hlow) (hnx _ (by omega)) | exact low_one hall hlow)⟩, (by (try dsimp only); omega)⟩
  refine qx (qa (qf (ii ((k : Int))) rfl (cX (jf (((k : Int)) - 1) rfl rfl (by omega) (by omega) (qg (ii (((k : Int)) - 1)) rfl (qb ?_))))))
  exact ⟨(k - 1, v3, ts ++ [x6], cs ++ [x5], (m) + 1, F4), _, (qk (qk leG1 le3) le4), rF, ⟨rfl, rfl, rfl, (vI (by (try dsimp only); omega)), ⟨⟩⟩, (sD (sC (sC (sC sR)))), ⟨rfl, (qk (qk leG1 le3) le4), (hs1), (hc2), (by (try dsimp only); (try simp only [List.length_append, List.length_singleton]); omega), (by (try dsimp only); (try simp only [List.length_append, List.length_singleton]); omega), (by (try dsimp only); first | exact low_one (low_one hall hlow) (hnx _ (by omega)) | exact low_one hall hlow)⟩, (by (try dsimp only); omega)⟩
 refine je (qv (qv (qN (qc (qa ?_)))))
 have hal2 : ts.all (termOk [2, 1, 0]) = true := (all_getD_iff []).2 fun i hi => (hall i hi).1
 have hok : allOk [2, 1, 0] x3 ts 60 = true := allOk_iff.2 ⟨hsys, by omega, hal2, by omega⟩
 have hnf : ∀ i, i < ts.length → nfF [2, 1, 0] x3 60 (ts.getD i []) = true := fun i hi => (hall i hi).ends hcd1 hsys hdec
 have hcl := cls_len hok hnf
 have htb : ∀ i, i < ts.length → (ts.getD i []).length ≤ 4000000 := fun i hi => by have := termOk_len (hall i hi).1; omega
 have hlaw := fun (i : Nat) (hi : i < ts.length) => cls_law hok hnf hi
 refine cX (qq [x1, x2] qX qL rfl rfl (Rd.ownN [_] rfl rfl) (qf (tv) rfl (jy [] _ _ rfl (fun F6 le6 hz1 => ?_))))
 replace hr1 := hr1.mono le6
 replace hr2 := hr2.mono le6
 replace hC := hC.mono le6
 have hf1 : RowsF F6 tv ts := CO.fz hC (by first | rfl | omega | (rw [List.length_set]; omega) | (simp; done)) hz1.fz
 refine cX (qp (args := [.agg #[x1, x2], tv, ii (60)]) call17 rfl (ClassesBy_spec (n := 60) hr1 hr2 hf1 (hlt := (by first | assumption | rfl | omega | simp))) ?_)
 rintro _ F7 _ le7 ⟨x9, rfl, hr16, hr17, rfl⟩
 replace hr1 := hr1.mono le7
 replace hr2 := hr2.mono le7
 replace hf1 := hf1.mono le7
 refine qg (x9) rfl (qb (qc (qc (qa (qf (x9) rfl (cX (qq [x1, x2] qX qL rfl rfl (Rd.ownN [] rfl rfl) (qf (tv) rfl (cX (qp (args := [.agg #[x1, x2], tv, ii (60)]) call19 rfl (sClassesBy_spec (n := 60) hr1 hr2 hf1 (hla := (by first | assumption | rfl | omega | simp)) (hlr := (by first | assumption | rfl | omega | simp)) (hrb := (by first | assumption | rfl | omega | simp)) (hlt := (by first | assumption | rfl | omega | simp)) (htb := (by first | assumption | rfl | omega | simp))) ?_))))))))))
 rintro _ F8 _ le8 ⟨x10, rfl, hr18, rfl⟩
 replace hr1 := hr1.mono le8
 replace hr2 := hr2.mono le8
 replace hf1 := hf1.mono le8
 replace hr16 := hr16.mono le8
 refine cX (qp (args := [x9, x10]) call18 rfl (likeInts_spec hr16 hr18 (hbd := (by first | assumption | rfl | omega | (left; simp; done) | (right; simp; done)))) ?_)
 rintro _ _ _ _ ⟨rfl, rfl, rfl⟩
 refine cX (XOp.notD rfl (qf (.bool (decide (¬((clsL ([2, 1, 0]) x3 ts 60) = (clsL ([2, 1, 0]) x3 ts 60))))) rfl ?_))
 by_cases h4 : ¬((clsL ([2, 1, 0]) x3 ts 60) = (clsL ([2, 1, 0]) x3 ts 60))
 ·exact absurd rfl h4
 refine qt (t := 58) rfl (vF h4) (qm (x9) rfl (qt (t := 58) rfl (vF h4) (qC qd rfl hr16.slv (qt (t := 58) rfl (vF h4) (qm (tv) rfl (qt (t := 58) rfl (vF h4) (qC qy rfl hf1.slv (qt (t := 58) rfl (vF h4) (XOp.neq rfl rfl (cX (qV (.bool (decide (((((clsL ([2, 1, 0]) x3 ts 60).length : Nat) : Int) : Int) ≠ (ts.length : Int)))) (vF h4) rfl (qb ?_))))))))))))
 refine qA (p := ((((clsL ([2, 1, 0]) x3 ts 60).length : Nat) : Int) : Int) ≠ (ts.length : Int)) rfl (fun h5 => ?_) (fun h5 => ?_)
 ·exfalso
  omega
 refine qx (qc (qc (qa (qg (ii (0)) rfl (qb (qI (jm (α := Nat × FH) (fun xQ => [(4, ptr b1 0), (5, tv), (9, x9), (10, ii (((xQ.1 : Nat) : Int)))]) (fun xQ => cellsH b1 [x1, x2] 32 :: curH .u64 88 cb1 bsv bs.length :: L) (fun xQ F' => xQ.2 = F' ∧ F8 ≤ xQ.2 ∧ (xQ.1 ≤ (clsL ([2, 1, 0]) x3 ts 60).length)) (fun xQ => (clsL ([2, 1, 0]) x3 ts 60).length - xQ.1) (0, F8) ⟨rfl, rfl, rfl, rfl, ⟨⟩⟩ (sC (sC sR)) ⟨rfl, FLe.refl _, (by (try dsimp only) <;> omega)⟩ ?_)))))))
 rintro ⟨i, G2⟩ rE _ _ ⟨rfl, leG, hi⟩
 show X _ _ _ _ (envs [(4, ptr b1 0), (5, tv), (9, x9), (10, ii ((i : Int)))] rE) _ (cellsH b1 [x1, x2] 32 :: curH .u64 88 cb1 bsv bs.length :: L)
 replace leG : F8 ≤ G2 := leG
 dsimp only at hi
 have hli := hlaw i
 have hlb := fun h : i < ts.length => (hli h).1
 have leG2 := leG
 replace hr1 := hr1.mono leG2
 replace hr2 := hr2.mono leG2
 replace hf1 := hf1.mono leG2
 replace hr16 := hr16.mono leG2
 refine qc (qc (qa (qf (ii ((i : Int))) rfl (qf (x9) rfl (cX (qC qd rfl hr16.slv (cX (qZ rfl rfl (qb ?_)))))))))
 refine qA (p := (i : Int) < (((clsL ([2, 1, 0]) x3 ts 60).length : Nat) : Int)) rfl (fun h6 => ?_) (fun h6 => ?_)
 ·refine qx (qc (qI (qc (qc ?_))))
  by_cases h7 : ((clsL ([2, 1, 0]) x3 ts 60).getD (((clsL ([2, 1, 0]) x3 ts 60).getD i 0).toNat) 0 : Int) ≠ (clsL ([2, 1, 0]) x3 ts 60).getD i 0
  ·exact absurd (hli (by omega)).2.1 h7
  obtain ⟨a2, ha2, hr19⟩ := hf1.rd (i := i) (by omega)
  obtain ⟨a3, ha3, hr20⟩ := hf1.rd (i := ((clsL ([2, 1, 0]) x3 ts 60).getD i 0).toNat) (by omega)
  refine jM [cellsH b1 [x1, x2] 32, curH .u64 88 cb1 bsv bs.length] L 25 [] [[], [], [], [1, 2], [3], [0, 4], [5], [], [], [7, 8], [9], [6, 10], [11], [12], [12], [12], [12, 14, 15], [12, 16], [12], [12], [12], [12, 19, 20], [12, 21], [12, 18, 22], [12, 23]] (phiL [qe x9, qe x9, qe (ii ((i : Int)) : Value), qe (.pointer (some (elemA x9 (i)))), qe (ii ((clsL ([2, 1, 0]) x3 ts 60).getD i 0)), qe (.pointer (some (elemA x9 (((clsL ([2, 1, 0]) x3 ts 60).getD i 0).toNat)))), qe (ii ((clsL ([2, 1, 0]) x3 ts 60).getD (((clsL ([2, 1, 0]) x3 ts 60).getD i 0).toNat) 0)), qe x9, qe (ii ((i : Int)) : Value), qe (.pointer (some (elemA x9 (i)))), qe (ii ((clsL ([2, 1, 0]) x3 ts 60).getD i 0)), qe (.bool (decide (((clsL ([2, 1, 0]) x3 ts 60).getD (((clsL ([2, 1, 0]) x3 ts 60).getD i 0).toNat) 0 : Int) ≠ (clsL ([2, 1, 0]) x3 ts 60).getD i 0)) : Value), qe (.bool (decide (((clsL ([2, 1, 0]) x3 ts 60).getD (((clsL ([2, 1, 0]) x3 ts 60).getD i 0).toNat) 0 : Int) ≠ (clsL ([2, 1, 0]) x3 ts 60).getD i 0)) : Value), qe (.agg #[x1, x2]), qe tv, qe (ii ((i : Int)) : Value), qe (.pointer (some (elemA tv (i)))), qe a2, qe tv, qe x9, qe (ii ((i : Int)) : Value), qe (.pointer (some (elemA x9 (i)))), qe (ii ((clsL ([2, 1, 0]) x3 ts 60).getD i 0)), qe (.pointer (some (elemA tv (((clsL ([2, 1, 0]) x3 ts 60).getD i 0).toNat)))), qe a3]) (ownL []) mixed rfl rfl (by kernel_rfl) ?_ ?_
  ·refine pD (fun W R z9 => ?_) ?_
   ·refine qh (qm (x9) rfl ?_)
    exact ⟨rfl, rfl, rfl⟩
   refine pD (fun W R z9 => ?_) ?_
   ·refine qh (qm (x9) rfl ?_)
    exact ⟨rfl, rfl, rfl⟩
   refine pD (fun W R z9 => ?_) ?_
   ·refine qh (qm (ii ((i : Int))) rfl ?_)
    exact ⟨rfl, rfl, rfl⟩
   refine pD (fun W R z9 => ?_) ?_
   ·rw [eS (l := [(1, _), (2, _)]) ⟨z9 1 rfl, z9 2 rfl, ⟨⟩⟩]
    refine qh (qB i qd qw rfl rfl rfl hr16.slv (by omega) (Nat.mul_one _) ?_)
    exact ⟨rfl, rfl, rfl⟩
   refine pD (fun W R z9 => ?_) ?_
   ·rw [eS (l := [(3, _)]) ⟨z9 3 rfl, ⟨⟩⟩]
    refine qh (qj jj rfl (hr16.rd (by omega)) ?_)
    exact ⟨rfl, rfl, rfl⟩
   refine pD (fun W R z9 => ?_) ?_
   ·rw [eS (l := [(0, _), (4, _)]) ⟨z9 0 rfl, z9 4 rfl, ⟨⟩⟩]
    refine qh (qB (((clsL ([2, 1, 0]) x3 ts 60).getD i 0).toNat) qd qw rfl rfl (by omega) hr16.slv (by omega) (Nat.mul_one _) ?_)
    exact ⟨rfl, rfl, rfl⟩
   refine pD (fun W R z9 => ?_) ?_
   ·rw [eS (l := [(5, _)]) ⟨z9 5 rfl, ⟨⟩⟩]
    refine qh (qj jj rfl (hr16.rd (by omega)) ?_)
    exact ⟨rfl, rfl, rfl⟩
   refine pD (fun W R z9 => ?_) ?_
   ·refine qh (qm (x9) rfl ?_)
    exact ⟨rfl, rfl, rfl⟩
   refine pD (fun W R z9 => ?_) ?_
   ·refine qh (qm (ii ((i : Int))) rfl ?_)
    exact ⟨rfl, rfl, rfl⟩
   refine pD (fun W R z9 => ?_) ?_
   ·rw [eS (l := [(7, _), (8, _)]) ⟨z9 7 rfl, z9 8 rfl, ⟨⟩⟩]
    refine qh (qB i qd qw rfl rfl rfl hr16.slv (by omega) (Nat.mul_one _) ?_)
    exact ⟨rfl, rfl, rfl⟩
   refine pD (fun W R z9 => ?_) ?_
   ·rw [eS (l := [(9, _)]) ⟨z9 9 rfl, ⟨⟩⟩]
    refine qh (qj jj rfl (hr16.rd (by omega)) ?_)
    exact ⟨rfl, rfl, rfl⟩
   refine pD (fun W R z9 => ?_) ?_
   ·rw [eS (l := [(6, _), (10, _)]) ⟨z9 6 rfl, z9 10 rfl, ⟨⟩⟩]
    refine qh (XOp.neq rfl rfl ?_)
    exact ⟨rfl, rfl, rfl⟩
   refine pD (fun W R z9 => ?_) ?_
   ·rw [eS (l := [(11, _)]) ⟨z9 11 rfl, ⟨⟩⟩]
    refine qh (qm (.bool (decide (((clsL ([2, 1, 0]) x3 ts 60).getD (((clsL ([2, 1, 0]) x3 ts 60).getD i 0).toNat) 0 : Int) ≠ (clsL ([2, 1, 0]) x3 ts 60).getD i 0))) rfl ?_)
    exact ⟨rfl, rfl, rfl⟩
   refine pD (fun W R z9 => ?_) ?_
   ·rw [eS (l := [(12, _)]) ⟨z9 12 rfl, ⟨⟩⟩]
    refine jr (t := 83) rfl (vF h7) (qq [x1, x2] qX qL rfl rfl (Rd.ownN [] rfl rfl) ?_)
    exact ⟨rfl, rfl, rfl⟩
   refine pD (fun W R z9 => ?_) ?_
   ·rw [eS (l := [(12, _)]) ⟨z9 12 rfl, ⟨⟩⟩]
    refine jr (t := 83) rfl (vF h7) (qm (tv) rfl ?_)
    exact ⟨rfl, rfl, rfl⟩
   refine pD (fun W R z9 => ?_) ?_
   ·rw [eS (l := [(12, _)]) ⟨z9 12 rfl, ⟨⟩⟩]
    refine jr (t := 83) rfl (vF h7) (qm (ii ((i : Int))) rfl ?_)
    exact ⟨rfl, rfl, rfl⟩
   refine pD (fun W R z9 => ?_) ?_
   ·rw [eS (l := [(12, _), (14, _), (15, _)]) ⟨z9 12 rfl, z9 14 rfl, z9 15 rfl, ⟨⟩⟩]
    refine jr (t := 83) rfl (vF h7) (qB i qy qu rfl rfl rfl hf1.slv (by omega) (Nat.mul_one _) ?_)
    exact ⟨rfl, rfl, rfl⟩
   refine pD (fun W R z9 => ?_) ?_
   ·rw [eS (l := [(12, _), (16, _)]) ⟨z9 12 rfl, z9 16 rfl, ⟨⟩⟩]
    refine jr (t := 83) rfl (vF h7) (qj qY rfl (hr19 _) ?_)
    exact ⟨rfl, rfl, rfl⟩
   refine pD (fun W R z9 => ?_) ?_
   ·rw [eS (l := [(12, _)]) ⟨z9 12 rfl, ⟨⟩⟩]
    refine jr (t := 83) rfl (vF h7) (qm (tv) rfl ?_)
    exact ⟨rfl, rfl, rfl⟩
   refine pD (fun W R z9 => ?_) ?_
   ·rw [eS (l := [(12, _)]) ⟨z9 12 rfl, ⟨⟩⟩]
    refine jr (t := 83) rfl (vF h7) (qm (x9) rfl ?_)
    exact ⟨rfl, rfl, rfl⟩
   refine pD (fun W R z9 => ?_) ?_
   ·rw [eS (l := [(12, _)]) ⟨z9 12 rfl, ⟨⟩⟩]
    refine jr (t := 83) rfl (vF h7) (qm (ii ((i : Int))) rfl ?_)
    exact ⟨rfl, rfl, rfl⟩
   refine pD (fun W R z9 => ?_) ?_
   ·rw [eS (l := [(12, _), (19, _), (20, _)]) ⟨z9 12 rfl, z9 19 rfl, z9 20 rfl, ⟨⟩⟩]
    refine jr (t := 83) rfl (vF h7) (qB i qd qw rfl rfl rfl hr16.slv (by omega) (Nat.mul_one _) ?_)
    exact ⟨rfl, rfl, rfl⟩
   refine pD (fun W R z9 => ?_) ?_
   ·rw [eS (l := [(12, _), (21, _)]) ⟨z9 12 rfl, z9 21 rfl, ⟨⟩⟩]
    refine jr (t := 83) rfl (vF h7) (qj jj rfl (hr16.rd (by omega)) ?_)
    exact ⟨rfl, rfl, rfl⟩
   refine pD (fun W R z9 => ?_) ?_
   ·rw [eS (l := [(12, _), (18, _), (22, _)]) ⟨z9 12 rfl, z9 18 rfl, z9 22 rfl, ⟨⟩⟩]
    refine jr (t := 83) rfl (vF h7) (qB (((clsL ([2, 1, 0]) x3 ts 60).getD i 0).toNat) qy qu rfl rfl (by omega) hf1.slv (by omega) (Nat.mul_one _) ?_)
    exact ⟨rfl, rfl, rfl⟩
   refine pD (fun W R z9 => ?_) ?_
   ·rw [eS (l := [(12, _), (23, _)]) ⟨z9 12 rfl, z9 23 rfl, ⟨⟩⟩]
    refine jr (t := 83) rfl (vF h7) (qj qY rfl (hr20 _) ?_)
    exact ⟨rfl, rfl, rfl⟩
   exact stepsP.nil
  intro W hphi
  rw [eS (l := [(12, _), (13, _), (17, _), (24, _)]) ⟨(hphi 12 (by decide)), (hphi 13 (by decide)), (hphi 17 (by decide)), (hphi 24 (by decide)), ⟨⟩⟩]
  show XL _ _ _ _ _ _ _ (cellsH b1 [x1, x2] 32 :: curH .u64 88 cb1 bsv bs.length :: L)
  refine qt (t := 83) rfl (vF h7) (qp (args := [.agg #[x1, x2], a2, a3, ii (60)]) call20 rfl (EqualBy_spec (n := 60) hr1 hr2 ha2 ha3) ?_)
  rintro _ _ _ _ ⟨rfl, rfl, rfl⟩
  refine qt (t := 83) rfl (vF h7) (XOp.neq rfl rfl (cX (qV (.bool (decide ((eqB ([2, 1, 0]) x3 ((ts.getD i [])) ((ts.getD (((clsL ([2, 1, 0]) x3 ts 60).getD i 0).toNat) [])) 60 : Int) ≠ 1))) (vF h7) rfl (qb ?_))))
  refine qA (p := (eqB ([2, 1, 0]) x3 ((ts.getD i [])) ((ts.getD (((clsL ([2, 1, 0]) x3 ts 60).getD i 0).toNat) [])) 60 : Int) ≠ 1) rfl (fun h8 => ?_) (fun h8 => ?_)
  ·exact absurd (hli (by omega)).2.2.1 h8
  refine qx (qc (qa (qg (ii (0)) rfl (qb (qI (jm (α := Nat × FH) (fun xQ => [(4, ptr b1 0), (5, tv), (9, x9), (10, ii ((i : Int))), (11, ii (((xQ.1 : Nat) : Int)))]) (fun xQ => cellsH b1 [x1, x2] 32 :: curH .u64 88 cb1 bsv bs.length :: L) (fun xQ F' => xQ.2 = F' ∧ G2 ≤ xQ.2 ∧ (xQ.1 ≤ i)) (fun xQ => i - xQ.1) (0, G2) ⟨rfl, rfl, rfl, rfl, rfl, ⟨⟩⟩ (sC (sC sR)) ⟨rfl, FLe.refl _, (by (try dsimp only) <;> omega)⟩ ?_))))))
  rintro ⟨k, G3⟩ rE _ _ ⟨rfl, leG, hk⟩
  show X _ _ _ _ (envs [(4, ptr b1 0), (5, tv), (9, x9), (10, ii ((i : Int))), (11, ii ((k : Int)))] rE) _ (cellsH b1 [x1, x2] 32 :: curH .u64 88 cb1 bsv bs.length :: L)
  replace leG : G2 ≤ G3 := leG
  dsimp only at hk
  have leG3 := leG
  replace hr1 := hr1.mono leG3
  replace hr2 := hr2.mono leG3
  replace hf1 := hf1.mono leG3
  replace hr16 := hr16.mono leG3
  refine qc (qc (qa (qf (ii ((k : Int))) rfl (qf (ii ((i : Int))) rfl (cX (qZ rfl rfl (qb ?_)))))))
  refine qA (p := (k : Int) < (i : Int)) rfl (fun h9 => ?_) (fun h9 => ?_)
  ·refine qx (qc (qI (qc ?_)))
   obtain ⟨a4, ha4, hr21⟩ := hf1.rd (i := i) (by omega)
   obtain ⟨a5, ha5, hr22⟩ := hf1.rd (i := k) (by omega)
   refine jM [cellsH b1 [x1, x2] 32, curH .u64 88 cb1 bsv bs.length] L 20 [] [[], [], [0, 1], [2], [], [], [4, 5], [6], [3, 7], [], [], [], [10, 11], [12], [], [], [14, 15], [16], [9, 13, 17], [18]] (phiL [qe x9, qe (ii ((k : Int)) : Value), qe (.pointer (some (elemA x9 (k)))), qe (ii ((clsL ([2, 1, 0]) x3 ts 60).getD k 0)), qe x9, qe (ii ((i : Int)) : Value), qe (.pointer (some (elemA x9 (i)))), qe (ii ((clsL ([2, 1, 0]) x3 ts 60).getD i 0)), qe (.bool (decide (((clsL ([2, 1, 0]) x3 ts 60).getD k 0 : Int) = (clsL ([2, 1, 0]) x3 ts 60).getD i 0)) : Value), qe (.agg #[x1, x2]), qe tv, qe (ii ((i : Int)) : Value), qe (.pointer (some (elemA tv (i)))), qe a4, qe tv, qe (ii ((k : Int)) : Value), qe (.pointer (some (elemA tv (k)))), qe a5, qe (ii (eqB ([2, 1, 0]) x3 ((ts.getD i [])) ((ts.getD k [])) 60)), qe (.bool (decide ((eqB ([2, 1, 0]) x3 ((ts.getD i [])) ((ts.getD k [])) 60 : Int) = 1)) : Value)]) (ownL []) mixed rfl rfl (by kernel_rfl) ?_ ?_
   ·refine pD (fun W R z9 => ?_) ?_
    ·refine qh (qm (x9) rfl ?_)
     exact ⟨rfl, rfl, rfl⟩
    refine pD (fun W R z9 => ?_) ?_
    ·refine qh (qm (ii ((k : Int))) rfl ?_)
     exact ⟨rfl, rfl, rfl⟩
    refine pD (fun W R z9 => ?_) ?_
    ·rw [eS (l := [(0, _), (1, _)]) ⟨z9 0 rfl, z9 1 rfl, ⟨⟩⟩]
     refine qh (qB k qd qw rfl rfl rfl hr16.slv (by omega) (Nat.mul_one _) ?_)
     exact ⟨rfl, rfl, rfl⟩
    refine pD (fun W R z9 => ?_) ?_
    ·rw [eS (l := [(2, _)]) ⟨z9 2 rfl, ⟨⟩⟩]
     refine qh (qj jj rfl (hr16.rd (by omega)) ?_)
     exact ⟨rfl, rfl, rfl⟩
    refine pD (fun W R z9 => ?_) ?_
    ·refine qh (qm (x9) rfl ?_)
     exact ⟨rfl, rfl, rfl⟩
    refine pD (fun W R z9 => ?_) ?_
    ·refine qh (qm (ii ((i : Int))) rfl ?_)
     exact ⟨rfl, rfl, rfl⟩
    refine pD (fun W R z9 => ?_) ?_
    ·rw [eS (l := [(4, _), (5, _)]) ⟨z9 4 rfl, z9 5 rfl, ⟨⟩⟩]
     refine qh (qB i qd qw rfl rfl rfl hr16.slv (by omega) (Nat.mul_one _) ?_)
     exact ⟨rfl, rfl, rfl⟩
    refine pD (fun W R z9 => ?_) ?_
    ·rw [eS (l := [(6, _)]) ⟨z9 6 rfl, ⟨⟩⟩]
     refine qh (qj jj rfl (hr16.rd (by omega)) ?_)
     exact ⟨rfl, rfl, rfl⟩
    refine pD (fun W R z9 => ?_) ?_
    ·rw [eS (l := [(3, _), (7, _)]) ⟨z9 3 rfl, z9 7 rfl, ⟨⟩⟩]
     refine qh (jq rfl rfl ?_)
     exact ⟨rfl, rfl, rfl⟩
    refine pD (fun W R z9 => ?_) ?_
    ·refine qh (qq [x1, x2] qX qL rfl rfl (Rd.ownN [] rfl rfl) ?_)
     exact ⟨rfl, rfl, rfl⟩
    refine pD (fun W R z9 => ?_) ?_
    ·refine qh (qm (tv) rfl ?_)
     exact ⟨rfl, rfl, rfl⟩
    refine pD (fun W R z9 => ?_) ?_
    ·refine qh (qm (ii ((i : Int))) rfl ?_)
     exact ⟨rfl, rfl, rfl⟩
    refine pD (fun W R z9 => ?_) ?_
    ·rw [eS (l := [(10, _), (11, _)]) ⟨z9 10 rfl, z9 11 rfl, ⟨⟩⟩]
     refine qh (qB i qy qu rfl rfl rfl hf1.slv (by omega) (Nat.mul_one _) ?_)
     exact ⟨rfl, rfl, rfl⟩
    refine pD (fun W R z9 => ?_) ?_
    ·rw [eS (l := [(12, _)]) ⟨z9 12 rfl, ⟨⟩⟩]
     refine qh (qj qY rfl (hr21 _) ?_)
     exact ⟨rfl, rfl, rfl⟩
    refine pD (fun W R z9 => ?_) ?_
    ·refine qh (qm (tv) rfl ?_)
     exact ⟨rfl, rfl, rfl⟩
    refine pD (fun W R z9 => ?_) ?_
    ·refine qh (qm (ii ((k : Int))) rfl ?_)
     exact ⟨rfl, rfl, rfl⟩
    refine pD (fun W R z9 => ?_) ?_
    ·rw [eS (l := [(14, _), (15, _)]) ⟨z9 14 rfl, z9 15 rfl, ⟨⟩⟩]
     refine qh (qB k qy qu rfl rfl rfl hf1.slv (by omega) (Nat.mul_one _) ?_)
     exact ⟨rfl, rfl, rfl⟩
    refine pD (fun W R z9 => ?_) ?_
    ·rw [eS (l := [(16, _)]) ⟨z9 16 rfl, ⟨⟩⟩]
     refine qh (qj qY rfl (hr22 _) ?_)
     exact ⟨rfl, rfl, rfl⟩
    refine pD (fun W R z9 => ?_) ?_
    ·rw [eS (l := [(9, _), (13, _), (17, _)]) ⟨z9 9 rfl, z9 13 rfl, z9 17 rfl, ⟨⟩⟩]
     refine qh (qp (args := [.agg #[x1, x2], a4, a5, ii (60)]) call20 rfl (EqualBy_spec (n := 60) hr1 hr2 ha4 ha5) ?_)
     rintro _ _ _ _ ⟨rfl, rfl, rfl⟩
     exact ⟨rfl, rfl, rfl⟩
    refine pD (fun W R z9 => ?_) ?_
    ·rw [eS (l := [(18, _)]) ⟨z9 18 rfl, ⟨⟩⟩]
     refine qh (jq rfl rfl ?_)
     exact ⟨rfl, rfl, rfl⟩
    exact stepsP.nil
   intro W hphi
   rw [eS (l := [(8, _), (19, _)]) ⟨(hphi 8 (by decide)), (hphi 19 (by decide)), ⟨⟩⟩]
   show XL _ _ _ _ _ _ _ (cellsH b1 [x1, x2] 32 :: curH .u64 88 cb1 bsv bs.length :: L)
   refine cX (XOp.neB (a := decide (((clsL ([2, 1, 0]) x3 ts 60).getD k 0 : Int) = (clsL ([2, 1, 0]) x3 ts 60).getD i 0)) (b := decide ((eqB ([2, 1, 0]) x3 ((ts.getD i [])) ((ts.getD k [])) 60 : Int) = 1)) runUnderlying4 rfl rfl (qb ?_))
   refine qA (p := (decide (((clsL ([2, 1, 0]) x3 ts 60).getD k 0 : Int) = (clsL ([2, 1, 0]) x3 ts 60).getD i 0)) ≠ (decide ((eqB ([2, 1, 0]) x3 ((ts.getD i [])) ((ts.getD k [])) 60 : Int) = 1))) rfl (fun h10 => ?_) (fun h10 => ?_)
   ·exfalso
    have h9 := (hli (by omega)).2.2.2 k (by omega)
    exact h10 (by simp only [h9])
   refine qx (qa (qf (ii ((k : Int))) rfl (cX (qK (((k + 1 : Nat) : Int)) rfl rfl (by omega) (by omega) (qg (ii (((k + 1 : Nat) : Int))) rfl (qb ?_))))))
   exact ⟨(k + 1, G3), _, leG3, rF, ⟨rfl, rfl, rfl, rfl, rfl, ⟨⟩⟩, (sC (sC sR)), ⟨rfl, leG3, (by (try dsimp only) <;> omega)⟩, (by omega)⟩
  refine je (qv (qv (qN (qa (qf (ii ((i : Int))) rfl (cX (qK (((i + 1 : Nat) : Int)) rfl rfl (by omega) (by omega) (qg (ii (((i + 1 : Nat) : Int))) rfl (qb ?_)))))))))
  exact ⟨(i + 1, G3), _, (qk leG2 leG3), rF, ⟨rfl, rfl, rfl, rfl, ⟨⟩⟩, (sC (sC sR)), ⟨rfl, (qk leG2 leG3), (by (try dsimp only) <;> omega)⟩, (by omega)⟩
 refine je (qv (qv (qN (qc (qa (qg (.bool (true)) rfl (qb (qr (qo (L' := L) [.bool (true)] (.bool (true)) (.tmp rfl .nil) rfl rF (qk (qk (qk (qk (qk le1 leG1) le6) le7) le8) leG2) (sD (sD sR)) ?_)))))))))
 exact ⟨rfl, rfl, rfl⟩
end Go.Proofs.Ytcdjpapjjoldeaa
