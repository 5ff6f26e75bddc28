/-
  Walks, one after the other (part 3).
-/
import Derived.Test.YtnloeeaidknblaaQAL1
import Derived.Test.YtnloeeaidknblaaQAB1
set_option linter.unusedSimpArgs false
set_option linter.unusedVariables false
namespace Go.Proofs.Ytnloeeaidknblaa
open Go X M Try

/- laws.szStep -/
theorem szStep_spec {F : FH} {L : List HP} {i : Int} {j : Int} {lv : Value} {l : List Int} (hl : IntsF F lv l) {z : Int} (hz : 0 ≤ z ∧ z ≤ 4000000) (hll : l.length ≤ 9223372036854775807) :
    Does prog 141 [.agg #[.int .i64 (i), .int .i64 (j), lv], .int .i64 (z)] F (L) (fun v F' L' => (.int .i64 (dec z l.length) : Value) = v ∧ F = F' ∧ L = L') := by
 refine Does.of_X func141 rfl rfl rfl ?_
 have hdr := dec_range z l.length
 refine X.seq (X.region ?_)
 refine cX (XOp.box [.int .i64 (i), .int .i64 (j), lv] rfl rfl ?_)
 intro b1
 refine XL.as (.int .i64 (0)) rfl ?_
 refine XL.nil (X.seq (X.region ?_))
 refine cX (XOp.fieldP (b := b1) (2) runUnderlying175 rfl sizeOf22 (by decide) rfl rfl ?_)
 refine cX (XOp.load1 (v := lv) isAgg22 rfl (Rd.own [] rfl rfl) ?_)
 refine XL.mv (.int .i64 (z)) rfl ?_
 refine cX (XOp.call (args := [lv, .int .i64 (z)]) call55 rfl (szInt64S_spec (z := z) hl (hz := (by first | assumption | rfl | omega | simp)) (hlx := (by first | assumption | rfl | omega | simp))) ?_)
 rintro _ _ _ _ ⟨rfl, rfl, rfl⟩
 refine XL.as (.int .i64 (dec z l.length)) rfl ?_
 refine XL.nil (X.seq (X.seq (X.region ?_)))
 refine XL.mv (.int .i64 (dec z l.length)) rfl ?_
 refine cX (XOp.lss (a := dec z l.length) (b := 0) rfl rfl ?_)
 refine XL.nil ?_
 refine X.condD (p := (dec z l.length : Int) < 0) rfl (fun h1 => ?_) (fun h1 => ?_)
 ·refine X.seq (X.region ?_)
  refine XL.as (.int .i64 (-1)) rfl ?_
  refine XL.nil ?_
  refine X.ret (thenQ_ret (retEnd (L' := L) [.int .i64 (-1)] (.int .i64 (-1)) (.tmp rfl .nil) rfl rF rF (Sub.drop sR) ?_))
  exact ⟨(vI (by omega)), rfl, rfl⟩
 ·refine X.skip (X.seq (X.region ?_))
  refine XL.mv (.int .i64 (dec z l.length)) rfl ?_
  refine XL.as (.int .i64 (dec z l.length)) rfl ?_
  refine XL.nil ?_
  refine X.ret (retEnd (L' := L) [.int .i64 (dec z l.length)] (.int .i64 (dec z l.length)) (.tmp rfl .nil) rfl rF rF (Sub.drop sR) ?_)
  exact ⟨rfl, rfl, rfl⟩

/- laws.szStepS -/
theorem szStepS_spec {F : FH} {L : List HP} {rsv : Value} {rs : List StepT} (hrs : StepsF F rsv rs) {z : Int} (hz : 0 ≤ z ∧ z ≤ 4000000) (hrl : rs.length ≤ 9223372036854775807) (hrb : ∀ i, i < rs.length → (rs.getD i (0, 0, [])).2.2.length ≤ 9223372036854775807) :
    Does prog 85 [rsv, .int .i64 (z)] F (L) (fun v F' L' => (.int .i64 (dec z (szG lenS rs)) : Value) = v ∧ F = F' ∧ L = L') := by
 refine Does.of_X func85 rfl rfl rfl ?_
 refine X.seq (X.region ?_)
 refine XL.as (.int .i64 (0)) rfl ?_
 refine XL.nil (X.seq (X.region ?_))
 refine XL.mv (.int .i64 (z)) rfl ?_
 refine XL.mv (rsv) rfl ?_
 refine cX (XOp.lenS (v := rsv) (n := (rs).length) runUnderlying67 rfl hrs.slv ?_)
 refine cX (XOp.subR (a := z) (b := (rs.length : Int)) (z - ((rs.length : Int))) rfl rfl (by omega) (by omega) ?_)
 refine XL.as (.int .i64 (z - ((rs.length : Int)))) rfl ?_
 refine XL.nil (X.seq (X.seq (X.region ?_)))
 refine XL.mv (.int .i64 (z - ((rs.length : Int)))) rfl ?_
 refine cX (XOp.lss (a := z - ((rs.length : Int))) (b := 0) rfl rfl ?_)
 refine XL.nil ?_
 refine X.condD (p := (z - ((rs.length : Int)) : Int) < 0) rfl (fun h1 => ?_) (fun h1 => ?_)
 ·refine X.seq (X.region ?_)
  refine XL.as (.int .i64 (-1)) rfl ?_
  refine XL.nil ?_
  refine X.ret (thenQ_ret (retEnd (L' := L) [.int .i64 (-1)] (.int .i64 (-1)) (.tmp rfl .nil) rfl rF rF sR ?_))
  exact ⟨(vI (dec_mono (n := rs.length) (by rw [dec_neg (by omega)]; omega) (by unfold szG; omega))), rfl, rfl⟩
 ·refine X.skip (X.seq (X.seq (X.region ?_)))
  refine XL.as (.int .i64 (0)) rfl ?_
  refine XL.nil (X.block ?_)
  refine X.loop (α := Nat) (fun k => [(0, rsv), (1, .int .i64 (dec z (rs.length + gTo lenS rs k))), (5, .int .i64 ((k : Int)))]) (fun k => L) (fun k F' => F = F' ∧ (k ≤ rs.length) ∧ (0 ≤ dec z (rs.length + gTo lenS rs k))) (fun k => rs.length - k) 0 ⟨rfl, (vI (by show z - rs.length = dec z (rs.length + 0); rw [Nat.add_zero, dec_pos (by omega)])), rfl, trivial⟩ sR ⟨rfl, (by (try dsimp only) <;> omega), (by show 0 ≤ dec z (rs.length + 0); rw [Nat.add_zero, dec_pos (by omega)]; omega)⟩ ?_
  rintro k rE _ _ ⟨rfl, hk, hnn⟩
  show X _ _ _ _ (envs [(0, rsv), (1, .int .i64 (dec z (rs.length + gTo lenS rs k))), (5, .int .i64 ((k : Int)))] rE) _ (L)
  have hdr := dec_range z (rs.length + gTo lenS rs k)
  have hrk := hrb k
  have hgk : lenS (rs.getD k (0, 0, [])) = (rs.getD k (0, 0, [])).2.2.length := rfl
  refine X.seq (X.seq (X.region ?_))
  refine XL.mv (.int .i64 ((k : Int))) rfl ?_
  refine XL.mv (rsv) rfl ?_
  refine cX (XOp.lenS (v := rsv) (n := (rs).length) runUnderlying67 rfl hrs.slv ?_)
  refine cX (XOp.lss (a := (k : Int)) (b := (rs.length : Int)) rfl rfl ?_)
  refine XL.nil ?_
  refine X.condD (p := (k : Int) < (rs.length : Int)) rfl (fun h2 => ?_) (fun h2 => ?_)
  ·refine X.skip (X.seq (X.block (X.seq (X.region ?_))))
   refine XL.mv (rsv) rfl ?_
   refine XL.mv (.int .i64 ((k : Int))) rfl ?_
   refine cX (XOp.indexS (v := rsv) (i := (k : Int)) (n := (rs).length) k runUnderlying67 sizeOf175 rfl rfl rfl hrs.slv (by omega) rfl ?_)
   obtain ⟨a1, ha1, hr1, hr2, hr3⟩ := hrs.rd (i := k) (by omega)
   refine cX (XOp.loadN [.int .i64 ((rs.getD k (0, 0, [])).1), .int .i64 ((rs.getD k (0, 0, [])).2.1), a1] isAgg175 sizeOf175 rfl rfl (Rd.three (hr1 _) (hr2 _) (hr3 _)) ?_)
   refine XL.mv (.int .i64 (dec z (rs.length + gTo lenS rs k))) rfl ?_
   refine cX (XOp.call (args := [.agg #[.int .i64 ((rs.getD k (0, 0, [])).1), .int .i64 ((rs.getD k (0, 0, [])).2.1), a1], .int .i64 (dec z (rs.length + gTo lenS rs k))]) call141 rfl (szStep_spec (z := dec z (rs.length + gTo lenS rs k)) ha1 (hz := (by first | assumption | rfl | omega | simp)) (hll := (by first | assumption | rfl | omega | simp))) ?_)
   rintro _ _ _ _ ⟨rfl, rfl, rfl⟩
   refine XL.as (.int .i64 (dec (dec z (rs.length + gTo lenS rs k)) ((rs.getD k (0, 0, [])).2.2).length)) rfl ?_
   refine XL.nil (X.seq (X.region ?_))
   refine XL.mv (.int .i64 (dec (dec z (rs.length + gTo lenS rs k)) ((rs.getD k (0, 0, [])).2.2).length)) rfl ?_
   refine cX (XOp.lss (a := dec (dec z (rs.length + gTo lenS rs k)) ((rs.getD k (0, 0, [])).2.2).length) (b := 0) rfl rfl ?_)
   refine XL.nil ?_
   refine X.condD (p := (dec (dec z (rs.length + gTo lenS rs k)) ((rs.getD k (0, 0, [])).2.2).length : Int) < 0) rfl (fun h3 => ?_) (fun h3 => ?_)
   ·refine X.seq (X.region ?_)
    refine XL.as (.int .i64 (-1)) rfl ?_
    refine XL.nil ?_
    refine X.ret (blockQ_ret (thenQ_ret (thenQ_ret (blockQ_ret (thenQ_ret (retEnd (L' := L) [.int .i64 (-1)] (.int .i64 (-1)) (.tmp rfl .nil) rfl rF rF sR ?_))))))
    exact ⟨(vI (by have h9 := gTo_le (f := lenS) (l := rs) ((0 : Int), (0 : Int), ([] : List Int)) (k + 1) rs.length (by omega) (Nat.le_refl _); refine dec_mono (n := rs.length + gTo lenS rs (k + 1)) ?_ (by unfold szG; omega); rw [← gTo_succ ((0 : Int), (0 : Int), ([] : List Int)) (by omega), ← Nat.add_assoc, ← dec_dec (by omega)]; assumption)), rfl, rfl⟩
   ·refine X.skip (X.region ?_)
    refine XL.mv (.int .i64 ((k : Int))) rfl ?_
    refine cX (XOp.addR (a := (k : Int)) (b := 1) (((k + 1 : Nat) : Int)) rfl rfl (by omega) (by omega) ?_)
    refine XL.as (.int .i64 (((k + 1 : Nat) : Int))) rfl ?_
    refine XL.nil ?_
    exact ⟨k + 1, _, FLe.refl _, rF, ⟨rfl, (vI (by rw [dec_dec (by omega), Nat.add_assoc, ← gTo_succ ((0 : Int), (0 : Int), ([] : List Int)) (by omega)]; rfl)), rfl, trivial⟩, sR, ⟨rfl, (by (try dsimp only) <;> omega), (by (try dsimp only); rw [← gTo_succ ((0 : Int), (0 : Int), ([] : List Int)) (by omega), ← Nat.add_assoc, ← dec_dec (by omega)]; exact Int.not_lt.1 (by assumption))⟩, (by omega)⟩
  ·refine X.exit (thenQ_exit (thenQ_exit (blockQ_exit ?_)))
   refine X.seq (X.region ?_)
   refine XL.mv (.int .i64 (dec z (rs.length + gTo lenS rs k))) rfl ?_
   refine XL.as (.int .i64 (dec z (rs.length + gTo lenS rs k))) rfl ?_
   refine XL.nil ?_
   refine X.ret (retEnd (L' := L) [.int .i64 (dec z (rs.length + gTo lenS rs k))] (.int .i64 (dec z (rs.length + gTo lenS rs k))) (.tmp rfl .nil) rfl rF rF sR ?_)
   exact ⟨(vI (by rw [szG, show k = rs.length from by omega])), rfl, rfl⟩

/- laws.szWalk -/
theorem szWalk_spec {F : FH} {L : List HP} {fv : Value} {f : List Int} (hf : IntsF F fv f) {rsv : Value} {rs : List StepT} (hrs : StepsF F rsv rs) {z : Int} (hz : 0 ≤ z ∧ z ≤ 4000000) (hal : f.length ≤ 9223372036854775807) (hrl : rs.length ≤ 9223372036854775807) (hrb : ∀ i, i < rs.length → (rs.getD i (0, 0, [])).2.2.length ≤ 9223372036854775807) :
    Does prog 35 [.agg #[fv, rsv], .int .i64 (z)] F (L) (fun v F' L' => (.int .i64 (dec z (f.length + szG lenS rs)) : Value) = v ∧ F = F' ∧ L = L') := by
 refine Does.of_X func35 rfl rfl rfl ?_
 have hdr := dec_range z f.length
 refine X.seq (X.region ?_)
 refine cX (XOp.box [fv, rsv] rfl rfl ?_)
 intro b1
 refine XL.as (.int .i64 (0)) rfl ?_
 refine XL.nil (X.seq (X.region ?_))
 refine cX (XOp.fieldP (b := b1) (0) runUnderlying69 rfl sizeOf22 (by decide) rfl rfl ?_)
 refine cX (XOp.load1 (v := fv) isAgg22 rfl (Rd.own [] rfl rfl) ?_)
 refine XL.mv (.int .i64 (z)) rfl ?_
 refine cX (XOp.call (args := [fv, .int .i64 (z)]) call55 rfl (szInt64S_spec (z := z) hf (hz := (by first | assumption | rfl | omega | simp)) (hlx := (by first | assumption | rfl | omega | simp))) ?_)
 rintro _ _ _ _ ⟨rfl, rfl, rfl⟩
 refine XL.as (.int .i64 (dec z f.length)) rfl ?_
 refine XL.nil (X.seq (X.seq (X.region ?_)))
 refine XL.mv (.int .i64 (dec z f.length)) rfl ?_
 refine cX (XOp.lss (a := dec z f.length) (b := 0) rfl rfl ?_)
 refine XL.nil ?_
 refine X.condD (p := (dec z f.length : Int) < 0) rfl (fun h1 => ?_) (fun h1 => ?_)
 ·refine X.seq (X.region ?_)
  refine XL.as (.int .i64 (-1)) rfl ?_
  refine XL.nil ?_
  refine X.ret (thenQ_ret (retEnd (L' := L) [.int .i64 (-1)] (.int .i64 (-1)) (.tmp rfl .nil) rfl rF rF (Sub.drop sR) ?_))
  exact ⟨(vI (dec_out (by omega))), rfl, rfl⟩
 ·refine X.skip (X.seq (X.region ?_))
  refine cX (XOp.fieldP (b := b1) (1) runUnderlying69 rfl sizeOf67 (by decide) rfl rfl ?_)
  refine cX (XOp.load1 (v := rsv) isAgg67 rfl (Rd.own [] rfl rfl) ?_)
  refine XL.mv (.int .i64 (dec z f.length)) rfl ?_
  refine cX (XOp.call (args := [rsv, .int .i64 (dec z f.length)]) call85 rfl (szStepS_spec (z := dec z f.length) hrs (hz := (by first | assumption | rfl | omega | simp)) (hrl := (by first | assumption | rfl | omega | simp)) (hrb := (by first | assumption | rfl | omega | simp))) ?_)
  rintro _ _ _ _ ⟨rfl, rfl, rfl⟩
  refine XL.as (.int .i64 (dec (dec z f.length) (szG lenS rs))) rfl ?_
  refine XL.nil (X.seq (X.seq (X.region ?_)))
  refine XL.mv (.int .i64 (dec (dec z f.length) (szG lenS rs))) rfl ?_
  refine cX (XOp.lss (a := dec (dec z f.length) (szG lenS rs)) (b := 0) rfl rfl ?_)
  refine XL.nil ?_
  refine X.condD (p := (dec (dec z f.length) (szG lenS rs) : Int) < 0) rfl (fun h2 => ?_) (fun h2 => ?_)
  ·refine X.seq (X.region ?_)
   refine XL.as (.int .i64 (-1)) rfl ?_
   refine XL.nil ?_
   refine X.ret (thenQ_ret (retEnd (L' := L) [.int .i64 (-1)] (.int .i64 (-1)) (.tmp rfl .nil) rfl rF rF (Sub.drop sR) ?_))
   exact ⟨(vI (by rw [← dec_dec (by omega)]; have := (dec_range (dec z f.length) (szG lenS rs)).1; omega)), rfl, rfl⟩
  ·refine X.skip (X.seq (X.region ?_))
   refine XL.mv (.int .i64 (dec (dec z f.length) (szG lenS rs))) rfl ?_
   refine XL.as (.int .i64 (dec (dec z f.length) (szG lenS rs))) rfl ?_
   refine XL.nil ?_
   refine X.ret (retEnd (L' := L) [.int .i64 (dec (dec z f.length) (szG lenS rs))] (.int .i64 (dec (dec z f.length) (szG lenS rs))) (.tmp rfl .nil) rfl rF rF (Sub.drop sR) ?_)
   exact ⟨(vI ((dec_dec (by omega)).symm)), rfl, rfl⟩

/- laws.eqStep -/
theorem eqStep_spec {F : FH} {L : List HP} {i : Int} {j : Int} {av : Value} {a : List Int} (ha : IntsF F av a) {p : Int} {q : Int} {bv : Value} {b : List Int} (hb : IntsF F bv b) (hbd : a.length ≤ 9223372036854775807 ∨ b.length ≤ 9223372036854775807) :
    Does prog 147 [.agg #[.int .i64 (i), .int .i64 (j), av], .agg #[.int .i64 (p), .int .i64 (q), bv]] F (L) (fun v F' L' => (.bool (decide ((i, j, a) = (p, q, b))) : Value) = v ∧ F = F' ∧ L = L') := by
 refine Does.of_X func147 rfl rfl rfl ?_
 refine X.seq (X.region ?_)
 refine cX (XOp.box [.int .i64 (i), .int .i64 (j), av] rfl rfl ?_)
 intro b1
 refine cX (XOp.box [.int .i64 (p), .int .i64 (q), bv] rfl rfl ?_)
 intro b2
 refine XL.as (.bool (false)) rfl ?_
 refine XL.nil (X.seq (X.seq (X.region ?_)))
 refine cX (XOp.fieldP (b := b1) (0) runUnderlying119 rfl sizeOf2 (by decide) rfl rfl ?_)
 refine cX (XOp.load1 (v := .int .i64 (i)) isAgg2 rfl (Rd.own [_] rfl rfl) ?_)
 refine cX (XOp.fieldP (b := b2) (0) runUnderlying119 rfl sizeOf2 (by decide) rfl rfl ?_)
 refine cX (XOp.load1 (v := .int .i64 (p)) isAgg2 rfl (Rd.own [] rfl rfl) ?_)
 refine cX (XOp.neq (a := i) (b := p) rfl rfl ?_)
 refine XL.nil ?_
 refine X.condD (p := (i : Int) ≠ p) rfl (fun h1 => ?_) (fun h1 => ?_)
 ·refine X.seq (X.region ?_)
  refine XL.as (.bool (false)) rfl ?_
  refine XL.nil ?_
  refine X.ret (thenQ_ret (retEnd (L' := L) [.bool (false)] (.bool (false)) (.tmp rfl .nil) rfl rF rF (Sub.drop (Sub.drop sR)) ?_))
  exact ⟨(vB (decide_eq_false (by intro e; simp_all))), rfl, rfl⟩
 ·refine X.skip (X.seq (X.seq (X.region ?_)))
  refine cX (XOp.fieldP (b := b1) (1) runUnderlying119 rfl sizeOf2 (by decide) rfl rfl ?_)
  refine cX (XOp.load1 (v := .int .i64 (j)) isAgg2 rfl (Rd.own [_] rfl rfl) ?_)
  refine cX (XOp.fieldP (b := b2) (1) runUnderlying119 rfl sizeOf2 (by decide) rfl rfl ?_)
  refine cX (XOp.load1 (v := .int .i64 (q)) isAgg2 rfl (Rd.own [] rfl rfl) ?_)
  refine cX (XOp.neq (a := j) (b := q) rfl rfl ?_)
  refine XL.nil ?_
  refine X.condD (p := (j : Int) ≠ q) rfl (fun h2 => ?_) (fun h2 => ?_)
  ·refine X.seq (X.region ?_)
   refine XL.as (.bool (false)) rfl ?_
   refine XL.nil ?_
   refine X.ret (thenQ_ret (retEnd (L' := L) [.bool (false)] (.bool (false)) (.tmp rfl .nil) rfl rF rF (Sub.drop (Sub.drop sR)) ?_))
   exact ⟨(vB (decide_eq_false (by intro e; simp_all))), rfl, rfl⟩
  ·refine X.skip (X.seq (X.seq (X.region ?_)))
   refine cX (XOp.fieldP (b := b1) (2) runUnderlying119 rfl sizeOf22 (by decide) rfl rfl ?_)
   refine cX (XOp.load1 (v := av) isAgg22 rfl (Rd.own [_] rfl rfl) ?_)
   refine cX (XOp.fieldP (b := b2) (2) runUnderlying119 rfl sizeOf22 (by decide) rfl rfl ?_)
   refine cX (XOp.load1 (v := bv) isAgg22 rfl (Rd.own [] rfl rfl) ?_)
   refine cX (XOp.call (args := [av, bv]) call22 rfl (eqInt64S_spec ha hb (hbd := (by first | assumption | rfl | omega | (left; simp; done) | (right; simp; done)))) ?_)
   rintro _ _ _ _ ⟨rfl, rfl, rfl⟩
   refine cX (XOp.notD (p := a = b) rfl ?_)
   refine XL.nil ?_
   refine X.condD (p := ¬(a = b)) rfl (fun h3 => ?_) (fun h3 => ?_)
   ·refine X.seq (X.region ?_)
    refine XL.as (.bool (false)) rfl ?_
    refine XL.nil ?_
    refine X.ret (thenQ_ret (retEnd (L' := L) [.bool (false)] (.bool (false)) (.tmp rfl .nil) rfl rF rF (Sub.drop (Sub.drop sR)) ?_))
    exact ⟨(vB (decide_eq_false (by intro e; simp_all))), rfl, rfl⟩
   ·refine X.skip (X.seq (X.region ?_))
    refine XL.as (.bool (true)) rfl ?_
    refine XL.nil ?_
    refine X.ret (retEnd (L' := L) [.bool (true)] (.bool (true)) (.tmp rfl .nil) rfl rF rF (Sub.drop (Sub.drop sR)) ?_)
    exact ⟨(vB (decide_eq_true (by simp_all))), rfl, rfl⟩

/- laws.eqStepS -/
theorem eqStepS_spec {F : FH} {L : List HP} {av : Value} {a : List StepT} (ha : StepsF F av a) {bv : Value} {b : List StepT} (hb : StepsF F bv b) (hal : a.length ≤ 9223372036854775807) (hbd : ∀ i, i < a.length → (a.getD i (0, 0, [])).2.2.length ≤ 9223372036854775807) :
    Does prog 93 [av, bv] F (L) (fun v F' L' => (.bool (decide (a = b)) : Value) = v ∧ F = F' ∧ L = L') := by
 refine Does.of_X func93 rfl rfl rfl ?_
 refine X.seq (X.region ?_)
 refine XL.as (.bool (false)) rfl ?_
 refine XL.nil (X.seq (X.seq (X.region ?_)))
 refine XL.mv (av) rfl ?_
 refine cX (XOp.lenS (v := av) (n := (a).length) runUnderlying71 rfl ha.slv ?_)
 refine XL.mv (bv) rfl ?_
 refine cX (XOp.lenS (v := bv) (n := (b).length) runUnderlying71 rfl hb.slv ?_)
 refine cX (XOp.neq (a := (a.length : Int)) (b := (b.length : Int)) rfl rfl ?_)
 refine XL.nil ?_
 refine X.condD (p := ((a.length : Int) : Int) ≠ (b.length : Int)) rfl (fun h1 => ?_) (fun h1 => ?_)
 ·refine X.seq (X.region ?_)
  refine XL.as (.bool (false)) rfl ?_
  refine XL.nil ?_
  refine X.ret (thenQ_ret (retEnd (L' := L) [.bool (false)] (.bool (false)) (.tmp rfl .nil) rfl rF rF sR ?_))
  exact ⟨(vB (decide_eq_false (fun e => by rw [e] at h1; omega))), rfl, rfl⟩
 ·refine X.skip (X.seq (X.seq (X.region ?_)))
  refine XL.as (.int .i64 (0)) rfl ?_
  refine XL.nil (X.block ?_)
  refine X.loop (α := Nat) (fun k => [(0, av), (1, bv), (5, .int .i64 ((k : Int)))]) (fun k => L) (fun k F' => F = F' ∧ (k ≤ a.length) ∧ (∀ i, i < k → a.getD i ((0 : Int), (0 : Int), ([] : List Int)) = b.getD i ((0 : Int), (0 : Int), ([] : List Int)))) (fun k => a.length - k) 0 ⟨rfl, rfl, rfl, trivial⟩ sR ⟨rfl, (by (try dsimp only) <;> omega), (fun i hi => absurd hi (by omega))⟩ ?_
  rintro k rE _ _ ⟨rfl, hk, hall⟩
  show X _ _ _ _ (envs [(0, av), (1, bv), (5, .int .i64 ((k : Int)))] rE) _ (L)
  have hbk := hbd k
  refine X.seq (X.seq (X.region ?_))
  refine XL.mv (.int .i64 ((k : Int))) rfl ?_
  refine XL.mv (av) rfl ?_
  refine cX (XOp.lenS (v := av) (n := (a).length) runUnderlying71 rfl ha.slv ?_)
  refine cX (XOp.lss (a := (k : Int)) (b := (a.length : Int)) rfl rfl ?_)
  refine XL.nil ?_
  refine X.condD (p := (k : Int) < (a.length : Int)) rfl (fun h2 => ?_) (fun h2 => ?_)
  ·refine X.skip (X.seq (X.block (X.seq ?_)))
   obtain ⟨a1, ha1, hr1, hr2, hr3⟩ := ha.rd (i := k) (by omega)
   obtain ⟨a2, ha2, hr4, hr5, hr6⟩ := hb.rd (i := k) (by omega)
   refine X.draw [] L 8 [[], [], [], [], [], [], [], []] [[], [], [0, 1], [2], [], [], [4, 5], [6]] (phiL [fun us v => v = av, fun us v => v = (.int .i64 ((k : Int)) : Value), fun us v => v = (.pointer (some (elemA av (k * 3))) : Value), fun us v => v = (.agg #[.int .i64 ((a.getD k (0, 0, [])).1), .int .i64 ((a.getD k (0, 0, [])).2.1), a1] : Value), fun us v => v = bv, fun us v => v = (.int .i64 ((k : Int)) : Value), fun us v => v = (.pointer (some (elemA bv (k * 3))) : Value), fun us v => v = (.agg #[.int .i64 ((b.getD k (0, 0, [])).1), .int .i64 ((b.getD k (0, 0, [])).2.1), a2] : Value)]) (ownL [fun us v => [], fun us v => [], fun us v => [], fun us v => [], fun us v => [], fun us v => [], fun us v => [], fun us v => []]) mixed rfl rfl (by kernel_rfl) ?_ ?_
   ·refine stepsP.cons (fun vals R hpZ => ?_) ?_
    ·refine XG.op (XOp.move (av) rfl ?_)
     exact ⟨rfl, rfl, rfl⟩
    refine stepsP.cons (fun vals R hpZ => ?_) ?_
    ·refine XG.op (XOp.move (.int .i64 ((k : Int))) rfl ?_)
     exact ⟨rfl, rfl, rfl⟩
    refine stepsP.cons (fun vals R hpZ => ?_) ?_
    ·rw [eS (l := [(0, av), (1, (.int .i64 ((k : Int)) : Value))]) ⟨hpZ 0 (by decide), hpZ 1 (by decide), trivial⟩]
     refine XG.op (XOp.indexS (v := av) (i := (k : Int)) (n := (a).length) k runUnderlying71 sizeOf119 rfl rfl rfl ha.slv (by omega) rfl ?_)
     exact ⟨rfl, rfl, rfl⟩
    refine stepsP.cons (fun vals R hpZ => ?_) ?_
    ·rw [eS (l := [(2, (.pointer (some (elemA av (k * 3))) : Value))]) ⟨hpZ 2 (by decide), trivial⟩]
     refine XG.op (XOp.loadN [.int .i64 ((a.getD k (0, 0, [])).1), .int .i64 ((a.getD k (0, 0, [])).2.1), a1] isAgg119 sizeOf119 rfl rfl (Rd.three (hr1 _) (hr2 _) (hr3 _)) ?_)
     exact ⟨rfl, rfl, rfl⟩
    refine stepsP.cons (fun vals R hpZ => ?_) ?_
    ·refine XG.op (XOp.move (bv) rfl ?_)
     exact ⟨rfl, rfl, rfl⟩
    refine stepsP.cons (fun vals R hpZ => ?_) ?_
    ·refine XG.op (XOp.move (.int .i64 ((k : Int))) rfl ?_)
     exact ⟨rfl, rfl, rfl⟩
    refine stepsP.cons (fun vals R hpZ => ?_) ?_
    ·rw [eS (l := [(4, bv), (5, (.int .i64 ((k : Int)) : Value))]) ⟨hpZ 4 (by decide), hpZ 5 (by decide), trivial⟩]
     refine XG.op (XOp.indexS (v := bv) (i := (k : Int)) (n := (b).length) k runUnderlying71 sizeOf119 rfl rfl rfl hb.slv (by omega) rfl ?_)
     exact ⟨rfl, rfl, rfl⟩
    refine stepsP.cons (fun vals R hpZ => ?_) ?_
    ·rw [eS (l := [(6, (.pointer (some (elemA bv (k * 3))) : Value))]) ⟨hpZ 6 (by decide), trivial⟩]
     refine XG.op (XOp.loadN [.int .i64 ((b.getD k (0, 0, [])).1), .int .i64 ((b.getD k (0, 0, [])).2.1), a2] isAgg119 sizeOf119 rfl rfl (Rd.three (hr4 _) (hr5 _) (hr6 _)) ?_)
     exact ⟨rfl, rfl, rfl⟩
    exact stepsP.nil
   ·intro vals hphi
    rw [eS (l := [(3, (.agg #[.int .i64 ((a.getD k (0, 0, [])).1), .int .i64 ((a.getD k (0, 0, [])).2.1), a1] : Value)), (7, (.agg #[.int .i64 ((b.getD k (0, 0, [])).1), .int .i64 ((b.getD k (0, 0, [])).2.1), a2] : Value))]) ⟨(hphi 3 (by decide)), (hphi 7 (by decide)), trivial⟩]
    show XL _ _ _ _ _ _ _ (L)
    refine cX (XOp.call (args := [.agg #[.int .i64 ((a.getD k (0, 0, [])).1), .int .i64 ((a.getD k (0, 0, [])).2.1), a1], .agg #[.int .i64 ((b.getD k (0, 0, [])).1), .int .i64 ((b.getD k (0, 0, [])).2.1), a2]]) call147 rfl (eqStep_spec ha1 ha2 (hbd := (.inl (hbk (by omega))))) ?_)
    rintro _ _ _ _ ⟨rfl, rfl, rfl⟩
    refine cX (XOp.notD (p := (((a.getD k (0, 0, [])).1), ((a.getD k (0, 0, [])).2.1), ((a.getD k (0, 0, [])).2.2)) = (((b.getD k (0, 0, [])).1), ((b.getD k (0, 0, [])).2.1), ((b.getD k (0, 0, [])).2.2))) rfl ?_)
    refine XL.nil ?_
    refine X.condD (p := ¬((((a.getD k (0, 0, [])).1), ((a.getD k (0, 0, [])).2.1), ((a.getD k (0, 0, [])).2.2)) = (((b.getD k (0, 0, [])).1), ((b.getD k (0, 0, [])).2.1), ((b.getD k (0, 0, [])).2.2)))) rfl (fun h3 => ?_) (fun h3 => ?_)
    ·refine X.seq (X.region ?_)
     refine XL.as (.bool (false)) rfl ?_
     refine XL.nil ?_
     refine X.ret (blockQ_ret (thenQ_ret (thenQ_ret (blockQ_ret (thenQ_ret (retEnd (L' := L) [.bool (false)] (.bool (false)) (.tmp rfl .nil) rfl rF rF sR ?_))))))
     exact ⟨(vB (decide_eq_false (fun e => by subst e; simp at *))), rfl, rfl⟩
    ·refine X.skip (X.region ?_)
     refine XL.mv (.int .i64 ((k : Int))) rfl ?_
     refine cX (XOp.addR (a := (k : Int)) (b := 1) (((k + 1 : Nat) : Int)) rfl rfl (by omega) (by omega) ?_)
     refine XL.as (.int .i64 (((k + 1 : Nat) : Int))) rfl ?_
     refine XL.nil ?_
     exact ⟨k + 1, _, FLe.refl _, rF, ⟨rfl, rfl, rfl, trivial⟩, sR, ⟨rfl, (by (try dsimp only) <;> omega), (fun i hi => (Nat.lt_or_ge i k).elim (fun h => hall i h) (fun h => by obtain rfl : i = k := (by omega); first | assumption | exact Classical.not_not.1 (by assumption)))⟩, (by omega)⟩
  ·refine X.exit (thenQ_exit (thenQ_exit (blockQ_exit ?_)))
   refine X.seq (X.region ?_)
   refine XL.as (.bool (true)) rfl ?_
   refine XL.nil ?_
   refine X.ret (retEnd (L' := L) [.bool (true)] (.bool (true)) (.tmp rfl .nil) rfl rF rF sR ?_)
   exact ⟨(vB (decide_eq_true (ext_any ((0 : Int), (0 : Int), ([] : List Int)) (by omega) (fun i hi => hall i (by omega))))), rfl, rfl⟩

/- laws.eqWalk -/
theorem eqWalk_spec {F : FH} {L : List HP} {fv : Value} {f : List Int} (hf : IntsF F fv f) {av : Value} {a : List StepT} (ha : StepsF F av a) {gv : Value} {g : List Int} (hg : IntsF F gv g) {bv : Value} {b : List StepT} (hb : StepsF F bv b) (hfl : f.length ≤ 9223372036854775807) (hal : a.length ≤ 9223372036854775807) (hbd : ∀ i, i < a.length → (a.getD i (0, 0, [])).2.2.length ≤ 9223372036854775807) :
    Does prog 39 [.agg #[fv, av], .agg #[gv, bv]] F (L) (fun v F' L' => (.bool (decide (f = g ∧ a = b)) : Value) = v ∧ F = F' ∧ L = L') := by
 refine Does.of_X func39 rfl rfl rfl ?_
 refine X.seq (X.region ?_)
 refine cX (XOp.box [fv, av] rfl rfl ?_)
 intro b1
 refine cX (XOp.box [gv, bv] rfl rfl ?_)
 intro b2
 refine XL.as (.bool (false)) rfl ?_
 refine XL.nil (X.seq (X.seq (X.region ?_)))
 refine cX (XOp.fieldP (b := b1) (0) runUnderlying73 rfl sizeOf22 (by decide) rfl rfl ?_)
 refine cX (XOp.load1 (v := fv) isAgg22 rfl (Rd.own [_] rfl rfl) ?_)
 refine cX (XOp.fieldP (b := b2) (0) runUnderlying73 rfl sizeOf22 (by decide) rfl rfl ?_)
 refine cX (XOp.load1 (v := gv) isAgg22 rfl (Rd.own [] rfl rfl) ?_)
 refine cX (XOp.call (args := [fv, gv]) call22 rfl (eqInt64S_spec hf hg (hbd := (.inl hfl))) ?_)
 rintro _ _ _ _ ⟨rfl, rfl, rfl⟩
 refine cX (XOp.notD (p := f = g) rfl ?_)
 refine XL.nil ?_
 refine X.condD (p := ¬(f = g)) rfl (fun h1 => ?_) (fun h1 => ?_)
 ·refine X.seq (X.region ?_)
  refine XL.as (.bool (false)) rfl ?_
  refine XL.nil ?_
  refine X.ret (thenQ_ret (retEnd (L' := L) [.bool (false)] (.bool (false)) (.tmp rfl .nil) rfl rF rF (Sub.drop (Sub.drop sR)) ?_))
  exact ⟨(vB (decide_eq_false (by intro e; simp_all))), rfl, rfl⟩
 ·refine X.skip (X.seq (X.seq (X.region ?_)))
  refine cX (XOp.fieldP (b := b1) (1) runUnderlying73 rfl sizeOf71 (by decide) rfl rfl ?_)
  refine cX (XOp.load1 (v := av) isAgg71 rfl (Rd.own [_] rfl rfl) ?_)
  refine cX (XOp.fieldP (b := b2) (1) runUnderlying73 rfl sizeOf71 (by decide) rfl rfl ?_)
  refine cX (XOp.load1 (v := bv) isAgg71 rfl (Rd.own [] rfl rfl) ?_)
  refine cX (XOp.call (args := [av, bv]) call93 rfl (eqStepS_spec ha hb (hal := (by first | assumption | rfl | omega | simp)) (hbd := (by first | assumption | rfl | omega | simp))) ?_)
  rintro _ _ _ _ ⟨rfl, rfl, rfl⟩
  refine cX (XOp.notD (p := a = b) rfl ?_)
  refine XL.nil ?_
  refine X.condD (p := ¬(a = b)) rfl (fun h2 => ?_) (fun h2 => ?_)
  ·refine X.seq (X.region ?_)
   refine XL.as (.bool (false)) rfl ?_
   refine XL.nil ?_
   refine X.ret (thenQ_ret (retEnd (L' := L) [.bool (false)] (.bool (false)) (.tmp rfl .nil) rfl rF rF (Sub.drop (Sub.drop sR)) ?_))
   exact ⟨(vB (decide_eq_false (by intro e; simp_all))), rfl, rfl⟩
  ·refine X.skip (X.seq (X.region ?_))
   refine XL.as (.bool (true)) rfl ?_
   refine XL.nil ?_
   refine X.ret (retEnd (L' := L) [.bool (true)] (.bool (true)) (.tmp rfl .nil) rfl rF rF (Sub.drop (Sub.drop sR)) ?_)
   exact ⟨(vB (decide_eq_true (by simp_all))), rfl, rfl⟩

/- laws.heldStepS -/
theorem heldStepS_spec {F : FH} {L : List HP} {xv : Value} {x : List StepT} (hx : StepsF F xv x) {z : Int} (hzb : 0 ≤ z ∧ z + ((x.flatMap flatStep).length : Int) ≤ 9000000000) (hxl : x.length ≤ 4000000) :
    Does prog 95 [xv, .int .i64 (z)] F (L) (fun v F' L' => (.int .i64 (heldF (x.flatMap flatStep) z) : Value) = v ∧ F = F' ∧ L = L') := by
 refine Does.of_X func95 rfl rfl rfl ?_
 refine X.seq (X.region ?_)
 refine XL.as (.int .i64 (0)) rfl ?_
 refine XL.nil (X.seq (X.seq (X.region ?_)))
 refine XL.as (.int .i64 (0)) rfl ?_
 refine XL.nil (X.block ?_)
 refine X.loop (α := Nat) (fun k => [(0, xv), (1, .int .i64 (heldF ((x.take k).flatMap flatStep) z)), (5, .int .i64 ((k : Int)))]) (fun k => L) (fun k F' => F = F' ∧ (k ≤ x.length) ∧ (0 ≤ heldF ((x.take k).flatMap flatStep) z)) (fun k => x.length - k) 0 ⟨rfl, (show Value.int .i64 z = .int .i64 (heldF ((x.take 0).flatMap flatStep) z) from congrArg (Value.int .i64) (by simp [heldF_nil])), rfl, trivial⟩ sR ⟨rfl, (by (try dsimp only) <;> omega), (by simp [heldF_nil]; omega)⟩ ?_
 rintro k rE _ _ ⟨rfl, hk, hnn⟩
 show X _ _ _ _ (envs [(0, xv), (1, .int .i64 (heldF ((x.take k).flatMap flatStep) z)), (5, .int .i64 ((k : Int)))] rE) _ (L)
 have hhp := heldF_pos (a := (x.take k).flatMap flatStep) (k := z) (by omega)
 have htl := fun (h : k < x.length) => flat_take_le (f := flatStep) (l := x) ((0 : Int), (0 : Int), ([] : List Int)) h
 have hnx := fun (h : k < x.length) => held_next (f := flatStep) (l := x) (k := k) ((0 : Int), (0 : Int), ([] : List Int)) hzb.1 h (by omega)
 have hsx : k < x.length → (flatStep (x.getD k (0, 0, []))).length = (x.getD k (0, 0, [])).2.2.length + 1 + 1 := fun _ => rfl
 have hun : k < x.length → heldF (flatStep (x.getD k (0, 0, []))) (heldF ((x.take k).flatMap flatStep) z) = (if (x.getD k (0, 0, [])).1 = heldF ((x.take k).flatMap flatStep) z then (if (x.getD k (0, 0, [])).2.1 = heldF ((x.take k).flatMap flatStep) z + 1 then heldF (x.getD k (0, 0, [])).2.2 (heldF ((x.take k).flatMap flatStep) z + 1 + 1) else -1) else -1) := fun _ => by rw [show flatStep (x.getD k (0, 0, [])) = (x.getD k (0, 0, [])).1 :: (x.getD k (0, 0, [])).2.1 :: (x.getD k (0, 0, [])).2.2 from rfl, heldF_cons hnn, heldF_cons (by omega)]
 refine X.seq (X.seq (X.region ?_))
 refine XL.mv (.int .i64 ((k : Int))) rfl ?_
 refine XL.mv (xv) rfl ?_
 refine cX (XOp.lenS (v := xv) (n := (x).length) runUnderlying71 rfl hx.slv ?_)
 refine cX (XOp.lss (a := (k : Int)) (b := (x.length : Int)) rfl rfl ?_)
 refine XL.nil ?_
 refine X.condD (p := (k : Int) < (x.length : Int)) rfl (fun h1 => ?_) (fun h1 => ?_)
 ·refine X.skip (X.seq (X.block (X.seq (X.seq (X.region ?_)))))
  refine XL.mv (xv) rfl ?_
  refine XL.mv (.int .i64 ((k : Int))) rfl ?_
  refine cX (XOp.indexS (v := xv) (i := (k : Int)) (n := (x).length) k runUnderlying71 sizeOf119 rfl rfl rfl hx.slv (by omega) rfl ?_)
  refine cX (XOp.fieldE (v := xv) (k * 3) runUnderlying119 rfl sizeOf2 (by decide) rfl rfl ?_)
  obtain ⟨a1, ha1, hr1, hr2, hr3⟩ := hx.rd (i := k) (by omega)
  refine cX (XOp.load1 (v := .int .i64 ((x.getD k (0, 0, [])).1)) isAgg2 rfl (hr1 _) ?_)
  refine XL.mv (.int .i64 (heldF ((x.take k).flatMap flatStep) z)) rfl ?_
  refine cX (XOp.neq (a := (x.getD k (0, 0, [])).1) (b := heldF ((x.take k).flatMap flatStep) z) rfl rfl ?_)
  refine XL.nil ?_
  refine X.condD (p := ((x.getD k (0, 0, [])).1 : Int) ≠ heldF ((x.take k).flatMap flatStep) z) rfl (fun h2 => ?_) (fun h2 => ?_)
  ·refine X.seq (X.region ?_)
   refine XL.as (.int .i64 (-1)) rfl ?_
   refine XL.nil ?_
   refine X.ret (thenQ_ret (blockQ_ret (thenQ_ret (thenQ_ret (blockQ_ret (thenQ_ret (retEnd (L' := L) [.int .i64 (-1)] (.int .i64 (-1)) (.tmp rfl .nil) rfl rF rF sR ?_)))))))
   exact ⟨(vI (by exact held_fail (k := k) ((0 : Int), (0 : Int), ([] : List Int)) hzb.1 (by omega) (by rw [hnx (by omega), hun (by omega), if_neg (by assumption)]; omega))), rfl, rfl⟩
  ·refine X.skip (X.seq (X.region ?_))
   refine XL.mv (.int .i64 (heldF ((x.take k).flatMap flatStep) z)) rfl ?_
   refine cX (XOp.addR (a := heldF ((x.take k).flatMap flatStep) z) (b := 1) ((heldF ((x.take k).flatMap flatStep) z) + 1) rfl rfl (by omega) (by omega) ?_)
   refine XL.as (.int .i64 ((heldF ((x.take k).flatMap flatStep) z) + 1)) rfl ?_
   refine XL.nil (X.seq (X.seq (X.region ?_)))
   refine XL.mv (xv) rfl ?_
   refine XL.mv (.int .i64 ((k : Int))) rfl ?_
   refine cX (XOp.indexS (v := xv) (i := (k : Int)) (n := (x).length) k runUnderlying71 sizeOf119 rfl rfl rfl hx.slv (by omega) rfl ?_)
   refine cX (XOp.fieldE (v := xv) (k * 3 + 1) runUnderlying119 rfl sizeOf2 (by decide) rfl rfl ?_)
   refine cX (XOp.load1 (v := .int .i64 ((x.getD k (0, 0, [])).2.1)) isAgg2 rfl (hr2 _) ?_)
   refine XL.mv (.int .i64 ((heldF ((x.take k).flatMap flatStep) z) + 1)) rfl ?_
   refine cX (XOp.neq (a := (x.getD k (0, 0, [])).2.1) (b := (heldF ((x.take k).flatMap flatStep) z) + 1) rfl rfl ?_)
   refine XL.nil ?_
   refine X.condD (p := ((x.getD k (0, 0, [])).2.1 : Int) ≠ (heldF ((x.take k).flatMap flatStep) z) + 1) rfl (fun h3 => ?_) (fun h3 => ?_)
   ·refine X.seq (X.region ?_)
    refine XL.as (.int .i64 (-1)) rfl ?_
    refine XL.nil ?_
    refine X.ret (thenQ_ret (blockQ_ret (thenQ_ret (thenQ_ret (blockQ_ret (thenQ_ret (retEnd (L' := L) [.int .i64 (-1)] (.int .i64 (-1)) (.tmp rfl .nil) rfl rF rF sR ?_)))))))
    exact ⟨(vI (by exact held_fail (k := k) ((0 : Int), (0 : Int), ([] : List Int)) hzb.1 (by omega) (by rw [hnx (by omega), hun (by omega), if_pos (by first | assumption | exact Classical.not_not.1 (by assumption)), if_neg (by assumption)]; omega))), rfl, rfl⟩
   ·refine X.skip (X.seq (X.region ?_))
    refine XL.mv (.int .i64 ((heldF ((x.take k).flatMap flatStep) z) + 1)) rfl ?_
    refine cX (XOp.addR (a := (heldF ((x.take k).flatMap flatStep) z) + 1) (b := 1) (((heldF ((x.take k).flatMap flatStep) z) + 1) + 1) rfl rfl (by omega) (by omega) ?_)
    refine XL.as (.int .i64 (((heldF ((x.take k).flatMap flatStep) z) + 1) + 1)) rfl ?_
    refine XL.nil (X.seq (X.region ?_))
    refine XL.mv (xv) rfl ?_
    refine XL.mv (.int .i64 ((k : Int))) rfl ?_
    refine cX (XOp.indexS (v := xv) (i := (k : Int)) (n := (x).length) k runUnderlying71 sizeOf119 rfl rfl rfl hx.slv (by omega) rfl ?_)
    refine cX (XOp.fieldE (v := xv) (k * 3 + 2) runUnderlying119 rfl sizeOf22 (by decide) rfl rfl ?_)
    refine cX (XOp.load1 (v := a1) isAgg22 rfl (hr3 _) ?_)
    refine XL.mv (.int .i64 (((heldF ((x.take k).flatMap flatStep) z) + 1) + 1)) rfl ?_
    refine cX (XOp.call (args := [a1, .int .i64 (((heldF ((x.take k).flatMap flatStep) z) + 1) + 1)]) call45 rfl (heldInt64S_spec (z := ((heldF ((x.take k).flatMap flatStep) z) + 1) + 1) ha1 (hzb := (by first | assumption | rfl | omega | simp))) ?_)
    rintro _ _ _ _ ⟨rfl, rfl, rfl⟩
    refine XL.as (.int .i64 (heldF ((x.getD k (0, 0, [])).2.2) (((heldF ((x.take k).flatMap flatStep) z) + 1) + 1))) rfl ?_
    refine XL.nil (X.seq (X.region ?_))
    refine XL.mv (.int .i64 (heldF ((x.getD k (0, 0, [])).2.2) (((heldF ((x.take k).flatMap flatStep) z) + 1) + 1))) rfl ?_
    refine cX (XOp.lss (a := heldF ((x.getD k (0, 0, [])).2.2) (((heldF ((x.take k).flatMap flatStep) z) + 1) + 1)) (b := 0) rfl rfl ?_)
    refine XL.nil ?_
    refine X.condD (p := (heldF ((x.getD k (0, 0, [])).2.2) (((heldF ((x.take k).flatMap flatStep) z) + 1) + 1) : Int) < 0) rfl (fun h4 => ?_) (fun h4 => ?_)
    ·refine X.seq (X.region ?_)
     refine XL.as (.int .i64 (-1)) rfl ?_
     refine XL.nil ?_
     refine X.ret (blockQ_ret (thenQ_ret (thenQ_ret (blockQ_ret (thenQ_ret (retEnd (L' := L) [.int .i64 (-1)] (.int .i64 (-1)) (.tmp rfl .nil) rfl rF rF sR ?_))))))
     exact ⟨(vI (by exact held_fail (k := k) ((0 : Int), (0 : Int), ([] : List Int)) hzb.1 (by omega) (by rw [hnx (by omega), hun (by omega), if_pos (by first | assumption | exact Classical.not_not.1 (by assumption)), if_pos (by first | assumption | exact Classical.not_not.1 (by assumption))]; omega))), rfl, rfl⟩
    ·refine X.skip (X.region ?_)
     refine XL.mv (.int .i64 ((k : Int))) rfl ?_
     refine cX (XOp.addR (a := (k : Int)) (b := 1) (((k + 1 : Nat) : Int)) rfl rfl (by omega) (by omega) ?_)
     refine XL.as (.int .i64 (((k + 1 : Nat) : Int))) rfl ?_
     refine XL.nil ?_
     exact ⟨k + 1, _, FLe.refl _, rF, ⟨rfl, (vI (by rw [hnx (by omega), hun (by omega), if_pos (by first | assumption | exact Classical.not_not.1 (by assumption)), if_pos (by first | assumption | exact Classical.not_not.1 (by assumption))])), rfl, trivial⟩, sR, ⟨rfl, (by (try dsimp only) <;> omega), (by (try dsimp only); rw [hnx (by omega), hun (by omega), if_pos (by first | assumption | exact Classical.not_not.1 (by assumption)), if_pos (by first | assumption | exact Classical.not_not.1 (by assumption))]; omega)⟩, (by omega)⟩
 ·refine X.exit (thenQ_exit (thenQ_exit (blockQ_exit ?_)))
  refine X.seq (X.region ?_)
  refine XL.mv (.int .i64 (heldF ((x.take k).flatMap flatStep) z)) rfl ?_
  refine XL.as (.int .i64 (heldF ((x.take k).flatMap flatStep) z)) rfl ?_
  refine XL.nil ?_
  refine X.ret (retEnd (L' := L) [.int .i64 (heldF ((x.take k).flatMap flatStep) z)] (.int .i64 (heldF ((x.take k).flatMap flatStep) z)) (.tmp rfl .nil) rfl rF rF sR ?_)
  exact ⟨(vI (by rw [List.take_of_length_le (by omega)])), rfl, rfl⟩

/- laws.heldWalk -/
theorem heldWalk_spec {F : FH} {L : List HP} {fv : Value} {f : List Int} (hf : IntsF F fv f) {xv : Value} {x : List StepT} (hx : StepsF F xv x) {z : Int} (hzb : 0 ≤ z ∧ z + ((f.length + (x.flatMap flatStep).length : Nat) : Int) ≤ 9000000000) (hxl : x.length ≤ 4000000) :
    Does prog 41 [.agg #[fv, xv], .int .i64 (z)] F (L) (fun v F' L' => (.int .i64 (heldF (f ++ x.flatMap flatStep) z) : Value) = v ∧ F = F' ∧ L = L') := by
 refine Does.of_X func41 rfl rfl rfl ?_
 have hh1 := heldF_range (xs := f) hzb.1
 refine X.seq (X.region ?_)
 refine cX (XOp.box [fv, xv] rfl rfl ?_)
 intro b1
 refine XL.as (.int .i64 (0)) rfl ?_
 refine XL.nil (X.seq (X.region ?_))
 refine cX (XOp.fieldP (b := b1) (0) runUnderlying73 rfl sizeOf22 (by decide) rfl rfl ?_)
 refine cX (XOp.load1 (v := fv) isAgg22 rfl (Rd.own [] rfl rfl) ?_)
 refine XL.mv (.int .i64 (z)) rfl ?_
 refine cX (XOp.call (args := [fv, .int .i64 (z)]) call45 rfl (heldInt64S_spec (z := z) hf (hzb := (by first | assumption | rfl | omega | simp))) ?_)
 rintro _ _ _ _ ⟨rfl, rfl, rfl⟩
 refine XL.as (.int .i64 (heldF f z)) rfl ?_
 refine XL.nil (X.seq (X.seq (X.region ?_)))
 refine XL.mv (.int .i64 (heldF f z)) rfl ?_
 refine cX (XOp.lss (a := heldF f z) (b := 0) rfl rfl ?_)
 refine XL.nil ?_
 refine X.condD (p := (heldF f z : Int) < 0) rfl (fun h1 => ?_) (fun h1 => ?_)
 ·refine X.seq (X.region ?_)
  refine XL.as (.int .i64 (-1)) rfl ?_
  refine XL.nil ?_
  refine X.ret (thenQ_ret (retEnd (L' := L) [.int .i64 (-1)] (.int .i64 (-1)) (.tmp rfl .nil) rfl rF rF (Sub.drop sR) ?_))
  exact ⟨(vI (by rw [heldF_append hzb.1, if_pos (by omega)])), rfl, rfl⟩
 ·refine X.skip (X.seq (X.region ?_))
  refine cX (XOp.fieldP (b := b1) (1) runUnderlying73 rfl sizeOf71 (by decide) rfl rfl ?_)
  refine cX (XOp.load1 (v := xv) isAgg71 rfl (Rd.own [] rfl rfl) ?_)
  refine XL.mv (.int .i64 (heldF f z)) rfl ?_
  refine cX (XOp.call (args := [xv, .int .i64 (heldF f z)]) call95 rfl (heldStepS_spec (z := heldF f z) hx (hzb := (by first | assumption | rfl | omega | simp)) (hxl := (by first | assumption | rfl | omega | simp))) ?_)
  rintro _ _ _ _ ⟨rfl, rfl, rfl⟩
  refine XL.as (.int .i64 (heldF (x.flatMap flatStep) (heldF f z))) rfl ?_
  refine XL.nil (X.seq (X.seq (X.region ?_)))
  refine XL.mv (.int .i64 (heldF (x.flatMap flatStep) (heldF f z))) rfl ?_
  refine cX (XOp.lss (a := heldF (x.flatMap flatStep) (heldF f z)) (b := 0) rfl rfl ?_)
  refine XL.nil ?_
  refine X.condD (p := (heldF (x.flatMap flatStep) (heldF f z) : Int) < 0) rfl (fun h2 => ?_) (fun h2 => ?_)
  ·refine X.seq (X.region ?_)
   refine XL.as (.int .i64 (-1)) rfl ?_
   refine XL.nil ?_
   refine X.ret (thenQ_ret (retEnd (L' := L) [.int .i64 (-1)] (.int .i64 (-1)) (.tmp rfl .nil) rfl rF rF (Sub.drop sR) ?_))
   exact ⟨(vI (by rw [heldF_append hzb.1, if_neg (by omega)]; have := (heldF_range (xs := x.flatMap flatStep) (k := heldF f z) (by omega)).1; omega)), rfl, rfl⟩
  ·refine X.skip (X.seq (X.region ?_))
   refine XL.mv (.int .i64 (heldF (x.flatMap flatStep) (heldF f z))) rfl ?_
   refine XL.as (.int .i64 (heldF (x.flatMap flatStep) (heldF f z))) rfl ?_
   refine XL.nil ?_
   refine X.ret (retEnd (L' := L) [.int .i64 (heldF (x.flatMap flatStep) (heldF f z))] (.int .i64 (heldF (x.flatMap flatStep) (heldF f z))) (.tmp rfl .nil) rfl rF rF (Sub.drop sR) ?_)
   exact ⟨(vI (by rw [heldF_append hzb.1, if_neg (by omega)])), rfl, rfl⟩

/- impl.stepArgs -/
theorem stepArgs_spec {F : FH} {L : List HP} {arv : Value} {ar : List Int} (har : IntsF F arv ar) {rsv : Value} {rs : List (List Int × List Int)} (hrs : PairsF F rsv rs) {tv : Value} {t : List Int} (ht : IntsF F tv t) {p : Int} {r : Int} :
    Does prog 166 [.agg #[arv, rsv], tv, .int .i64 (p), .int .i64 (r)] F (L) (fun v F' L' => (.bool (stepAtOk ar rs t p r) : Value) = v ∧ F = F' ∧ L = L') := by
 refine Does.of_X func166 rfl rfl rfl ?_
 refine X.seq (X.region ?_)
 refine cX (XOp.box [arv, rsv] rfl rfl ?_)
 intro b1
 refine XL.as (.bool (false)) rfl ?_
 refine XL.nil (X.seq (X.region ?_))
 refine cX (XOp.loadN [arv, rsv] isAgg36 sizeOf36 rfl rfl (Rd.ownN [] rfl rfl) ?_)
 refine cX (XOp.call (args := [.agg #[arv, rsv]]) call65 rfl (SystemOk_spec har hrs) ?_)
 rintro _ _ _ _ ⟨rfl, rfl, rfl⟩
 refine XL.mv (.bool (sysOk ar rs)) rfl ?_
 by_cases h1 : (sysOk ar rs) = true
 ·refine XL.yes (t := 11) rfl (vB h1) (XOp.fieldP (b := b1) (0) runUnderlying36 rfl sizeOf33 (by decide) rfl rfl ?_)
  refine XL.yes (t := 11) rfl (vB h1) (XOp.loadN [arv] isAgg33 sizeOf33 rfl rfl (Rd.ownN [] rfl rfl) ?_)
  refine XL.yes (t := 11) rfl (vB h1) (XOp.move (tv) rfl ?_)
  refine XL.yes (t := 11) rfl (vB h1) (XOp.move (.int .i64 (p)) rfl ?_)
  refine XL.yes (t := 11) rfl (vB h1) (XOp.call (args := [.agg #[arv], tv, .int .i64 (p)]) call189 rfl (posOk_spec (n := p) har ht) ?_)
  rintro _ _ _ _ ⟨rfl, rfl, rfl⟩
  refine cX (XOp.pickT (.bool (posOk ar t p)) (vB h1) rfl ?_)
  refine XL.mv (.bool (posOk ar t p)) rfl ?_
  by_cases h2 : (posOk ar t p) = true
  ·refine XL.yes (t := 18) rfl (vB h2) (XOp.move (.int .i64 (r)) rfl ?_)
   refine XL.yes (t := 18) rfl (vB h2) (XOp.geq (a := r) (b := 0) rfl rfl ?_)
   refine cX (XOp.pickT (.bool (decide ((r : Int) ≥ 0))) (vB h2) rfl ?_)
   refine XL.mv (.bool (decide ((r : Int) ≥ 0))) rfl ?_
   by_cases h3 : (r : Int) ≥ 0
   ·refine XL.yes (t := 22) rfl (vT h3) (XOp.move (.int .i64 (r)) rfl ?_)
    refine XL.yes (t := 22) rfl (vT h3) (XOp.fieldP (b := b1) (1) runUnderlying36 rfl sizeOf34 (by decide) rfl rfl ?_)
    refine XL.yes (t := 22) rfl (vT h3) (XOp.load1 (v := rsv) isAgg34 rfl (Rd.own [] rfl rfl) ?_)
    refine XL.yes (t := 22) rfl (vT h3) (XOp.lenS (v := rsv) (n := (rs).length) runUnderlying34 rfl hrs.slv ?_)
    refine XL.yes (t := 22) rfl (vT h3) (XOp.lss (a := r) (b := (rs.length : Int)) rfl rfl ?_)
    refine cX (XOp.pickT (.bool (decide ((r : Int) < (rs.length : Int)))) (vT h3) rfl ?_)
    refine XL.as (.bool (decide ((r : Int) < (rs.length : Int)))) rfl ?_
    refine XL.nil ?_
    refine X.ret (retEnd (L' := L) [.bool (decide ((r : Int) < (rs.length : Int)))] (.bool (decide ((r : Int) < (rs.length : Int)))) (.tmp rfl .nil) rfl rF rF (Sub.drop sR) ?_)
    exact ⟨(vB (by unfold stepAtOk rightB; cases hA : sysOk ar rs <;> cases hB : termOk ar t <;> simp_all [posOk] <;> omega)), rfl, rfl⟩
   ·refine XL.no (t := 22) rfl (vF h3) ?_
    refine XL.no (t := 22) rfl (vF h3) ?_
    refine XL.no (t := 22) rfl (vF h3) ?_
    refine XL.no (t := 22) rfl (vF h3) ?_
    refine XL.no (t := 22) rfl (vF h3) ?_
    refine cX (XOp.pickF (.bool (false)) (vF h3) rfl ?_)
    refine XL.as (.bool (false)) rfl ?_
    refine XL.nil ?_
    refine X.ret (retEnd (L' := L) [.bool (false)] (.bool (false)) (.tmp rfl .nil) rfl rF rF (Sub.drop sR) ?_)
    exact ⟨(vB (by unfold stepAtOk rightB; cases hA : sysOk ar rs <;> cases hB : termOk ar t <;> simp_all [posOk] <;> omega)), rfl, rfl⟩
  ·rw [Bool.not_eq_true] at h2
   refine XL.no (t := 18) rfl (vB h2) ?_
   refine XL.no (t := 18) rfl (vB h2) ?_
   refine cX (XOp.pickF (.bool (false)) (vB h2) rfl ?_)
   refine XL.mv (.bool (false)) rfl ?_
   refine XL.no (t := 22) rfl rfl ?_
   refine XL.no (t := 22) rfl rfl ?_
   refine XL.no (t := 22) rfl rfl ?_
   refine XL.no (t := 22) rfl rfl ?_
   refine XL.no (t := 22) rfl rfl ?_
   refine cX (XOp.pickF (.bool (false)) rfl rfl ?_)
   refine XL.as (.bool (false)) rfl ?_
   refine XL.nil ?_
   refine X.ret (retEnd (L' := L) [.bool (false)] (.bool (false)) (.tmp rfl .nil) rfl rF rF (Sub.drop sR) ?_)
   exact ⟨(vB (by unfold stepAtOk rightB; cases hA : sysOk ar rs <;> cases hB : termOk ar t <;> simp_all [posOk] <;> omega)), rfl, rfl⟩
 ·rw [Bool.not_eq_true] at h1
  refine XL.no (t := 11) rfl (vB h1) ?_
  refine XL.no (t := 11) rfl (vB h1) ?_
  refine XL.no (t := 11) rfl (vB h1) ?_
  refine XL.no (t := 11) rfl (vB h1) ?_
  refine XL.no (t := 11) rfl (vB h1) ?_
  refine cX (XOp.pickF (.bool (false)) (vB h1) rfl ?_)
  refine XL.mv (.bool (false)) rfl ?_
  refine XL.no (t := 18) rfl rfl ?_
  refine XL.no (t := 18) rfl rfl ?_
  refine cX (XOp.pickF (.bool (false)) rfl rfl ?_)
  refine XL.mv (.bool (false)) rfl ?_
  refine XL.no (t := 22) rfl rfl ?_
  refine XL.no (t := 22) rfl rfl ?_
  refine XL.no (t := 22) rfl rfl ?_
  refine XL.no (t := 22) rfl rfl ?_
  refine XL.no (t := 22) rfl rfl ?_
  refine cX (XOp.pickF (.bool (false)) rfl rfl ?_)
  refine XL.as (.bool (false)) rfl ?_
  refine XL.nil ?_
  refine X.ret (retEnd (L' := L) [.bool (false)] (.bool (false)) (.tmp rfl .nil) rfl rF rF (Sub.drop sR) ?_)
  exact ⟨(vB (by unfold stepAtOk rightB; cases hA : sysOk ar rs <;> cases hB : termOk ar t <;> simp_all [posOk] <;> omega)), rfl, rfl⟩

/- impl.StepAt -/
theorem StepAt_spec {F : FH} {L : List HP} {arv : Value} {ar : List Int} (har : IntsF F arv ar) {rsv : Value} {rs : List (List Int × List Int)} (hrs : PairsF F rsv rs) {tv : Value} {t : List Int} (ht : IntsF F tv t) {p : Int} {r : Int} :
    Does prog 121 [.agg #[arv, rsv], tv, .int .i64 (p), .int .i64 (r)] F (L) (fun v F' L' => ∃ (a : Value), (.tuple #[a, .bool ((stepAtL ar rs t p r).isSome)] : Value) = v ∧ (IntsF F' a ((stepAtL ar rs t p r).getD [])) ∧ (Fresh F F' (intsH 2 a ((stepAtL ar rs t p r).getD []))) ∧ L = L') := by
 refine Does.of_X func121 rfl rfl rfl ?_
 refine X.seq (X.region ?_)
 refine cX (XOp.box [arv, rsv] rfl rfl ?_)
 intro b1
 refine XL.as ((.slice none 0 0)) rfl ?_
 refine XL.as (.bool (false)) rfl ?_
 refine XL.nil (X.seq (X.seq (X.region ?_)))
 refine cX (XOp.loadN [arv, rsv] isAgg36 sizeOf36 rfl rfl (Rd.ownN [] rfl rfl) ?_)
 refine XL.mv (tv) rfl ?_
 refine XL.mv (.int .i64 (p)) rfl ?_
 refine XL.mv (.int .i64 (r)) rfl ?_
 refine cX (XOp.call (args := [.agg #[arv, rsv], tv, .int .i64 (p), .int .i64 (r)]) call166 rfl (stepArgs_spec (p := p) (r := r) har hrs ht) ?_)
 rintro _ _ _ _ ⟨rfl, rfl, rfl⟩
 refine cX (XOp.notB (b := stepAtOk ar rs t p r) rfl ?_)
 refine XL.nil ?_
 refine X.cond (t := !(stepAtOk ar rs t p r)) rfl (fun h1 => ?_) (fun h1 => ?_)
 ·have hz0 : stepAtL ar rs t p r = none := by rw [stepAtL, if_neg (by simpa using h1)]
  refine X.seq (X.region ?_)
  refine XL.as ((.slice none 0 0)) rfl ?_
  refine XL.as (.bool (false)) rfl ?_
  refine XL.nil ?_
  refine X.ret (thenQ_ret (retEnd (L' := L) [(.slice none 0 0), .bool (false)] (.tuple #[(.slice none 0 0), .bool (false)]) (.tmp rfl (.tmp rfl .nil)) rfl rF rF (Sub.drop sR) ?_))
  exact ⟨_, by rw [hz0]; rfl, by rw [hz0]; exact IntsF.nilV, by rw [hz0]; exact Fresh.ofNil _, rfl⟩
 ·have hok : stepAtOk ar rs t p r = true := by simpa using h1
  have hok2 := hok
  unfold stepAtOk rightB at hok2
  simp only [Bool.and_eq_true, decide_eq_true_eq] at hok2
  obtain ⟨⟨⟨hsys, ho⟩, hp1⟩, hr1⟩ := hok2
  refine X.skip (X.seq (X.region ?_))
  refine cX (XOp.loadN [arv, rsv] isAgg36 sizeOf36 rfl rfl (Rd.ownN [] rfl rfl) ?_)
  refine XL.mv (tv) rfl ?_
  refine XL.mv (.int .i64 (p)) rfl ?_
  refine XL.mv (.int .i64 (r)) rfl ?_
  refine cX (XOp.call (args := [.agg #[arv, rsv], tv, .int .i64 (((p).toNat : Nat) : Int), .int .i64 (((r).toNat : Nat) : Int)]) call167 (by rw [show (((p).toNat : Nat) : Int) = p from by omega, show (((r).toNat : Nat) : Int) = r from by omega]; rfl) (step_spec (p := (p).toNat) (r := (r).toNat) har hrs ht (hsys := (by first | assumption | rfl | omega | simp)) (ho := (by first | assumption | rfl | omega | simp)) (hp := (by first | assumption | rfl | omega | simp)) (hr := (by first | assumption | rfl | omega | simp))) ?_)
  rintro _ F1 _ le1 ⟨x1, rfl, hr1, hr2, hr3, rfl⟩
  refine cX (XOp.extract (x1) rfl rfl ?_)
  refine cX (XOp.extract (.bool ((stepL ar rs t ((p).toNat) ((r).toNat)).isSome)) rfl rfl ?_)
  refine XL.as (x1) rfl ?_
  refine XL.as (.bool ((stepL ar rs t ((p).toNat) ((r).toNat)).isSome)) rfl ?_
  refine XL.nil ?_
  refine X.ret (retEnd (L' := L) [x1, .bool ((stepL ar rs t ((p).toNat) ((r).toNat)).isSome)] (.tuple #[x1, .bool ((stepL ar rs t ((p).toNat) ((r).toNat)).isSome)]) (.tmp rfl (.tmp rfl .nil)) rfl le1 rF (Sub.drop sR) ?_)
  have e := show stepAtL ar rs t p r = stepL ar rs t p.toNat r.toNat from by rw [stepAtL, if_pos hok]
  exact ⟨_, by rw [e], by rw [e]; exact hr1, by rw [e]; exact hr3, rfl⟩
end Go.Proofs.Ytnloeeaidknblaa
set_option linter.unusedSimpArgs false
set_option linter.unusedVariables false
namespace Go.Proofs.Ytnloeeaidknblaa
open Go X M Try

/- impl.walkOk -/
theorem walkOk_spec {F : FH} {L : List HP} {arv : Value} {ar : List Int} (har : IntsF F arv ar) {rsv : Value} {rs : List (List Int × List Int)} (hrs : PairsF F rsv rs) {fv : Value} {f : List Int} (hf : IntsF F fv f) {ssv : Value} {ss : List StepT} (hss : StepsF F ssv ss) (hlf : f.length ≤ 4000000) (hsb : ∀ i, i < ss.length → (ss.getD i (0, 0, [])).2.2.length ≤ 4000000) :
    Does prog 143 [.agg #[arv, rsv], .agg #[fv, ssv]] F (L) (fun v F' L' => (.bool (((termOk ar f && decide (ss.length ≤ 60)) && goOk ar rs f ss)) : Value) = v ∧ F = F' ∧ L = L') := by
 refine Does.of_X func143 rfl rfl rfl ?_
 refine X.seq (X.region ?_)
 refine cX (XOp.box [arv, rsv] rfl rfl ?_)
 intro b1
 refine cX (XOp.box [fv, ssv] rfl rfl ?_)
 intro b2
 refine XL.as (.bool (false)) rfl ?_
 refine XL.nil (X.seq (X.seq (X.region ?_)))
 refine cX (XOp.fieldP (b := b1) (0) runUnderlying36 rfl sizeOf33 (by decide) rfl rfl ?_)
 refine cX (XOp.loadN [arv] isAgg33 sizeOf33 rfl rfl (Rd.ownN [_] rfl rfl) ?_)
 refine cX (XOp.fieldP (b := b2) (0) runUnderlying73 rfl sizeOf22 (by decide) rfl rfl ?_)
 refine cX (XOp.load1 (v := fv) isAgg22 rfl (Rd.own [] rfl rfl) ?_)
 refine cX (XOp.call (args := [.agg #[arv], fv]) call130 rfl (TermOk_spec har hf) ?_)
 rintro _ _ _ _ ⟨rfl, rfl, rfl⟩
 refine cX (XOp.notB (b := termOk ar f) rfl ?_)
 refine XL.mv (.bool (!(termOk ar f))) rfl ?_
 by_cases h1 : (!(termOk ar f)) = true
 ·refine XL.no (t := 16) rfl (vB h1) ?_
  refine XL.no (t := 16) rfl (vB h1) ?_
  refine XL.no (t := 16) rfl (vB h1) ?_
  refine XL.no (t := 16) rfl (vB h1) ?_
  refine cX (XOp.pickT (.bool (true)) (vB h1) rfl ?_)
  refine XL.nil ?_
  refine X.condT rfl ?_
  refine X.seq (X.region ?_)
  refine XL.as (.bool (false)) rfl ?_
  refine XL.nil ?_
  refine X.ret (thenQ_ret (retEnd (L' := L) [.bool (false)] (.bool (false)) (.tmp rfl .nil) rfl rF rF (Sub.drop (Sub.drop sR)) ?_))
  exact ⟨(vB (by simp_all <;> omega)), rfl, rfl⟩
 ·rw [Bool.not_eq_true] at h1
  refine XL.yes (t := 16) rfl (vB h1) (XOp.fieldP (b := b2) (1) runUnderlying73 rfl sizeOf71 (by decide) rfl rfl ?_)
  refine XL.yes (t := 16) rfl (vB h1) (XOp.load1 (v := ssv) isAgg71 rfl (Rd.own [] rfl rfl) ?_)
  refine XL.yes (t := 16) rfl (vB h1) (XOp.lenS (v := ssv) (n := (ss).length) runUnderlying71 rfl hss.slv ?_)
  refine XL.yes (t := 16) rfl (vB h1) (XOp.gtr (a := (ss.length : Int)) (b := 60) rfl rfl ?_)
  refine cX (XOp.pickF (.bool (decide (((ss.length : Int) : Int) > 60))) (vB h1) rfl ?_)
  refine XL.nil ?_
  refine X.condD (p := ((ss.length : Int) : Int) > 60) rfl (fun h2 => ?_) (fun h2 => ?_)
  ·refine X.seq (X.region ?_)
   refine XL.as (.bool (false)) rfl ?_
   refine XL.nil ?_
   refine X.ret (thenQ_ret (retEnd (L' := L) [.bool (false)] (.bool (false)) (.tmp rfl .nil) rfl rF rF (Sub.drop (Sub.drop sR)) ?_))
   exact ⟨(vB (by simp_all <;> omega)), rfl, rfl⟩
  ·refine X.skip (X.seq (X.region ?_))
   refine cX (XOp.fieldP (b := b2) (0) runUnderlying73 rfl sizeOf22 (by decide) rfl rfl ?_)
   refine cX (XOp.load1 (v := fv) isAgg22 rfl (Rd.own [] rfl rfl) ?_)
   refine XL.as (fv) rfl ?_
   refine XL.nil (X.seq (X.seq (X.region ?_)))
   refine cX (XOp.fieldP (b := b2) (1) runUnderlying73 rfl sizeOf71 (by decide) rfl rfl ?_)
   refine cX (XOp.load1 (v := ssv) isAgg71 rfl (Rd.own [] rfl rfl) ?_)
   refine cX (XOp.lenS (v := ssv) (n := (ss).length) runUnderlying71 rfl hss.slv ?_)
   refine XL.mv (.int .i64 (0)) rfl ?_
   refine XL.nil (X.block ?_)
   refine X.loop (α := Nat × Value × List Int × FH) (fun xQ => [(2, ptr b1 0), (5, xQ.2.1), (25, ssv), (26, .int .i64 ((ss.length : Int))), (27, .int .i64 (((xQ.1 : Nat) : Int)))]) (fun xQ => cellsH b2 [fv, ssv] 73 :: cellsH b1 [arv, rsv] 36 :: L) (fun xQ F' => xQ.2.2.2 = F' ∧ F ≤ xQ.2.2.2 ∧ (IntsF xQ.2.2.2 xQ.2.1 xQ.2.2.1) ∧ (xQ.1 ≤ ss.length) ∧ (goOk ar rs f ss = goOk ar rs xQ.2.2.1 (ss.drop xQ.1)) ∧ (xQ.2.2.1.length ≤ 4000000)) (fun xQ => ss.length - xQ.1) (0, fv, f, F) ⟨rfl, rfl, rfl, rfl, rfl, trivial⟩ (Sub.cons (Sub.cons sR)) ⟨rfl, FLe.refl _, (hf), (by (try dsimp only) <;> omega), (rfl), (hlf)⟩ ?_
   rintro ⟨k, cv, cur, G1⟩ rE _ _ ⟨rfl, leG, hcv, hk, hgo, hcl⟩
   show X _ _ _ _ (envs [(2, ptr b1 0), (5, cv), (25, ssv), (26, .int .i64 ((ss.length : Int))), (27, .int .i64 ((k : Int)))] rE) _ (cellsH b2 [fv, ssv] 73 :: cellsH b1 [arv, rsv] 36 :: L)
   replace leG : F ≤ G1 := leG
   dsimp only at hcv hk hgo hcl
   have hsk := hsb k
   have leG1 := leG
   replace har := har.mono leG1
   replace hrs := hrs.mono leG1
   replace hss := hss.mono leG1
   refine X.seq (X.region ?_)
   refine cX (XOp.lss (a := (k : Int)) (b := (ss.length : Int)) rfl rfl ?_)
   refine XL.nil (X.seq ?_)
   refine X.condD (p := (k : Int) < (ss.length : Int)) rfl (fun h3 => ?_) (fun h3 => ?_)
   ·refine X.skip (X.seq (X.block (X.seq (X.region ?_))))
    refine cX (XOp.indexS (v := ssv) (i := (k : Int)) (n := (ss).length) k runUnderlying71 sizeOf119 rfl rfl rfl hss.slv (by omega) rfl ?_)
    obtain ⟨a1, ha1, hr1, hr2, hr3⟩ := hss.rd (i := k) (by omega)
    refine cX (XOp.loadN [.int .i64 ((ss.getD k (0, 0, [])).1), .int .i64 ((ss.getD k (0, 0, [])).2.1), a1] isAgg119 sizeOf119 rfl rfl (Rd.three (hr1 _) (hr2 _) (hr3 _)) ?_)
    refine cX (XOp.alloc [.int .i64 (0), .int .i64 (0), (.slice none 0 0)] zeroValue119 rfl ?_)
    intro b3
    refine cX (XOp.storeN (vs := [.int .i64 ((ss.getD k (0, 0, [])).1), .int .i64 ((ss.getD k (0, 0, [])).2.1), a1]) [] _ [.int .i64 ((ss.getD k (0, 0, [])).1), .int .i64 ((ss.getD k (0, 0, [])).2.1), a1] sizeOf119 rfl rfl rfl (ones_cons rfl (ones_cons rfl (ones_cons (one_sl (IntsF.isSl ha1)) ones_nil))) rfl rfl rfl ?_)
    refine XL.nil (X.seq (X.region ?_))
    refine cX (XOp.loadN [arv, rsv] isAgg36 sizeOf36 rfl rfl (Rd.ownN [_, _] rfl rfl) ?_)
    refine XL.mv (cv) rfl ?_
    refine cX (XOp.fieldP (b := b3) (0) runUnderlying119 rfl sizeOf2 (by decide) rfl rfl ?_)
    refine cX (XOp.load1 (v := .int .i64 ((ss.getD k (0, 0, [])).1)) isAgg2 rfl (Rd.own [] rfl rfl) ?_)
    refine cX (XOp.fieldP (b := b3) (1) runUnderlying119 rfl sizeOf2 (by decide) rfl rfl ?_)
    refine cX (XOp.load1 (v := .int .i64 ((ss.getD k (0, 0, [])).2.1)) isAgg2 rfl (Rd.own [] rfl rfl) ?_)
    refine cX (XOp.call (args := [.agg #[arv, rsv], cv, .int .i64 ((ss.getD k (0, 0, [])).1), .int .i64 ((ss.getD k (0, 0, [])).2.1)]) call121 rfl (StepAt_spec (p := (ss.getD k (0, 0, [])).1) (r := (ss.getD k (0, 0, [])).2.1) har hrs hcv) ?_)
    rintro _ F1 _ le1 ⟨x1, rfl, hr4, hr5, rfl⟩
    replace ha1 := ha1.mono le1
    refine XL.mv (.tuple #[x1, .bool ((stepAtL ar rs cur ((ss.getD k (0, 0, [])).1) ((ss.getD k (0, 0, [])).2.1)).isSome)]) rfl ?_
    refine cX (XOp.extract (x1) rfl rfl ?_)
    refine cX (XOp.extract (.bool ((stepAtL ar rs cur ((ss.getD k (0, 0, [])).1) ((ss.getD k (0, 0, [])).2.1)).isSome)) rfl rfl ?_)
    refine XL.as (x1) rfl ?_
    refine XL.as (.bool ((stepAtL ar rs cur ((ss.getD k (0, 0, [])).1) ((ss.getD k (0, 0, [])).2.1)).isSome)) rfl ?_
    refine XL.nil (X.seq (X.seq (X.region ?_)))
    refine XL.mv (.bool ((stepAtL ar rs cur ((ss.getD k (0, 0, [])).1) ((ss.getD k (0, 0, [])).2.1)).isSome)) rfl ?_
    refine cX (XOp.notB (b := (stepAtL ar rs cur ((ss.getD k (0, 0, [])).1) ((ss.getD k (0, 0, [])).2.1)).isSome) rfl ?_)
    refine XL.mv (.bool (!((stepAtL ar rs cur ((ss.getD k (0, 0, [])).1) ((ss.getD k (0, 0, [])).2.1)).isSome))) rfl ?_
    by_cases h4 : (!((stepAtL ar rs cur ((ss.getD k (0, 0, [])).1) ((ss.getD k (0, 0, [])).2.1)).isSome)) = true
    ·have hu1 : (stepAtL ar rs cur (ss.getD k (0, 0, [])).1 (ss.getD k (0, 0, [])).2.1).isSome = false := by simpa using h4
     refine XL.no (t := 43) rfl (vB h4) ?_
     refine XL.no (t := 43) rfl (vB h4) ?_
     refine XL.no (t := 43) rfl (vB h4) ?_
     refine XL.no (t := 43) rfl (vB h4) ?_
     refine XL.no (t := 43) rfl (vB h4) ?_
     refine cX (XOp.pickT (.bool (true)) (vB h4) rfl ?_)
     refine XL.nil ?_
     refine X.condT rfl ?_
     refine X.seq (X.region ?_)
     refine XL.as (.bool (false)) rfl ?_
     refine XL.nil ?_
     refine X.ret (thenQ_ret (blockQ_ret (thenQ_ret (thenQ_ret (blockQ_ret (thenQ_ret (retEnd (L' := L) [.bool (false)] (.bool (false)) (.tmp rfl .nil) rfl rF (FLe.trans leG1 le1) (Sub.drop (Sub.drop (Sub.drop sR))) ?_)))))))
     exact ⟨(vB (by have hz := goOk_fail (ar := ar) (rs := rs) (t := cur) (ss := ss) (k := k) (by omega) (by first | exact .inl hu1 | exact .inr hu2); rw [hgo, hz]; simp)), rfl, rfl⟩
    ·rw [Bool.not_eq_true] at h4
     have hu1 : (stepAtL ar rs cur (ss.getD k (0, 0, [])).1 (ss.getD k (0, 0, [])).2.1).isSome = true := by simpa using h4
     refine XL.yes (t := 43) rfl (vB h4) (XOp.move (x1) rfl ?_)
     refine XL.yes (t := 43) rfl (vB h4) (XOp.fieldP (b := b3) (2) runUnderlying119 rfl sizeOf22 (by decide) rfl rfl ?_)
     refine XL.yes (t := 43) rfl (vB h4) (XOp.load1 (v := a1) isAgg22 rfl (Rd.own [] rfl rfl) ?_)
     refine XL.yes (t := 43) rfl (vB h4) (XOp.call (args := [x1, a1]) call122 rfl (Equal_spec hr4 ha1 (hbd := (by first | assumption | rfl | omega | (left; simp; done) | (right; simp; done)))) ?_)
     rintro _ _ _ _ ⟨rfl, rfl, rfl⟩
     refine XL.yes (t := 43) rfl (vB h4) (XOp.notD (p := ((stepAtL ar rs cur ((ss.getD k (0, 0, [])).1) ((ss.getD k (0, 0, [])).2.1)).getD []) = ((ss.getD k (0, 0, [])).2.2)) rfl ?_)
     refine cX (XOp.pickF (.bool (decide (¬(((stepAtL ar rs cur ((ss.getD k (0, 0, [])).1) ((ss.getD k (0, 0, [])).2.1)).getD []) = ((ss.getD k (0, 0, [])).2.2))))) (vB h4) rfl ?_)
     refine XL.nil ?_
     refine X.condD (p := ¬(((stepAtL ar rs cur ((ss.getD k (0, 0, [])).1) ((ss.getD k (0, 0, [])).2.1)).getD []) = ((ss.getD k (0, 0, [])).2.2))) rfl (fun h5 => ?_) (fun h5 => ?_)
     ·have hu2 : (stepAtL ar rs cur (ss.getD k (0, 0, [])).1 (ss.getD k (0, 0, [])).2.1).getD [] ≠ (ss.getD k (0, 0, [])).2.2 := h5
      refine X.seq (X.region ?_)
      refine XL.as (.bool (false)) rfl ?_
      refine XL.nil ?_
      refine X.ret (thenQ_ret (blockQ_ret (thenQ_ret (thenQ_ret (blockQ_ret (thenQ_ret (retEnd (L' := L) [.bool (false)] (.bool (false)) (.tmp rfl .nil) rfl rF (FLe.trans leG1 le1) (Sub.drop (Sub.drop (Sub.drop sR))) ?_)))))))
      exact ⟨(vB (by have hz := goOk_fail (ar := ar) (rs := rs) (t := cur) (ss := ss) (k := k) (by omega) (by first | exact .inl hu1 | exact .inr hu2); rw [hgo, hz]; simp)), rfl, rfl⟩
     ·have hu2 : (stepAtL ar rs cur (ss.getD k (0, 0, [])).1 (ss.getD k (0, 0, [])).2.1).getD [] = (ss.getD k (0, 0, [])).2.2 := Classical.not_not.1 h5
      refine X.skip (X.region ?_)
      refine XL.mv (x1) rfl ?_
      refine XL.as (x1) rfl ?_
      refine XL.nil (X.region ?_)
      refine cX (XOp.addR (a := (k : Int)) (b := 1) (((k + 1 : Nat) : Int)) rfl rfl (by omega) (by omega) ?_)
      refine XL.mv (.int .i64 (((k + 1 : Nat) : Int))) rfl ?_
      refine XL.nil ?_
      exact ⟨(k + 1, x1, (stepAtL ar rs cur ((ss.getD k (0, 0, [])).1) ((ss.getD k (0, 0, [])).2.1)).getD [], F1), _, (FLe.trans leG1 le1), rF, ⟨rfl, rfl, rfl, rfl, rfl, trivial⟩, (Sub.drop (Sub.cons (Sub.cons sR))), ⟨rfl, (FLe.trans leG1 le1), (hr4), (by (try dsimp only) <;> omega), (by (try dsimp only); rw [hgo]; exact goOk_next (by omega) hu1 hu2), (by (try dsimp only); rw [hu2]; exact hsk (by omega))⟩, (by omega)⟩
   ·refine X.exit (thenQ_exit (thenQ_exit (blockQ_exit ?_)))
    refine X.seq (X.region ?_)
    refine XL.as (.bool (true)) rfl ?_
    refine XL.nil ?_
    refine X.ret (retEnd (L' := L) [.bool (true)] (.bool (true)) (.tmp rfl .nil) rfl rF leG1 (Sub.drop (Sub.drop sR)) ?_)
    exact ⟨(vB (by rw [hgo, goOk_end (by omega)]; simp_all <;> omega)), rfl, rfl⟩

/- impl.WalkOk -/
theorem WalkOk_spec {F : FH} {L : List HP} {arv : Value} {ar : List Int} (har : IntsF F arv ar) {rsv : Value} {rs : List (List Int × List Int)} (hrs : PairsF F rsv rs) {fv : Value} {f : List Int} (hf : IntsF F fv f) {ssv : Value} {ss : List StepT} (hss : StepsF F ssv ss) (hlf : f.length ≤ 4000000) (hsb : ∀ i, i < ss.length → (ss.getD i (0, 0, [])).2.2.length ≤ 4000000) :
    Does prog 91 [.agg #[arv, rsv], .agg #[fv, ssv]] F (L) (fun v F' L' => (.bool (walkOkL ar rs f ss) : Value) = v ∧ F = F' ∧ L = L') := by
 refine Does.of_X func91 rfl rfl rfl ?_
 refine X.seq (X.region ?_)
 refine cX (XOp.box [arv, rsv] rfl rfl ?_)
 intro b1
 refine cX (XOp.box [fv, ssv] rfl rfl ?_)
 intro b2
 refine XL.as (.bool (false)) rfl ?_
 refine XL.nil (X.seq (X.region ?_))
 refine cX (XOp.loadN [arv, rsv] isAgg36 sizeOf36 rfl rfl (Rd.ownN [_] rfl rfl) ?_)
 refine cX (XOp.call (args := [.agg #[arv, rsv]]) call65 rfl (SystemOk_spec har hrs) ?_)
 rintro _ _ _ _ ⟨rfl, rfl, rfl⟩
 refine XL.mv (.bool (sysOk ar rs)) rfl ?_
 by_cases h1 : (sysOk ar rs) = true
 ·refine XL.yes (t := 7) rfl (vB h1) (XOp.loadN [arv, rsv] isAgg36 sizeOf36 rfl rfl (Rd.ownN [_] rfl rfl) ?_)
  refine XL.yes (t := 7) rfl (vB h1) (XOp.loadN [fv, ssv] isAgg73 sizeOf73 rfl rfl (Rd.ownN [] rfl rfl) ?_)
  refine XL.yes (t := 7) rfl (vB h1) (XOp.call (args := [.agg #[arv, rsv], .agg #[fv, ssv]]) call143 rfl (walkOk_spec har hrs hf hss (hlf := (by first | assumption | rfl | omega | simp)) (hsb := (by first | assumption | rfl | omega | simp))) ?_)
  rintro _ _ _ _ ⟨rfl, rfl, rfl⟩
  refine cX (XOp.pickT (.bool (((termOk ar f && decide (ss.length ≤ 60)) && goOk ar rs f ss))) (vB h1) rfl ?_)
  refine XL.as (.bool (((termOk ar f && decide (ss.length ≤ 60)) && goOk ar rs f ss))) rfl ?_
  refine XL.nil ?_
  refine X.ret (retEnd (L' := L) [.bool (((termOk ar f && decide (ss.length ≤ 60)) && goOk ar rs f ss))] (.bool (((termOk ar f && decide (ss.length ≤ 60)) && goOk ar rs f ss))) (.tmp rfl .nil) rfl rF rF (Sub.drop (Sub.drop sR)) ?_)
  exact ⟨(vB (by rw [walkOkL, rightB]; simp_all [Bool.and_assoc])), rfl, rfl⟩
 ·rw [Bool.not_eq_true] at h1
  refine XL.no (t := 7) rfl (vB h1) ?_
  refine XL.no (t := 7) rfl (vB h1) ?_
  refine XL.no (t := 7) rfl (vB h1) ?_
  refine cX (XOp.pickF (.bool (false)) (vB h1) rfl ?_)
  refine XL.as (.bool (false)) rfl ?_
  refine XL.nil ?_
  refine X.ret (retEnd (L' := L) [.bool (false)] (.bool (false)) (.tmp rfl .nil) rfl rF rF (Sub.drop (Sub.drop sR)) ?_)
  exact ⟨(vB (by rw [walkOkL, rightB]; simp_all [Bool.and_assoc])), rfl, rfl⟩

/- (impl.Walk).end -/
theorem walkEnd_spec {F : FH} {L : List HP} {fv : Value} {f : List Int} (hf : IntsF F fv f) {ssv : Value} {ss : List StepT} (hss : StepsF F ssv ss) (hlss : ss.length ≤ 4000000) :
    Does prog 144 [.agg #[fv, ssv]] F (L) (fun v F' L' => F = F' ∧ ∃ (a : Value), (a : Value) = v ∧ (IntsF F' a (endL f ss)) ∧ L = L') := by
 refine Does.of_X func144 rfl rfl rfl ?_
 refine X.seq (X.region ?_)
 refine cX (XOp.box [fv, ssv] rfl rfl ?_)
 intro b1
 refine XL.as ((.slice none 0 0)) rfl ?_
 refine XL.nil (X.seq (X.seq (X.region ?_)))
 refine cX (XOp.fieldP (b := b1) (1) runUnderlying73 rfl sizeOf71 (by decide) rfl rfl ?_)
 refine cX (XOp.load1 (v := ssv) isAgg71 rfl (Rd.own [] rfl rfl) ?_)
 refine cX (XOp.lenS (v := ssv) (n := (ss).length) runUnderlying71 rfl hss.slv ?_)
 refine XL.as (.int .i64 ((ss.length : Int))) rfl ?_
 refine XL.nil (X.seq (X.region ?_))
 refine XL.mv (.int .i64 ((ss.length : Int))) rfl ?_
 refine cX (XOp.gtr (a := (ss.length : Int)) (b := 0) rfl rfl ?_)
 refine XL.nil ?_
 refine X.condD (p := ((ss.length : Int) : Int) > 0) rfl (fun h1 => ?_) (fun h1 => ?_)
 ·refine X.seq (X.region ?_)
  refine cX (XOp.fieldP (b := b1) (1) runUnderlying73 rfl sizeOf71 (by decide) rfl rfl ?_)
  refine cX (XOp.load1 (v := ssv) isAgg71 rfl (Rd.own [] rfl rfl) ?_)
  refine XL.mv (.int .i64 ((ss.length : Int))) rfl ?_
  refine cX (XOp.subR (a := (ss.length : Int)) (b := 1) (((((ss).length) - 1 : Nat) : Int)) rfl rfl (by omega) (by omega) ?_)
  refine cX (XOp.indexS (v := ssv) (i := ((((ss).length) - 1 : Nat) : Int)) (n := (ss).length) (((ss).length) - 1) runUnderlying71 sizeOf119 rfl rfl rfl hss.slv (by omega) rfl ?_)
  refine cX (XOp.fieldE (v := ssv) ((((ss).length) - 1) * 3 + 2) runUnderlying119 rfl sizeOf22 (by decide) rfl rfl ?_)
  obtain ⟨a1, ha1, hr1, hr2, hr3⟩ := hss.rd (i := ((ss).length) - 1) (by omega)
  refine cX (XOp.load1 (v := a1) isAgg22 rfl (hr3 _) ?_)
  refine XL.as (a1) rfl ?_
  refine XL.nil ?_
  refine X.ret (thenQ_ret (retEnd (L' := L) [a1] (a1) (.tmp rfl .nil) rfl rF rF (Sub.drop sR) ?_))
  exact ⟨rfl, _, rfl, by rw [endL, if_neg (by omega)]; exact ha1, rfl⟩
 ·refine X.skip (X.seq (X.region ?_))
  refine cX (XOp.fieldP (b := b1) (0) runUnderlying73 rfl sizeOf22 (by decide) rfl rfl ?_)
  refine cX (XOp.load1 (v := fv) isAgg22 rfl (Rd.own [] rfl rfl) ?_)
  refine XL.as (fv) rfl ?_
  refine XL.nil ?_
  refine X.ret (retEnd (L' := L) [fv] (fv) (.tmp rfl .nil) rfl rF rF (Sub.drop sR) ?_)
  exact ⟨rfl, _, rfl, by rw [endL, if_pos (by omega)]; exact hf, rfl⟩

/- spec.StepAt -/
theorem sStepAt_spec {F : FH} {L : List HP} {arv : Value} {ar : List Int} (har : IntsF F arv ar) {rsv : Value} {rs : List (List Int × List Int)} (hrs : PairsF F rsv rs) {tv : Value} {t : List Int} (ht : IntsF F tv t) {p : Int} {r : Int} (hla : ar.length ≤ 4000000) (hlr : rs.length ≤ 4000000) (hrb : ∀ i, i < rs.length → (rs.getD i ([], [])).1.length ≤ 4000000 ∧ (rs.getD i ([], [])).2.length ≤ 4000000) (hlt : t.length ≤ 4000000) :
    Does prog 59 [.agg #[arv, rsv], tv, .int .i64 (p), .int .i64 (r)] F (L) (fun v F' L' => ∃ (a : Value), (.tuple #[a, .bool ((stepAtL ar rs t p r).isSome)] : Value) = v ∧ (IntsF F' a ((stepAtL ar rs t p r).getD [])) ∧ L = L') := by
 refine Does.of_X func59 rfl rfl rfl ?_
 refine X.seq (X.region ?_)
 refine cX (XOp.box [arv, rsv] rfl rfl ?_)
 intro b1
 refine XL.as ((.slice none 0 0)) rfl ?_
 refine XL.as (.bool (false)) rfl ?_
 refine XL.nil (X.seq (X.seq (X.region ?_)))
 refine cX (XOp.loadN [arv, rsv] isAgg36 sizeOf36 rfl rfl (Rd.ownN [] rfl rfl) ?_)
 refine XL.mv (tv) rfl ?_
 refine cX (XOp.call (args := [.agg #[arv, rsv], tv]) call111 rfl (l7Right_spec har hrs ht (hla := (by first | assumption | rfl | omega | simp)) (hlr := (by first | assumption | rfl | omega | simp)) (hrb := (by first | assumption | rfl | omega | simp)) (hlt := (by first | assumption | rfl | omega | simp))) ?_)
 rintro _ _ _ _ ⟨rfl, rfl, rfl⟩
 refine cX (XOp.notB (b := rightB ar rs t) rfl ?_)
 refine XL.mv (.bool (!(rightB ar rs t))) rfl ?_
 by_cases h1 : (!(rightB ar rs t)) = true
 ·refine XL.no (t := 14) rfl (vB h1) ?_
  refine XL.no (t := 14) rfl (vB h1) ?_
  refine XL.no (t := 14) rfl (vB h1) ?_
  refine XL.no (t := 14) rfl (vB h1) ?_
  refine cX (XOp.pickT (.bool (true)) (vB h1) rfl ?_)
  refine XL.mv (.bool (true)) rfl ?_
  refine XL.no (t := 20) rfl rfl ?_
  refine XL.no (t := 20) rfl rfl ?_
  refine XL.no (t := 20) rfl rfl ?_
  refine XL.no (t := 20) rfl rfl ?_
  refine XL.no (t := 20) rfl rfl ?_
  refine XL.no (t := 20) rfl rfl ?_
  refine XL.no (t := 20) rfl rfl ?_
  refine cX (XOp.pickT (.bool (true)) rfl rfl ?_)
  refine XL.nil ?_
  refine X.condT rfl ?_
  refine X.seq (X.region ?_)
  refine cX (XOp.buildSlice (s := 1) [] [.int .i64 (0)] [] runUnderlying22 sizeOf2 zeroValue2 rfl (by decide) rfl CellsAre.nil rfl ?_)
  intro v1 hv1
  refine XL.as (v1) rfl ?_
  refine XL.as (.bool (false)) rfl ?_
  refine XL.nil ?_
  show X _ _ _ _ _ _ (intsH 2 v1 ([] : List Int) :: cellsH b1 [arv, rsv] 36 :: L)
  refine X.freezeF [] _ _ rfl (fun F1 le1 hz1 => ?_)
  replace har := har.mono le1
  replace hrs := hrs.mono le1
  replace ht := ht.mono le1
  have hf1 : IntsF F1 v1 ([]) := intsH.fz (xs := []) hz1.fz
  refine X.ret (thenQ_ret (retEnd (L' := L) [v1, .bool (false)] (.tuple #[v1, .bool (false)]) (.tmp rfl (.tmp rfl .nil)) rfl le1 rF (Sub.drop sR) ?_))
  have hz0 : stepAtL ar rs t p r = none := by rw [stepAtL, if_neg (by unfold stepAtOk; cases hA : rightB ar rs t <;> simp_all <;> omega)]
  exact ⟨_, by rw [hz0]; rfl, by rw [hz0]; exact hf1, rfl⟩
 ·rw [Bool.not_eq_true] at h1
  refine XL.yes (t := 14) rfl (vB h1) (XOp.move (tv) rfl ?_)
  refine XL.yes (t := 14) rfl (vB h1) (XOp.move (.int .i64 (p)) rfl ?_)
  refine XL.yes (t := 14) rfl (vB h1) (XOp.call (args := [tv, .int .i64 (p)]) call96 rfl (l1There_spec (n := p) ht (hbd := (by first | assumption | rfl | omega | simp))) ?_)
  rintro _ _ _ _ ⟨rfl, rfl, rfl⟩
  refine XL.yes (t := 14) rfl (vB h1) (XOp.notD (p := 0 ≤ p ∧ p < (t.length : Int)) rfl ?_)
  refine cX (XOp.pickF (.bool (decide (¬(0 ≤ p ∧ p < (t.length : Int))))) (vB h1) rfl ?_)
  refine XL.mv (.bool (decide (¬(0 ≤ p ∧ p < (t.length : Int))))) rfl ?_
  by_cases h2 : ¬(0 ≤ p ∧ p < (t.length : Int))
  ·refine XL.no (t := 20) rfl (vT h2) ?_
   refine XL.no (t := 20) rfl (vT h2) ?_
   refine XL.no (t := 20) rfl (vT h2) ?_
   refine XL.no (t := 20) rfl (vT h2) ?_
   refine XL.no (t := 20) rfl (vT h2) ?_
   refine XL.no (t := 20) rfl (vT h2) ?_
   refine XL.no (t := 20) rfl (vT h2) ?_
   refine cX (XOp.pickT (.bool (true)) (vT h2) rfl ?_)
   refine XL.nil ?_
   refine X.condT rfl ?_
   refine X.seq (X.region ?_)
   refine cX (XOp.buildSlice (s := 1) [] [.int .i64 (0)] [] runUnderlying22 sizeOf2 zeroValue2 rfl (by decide) rfl CellsAre.nil rfl ?_)
   intro v2 hv2
   refine XL.as (v2) rfl ?_
   refine XL.as (.bool (false)) rfl ?_
   refine XL.nil ?_
   show X _ _ _ _ _ _ (intsH 2 v2 ([] : List Int) :: cellsH b1 [arv, rsv] 36 :: L)
   refine X.freezeF [] _ _ rfl (fun F2 le2 hz2 => ?_)
   replace har := har.mono le2
   replace hrs := hrs.mono le2
   replace ht := ht.mono le2
   have hf2 : IntsF F2 v2 ([]) := intsH.fz (xs := []) hz2.fz
   refine X.ret (thenQ_ret (retEnd (L' := L) [v2, .bool (false)] (.tuple #[v2, .bool (false)]) (.tmp rfl (.tmp rfl .nil)) rfl le2 rF (Sub.drop sR) ?_))
   have hz0 : stepAtL ar rs t p r = none := by rw [stepAtL, if_neg (by unfold stepAtOk; cases hA : rightB ar rs t <;> simp_all <;> omega)]
   exact ⟨_, by rw [hz0]; rfl, by rw [hz0]; exact hf2, rfl⟩
  ·refine XL.yes (t := 20) rfl (vF h2) (XOp.move (.int .i64 (r)) rfl ?_)
   refine XL.yes (t := 20) rfl (vF h2) (XOp.fieldP (b := b1) (1) runUnderlying36 rfl sizeOf34 (by decide) rfl rfl ?_)
   refine XL.yes (t := 20) rfl (vF h2) (XOp.load1 (v := rsv) isAgg34 rfl (Rd.own [] rfl rfl) ?_)
   refine XL.yes (t := 20) rfl (vF h2) (XOp.lenS (v := rsv) (n := (rs).length) runUnderlying34 rfl hrs.slv ?_)
   refine XL.yes (t := 20) rfl (vF h2) (XOp.subR (a := (rs.length : Int)) (b := 1) (((rs.length : Int)) - 1) rfl rfl (by omega) (by omega) ?_)
   refine XL.yes (t := 20) rfl (vF h2) (XOp.call (args := [.int .i64 (r), .int .i64 (0), .int .i64 (((rs.length : Int)) - 1)]) call58 rfl (l1In_spec (n := r) (a := 0) (b := ((rs.length : Int)) - 1)) ?_)
   rintro _ _ _ _ ⟨rfl, rfl, rfl⟩
   refine XL.yes (t := 20) rfl (vF h2) (XOp.notD (p := 0 ≤ r ∧ r ≤ (((rs.length : Int)) - 1)) rfl ?_)
   refine cX (XOp.pickF (.bool (decide (¬(0 ≤ r ∧ r ≤ (((rs.length : Int)) - 1))))) (vF h2) rfl ?_)
   refine XL.nil ?_
   refine X.condD (p := ¬(0 ≤ r ∧ r ≤ (((rs.length : Int)) - 1))) rfl (fun h3 => ?_) (fun h3 => ?_)
   ·refine X.seq (X.region ?_)
    refine cX (XOp.buildSlice (s := 1) [] [.int .i64 (0)] [] runUnderlying22 sizeOf2 zeroValue2 rfl (by decide) rfl CellsAre.nil rfl ?_)
    intro v3 hv3
    refine XL.as (v3) rfl ?_
    refine XL.as (.bool (false)) rfl ?_
    refine XL.nil ?_
    show X _ _ _ _ _ _ (intsH 2 v3 ([] : List Int) :: cellsH b1 [arv, rsv] 36 :: L)
    refine X.freezeF [] _ _ rfl (fun F3 le3 hz3 => ?_)
    replace har := har.mono le3
    replace hrs := hrs.mono le3
    replace ht := ht.mono le3
    have hf3 : IntsF F3 v3 ([]) := intsH.fz (xs := []) hz3.fz
    refine X.ret (thenQ_ret (retEnd (L' := L) [v3, .bool (false)] (.tuple #[v3, .bool (false)]) (.tmp rfl (.tmp rfl .nil)) rfl le3 rF (Sub.drop sR) ?_))
    have hz0 : stepAtL ar rs t p r = none := by rw [stepAtL, if_neg (by unfold stepAtOk; cases hA : rightB ar rs t <;> simp_all <;> omega)]
    exact ⟨_, by rw [hz0]; rfl, by rw [hz0]; exact hf3, rfl⟩
   ·refine X.skip (X.seq (X.region ?_))
    have hok : stepAtOk ar rs t p r = true := by unfold stepAtOk; cases hA : rightB ar rs t <;> simp_all <;> omega
    have hok2 := hok
    unfold stepAtOk rightB at hok2
    simp only [Bool.and_eq_true, decide_eq_true_eq] at hok2
    obtain ⟨⟨⟨hsys, ho⟩, hp1⟩, hr1⟩ := hok2
    refine cX (XOp.loadN [arv, rsv] isAgg36 sizeOf36 rfl rfl (Rd.ownN [] rfl rfl) ?_)
    refine XL.mv (tv) rfl ?_
    refine XL.mv (.int .i64 (p)) rfl ?_
    refine XL.mv (.int .i64 (r)) rfl ?_
    refine cX (XOp.call (args := [.agg #[arv, rsv], tv, .int .i64 (((p).toNat : Nat) : Int), .int .i64 (((r).toNat : Nat) : Int)]) call112 (by rw [show (((p).toNat : Nat) : Int) = p from by omega, show (((r).toNat : Nat) : Int) = r from by omega]; rfl) (l7Step_spec (p := (p).toNat) (r := (r).toNat) har hrs ht (hsys := (by first | assumption | rfl | omega | simp)) (ho := (by first | assumption | rfl | omega | simp)) (hp := (by first | assumption | rfl | omega | simp)) (hr := (by first | assumption | rfl | omega | simp))) ?_)
    rintro _ F4 _ le4 ⟨x1, rfl, hr1, rfl⟩
    refine cX (XOp.extract (x1) rfl rfl ?_)
    refine cX (XOp.extract (.bool ((stepL ar rs t ((p).toNat) ((r).toNat)).isSome)) rfl rfl ?_)
    refine XL.as (x1) rfl ?_
    refine XL.as (.bool ((stepL ar rs t ((p).toNat) ((r).toNat)).isSome)) rfl ?_
    refine XL.nil ?_
    refine X.ret (retEnd (L' := L) [x1, .bool ((stepL ar rs t ((p).toNat) ((r).toNat)).isSome)] (.tuple #[x1, .bool ((stepL ar rs t ((p).toNat) ((r).toNat)).isSome)]) (.tmp rfl (.tmp rfl .nil)) rfl le4 rF (Sub.drop sR) ?_)
    have e := show stepAtL ar rs t p r = stepL ar rs t p.toNat r.toNat from by rw [stepAtL, if_pos hok]
    exact ⟨_, by rw [e], by rw [e]; exact hr1, rfl⟩

/- spec.WalkOk -/
theorem sWalkOk_spec {F : FH} {L : List HP} {arv : Value} {ar : List Int} (har : IntsF F arv ar) {rsv : Value} {rs : List (List Int × List Int)} (hrs : PairsF F rsv rs) {fv : Value} {f : List Int} (hf : IntsF F fv f) {ssv : Value} {ss : List StepT} (hss : StepsF F ssv ss) (hla : ar.length ≤ 4000000) (hlr : rs.length ≤ 4000000) (hrb : ∀ i, i < rs.length → (rs.getD i ([], [])).1.length ≤ 4000000 ∧ (rs.getD i ([], [])).2.length ≤ 4000000) (hlf : f.length ≤ 4000000) (hlss : ss.length ≤ 4000000) (hsb : ∀ i, i < ss.length → (ss.getD i (0, 0, [])).2.2.length ≤ 4000000) :
    Does prog 86 [.agg #[arv, rsv], .agg #[fv, ssv]] F (L) (fun v F' L' => (.bool (walkOkL ar rs f ss) : Value) = v ∧ F = F' ∧ L = L') := by
 refine Does.of_X func86 rfl rfl rfl ?_
 refine X.seq (X.region ?_)
 refine cX (XOp.box [arv, rsv] rfl rfl ?_)
 intro b1
 refine cX (XOp.box [fv, ssv] rfl rfl ?_)
 intro b2
 refine XL.as (.bool (false)) rfl ?_
 refine XL.nil (X.seq (X.seq (X.region ?_)))
 refine cX (XOp.loadN [arv, rsv] isAgg36 sizeOf36 rfl rfl (Rd.ownN [_] rfl rfl) ?_)
 refine cX (XOp.fieldP (b := b2) (0) runUnderlying73 rfl sizeOf22 (by decide) rfl rfl ?_)
 refine cX (XOp.load1 (v := fv) isAgg22 rfl (Rd.own [] rfl rfl) ?_)
 refine cX (XOp.call (args := [.agg #[arv, rsv], fv]) call111 rfl (l7Right_spec har hrs hf (hla := (by first | assumption | rfl | omega | simp)) (hlr := (by first | assumption | rfl | omega | simp)) (hrb := (by first | assumption | rfl | omega | simp)) (hlt := (by first | assumption | rfl | omega | simp))) ?_)
 rintro _ _ _ _ ⟨rfl, rfl, rfl⟩
 refine cX (XOp.notB (b := rightB ar rs f) rfl ?_)
 refine XL.mv (.bool (!(rightB ar rs f))) rfl ?_
 by_cases h1 : (!(rightB ar rs f)) = true
 ·refine XL.no (t := 14) rfl (vB h1) ?_
  refine XL.no (t := 14) rfl (vB h1) ?_
  refine XL.no (t := 14) rfl (vB h1) ?_
  refine XL.no (t := 14) rfl (vB h1) ?_
  refine cX (XOp.pickT (.bool (true)) (vB h1) rfl ?_)
  refine XL.nil ?_
  refine X.condT rfl ?_
  refine X.seq (X.region ?_)
  refine XL.as (.bool (false)) rfl ?_
  refine XL.nil ?_
  refine X.ret (thenQ_ret (retEnd (L' := L) [.bool (false)] (.bool (false)) (.tmp rfl .nil) rfl rF rF (Sub.drop (Sub.drop sR)) ?_))
  exact ⟨(vB (by unfold walkOkL; simp_all <;> omega)), rfl, rfl⟩
 ·rw [Bool.not_eq_true] at h1
  refine XL.yes (t := 14) rfl (vB h1) (XOp.fieldP (b := b2) (1) runUnderlying73 rfl sizeOf71 (by decide) rfl rfl ?_)
  refine XL.yes (t := 14) rfl (vB h1) (XOp.load1 (v := ssv) isAgg71 rfl (Rd.own [] rfl rfl) ?_)
  refine XL.yes (t := 14) rfl (vB h1) (XOp.lenS (v := ssv) (n := (ss).length) runUnderlying71 rfl hss.slv ?_)
  refine XL.yes (t := 14) rfl (vB h1) (XOp.gtr (a := (ss.length : Int)) (b := 60) rfl rfl ?_)
  refine cX (XOp.pickF (.bool (decide (((ss.length : Int) : Int) > 60))) (vB h1) rfl ?_)
  refine XL.nil ?_
  refine X.condD (p := ((ss.length : Int) : Int) > 60) rfl (fun h2 => ?_) (fun h2 => ?_)
  ·refine X.seq (X.region ?_)
   refine XL.as (.bool (false)) rfl ?_
   refine XL.nil ?_
   refine X.ret (thenQ_ret (retEnd (L' := L) [.bool (false)] (.bool (false)) (.tmp rfl .nil) rfl rF rF (Sub.drop (Sub.drop sR)) ?_))
   exact ⟨(vB (by unfold walkOkL; simp_all <;> omega)), rfl, rfl⟩
  ·refine X.skip (X.seq (X.region ?_))
   refine cX (XOp.fieldP (b := b2) (0) runUnderlying73 rfl sizeOf22 (by decide) rfl rfl ?_)
   refine cX (XOp.load1 (v := fv) isAgg22 rfl (Rd.own [] rfl rfl) ?_)
   refine XL.as (fv) rfl ?_
   refine XL.nil (X.seq (X.seq (X.region ?_)))
   refine XL.as (.int .i64 (0)) rfl ?_
   refine XL.nil (X.block ?_)
   refine X.loop (α := Nat × Value × List Int × FH) (fun xQ => [(2, ptr b1 0), (3, ptr b2 0), (5, xQ.2.1), (6, .int .i64 (((xQ.1 : Nat) : Int)))]) (fun xQ => cellsH b2 [fv, ssv] 73 :: cellsH b1 [arv, rsv] 36 :: L) (fun xQ F' => xQ.2.2.2 = F' ∧ F ≤ xQ.2.2.2 ∧ (IntsF xQ.2.2.2 xQ.2.1 xQ.2.2.1) ∧ (xQ.1 ≤ ss.length) ∧ (goOk ar rs f ss = goOk ar rs xQ.2.2.1 (ss.drop xQ.1)) ∧ (xQ.2.2.1.length ≤ 4000000)) (fun xQ => ss.length - xQ.1) (0, fv, f, F) ⟨rfl, rfl, rfl, rfl, trivial⟩ (Sub.cons (Sub.cons sR)) ⟨rfl, FLe.refl _, (hf), (by (try dsimp only) <;> omega), (rfl), (hlf)⟩ ?_
   rintro ⟨k, cv, cur, G1⟩ rE _ _ ⟨rfl, leG, hcv, hk, hgo, hcl⟩
   show X _ _ _ _ (envs [(2, ptr b1 0), (3, ptr b2 0), (5, cv), (6, .int .i64 ((k : Int)))] rE) _ (cellsH b2 [fv, ssv] 73 :: cellsH b1 [arv, rsv] 36 :: L)
   replace leG : F ≤ G1 := leG
   dsimp only at hcv hk hgo hcl
   have hsk := hsb k
   have leG1 := leG
   replace har := har.mono leG1
   replace hrs := hrs.mono leG1
   replace hss := hss.mono leG1
   refine X.seq (X.seq (X.region ?_))
   refine XL.mv (.int .i64 ((k : Int))) rfl ?_
   refine cX (XOp.fieldP (b := b2) (1) runUnderlying73 rfl sizeOf71 (by decide) rfl rfl ?_)
   refine cX (XOp.load1 (v := ssv) isAgg71 rfl (Rd.own [] rfl rfl) ?_)
   refine cX (XOp.lenS (v := ssv) (n := (ss).length) runUnderlying71 rfl hss.slv ?_)
   refine cX (XOp.lss (a := (k : Int)) (b := (ss.length : Int)) rfl rfl ?_)
   refine XL.nil ?_
   refine X.condD (p := (k : Int) < (ss.length : Int)) rfl (fun h3 => ?_) (fun h3 => ?_)
   ·refine X.skip (X.seq (X.block (X.seq ?_)))
    obtain ⟨a1, ha1, hr1, hr2, hr3⟩ := hss.rd (i := k) (by omega)
    refine X.drawG [cellsH b2 [fv, ssv] 73, cellsH b1 [arv, rsv] 36] L 19 [[], [], [], [], [], [], [], [], [], [], [], [], [], [], [], [14], [14], [], [14]] [[], [], [], [2], [], [3, 4], [5], [6], [], [8], [], [9, 10], [11], [12], [0, 1, 7, 13], [14], [14, 15], [14, 15], [14, 16]] [[], [], [], [], [], [], [], [], [], [], [], [], [], [], [], [], [], [], []] (phiG [fun FF us v => v = (.agg #[arv, rsv] : Value), fun FF us v => v = cv, fun FF us v => v = ptr b2 1, fun FF us v => v = ssv, fun FF us v => v = (.int .i64 ((k : Int)) : Value), fun FF us v => v = (.pointer (some (elemA ssv (k * 3))) : Value), fun FF us v => v = (.pointer (some (elemA ssv (k * 3))) : Value), fun FF us v => v = (.int .i64 ((ss.getD k (0, 0, [])).1) : Value), fun FF us v => v = ptr b2 1, fun FF us v => v = ssv, fun FF us v => v = (.int .i64 ((k : Int)) : Value), fun FF us v => v = (.pointer (some (elemA ssv (k * 3))) : Value), fun FF us v => v = (.pointer (some (elemA ssv (k * 3 + 1))) : Value), fun FF us v => v = (.int .i64 ((ss.getD k (0, 0, [])).2.1) : Value), fun FF us v => (.tuple #[((tupAt v 0)), .bool ((stepAtL ar rs cur ((ss.getD k (0, 0, [])).1) ((ss.getD k (0, 0, [])).2.1)).isSome)] : Value) = v ∧ (IntsF FF ((tupAt v 0)) ((stepAtL ar rs cur ((ss.getD k (0, 0, [])).1) ((ss.getD k (0, 0, [])).2.1)).getD [])), fun FF us v => v = (.tuple #[((tupAt (us.getD 0 undef) 0)), .bool ((stepAtL ar rs cur ((ss.getD k (0, 0, [])).1) ((ss.getD k (0, 0, [])).2.1)).isSome)] : Value), fun FF us v => v = ((tupAt (us.getD 0 undef) 0)), fun FF us v => v = (.bool ((stepAtL ar rs cur ((ss.getD k (0, 0, [])).1) ((ss.getD k (0, 0, [])).2.1)).isSome) : Value), fun FF us v => v = ((tupAt (us.getD 0 undef) 0))]) (ownL [fun us v => [], fun us v => [], fun us v => [], fun us v => [], fun us v => [], fun us v => [], fun us v => [], fun us v => [], fun us v => [], fun us v => [], fun us v => [], fun us v => [], fun us v => [], fun us v => [], fun us v => [], fun us v => [], fun us v => [], fun us v => [], fun us v => []]) mixed rfl rfl (by kernel_rfl) (by kernel_rfl) (MonoG.get (MonoG.cons (fun le h => h) (MonoG.cons (fun le h => h) (MonoG.cons (fun le h => h) (MonoG.cons (fun le h => h) (MonoG.cons (fun le h => h) (MonoG.cons (fun le h => h) (MonoG.cons (fun le h => h) (MonoG.cons (fun le h => h) (MonoG.cons (fun le h => h) (MonoG.cons (fun le h => h) (MonoG.cons (fun le h => h) (MonoG.cons (fun le h => h) (MonoG.cons (fun le h => h) (MonoG.cons (fun le h => h) (MonoG.cons (fun le h => ⟨h.1, h.2.mono le⟩) (MonoG.cons (fun le h => h) (MonoG.cons (fun le h => h) (MonoG.cons (fun le h => h) (MonoG.cons (fun le h => h) MonoG.nil)))))))))))))))))))) ?_ ?_
    ·refine stepsG.cons (fun vals Fs R leFs hpZ => ?_) ?_
     ·replace har := har.mono leFs
      replace hrs := hrs.mono leFs
      replace hss := hss.mono leFs
      replace hcv := hcv.mono leFs
      replace ha1 := ha1.mono leFs
      replace hr1 := Rd.monoA hr1 leFs
      replace hr2 := Rd.monoA hr2 leFs
      replace hr3 := Rd.monoA hr3 leFs
      refine XG.op (XOp.loadN [arv, rsv] isAgg36 sizeOf36 rfl rfl (Rd.ownN [_] rfl rfl) ?_)
      exact ⟨rfl, rfl⟩
     refine stepsG.cons (fun vals Fs R leFs hpZ => ?_) ?_
     ·refine XG.op (XOp.move (cv) rfl ?_)
      exact ⟨rfl, rfl⟩
     refine stepsG.cons (fun vals Fs R leFs hpZ => ?_) ?_
     ·refine XG.op (XOp.fieldP (b := b2) (1) runUnderlying73 rfl sizeOf71 (by decide) rfl rfl ?_)
      exact ⟨rfl, rfl⟩
     refine stepsG.cons (fun vals Fs R leFs hpZ => ?_) ?_
     ·replace har := har.mono leFs
      replace hrs := hrs.mono leFs
      replace hss := hss.mono leFs
      replace hcv := hcv.mono leFs
      replace ha1 := ha1.mono leFs
      replace hr1 := Rd.monoA hr1 leFs
      replace hr2 := Rd.monoA hr2 leFs
      replace hr3 := Rd.monoA hr3 leFs
      rw [eS (l := [(2, ptr b2 1)]) ⟨(hpZ 2 (by decide)), trivial⟩]
      refine XG.op (XOp.load1 (v := ssv) isAgg71 rfl (Rd.own [] rfl rfl) ?_)
      exact ⟨rfl, rfl⟩
     refine stepsG.cons (fun vals Fs R leFs hpZ => ?_) ?_
     ·refine XG.op (XOp.move (.int .i64 ((k : Int))) rfl ?_)
      exact ⟨rfl, rfl⟩
     refine stepsG.cons (fun vals Fs R leFs hpZ => ?_) ?_
     ·replace har := har.mono leFs
      replace hrs := hrs.mono leFs
      replace hss := hss.mono leFs
      replace hcv := hcv.mono leFs
      replace ha1 := ha1.mono leFs
      replace hr1 := Rd.monoA hr1 leFs
      replace hr2 := Rd.monoA hr2 leFs
      replace hr3 := Rd.monoA hr3 leFs
      rw [eS (l := [(3, ssv), (4, (.int .i64 ((k : Int)) : Value))]) ⟨(hpZ 3 (by decide)), (hpZ 4 (by decide)), trivial⟩]
      refine XG.op (XOp.indexS (v := ssv) (i := (k : Int)) (n := (ss).length) k runUnderlying71 sizeOf119 rfl rfl rfl hss.slv (by omega) rfl ?_)
      exact ⟨rfl, rfl⟩
     refine stepsG.cons (fun vals Fs R leFs hpZ => ?_) ?_
     ·rw [eS (l := [(5, (.pointer (some (elemA ssv (k * 3))) : Value))]) ⟨(hpZ 5 (by decide)), trivial⟩]
      refine XG.op (XOp.fieldE (v := ssv) (k * 3) runUnderlying119 rfl sizeOf2 (by decide) rfl rfl ?_)
      exact ⟨rfl, rfl⟩
     refine stepsG.cons (fun vals Fs R leFs hpZ => ?_) ?_
     ·replace har := har.mono leFs
      replace hrs := hrs.mono leFs
      replace hss := hss.mono leFs
      replace hcv := hcv.mono leFs
      replace ha1 := ha1.mono leFs
      replace hr1 := Rd.monoA hr1 leFs
      replace hr2 := Rd.monoA hr2 leFs
      replace hr3 := Rd.monoA hr3 leFs
      rw [eS (l := [(6, (.pointer (some (elemA ssv (k * 3))) : Value))]) ⟨(hpZ 6 (by decide)), trivial⟩]
      refine XG.op (XOp.load1 (v := .int .i64 ((ss.getD k (0, 0, [])).1)) isAgg2 rfl (hr1 _) ?_)
      exact ⟨rfl, rfl⟩
     refine stepsG.cons (fun vals Fs R leFs hpZ => ?_) ?_
     ·refine XG.op (XOp.fieldP (b := b2) (1) runUnderlying73 rfl sizeOf71 (by decide) rfl rfl ?_)
      exact ⟨rfl, rfl⟩
     refine stepsG.cons (fun vals Fs R leFs hpZ => ?_) ?_
     ·replace har := har.mono leFs
      replace hrs := hrs.mono leFs
      replace hss := hss.mono leFs
      replace hcv := hcv.mono leFs
      replace ha1 := ha1.mono leFs
      replace hr2 := Rd.monoA hr2 leFs
      replace hr3 := Rd.monoA hr3 leFs
      rw [eS (l := [(8, ptr b2 1)]) ⟨(hpZ 8 (by decide)), trivial⟩]
      refine XG.op (XOp.load1 (v := ssv) isAgg71 rfl (Rd.own [] rfl rfl) ?_)
      exact ⟨rfl, rfl⟩
     refine stepsG.cons (fun vals Fs R leFs hpZ => ?_) ?_
     ·refine XG.op (XOp.move (.int .i64 ((k : Int))) rfl ?_)
      exact ⟨rfl, rfl⟩
     refine stepsG.cons (fun vals Fs R leFs hpZ => ?_) ?_
     ·replace har := har.mono leFs
      replace hrs := hrs.mono leFs
      replace hss := hss.mono leFs
      replace hcv := hcv.mono leFs
      replace ha1 := ha1.mono leFs
      replace hr2 := Rd.monoA hr2 leFs
      replace hr3 := Rd.monoA hr3 leFs
      rw [eS (l := [(9, ssv), (10, (.int .i64 ((k : Int)) : Value))]) ⟨(hpZ 9 (by decide)), (hpZ 10 (by decide)), trivial⟩]
      refine XG.op (XOp.indexS (v := ssv) (i := (k : Int)) (n := (ss).length) k runUnderlying71 sizeOf119 rfl rfl rfl hss.slv (by omega) rfl ?_)
      exact ⟨rfl, rfl⟩
     refine stepsG.cons (fun vals Fs R leFs hpZ => ?_) ?_
     ·rw [eS (l := [(11, (.pointer (some (elemA ssv (k * 3))) : Value))]) ⟨(hpZ 11 (by decide)), trivial⟩]
      refine XG.op (XOp.fieldE (v := ssv) (k * 3 + 1) runUnderlying119 rfl sizeOf2 (by decide) rfl rfl ?_)
      exact ⟨rfl, rfl⟩
     refine stepsG.cons (fun vals Fs R leFs hpZ => ?_) ?_
     ·replace har := har.mono leFs
      replace hrs := hrs.mono leFs
      replace hss := hss.mono leFs
      replace hcv := hcv.mono leFs
      replace ha1 := ha1.mono leFs
      replace hr2 := Rd.monoA hr2 leFs
      replace hr3 := Rd.monoA hr3 leFs
      rw [eS (l := [(12, (.pointer (some (elemA ssv (k * 3 + 1))) : Value))]) ⟨(hpZ 12 (by decide)), trivial⟩]
      refine XG.op (XOp.load1 (v := .int .i64 ((ss.getD k (0, 0, [])).2.1)) isAgg2 rfl (hr2 _) ?_)
      exact ⟨rfl, rfl⟩
     refine stepsG.cons (fun vals Fs R leFs hpZ => ?_) ?_
     ·replace har := har.mono leFs
      replace hrs := hrs.mono leFs
      replace hss := hss.mono leFs
      replace hcv := hcv.mono leFs
      replace ha1 := ha1.mono leFs
      replace hr3 := Rd.monoA hr3 leFs
      rw [eS (l := [(0, (.agg #[arv, rsv] : Value)), (1, cv), (7, (.int .i64 ((ss.getD k (0, 0, [])).1) : Value)), (13, (.int .i64 ((ss.getD k (0, 0, [])).2.1) : Value))]) ⟨(hpZ 0 (by decide)), (hpZ 1 (by decide)), (hpZ 7 (by decide)), (hpZ 13 (by decide)), trivial⟩]
      refine XG.op (XOp.call (args := [.agg #[arv, rsv], cv, .int .i64 ((ss.getD k (0, 0, [])).1), .int .i64 ((ss.getD k (0, 0, [])).2.1)]) call59 rfl (sStepAt_spec (p := (ss.getD k (0, 0, [])).1) (r := (ss.getD k (0, 0, [])).2.1) har hrs hcv (hla := (by first | assumption | rfl | omega | simp)) (hlr := (by first | assumption | rfl | omega | simp)) (hrb := (by first | assumption | rfl | omega | simp)) (hlt := (by first | assumption | rfl | omega | simp))) ?_)
      rintro _ F2 _ le2 ⟨x2, rfl, hr5, rfl⟩
      replace hss := hss.mono le2
      replace ha1 := ha1.mono le2
      replace hr3 := Rd.monoA hr3 le2
      exact ⟨⟨rfl, hr5⟩, rfl⟩
     refine stepsG.cons (fun vals Fs R leFs hpZ => ?_) ?_
     ·obtain ⟨e14, f14_1hr⟩ := hpZ 14 (by decide)
      rw [eS (l := [(14, (.tuple #[((tupAt (vals 14) 0)), .bool ((stepAtL ar rs cur ((ss.getD k (0, 0, [])).1) ((ss.getD k (0, 0, [])).2.1)).isSome)] : Value))]) ⟨(e14).symm, trivial⟩]
      refine XG.op (XOp.move (.tuple #[((tupAt (vals 14) 0)), .bool ((stepAtL ar rs cur ((ss.getD k (0, 0, [])).1) ((ss.getD k (0, 0, [])).2.1)).isSome)]) rfl ?_)
      exact ⟨rfl, rfl⟩
     refine stepsG.cons (fun vals Fs R leFs hpZ => ?_) ?_
     ·obtain ⟨e14, f14_1hr⟩ := hpZ 14 (by decide)
      have e15 : vals 15 = (.tuple #[((tupAt (vals 14) 0)), .bool ((stepAtL ar rs cur ((ss.getD k (0, 0, [])).1) ((ss.getD k (0, 0, [])).2.1)).isSome)] : Value) := hpZ 15 (by decide)
      rw [eS (l := [(14, (.tuple #[((tupAt (vals 14) 0)), .bool ((stepAtL ar rs cur ((ss.getD k (0, 0, [])).1) ((ss.getD k (0, 0, [])).2.1)).isSome)] : Value)), (15, (.tuple #[((tupAt (vals 14) 0)), .bool ((stepAtL ar rs cur ((ss.getD k (0, 0, [])).1) ((ss.getD k (0, 0, [])).2.1)).isSome)] : Value))]) ⟨(e14).symm, e15, trivial⟩]
      refine XG.op (XOp.extract (((tupAt (vals 14) 0))) rfl rfl ?_)
      exact ⟨rfl, rfl⟩
     refine stepsG.cons (fun vals Fs R leFs hpZ => ?_) ?_
     ·obtain ⟨e14, f14_1hr⟩ := hpZ 14 (by decide)
      have e15 : vals 15 = (.tuple #[((tupAt (vals 14) 0)), .bool ((stepAtL ar rs cur ((ss.getD k (0, 0, [])).1) ((ss.getD k (0, 0, [])).2.1)).isSome)] : Value) := hpZ 15 (by decide)
      rw [eS (l := [(14, (.tuple #[((tupAt (vals 14) 0)), .bool ((stepAtL ar rs cur ((ss.getD k (0, 0, [])).1) ((ss.getD k (0, 0, [])).2.1)).isSome)] : Value)), (15, (.tuple #[((tupAt (vals 14) 0)), .bool ((stepAtL ar rs cur ((ss.getD k (0, 0, [])).1) ((ss.getD k (0, 0, [])).2.1)).isSome)] : Value))]) ⟨(e14).symm, e15, trivial⟩]
      refine XG.op (XOp.extract (.bool ((stepAtL ar rs cur ((ss.getD k (0, 0, [])).1) ((ss.getD k (0, 0, [])).2.1)).isSome)) rfl rfl ?_)
      exact ⟨rfl, rfl⟩
     refine stepsG.cons (fun vals Fs R leFs hpZ => ?_) ?_
     ·obtain ⟨e14, f14_1hr⟩ := hpZ 14 (by decide)
      have e16 : vals 16 = ((tupAt (vals 14) 0)) := hpZ 16 (by decide)
      rw [eS (l := [(14, (.tuple #[((tupAt (vals 14) 0)), .bool ((stepAtL ar rs cur ((ss.getD k (0, 0, [])).1) ((ss.getD k (0, 0, [])).2.1)).isSome)] : Value)), (16, ((tupAt (vals 14) 0)))]) ⟨(e14).symm, e16, trivial⟩]
      refine XG.op (XOp.assign (((tupAt (vals 14) 0))) rfl ?_)
      exact ⟨rfl, rfl⟩
     exact stepsG.nil
    ·intro vals F3 le3 hphi
     obtain ⟨e14, f14_1hr⟩ := hphi 14 (by decide)
     have e15 : vals 15 = (.tuple #[((tupAt (vals 14) 0)), .bool ((stepAtL ar rs cur ((ss.getD k (0, 0, [])).1) ((ss.getD k (0, 0, [])).2.1)).isSome)] : Value) := hphi 15 (by decide)
     have e16 : vals 16 = ((tupAt (vals 14) 0)) := hphi 16 (by decide)
     have e18 : vals 18 = ((tupAt (vals 14) 0)) := hphi 18 (by decide)
     generalize hu1 : ((tupAt (vals 14) 0)) = u1 at e14 f14_1hr e15 e16 e18
     rw [eS (l := [(14, (.tuple #[u1, .bool ((stepAtL ar rs cur ((ss.getD k (0, 0, [])).1) ((ss.getD k (0, 0, [])).2.1)).isSome)] : Value)), (17, (.bool ((stepAtL ar rs cur ((ss.getD k (0, 0, [])).1) ((ss.getD k (0, 0, [])).2.1)).isSome) : Value)), (18, u1)]) ⟨(e14).symm, (hphi 17 (by decide)), e18, trivial⟩]
     replace hss := hss.mono le3
     replace ha1 := ha1.mono le3
     replace hr3 := Rd.monoA hr3 le3
     show XL _ _ _ _ _ _ _ (cellsH b2 [fv, ssv] 73 :: cellsH b1 [arv, rsv] 36 :: L)
     refine XL.as (.bool ((stepAtL ar rs cur ((ss.getD k (0, 0, [])).1) ((ss.getD k (0, 0, [])).2.1)).isSome)) rfl ?_
     refine XL.nil (X.seq (X.seq (X.region ?_)))
     refine XL.mv (.bool ((stepAtL ar rs cur ((ss.getD k (0, 0, [])).1) ((ss.getD k (0, 0, [])).2.1)).isSome)) rfl ?_
     refine cX (XOp.notB (b := (stepAtL ar rs cur ((ss.getD k (0, 0, [])).1) ((ss.getD k (0, 0, [])).2.1)).isSome) rfl ?_)
     refine XL.mv (.bool (!((stepAtL ar rs cur ((ss.getD k (0, 0, [])).1) ((ss.getD k (0, 0, [])).2.1)).isSome))) rfl ?_
     by_cases h4 : (!((stepAtL ar rs cur ((ss.getD k (0, 0, [])).1) ((ss.getD k (0, 0, [])).2.1)).isSome)) = true
     ·have hu1 : (stepAtL ar rs cur (ss.getD k (0, 0, [])).1 (ss.getD k (0, 0, [])).2.1).isSome = false := by simpa using h4
      refine XL.no (t := 49) rfl (vB h4) ?_
      refine XL.no (t := 49) rfl (vB h4) ?_
      refine XL.no (t := 49) rfl (vB h4) ?_
      refine XL.no (t := 49) rfl (vB h4) ?_
      refine XL.no (t := 49) rfl (vB h4) ?_
      refine XL.no (t := 49) rfl (vB h4) ?_
      refine XL.no (t := 49) rfl (vB h4) ?_
      refine XL.no (t := 49) rfl (vB h4) ?_
      refine XL.no (t := 49) rfl (vB h4) ?_
      refine cX (XOp.pickT (.bool (true)) (vB h4) rfl ?_)
      refine XL.nil ?_
      refine X.condT rfl ?_
      refine X.seq (X.region ?_)
      refine XL.as (.bool (false)) rfl ?_
      refine XL.nil ?_
      refine X.ret (thenQ_ret (blockQ_ret (thenQ_ret (thenQ_ret (blockQ_ret (thenQ_ret (retEnd (L' := L) [.bool (false)] (.bool (false)) (.tmp rfl .nil) rfl rF (FLe.trans leG1 le3) (Sub.drop (Sub.drop sR)) ?_)))))))
      exact ⟨(vB (by have hz := goOk_fail (ar := ar) (rs := rs) (t := cur) (ss := ss) (k := k) (by omega) (by first | exact .inl hu1 | exact .inr hu2); rw [walkOkL, hgo, hz]; simp)), rfl, rfl⟩
     ·rw [Bool.not_eq_true] at h4
      have hu1 : (stepAtL ar rs cur (ss.getD k (0, 0, [])).1 (ss.getD k (0, 0, [])).2.1).isSome = true := by simpa using h4
      refine XL.yes (t := 49) rfl (vB h4) (XOp.move (u1) rfl ?_)
      refine XL.yes (t := 49) rfl (vB h4) (XOp.fieldP (b := b2) (1) runUnderlying73 rfl sizeOf71 (by decide) rfl rfl ?_)
      refine XL.yes (t := 49) rfl (vB h4) (XOp.load1 (v := ssv) isAgg71 rfl (Rd.own [] rfl rfl) ?_)
      refine XL.yes (t := 49) rfl (vB h4) (XOp.move (.int .i64 ((k : Int))) rfl ?_)
      refine XL.yes (t := 49) rfl (vB h4) (XOp.indexS (v := ssv) (i := (k : Int)) (n := (ss).length) k runUnderlying71 sizeOf119 rfl rfl rfl hss.slv (by omega) rfl ?_)
      refine XL.yes (t := 49) rfl (vB h4) (XOp.fieldE (v := ssv) (k * 3 + 2) runUnderlying119 rfl sizeOf22 (by decide) rfl rfl ?_)
      refine XL.yes (t := 49) rfl (vB h4) (XOp.load1 (v := a1) isAgg22 rfl (hr3 _) ?_)
      refine XL.yes (t := 49) rfl (vB h4) (XOp.call (args := [u1, a1]) call60 rfl (SameTerm_spec f14_1hr ha1 (hbd := (by first | assumption | rfl | omega | (left; simp; done) | (right; simp; done)))) ?_)
      rintro _ _ _ _ ⟨rfl, rfl, rfl⟩
      refine XL.yes (t := 49) rfl (vB h4) (XOp.notD (p := ((stepAtL ar rs cur ((ss.getD k (0, 0, [])).1) ((ss.getD k (0, 0, [])).2.1)).getD []) = ((ss.getD k (0, 0, [])).2.2)) rfl ?_)
      refine cX (XOp.pickF (.bool (decide (¬(((stepAtL ar rs cur ((ss.getD k (0, 0, [])).1) ((ss.getD k (0, 0, [])).2.1)).getD []) = ((ss.getD k (0, 0, [])).2.2))))) (vB h4) rfl ?_)
      refine XL.nil ?_
      refine X.condD (p := ¬(((stepAtL ar rs cur ((ss.getD k (0, 0, [])).1) ((ss.getD k (0, 0, [])).2.1)).getD []) = ((ss.getD k (0, 0, [])).2.2))) rfl (fun h5 => ?_) (fun h5 => ?_)
      ·have hu2 : (stepAtL ar rs cur (ss.getD k (0, 0, [])).1 (ss.getD k (0, 0, [])).2.1).getD [] ≠ (ss.getD k (0, 0, [])).2.2 := h5
       refine X.seq (X.region ?_)
       refine XL.as (.bool (false)) rfl ?_
       refine XL.nil ?_
       refine X.ret (thenQ_ret (blockQ_ret (thenQ_ret (thenQ_ret (blockQ_ret (thenQ_ret (retEnd (L' := L) [.bool (false)] (.bool (false)) (.tmp rfl .nil) rfl rF (FLe.trans leG1 le3) (Sub.drop (Sub.drop sR)) ?_)))))))
       exact ⟨(vB (by have hz := goOk_fail (ar := ar) (rs := rs) (t := cur) (ss := ss) (k := k) (by omega) (by first | exact .inl hu1 | exact .inr hu2); rw [walkOkL, hgo, hz]; simp)), rfl, rfl⟩
      ·have hu2 : (stepAtL ar rs cur (ss.getD k (0, 0, [])).1 (ss.getD k (0, 0, [])).2.1).getD [] = (ss.getD k (0, 0, [])).2.2 := Classical.not_not.1 h5
       refine X.skip (X.region ?_)
       refine XL.mv (u1) rfl ?_
       refine XL.as (u1) rfl ?_
       refine XL.nil (X.region ?_)
       refine XL.mv (.int .i64 ((k : Int))) rfl ?_
       refine cX (XOp.addR (a := (k : Int)) (b := 1) (((k + 1 : Nat) : Int)) rfl rfl (by omega) (by omega) ?_)
       refine XL.as (.int .i64 (((k + 1 : Nat) : Int))) rfl ?_
       refine XL.nil ?_
       exact ⟨(k + 1, u1, (stepAtL ar rs cur ((ss.getD k (0, 0, [])).1) ((ss.getD k (0, 0, [])).2.1)).getD [], F3), _, (FLe.trans leG1 le3), rF, ⟨rfl, rfl, rfl, rfl, trivial⟩, (Sub.cons (Sub.cons sR)), ⟨rfl, (FLe.trans leG1 le3), (f14_1hr), (by (try dsimp only) <;> omega), (by (try dsimp only); rw [hgo]; exact goOk_next (by omega) hu1 hu2), (by (try dsimp only); rw [hu2]; exact hsk (by omega))⟩, (by omega)⟩
   ·refine X.exit (thenQ_exit (thenQ_exit (blockQ_exit ?_)))
    refine X.seq (X.region ?_)
    refine XL.as (.bool (true)) rfl ?_
    refine XL.nil ?_
    refine X.ret (retEnd (L' := L) [.bool (true)] (.bool (true)) (.tmp rfl .nil) rfl rF leG1 (Sub.drop (Sub.drop sR)) ?_)
    exact ⟨(vB (by rw [walkOkL, hgo, goOk_end (by omega)]; simp_all <;> omega)), rfl, rfl⟩

/- spec.l7End -/
theorem l7End_spec {F : FH} {L : List HP} {fv : Value} {f : List Int} (hf : IntsF F fv f) {ssv : Value} {ss : List StepT} (hss : StepsF F ssv ss) (hlf : f.length ≤ 4000000) (hlss : ss.length ≤ 4000000) (hsb : ∀ i, i < ss.length → (ss.getD i (0, 0, [])).2.2.length ≤ 4000000) :
    Does prog 87 [.agg #[fv, ssv]] F (L) (fun v F' L' => F = F' ∧ IsSl v ∧ intsH 2 v (endL f ss) :: L = L') := by
 refine Does.of_X func87 rfl rfl rfl ?_
 have hsb1 := hsb (ss.length - 1)
 refine X.seq (X.region ?_)
 refine cX (XOp.box [fv, ssv] rfl rfl ?_)
 intro b1
 refine XL.as ((.slice none 0 0)) rfl ?_
 refine XL.nil (X.seq (X.seq (X.region ?_)))
 refine cX (XOp.fieldP (b := b1) (1) runUnderlying73 rfl sizeOf71 (by decide) rfl rfl ?_)
 refine cX (XOp.load1 (v := ssv) isAgg71 rfl (Rd.own [] rfl rfl) ?_)
 refine cX (XOp.lenS (v := ssv) (n := (ss).length) runUnderlying71 rfl hss.slv ?_)
 refine cX (XOp.eql (a := (ss.length : Int)) (b := 0) rfl rfl ?_)
 refine XL.nil ?_
 refine X.condD (p := ((ss.length : Int) : Int) = 0) rfl (fun h1 => ?_) (fun h1 => ?_)
 ·refine X.seq (X.region ?_)
  refine cX (XOp.fieldP (b := b1) (0) runUnderlying73 rfl sizeOf22 (by decide) rfl rfl ?_)
  refine cX (XOp.load1 (v := fv) isAgg22 rfl (Rd.own [] rfl rfl) ?_)
  refine cX (XOp.call (args := [fv]) call88 rfl (l1Copy_spec hf (hlt := (by first | assumption | rfl | omega | simp))) ?_)
  rintro v1 _ _ _ ⟨rfl, hs1, rfl⟩
  refine XL.as (v1) rfl ?_
  refine XL.nil ?_
  refine X.ret (thenQ_ret (retEnd (L' := intsH 2 v1 ((f)) :: L) [v1] (v1) (.tmp rfl .nil) rfl rF rF (Sub.cons (Sub.drop sR)) ?_))
  refine ⟨rfl, hs1, ?_⟩
  have hxs : (endL f ss : List Int) = (f) := by rw [endL, if_pos (by omega)]
  exact congrArg (fun z => intsH 2 _ z :: L) hxs
 ·refine X.skip (X.seq (X.region ?_))
  refine cX (XOp.fieldP (b := b1) (1) runUnderlying73 rfl sizeOf71 (by decide) rfl rfl ?_)
  refine cX (XOp.load1 (v := ssv) isAgg71 rfl (Rd.own [] rfl rfl) ?_)
  refine cX (XOp.fieldP (b := b1) (1) runUnderlying73 rfl sizeOf71 (by decide) rfl rfl ?_)
  refine cX (XOp.load1 (v := ssv) isAgg71 rfl (Rd.own [] rfl rfl) ?_)
  refine cX (XOp.lenS (v := ssv) (n := (ss).length) runUnderlying71 rfl hss.slv ?_)
  refine cX (XOp.subR (a := (ss.length : Int)) (b := 1) (((((ss).length) - 1 : Nat) : Int)) rfl rfl (by omega) (by omega) ?_)
  refine cX (XOp.indexS (v := ssv) (i := ((((ss).length) - 1 : Nat) : Int)) (n := (ss).length) (((ss).length) - 1) runUnderlying71 sizeOf119 rfl rfl rfl hss.slv (by omega) rfl ?_)
  refine cX (XOp.fieldE (v := ssv) ((((ss).length) - 1) * 3 + 2) runUnderlying119 rfl sizeOf22 (by decide) rfl rfl ?_)
  obtain ⟨a1, ha1, hr1, hr2, hr3⟩ := hss.rd (i := ((ss).length) - 1) (by omega)
  refine cX (XOp.load1 (v := a1) isAgg22 rfl (hr3 _) ?_)
  refine cX (XOp.call (args := [a1]) call88 rfl (l1Copy_spec ha1 (hlt := (by first | assumption | rfl | omega | simp))) ?_)
  rintro v2 _ _ _ ⟨rfl, hs2, rfl⟩
  refine XL.as (v2) rfl ?_
  refine XL.nil ?_
  refine X.ret (retEnd (L' := intsH 2 v2 ((((ss.getD (((ss).length) - 1) (0, 0, [])).2.2))) :: L) [v2] (v2) (.tmp rfl .nil) rfl rF rF (Sub.cons (Sub.drop sR)) ?_)
  refine ⟨rfl, hs2, ?_⟩
  have hxs : (endL f ss : List Int) = (((ss.getD (((ss).length) - 1) (0, 0, [])).2.2)) := by rw [endL, if_neg (by omega)]
  exact congrArg (fun z => intsH 2 _ z :: L) hxs
end Go.Proofs.Ytnloeeaidknblaa
set_option linter.unusedSimpArgs false
set_option linter.unusedVariables false
namespace Go.Proofs.Ytnloeeaidknblaa
open Go X M Try
end Go.Proofs.Ytnloeeaidknblaa
set_option linter.unusedSimpArgs false
set_option linter.unusedVariables false
namespace Go.Proofs.Ytnloeeaidknblaa
open Go X M Try
end Go.Proofs.Ytnloeeaidknblaa
set_option linter.unusedSimpArgs false
set_option linter.unusedVariables false
namespace Go.Proofs.Ytnloeeaidknblaa
open Go X M Try
end Go.Proofs.Ytnloeeaidknblaa
set_option linter.unusedSimpArgs false
set_option linter.unusedVariables false
namespace Go.Proofs.Ytnloeeaidknblaa
open Go X M Try

/- (*impl.Walk).add -/
theorem walkAdd_spec {F : FH} {L : List HP} {b m : Nat} {fv sv tov : Value} {ss : List StepT} {cs : List Value} {i j : Int} {to : List Int} (hto : IntsF F tov to) (hsv : IsSl sv) (hC : StepsC F cs ss) (hm : m = ss.length) (hsb : ss.length ≤ 4000000) (hlt : to.length ≤ 4000000) :
    Does prog 146 [ptr b 0, .agg #[.int .i64 (i), .int .i64 (j), tov]] F (cellsH b [fv, sv] 73 :: slH 119 3 sv m cs :: L) (fun v F' L' => ∃ (sw cw : Value), IsSl sw ∧ IntsF F' cw to ∧ Fresh F F' (intsH 2 cw to) ∧ cellsH b [fv, sw] 73 :: slH 119 3 sw (m + 1) (cs ++ [.int .i64 i, .int .i64 j, cw]) :: L = L') := by
 refine Does.of_X func146 rfl rfl rfl ?_
 refine X.seq (X.region ?_)
 refine cX (XOp.box [.int .i64 (i), .int .i64 (j), tov] rfl rfl ?_)
 intro b1
 refine XL.nil ?_
 refine X.weaken (Sub.front (A := [_, _])) ?_
 show X _ _ _ _ _ _ (slH 119 3 sv m cs :: cellsH b1 [.int .i64 (i), .int .i64 (j), tov] 119 :: cellsH b [fv, sv] 73 :: L)
 refine X.drawH [cellsH b1 [.int .i64 (i), .int .i64 (j), tov] 119, cellsH b [fv, sv] 73] L 15 [[], [], [], [], [], [], [], [], [], [], [], [], [11], [11], [11, 13]] [[], [], [1], [2], [3], [], [5], [], [7], [], [9], [10], [6, 8, 11], [11, 12], [4, 11, 13]] [[], [], [], [], [], [], [], [], [], [], [], [], [], [], [13]] (phiG [fun FF us v => v = ptr b 0, fun FF us v => v = ptr b 0, fun FF us v => v = ptr b 0, fun FF us v => v = ptr b 1, fun FF us v => v = sv, fun FF us v => v = ptr b1 0, fun FF us v => v = (.int .i64 (i) : Value), fun FF us v => v = ptr b1 1, fun FF us v => v = (.int .i64 (j) : Value), fun FF us v => v = ptr b1 2, fun FF us v => v = tov, fun FF us v => ((v) : Value) = v ∧ (IntsF FF (v) (to)) ∧ (FrIntsF F FF 2 (v) (to)), fun FF us v => v = (.agg #[.int .i64 (i), .int .i64 (j), ((us.getD 0 undef))] : Value), fun FF us v => ∃ b, v = .slice (some ⟨b, 0, none⟩) 1 1, fun FF us v => IsSl v]) (ownL [fun us v => [], fun us v => [], fun us v => [], fun us v => [], fun us v => [], fun us v => [], fun us v => [], fun us v => [], fun us v => [], fun us v => [], fun us v => [], fun us v => [], fun us v => [], fun us v => [slH 119 3 v 1 [.int .i64 (i), .int .i64 (j), ((us.getD 0 undef))]], fun us v => [slH 119 3 (us.getD 1 undef) 1 [.int .i64 (i), .int .i64 (j), ((us.getD 0 undef))], slH 119 3 (v) ((m) + 1) (cs ++ [.int .i64 (i), .int .i64 (j), ((us.getD 0 undef))])]]) (fun i => ([[], [], [], [], [], [], [], [], [], [], [], [], [], [], [slH 119 3 sv m cs]] : List (List HP)).getD i []) mixed rfl rfl (by kernel_rfl) (by kernel_rfl) (MonoG.get (MonoG.cons (fun le h => h) (MonoG.cons (fun le h => h) (MonoG.cons (fun le h => h) (MonoG.cons (fun le h => h) (MonoG.cons (fun le h => h) (MonoG.cons (fun le h => h) (MonoG.cons (fun le h => h) (MonoG.cons (fun le h => h) (MonoG.cons (fun le h => h) (MonoG.cons (fun le h => h) (MonoG.cons (fun le h => h) (MonoG.cons (fun le h => ⟨h.1, h.2.1.mono le, h.2.2.mono le⟩) (MonoG.cons (fun le h => h) (MonoG.cons (fun le h => h) (MonoG.cons (fun le h => h) MonoG.nil)))))))))))))))) ?_ ?_
 ·refine stepsT.cons (fun vals Fs R leFs hpZ => ?_) ?_
  ·refine XG.op (XOp.move (ptr b 0) rfl ?_)
   exact ⟨rfl, rfl⟩
  refine stepsT.cons (fun vals Fs R leFs hpZ => ?_) ?_
  ·refine XG.op (XOp.move (ptr b 0) rfl ?_)
   exact ⟨rfl, rfl⟩
  refine stepsT.cons (fun vals Fs R leFs hpZ => ?_) ?_
  ·replace hto := hto.mono leFs
   replace hC := hC.mono leFs
   rw [eS (l := [(1, ptr b 0)]) ⟨(hpZ 1 (by decide)), trivial⟩]
   refine XG.op (XOp.nilCheck (a := ⟨b, 0, none⟩) rfl ?_)
   exact ⟨rfl, rfl⟩
  refine stepsT.cons (fun vals Fs R leFs hpZ => ?_) ?_
  ·rw [eS (l := [(2, ptr b 0)]) ⟨(hpZ 2 (by decide)), trivial⟩]
   refine XG.op (XOp.fieldP (b := b) (1) runUnderlying73 rfl sizeOf71 (by decide) rfl rfl ?_)
   exact ⟨rfl, rfl⟩
  refine stepsT.cons (fun vals Fs R leFs hpZ => ?_) ?_
  ·replace hto := hto.mono leFs
   replace hC := hC.mono leFs
   rw [eS (l := [(3, ptr b 1)]) ⟨(hpZ 3 (by decide)), trivial⟩]
   refine XG.op (XOp.load1 (v := sv) isAgg71 rfl (Rd.own [_] rfl rfl) ?_)
   exact ⟨rfl, rfl⟩
  refine stepsT.cons (fun vals Fs R leFs hpZ => ?_) ?_
  ·refine XG.op (XOp.fieldP (b := b1) (0) runUnderlying119 rfl sizeOf2 (by decide) rfl rfl ?_)
   exact ⟨rfl, rfl⟩
  refine stepsT.cons (fun vals Fs R leFs hpZ => ?_) ?_
  ·replace hto := hto.mono leFs
   replace hC := hC.mono leFs
   rw [eS (l := [(5, ptr b1 0)]) ⟨(hpZ 5 (by decide)), trivial⟩]
   refine XG.op (XOp.load1 (v := .int .i64 (i)) isAgg2 rfl (Rd.own [] rfl rfl) ?_)
   exact ⟨rfl, rfl⟩
  refine stepsT.cons (fun vals Fs R leFs hpZ => ?_) ?_
  ·refine XG.op (XOp.fieldP (b := b1) (1) runUnderlying119 rfl sizeOf2 (by decide) rfl rfl ?_)
   exact ⟨rfl, rfl⟩
  refine stepsT.cons (fun vals Fs R leFs hpZ => ?_) ?_
  ·replace hto := hto.mono leFs
   replace hC := hC.mono leFs
   rw [eS (l := [(7, ptr b1 1)]) ⟨(hpZ 7 (by decide)), trivial⟩]
   refine XG.op (XOp.load1 (v := .int .i64 (j)) isAgg2 rfl (Rd.own [] rfl rfl) ?_)
   exact ⟨rfl, rfl⟩
  refine stepsT.cons (fun vals Fs R leFs hpZ => ?_) ?_
  ·refine XG.op (XOp.fieldP (b := b1) (2) runUnderlying119 rfl sizeOf22 (by decide) rfl rfl ?_)
   exact ⟨rfl, rfl⟩
  refine stepsT.cons (fun vals Fs R leFs hpZ => ?_) ?_
  ·replace hto := hto.mono leFs
   replace hC := hC.mono leFs
   rw [eS (l := [(9, ptr b1 2)]) ⟨(hpZ 9 (by decide)), trivial⟩]
   refine XG.op (XOp.load1 (v := tov) isAgg22 rfl (Rd.own [] rfl rfl) ?_)
   exact ⟨rfl, rfl⟩
  refine stepsT.cons (fun vals Fs R leFs hpZ => ?_) ?_
  ·replace hto := hto.mono leFs
   replace hC := hC.mono leFs
   rw [eS (l := [(10, tov)]) ⟨(hpZ 10 (by decide)), trivial⟩]
   refine XG.op (XOp.frzF <| XOp.call (args := [tov]) call102 rfl (Clone_spec hto (hlt := (by first | assumption | rfl | omega | simp))) ?_)
   rintro v4 _ _ _ ⟨rfl, hs3, rfl⟩
   refine ⟨_, _, rfl, fun F1 le1 hz1 => ?_⟩
   replace hC := hC.mono le1
   have hf1 : IntsF F1 v4 ((to)) := intsH.fz (xs := (to)) hz1.fz
   exact ⟨⟨rfl, hf1, (hz1.base leFs)⟩, rfl⟩
  refine stepsT.cons (fun vals Fs R leFs hpZ => ?_) ?_
  ·obtain ⟨e11, f11_1ha, f11_1hz⟩ := hpZ 11 (by decide)
   replace hC := hC.mono leFs
   rw [eS (l := [(6, (.int .i64 (i) : Value)), (8, (.int .i64 (j) : Value)), (11, ((vals 11)))]) ⟨(hpZ 6 (by decide)), (hpZ 8 (by decide)), (e11).symm, trivial⟩]
   refine XG.op (XOp.build [.int .i64 (i), .int .i64 (j), ((vals 11))] [.int .i64 (0), .int .i64 (0), (.slice none 0 0)] [(0, 1), (1, 1), (2, 1)] [(0, [.int .i64 (i)]), (1, [.int .i64 (j)]), (2, [((vals 11))])] runUnderlying119 zeroValue119 rfl (.cons rfl sizeOf2 (.cons rfl sizeOf2 (.cons rfl sizeOf22 PlacesAre.nil))) rfl (.cons rfl (.cons rfl (.cons (cells_one (IntsF.isSl f11_1ha)) CellsAre.nil))) ?_)
   exact ⟨rfl, rfl⟩
  refine stepsT.cons (fun vals Fs R leFs hpZ => ?_) ?_
  ·obtain ⟨e11, f11_1ha, f11_1hz⟩ := hpZ 11 (by decide)
   have e12 : vals 12 = (.agg #[.int .i64 (i), .int .i64 (j), ((vals 11))] : Value) := hpZ 12 (by decide)
   replace hC := hC.mono leFs
   rw [eS (l := [(11, ((vals 11))), (12, (.agg #[.int .i64 (i), .int .i64 (j), ((vals 11))] : Value))]) ⟨(e11).symm, e12, trivial⟩]
   refine XG.op (XOp.buildSlice (s := 3) [.int .i64 (i), .int .i64 (j), ((vals 11))] [.int .i64 (0), .int .i64 (0), (.slice none 0 0)] [(0, [.int .i64 (i), .int .i64 (j), ((vals 11))])] runUnderlying71 sizeOf119 zeroValue119 rfl (by decide) rfl (.cons rfl CellsAre.nil) rfl ?_)
   intro v5 hv2
   exact ⟨hv2, rfl⟩
  refine stepsT.cons (fun vals Fs R leFs hpZ => ?_) ?_
  ·obtain ⟨e11, f11_1ha, f11_1hz⟩ := hpZ 11 (by decide)
   have f13 : ∃ b, (vals 13) = .slice (some ⟨b, 0, none⟩) 1 1 := hpZ 13 (by decide)
   replace hC := hC.mono leFs
   rw [eS (l := [(4, sv), (11, ((vals 11)))]) ⟨(hpZ 4 (by decide)), (e11).symm, trivial⟩]
   show XG _ _ _ _ _ (slH 119 3 (vals 13) 1 [.int .i64 (i), .int .i64 (j), ((vals 11))] :: slH 119 3 sv m cs :: ([cellsH b1 [.int .i64 (i), .int .i64 (j), tov] 119, cellsH b [fv, sv] 73] ++ R)) _
   refine XG.op (XOp.append (m := 1) (bytes := 40) (cs := cs) [_] _ [.int .i64 (i), .int .i64 (j), ((vals 11))] runUnderlying71 typeInfo119 rfl rfl rfl rfl rfl rfl rfl (SlV.own [] rfl) rfl (Rd.lit [] rfl) (ones_cons rfl (ones_cons rfl (ones_cons (one_sl (IntsF.isSl f11_1ha)) ones_nil))) (by (try simp only [List.length_append, List.length_nil, List.length_cons, List.length_singleton]); omega) (by (try simp only [List.length_append, List.length_nil, List.length_cons, List.length_singleton]); omega) ?_)
   intro v6 hs4 hn2 hm2
   have hc2 := StepsC.snoc hC (i := i) (j := j) f11_1ha
   exact ⟨hs4, rfl⟩
  exact stepsT.nil
 ·intro vals F2 le2 hphi
  obtain ⟨e11, f11_1ha, f11_1hz⟩ := hphi 11 (by decide)
  have e12 : vals 12 = (.agg #[.int .i64 (i), .int .i64 (j), ((vals 11))] : Value) := hphi 12 (by decide)
  have f13 : ∃ b, (vals 13) = .slice (some ⟨b, 0, none⟩) 1 1 := hphi 13 (by decide)
  have f14 : IsSl (vals 14) := hphi 14 (by decide)
  generalize hu1 : ((vals 11)) = u1 at e11 f11_1ha f11_1hz e12 f13 f14
  generalize hu13 : vals 13 = u2 at e11 f11_1ha f11_1hz e12 f13 f14
  generalize hu14 : vals 14 = u3 at e11 f11_1ha f11_1hz e12 f13 f14
  rw [eS (l := [(0, ptr b 0), (11, u1), (13, u2), (14, u3)]) ⟨(hphi 0 (by decide)), hu1, hu13, hu14, trivial⟩]
  replace hC := hC.mono le2
  have hc3 := StepsC.snoc hC (i := i) (j := j) f11_1ha
  show XL _ _ _ _ _ _ _ (slH 119 3 u2 1 [.int .i64 (i), .int .i64 (j), u1] :: slH 119 3 u3 ((m) + 1) (cs ++ [.int .i64 (i), .int .i64 (j), u1]) :: cellsH b1 [.int .i64 (i), .int .i64 (j), tov] 119 :: cellsH b [fv, sv] 73 :: L)
  skip
  refine cX (XOp.nilCheck (a := ⟨b, 0, none⟩) rfl ?_)
  refine cX (XOp.fieldP (b := b) (1) runUnderlying73 rfl sizeOf71 (by decide) rfl rfl ?_)
  refine cX (XOp.store1 (v := u3) [_, _, _] _ [fv, u3] sizeOf71 rfl rfl (one_sl f14) rfl rfl rfl ?_)
  refine XL.nil ?_
  refine id (retEndN (L' := cellsH b [fv, u3] 73 :: slH 119 3 u3 ((m) + 1) (cs ++ [.int .i64 (i), .int .i64 (j), u1]) :: L) [] (.tuple #[]) (by exact .nil) rfl le2 rF (Sub.trans (Sub.front (A := [_])) (Sub.trans (Sub.front (A := [_, _, _])) (Sub.cons (Sub.cons (Sub.drop (Sub.drop sR)))))) ?_)
  exact ⟨_, _, f14, f11_1ha, f11_1hz, rfl⟩
end Go.Proofs.Ytnloeeaidknblaa
