/-
  Walks: filling, putting, steps.
-/
import Derived.Test.YtnloeeaidknblaaQmFg
import Derived.Test.YtnloeeaidknblaaX10
set_option linter.unusedSimpArgs false
set_option linter.unusedVariables false
namespace Go.Proofs.Ytnloeeaidknblaa
open Go X M

/- slices.Grow[[]int64,int64] -/
theorem GrowNil_spec {F : FH} {L : List HP}  {n : Nat} (hg1 : 1 ≤ n) (hn : n ≤ 400000000) :
    Does Try.prog 209 [(.slice none 0 0), .int .i64 (((n : Nat) : Int))] F (L) (fun v F' L' => F = F' ∧ IsSl v ∧ intsH 2 v ([]) :: L = L') := by
  refine Does.of_X Try.func209 rfl rfl rfl ?_
  refine X.seq ?_
  refine X.region ?_
  refine XL.cons (XOp.assign ((.slice none 0 0)) rfl ?_)
  refine XL.nil ?_
  refine X.seq ?_
  refine X.seq ?_
  refine X.region ?_
  refine XL.cons (XOp.move (.int .i64 (((n : Nat) : Int))) rfl ?_)
  refine XL.cons (XOp.lss (a := ((n : Nat) : Int)) (b := 0) rfl rfl ?_)
  refine XL.nil ?_
  refine X.condD (p := (((n : Nat) : Int) : Int) < 0) rfl (fun h1 => ?_) (fun h1 => ?_)
  · omega
  · refine X.skip ?_
    refine X.seq ?_
    refine X.seq ?_
    refine X.region ?_
    refine XL.cons (XOp.move (.int .i64 (((n : Nat) : Int))) rfl ?_)
    refine XL.cons (XOp.move ((.slice none 0 0)) rfl ?_)
    refine XL.cons (XOp.capNil Try.runUnderlying22 rfl ?_)
    refine XL.cons (XOp.move ((.slice none 0 0)) rfl ?_)
    refine XL.cons (XOp.lenS (v := (.slice none 0 0)) (n := 0) Try.runUnderlying22 rfl SlV.nil ?_)
    refine XL.cons (XOp.subR (a := 0) (b := ((0 : Nat) : Int)) (0 - (((0 : Nat) : Int))) rfl rfl (by omega) (by omega) ?_)
    refine XL.cons (XOp.subR (a := ((n : Nat) : Int)) (b := 0 - (((0 : Nat) : Int))) ((((n : Nat) : Int)) - (0 - (((0 : Nat) : Int)))) rfl rfl (by omega) (by omega) ?_)
    refine XL.cons (XOp.assign (.int .i64 ((((n : Nat) : Int)) - (0 - (((0 : Nat) : Int))))) rfl ?_)
    refine XL.nil ?_
    refine X.seq ?_
    refine X.region ?_
    refine XL.cons (XOp.move (.int .i64 ((((n : Nat) : Int)) - (0 - (((0 : Nat) : Int))))) rfl ?_)
    refine XL.cons (XOp.gtr (a := (((n : Nat) : Int)) - (0 - (((0 : Nat) : Int)))) (b := 0) rfl rfl ?_)
    refine XL.nil ?_
    refine X.condD (p := ((((n : Nat) : Int)) - (0 - (((0 : Nat) : Int))) : Int) > 0) rfl (fun h2 => ?_) (fun h2 => ?_)
    · refine X.region ?_
      refine XL.cons (XOp.move ((.slice none 0 0)) rfl ?_)
      refine XL.cons (XOp.move ((.slice none 0 0)) rfl ?_)
      refine XL.cons (XOp.capNil Try.runUnderlying22 rfl ?_)
      refine XL.cons (XOp.sliceNil Try.runUnderlying22 Try.sizeOf2 rfl ⟨_, rfl⟩ ?_)
      refine XL.cons (XOp.move (.int .i64 ((((n : Nat) : Int)) - (0 - (((0 : Nat) : Int))))) rfl ?_)
      refine XL.cons (XOp.appendZ (s := 1) (bytes := 8) (n := ((((n : Nat) : Int)) - (0 - (((0 : Nat) : Int)))).toNat) [.int .i64 (0)] Try.runUnderlying22 Try.runUnderlying3 Try.typeInfo2 rfl rfl rfl rfl rfl (by decide) rfl (by rw [show ((((((n : Nat) : Int)) - (0 - (((0 : Nat) : Int)))).toNat : Nat) : Int) = (((n : Nat) : Int)) - (0 - (((0 : Nat) : Int))) from by omega]; rfl) (by omega) (by omega) (by omega) ?_)
      intro v1 hv1
      have hv2 : IsSl v1 := by obtain ⟨b0, c0, h0⟩ := hv1; exact ⟨_, _, _, h0⟩
      rw [intsH_zeros]
      refine XL.cons (XOp.move ((.slice none 0 0)) rfl ?_)
      refine XL.cons (XOp.lenS (v := (.slice none 0 0)) (n := 0) Try.runUnderlying22 rfl SlV.nil ?_)
      refine XL.cons (XOp.sliceOwn (cs := List.map (Value.int .i64) ((List.replicate (((((n : Nat) : Int)) - (0 - (((0 : Nat) : Int)))).toNat) 0))) [] _ 0 Try.runUnderlying22 Try.sizeOf2 rfl rfl ⟨_, rfl⟩ (Nat.zero_le _) ?_)
      intro v2 hs1
      show XL _ _ _ _ _ _ _ (intsH 2 v2 ([]) :: L)
      refine XL.cons (XOp.assign (v2) rfl ?_)
      refine XL.nil ?_
      refine X.seq ?_
      refine X.region ?_
      refine XL.cons (XOp.move (v2) rfl ?_)
      refine XL.cons (XOp.assign (v2) rfl ?_)
      refine XL.nil ?_
      refine X.ret (retEnd (L' := intsH 2 v2 ([]) :: L) [v2] (v2) (.tmp rfl .nil) rfl (FLe.refl _) (FLe.refl _) (Sub.cons (Sub.refl _)) ?_)
      refine ⟨rfl, hs1, ?_⟩
      have hxs : ([] : List Int) = [] := rfl
      exact congrArg (fun z => intsH 2 _ z :: L) hxs
    · omega

/- slices.Concat[[]int64,int64] -/
theorem Concat_spec {F : FH} {L : List HP} {xsv : Value} {xs : List (List Int)} (hxs : RowsF F xsv xs) (hg1 : 1 ≤ xs.flatten.length) (hn : xs.length ≤ 10) (hb : ∀ i, i < xs.length → (xs.getD i []).length ≤ 4000000) :
    Does Try.prog 186 [xsv] F (L) (fun v F' L' => F = F' ∧ IsSl v ∧ intsH 2 v xs.flatten :: L = L') := by
  refine Does.of_X Try.func186 rfl rfl rfl ?_
  refine X.seq ?_
  refine X.region ?_
  refine XL.cons (XOp.assign ((.slice none 0 0)) rfl ?_)
  refine XL.nil ?_
  refine X.seq ?_
  refine X.region ?_
  refine XL.cons (XOp.assign (.int .i64 (0)) rfl ?_)
  refine XL.nil ?_
  refine X.seq ?_
  refine X.seq ?_
  refine X.region ?_
  refine XL.cons (XOp.move (xsv) rfl ?_)
  refine XL.cons (XOp.lenS (v := xsv) (n := (xs).length) Try.runUnderlying47 rfl hxs.slv ?_)
  refine XL.cons (XOp.move (.int .i64 (0)) rfl ?_)
  refine XL.nil ?_
  refine X.block ?_
  refine X.loop (α := Nat × Nat) (fun xQ => [(0, xsv), (3, .int .i64 (((xQ.2 : Nat) : Int))), (9, xsv), (10, .int .i64 ((((xs).length : Nat) : Int))), (11, .int .i64 (((xQ.1 : Nat) : Int)))]) (fun xQ => L) (fun xQ F' => F = F' ∧ (xQ.1 ≤ xs.length) ∧ (xQ.2 = (xs.take xQ.1).flatten.length) ∧ (xQ.2 ≤ xQ.1 * 4000000)) (fun xQ => xs.length - xQ.1) (0, 0) ⟨rfl, rfl, rfl, rfl, rfl, trivial⟩ (Sub.refl _) ⟨rfl, (by (try dsimp only) <;> omega), (rfl), (by (try dsimp only) <;> omega)⟩ ?_
  rintro ⟨k, z⟩ rE _ _ ⟨rfl, hk, hz, hz2⟩
  show X _ _ _ _ (envs [(0, xsv), (3, .int .i64 (((z : Nat) : Int))), (9, xsv), (10, .int .i64 ((((xs).length : Nat) : Int))), (11, .int .i64 (((k : Nat) : Int)))] rE) _ (L)
  dsimp only at hk hz hz2
  have hbk := hb k
  have hft := fun h => congrArg List.length (flatten_take (xs := xs) (k := k) h)
  simp only [List.length_append] at hft
  refine X.seq ?_
  refine X.region ?_
  refine XL.cons (XOp.lss (a := ((k : Nat) : Int)) (b := (((xs).length : Nat) : Int)) rfl rfl ?_)
  refine XL.nil ?_
  refine X.seq ?_
  refine X.condD (p := (((k : Nat) : Int) : Int) < (((xs).length : Nat) : Int)) rfl (fun h1 => ?_) (fun h1 => ?_)
  · refine X.skip ?_
    refine X.seq ?_
    refine X.block ?_
    refine X.seq ?_
    refine X.region ?_
    refine XL.cons (XOp.indexS (v := xsv) (i := ((k : Nat) : Int)) (n := (xs).length) k Try.runUnderlying47 Try.sizeOf22 rfl rfl rfl hxs.slv (by omega) (Nat.mul_one _) ?_)
    obtain ⟨a1, ha1, hr1⟩ := hxs.rd (i := k) (by omega)
    refine XL.cons (XOp.load1 (v := a1) Try.isAgg22 rfl (hr1 _) ?_)
    refine XL.cons (XOp.assign (a1) rfl ?_)
    refine XL.nil ?_
    refine X.seq ?_
    refine X.region ?_
    refine XL.cons (XOp.move (.int .i64 (((z : Nat) : Int))) rfl ?_)
    refine XL.cons (XOp.move (a1) rfl ?_)
    refine XL.cons (XOp.lenS (v := a1) (n := ((xs.getD k [])).length) Try.runUnderlying22 rfl ha1.slv ?_)
    refine XL.cons (XOp.addR (a := ((z : Nat) : Int)) (b := ((((xs.getD k [])).length : Nat) : Int)) (((z + (((xs.getD k [])).length) : Nat) : Int)) rfl rfl (by omega) (by omega) ?_)
    refine XL.cons (XOp.assign (.int .i64 (((z + (((xs.getD k [])).length) : Nat) : Int))) rfl ?_)
    refine XL.nil ?_
    refine X.seq ?_
    refine X.region ?_
    refine XL.cons (XOp.move (.int .i64 (((z + (((xs.getD k [])).length) : Nat) : Int))) rfl ?_)
    refine XL.cons (XOp.lss (a := ((z + (((xs.getD k [])).length) : Nat) : Int)) (b := 0) rfl rfl ?_)
    refine XL.nil ?_
    refine X.condD (p := (((z + (((xs.getD k [])).length) : Nat) : Int) : Int) < 0) rfl (fun h2 => ?_) (fun h2 => ?_)
    · omega
    · refine X.skip ?_
      refine X.region ?_
      refine XL.cons (XOp.addR (a := ((k : Nat) : Int)) (b := 1) (((k + 1 : Nat) : Int)) rfl rfl (by omega) (by omega) ?_)
      refine XL.cons (XOp.move (.int .i64 (((k + 1 : Nat) : Int))) rfl ?_)
      refine XL.nil ?_
      exact ⟨(k + 1, z + (((xs.getD k [])).length)), _, FLe.refl _, (FLe.refl _), ⟨rfl, rfl, rfl, rfl, rfl, trivial⟩, (Sub.refl _), ⟨rfl, (by (try dsimp only) <;> omega), (by (try dsimp only) <;> omega), (by (try dsimp only) <;> omega)⟩, (by omega)⟩
  · refine X.exit (thenQ_exit (thenQ_exit (blockQ_exit ?_)))
    refine X.seq ?_
    refine X.region ?_
    have hz1 : 1 ≤ z := by rw [hz, show xs.take k = xs from List.take_of_length_le (by omega)]; exact hg1
    refine XL.cons (XOp.move (.int .i64 (((z : Nat) : Int))) rfl ?_)
    refine XL.cons (XOp.call (args := [(.slice none 0 0), .int .i64 ((z : Nat) : Int)]) Try.call209 rfl (GrowNil_spec (n := z) (hg1 := (hz1)) (hn := (by omega))) ?_)
    rintro v1 _ _ _ ⟨rfl, hs1, rfl⟩
    refine XL.cons (XOp.assign (v1) rfl ?_)
    refine XL.nil ?_
    refine X.seq ?_
    refine X.seq ?_
    refine X.region ?_
    refine XL.cons (XOp.move (xsv) rfl ?_)
    refine XL.cons (XOp.lenS (v := xsv) (n := (xs).length) Try.runUnderlying47 rfl hxs.slv ?_)
    refine XL.cons (XOp.move (.int .i64 (0)) rfl ?_)
    refine XL.nil ?_
    refine X.block ?_
    refine X.loop (α := Nat × Value × List Int) (fun xQ => [(6, xQ.2.1), (25, xsv), (26, .int .i64 ((((xs).length : Nat) : Int))), (27, .int .i64 (((xQ.1 : Nat) : Int)))]) (fun xQ => intsH 2 xQ.2.1 xQ.2.2 :: L) (fun xQ F' => F = F' ∧ (IsSl xQ.2.1) ∧ (xQ.1 ≤ xs.length) ∧ (xQ.2.2 = (xs.take xQ.1).flatten)) (fun xQ => xs.length - xQ.1) (0, v1, ([])) ⟨rfl, rfl, rfl, rfl, trivial⟩ (Sub.cons (Sub.refl _)) ⟨rfl, (hs1), (by (try dsimp only) <;> omega), (rfl)⟩ ?_
    rintro ⟨k, ov, os⟩ rE _ _ ⟨rfl, hov, hk, hos⟩
    show X _ _ _ _ (envs [(6, ov), (25, xsv), (26, .int .i64 ((((xs).length : Nat) : Int))), (27, .int .i64 (((k : Nat) : Int)))] rE) _ (intsH 2 ov os :: L)
    dsimp only at hov hk hos
    have hbk := hb k
    have hol : os.length ≤ k * 4000000 := by rw [hos]; exact flatten_bound hb k (by omega)
    refine X.seq ?_
    refine X.region ?_
    refine XL.cons (XOp.lss (a := ((k : Nat) : Int)) (b := (((xs).length : Nat) : Int)) rfl rfl ?_)
    refine XL.nil ?_
    refine X.seq ?_
    refine X.condD (p := (((k : Nat) : Int) : Int) < (((xs).length : Nat) : Int)) rfl (fun h3 => ?_) (fun h3 => ?_)
    · refine X.skip ?_
      refine X.seq ?_
      refine X.block ?_
      refine X.seq ?_
      refine X.region ?_
      refine XL.cons (XOp.indexS (v := xsv) (i := ((k : Nat) : Int)) (n := (xs).length) k Try.runUnderlying47 Try.sizeOf22 rfl rfl rfl hxs.slv (by omega) (Nat.mul_one _) ?_)
      obtain ⟨a2, ha2, hr2⟩ := hxs.rd (i := k) (by omega)
      refine XL.cons (XOp.load1 (v := a2) Try.isAgg22 rfl (hr2 _) ?_)
      refine XL.cons (XOp.assign (a2) rfl ?_)
      refine XL.nil ?_
      refine X.region ?_
      refine XL.cons (XOp.move (ov) rfl ?_)
      refine XL.cons (XOp.move (a2) rfl ?_)
      refine XL.cons (XOp.appendI [] _ Try.runUnderlying22 Try.typeInfo2 rfl rfl rfl rfl rfl rfl ha2 (by (try simp only [List.length_append, List.length_nil, List.length_cons, List.length_singleton, List.length_take, List.length_drop]); omega) ?_)
      intro v2 hs2 hn1 hm1
      refine XL.cons (XOp.assign (v2) rfl ?_)
      refine XL.nil ?_
      refine X.region ?_
      refine XL.cons (XOp.addR (a := ((k : Nat) : Int)) (b := 1) (((k + 1 : Nat) : Int)) rfl rfl (by omega) (by omega) ?_)
      refine XL.cons (XOp.move (.int .i64 (((k + 1 : Nat) : Int))) rfl ?_)
      refine XL.nil ?_
      exact ⟨(k + 1, v2, os ++ ((xs.getD k []))), _, FLe.refl _, (FLe.refl _), ⟨rfl, rfl, rfl, rfl, trivial⟩, (Sub.cons (Sub.refl _)), ⟨rfl, (hs2), (by (try dsimp only) <;> omega), ((by dsimp only; rw [hos, flatten_take (by omega)]))⟩, (by omega)⟩
    · refine X.exit (thenQ_exit (thenQ_exit (blockQ_exit ?_)))
      refine X.seq ?_
      refine X.region ?_
      refine XL.cons (XOp.move (ov) rfl ?_)
      refine XL.cons (XOp.assign (ov) rfl ?_)
      refine XL.nil ?_
      refine X.ret (retEnd (L' := intsH 2 ov os :: L) [ov] (ov) (.tmp rfl .nil) rfl (FLe.refl _) (FLe.refl _) (Sub.cons (Sub.refl _)) ?_)
      refine ⟨rfl, hov, ?_⟩
      have hxs : (xs.flatten : List Int) = os := by rw [hos, List.take_of_length_le (by omega)]
      exact congrArg (fun z => intsH 2 _ z :: L) hxs

/- impl.put -/
theorem put_spec {F : FH} {L : List HP} {arv : Value} {ar : List Int} (har : IntsF F arv ar) {tv : Value} {t : List Int} (ht : IntsF F tv t) {p : Nat} {uv : Value} {u : List Int} (hu : IntsF F uv u) (ho : termOk ar t = true) (hp : p < t.length) (hul : 1 ≤ u.length ∧ u.length ≤ 4000000) :
    Does Try.prog 156 [.agg #[arv], tv, .int .i64 (((p : Nat) : Int)), uv] F (L) (fun v F' L' => ∃ (a : Value), (.tuple #[a, .bool ((putL ar t p u).isSome)] : Value) = v ∧ (IntsF F' a ((putL ar t p u).getD [])) ∧ ((putL ar t p u).isSome = true → isNil a = false) ∧ (Fresh F F' (intsH 2 a ((putL ar t p u).getD []))) ∧ L = L') := by
  refine Does.of_X Try.func156 rfl rfl rfl ?_
  have hsig := termOk_sig ho
  have hsl := sigOk_spec hsig
  have htl := termOk_len ho
  have hee := endN_spec ho hp
  refine X.seq ?_
  refine X.region ?_
  refine XL.cons (XOp.box [arv] rfl rfl ?_)
  intro b1
  refine XL.cons (XOp.assign ((.slice none 0 0)) rfl ?_)
  refine XL.cons (XOp.assign (.bool (false)) rfl ?_)
  refine XL.nil ?_
  refine X.seq ?_
  refine X.drawG [cellsH b1 [arv] 33] L 10 [[], [], [], [], [], [], [], [], [], []] [[], [], [0, 1], [], [], [], [], [], [5, 6, 7], [4, 8]] [[], [], [], [], [], [], [], [], [], []] (phiG [fun FF us v => v = tv, fun FF us v => v = (.int .i64 (((p : Nat) : Int)) : Value), fun FF us v => (v : Value) = v ∧ (IntsF FF v ((t.drop 0).take (p - 0))) ∧ (isNil v = isNil tv), fun FF us v => v = uv, fun FF us v => v = tv, fun FF us v => v = (.agg #[arv] : Value), fun FF us v => v = tv, fun FF us v => v = (.int .i64 (((p : Nat) : Int)) : Value), fun FF us v => v = (.int .i64 (((endN ar t p : Nat) : Int)) : Value), fun FF us v => (v : Value) = v ∧ (IntsF FF v ((t.drop (endN ar t p)).take (((t).length) - (endN ar t p)))) ∧ (isNil v = isNil tv)]) (ownL [fun us v => [], fun us v => [], fun us v => [], fun us v => [], fun us v => [], fun us v => [], fun us v => [], fun us v => [], fun us v => [], fun us v => []]) mixed rfl rfl (by kernel_rfl) (by kernel_rfl) (MonoG.get (MonoG.cons (fun le h => h) (MonoG.cons (fun le h => h) (MonoG.cons (fun le h => ⟨h.1, h.2.1.mono le, h.2.2⟩) (MonoG.cons (fun le h => h) (MonoG.cons (fun le h => h) (MonoG.cons (fun le h => h) (MonoG.cons (fun le h => h) (MonoG.cons (fun le h => h) (MonoG.cons (fun le h => h) (MonoG.cons (fun le h => ⟨h.1, h.2.1.mono le, h.2.2⟩) MonoG.nil))))))))))) ?_ ?_
  · refine stepsG.cons (fun vals Fs R leFs hpZ => ?_) ?_
    · refine XG.op (XOp.move (tv) rfl ?_)
      exact ⟨rfl, rfl⟩
    refine stepsG.cons (fun vals Fs R leFs hpZ => ?_) ?_
    · refine XG.op (XOp.move (.int .i64 (((p : Nat) : Int))) rfl ?_)
      exact ⟨rfl, rfl⟩
    refine stepsG.cons (fun vals Fs R leFs hpZ => ?_) ?_
    · have e0 : vals 0 = tv := hpZ 0 (by decide)
      have e1 : vals 1 = (.int .i64 (((p : Nat) : Int)) : Value) := hpZ 1 (by decide)
      replace har := har.mono leFs
      replace ht := ht.mono leFs
      replace hu := hu.mono leFs
      rw [(envs_of_sat (l := [(0, tv), (1, (.int .i64 (((p : Nat) : Int)) : Value))]) ⟨e0, e1, trivial⟩).symm]
      refine XG.op (XOp.sliceI 0 p Try.runUnderlying22 Try.sizeOf2 rfl ht rfl ⟨_, rfl⟩ (by omega) (by omega) ?_)
      intro v3 hv3 hn3
      exact ⟨⟨rfl, hv3, hn3⟩, rfl⟩
    refine stepsG.cons (fun vals Fs R leFs hpZ => ?_) ?_
    · refine XG.op (XOp.move (uv) rfl ?_)
      exact ⟨rfl, rfl⟩
    refine stepsG.cons (fun vals Fs R leFs hpZ => ?_) ?_
    · refine XG.op (XOp.move (tv) rfl ?_)
      exact ⟨rfl, rfl⟩
    refine stepsG.cons (fun vals Fs R leFs hpZ => ?_) ?_
    · replace har := har.mono leFs
      replace ht := ht.mono leFs
      replace hu := hu.mono leFs
      refine XG.op (XOp.loadN [arv] Try.isAgg33 Try.sizeOf33 rfl rfl (Rd.ownN [] rfl rfl) ?_)
      exact ⟨rfl, rfl⟩
    refine stepsG.cons (fun vals Fs R leFs hpZ => ?_) ?_
    · refine XG.op (XOp.move (tv) rfl ?_)
      exact ⟨rfl, rfl⟩
    refine stepsG.cons (fun vals Fs R leFs hpZ => ?_) ?_
    · refine XG.op (XOp.move (.int .i64 (((p : Nat) : Int))) rfl ?_)
      exact ⟨rfl, rfl⟩
    refine stepsG.cons (fun vals Fs R leFs hpZ => ?_) ?_
    · have e5 : vals 5 = (.agg #[arv] : Value) := hpZ 5 (by decide)
      have e6 : vals 6 = tv := hpZ 6 (by decide)
      have e7 : vals 7 = (.int .i64 (((p : Nat) : Int)) : Value) := hpZ 7 (by decide)
      replace har := har.mono leFs
      replace ht := ht.mono leFs
      replace hu := hu.mono leFs
      rw [(envs_of_sat (l := [(5, (.agg #[arv] : Value)), (6, tv), (7, (.int .i64 (((p : Nat) : Int)) : Value))]) ⟨e5, e6, e7, trivial⟩).symm]
      refine XG.op (XOp.call (args := [.agg #[arv], tv, .int .i64 ((p : Nat) : Int)]) Try.call139 rfl (endAt_ok (p := p) har ht (ho := (by first | assumption | rfl | omega | (left; simp; done) | (right; simp; done))) (hp := (by first | assumption | rfl | omega | (left; simp; done) | (right; simp; done)))) ?_)
      rintro _ _ _ _ ⟨rfl, rfl, rfl⟩
      exact ⟨rfl, rfl⟩
    refine stepsG.cons (fun vals Fs R leFs hpZ => ?_) ?_
    · have e4 : vals 4 = tv := hpZ 4 (by decide)
      have e8 : vals 8 = (.int .i64 (((endN ar t p : Nat) : Int)) : Value) := hpZ 8 (by decide)
      replace har := har.mono leFs
      replace ht := ht.mono leFs
      replace hu := hu.mono leFs
      rw [(envs_of_sat (l := [(4, tv), (8, (.int .i64 (((endN ar t p : Nat) : Int)) : Value))]) ⟨e4, e8, trivial⟩).symm]
      refine XG.op (XOp.sliceI (endN ar t p) ((t).length) Try.runUnderlying22 Try.sizeOf2 rfl ht ⟨_, rfl⟩ rfl (by omega) (by omega) ?_)
      intro v4 hv4 hn4
      exact ⟨⟨rfl, hv4, hn4⟩, rfl⟩
    exact stepsG.nil
  · intro vals F1 le1 hphi
    have e0 : vals 0 = tv := hphi 0 (by decide)
    have e1 : vals 1 = (.int .i64 (((p : Nat) : Int)) : Value) := hphi 1 (by decide)
    obtain ⟨e2, f2_1hv, f2_1hn⟩ := hphi 2 (by decide)
    have e3 : vals 3 = uv := hphi 3 (by decide)
    have e4 : vals 4 = tv := hphi 4 (by decide)
    have e5 : vals 5 = (.agg #[arv] : Value) := hphi 5 (by decide)
    have e6 : vals 6 = tv := hphi 6 (by decide)
    have e7 : vals 7 = (.int .i64 (((p : Nat) : Int)) : Value) := hphi 7 (by decide)
    have e8 : vals 8 = (.int .i64 (((endN ar t p : Nat) : Int)) : Value) := hphi 8 (by decide)
    obtain ⟨e9, f9_1hv, f9_1hn⟩ := hphi 9 (by decide)
    generalize hu1 : (vals 2) = u1 at e0 e1 e2 f2_1hv f2_1hn e3 e4 e5 e6 e7 e8 e9 f9_1hv f9_1hn
    generalize hu2 : (vals 9) = u2 at e0 e1 e2 f2_1hv f2_1hn e3 e4 e5 e6 e7 e8 e9 f9_1hv f9_1hn
    rw [(envs_of_sat (l := [(0, tv), (1, (.int .i64 (((p : Nat) : Int)) : Value)), (2, u1), (3, uv), (4, tv), (5, (.agg #[arv] : Value)), (6, tv), (7, (.int .i64 (((p : Nat) : Int)) : Value)), (8, (.int .i64 (((endN ar t p : Nat) : Int)) : Value)), (9, u2)]) ⟨e0, e1, hu1, e3, e4, e5, e6, e7, e8, hu2, trivial⟩).symm]
    replace har := har.mono le1
    replace ht := ht.mono le1
    replace hu := hu.mono le1
    show XL _ _ _ _ _ _ _ (cellsH b1 [arv] 33 :: L)
    refine XL.cons (XOp.buildSlice (s := 1) [u1, uv, u2] [(.slice none 0 0)] [(0, [u1]), (1, [uv]), (2, [u2])] Try.runUnderlying47 Try.sizeOf22 Try.zeroValue22 rfl (by decide) rfl (.cons (cells_one (IntsF.isSl f2_1hv)) (.cons (cells_one (IntsF.isSl hu)) (.cons (cells_one (IntsF.isSl f9_1hv)) CellsAre.nil))) rfl ?_)
    intro v5 hv5
    have hc1 : RowsC F1 [u1, uv, u2] ([((t.drop 0).take (p - 0)), u, ((t.drop (endN ar t p)).take (((t).length) - (endN ar t p)))] : List (List Int)) := (RowsC.snoc (RowsC.snoc (RowsC.snoc (CO.nil : RowsC F1 [] []) f2_1hv) hu) f9_1hv)
    refine XL.freezeF [] _ _ rfl (fun F2 le2 hz1 => ?_)
    replace har := har.mono le2
    replace ht := ht.mono le2
    replace hu := hu.mono le2
    replace f2_1hv := f2_1hv.mono le2
    replace f9_1hv := f9_1hv.mono le2
    replace hc1 := hc1.mono le2
    have hf1 : RowsF F2 v5 (([((t.drop 0).take (p - 0)), u, ((t.drop (endN ar t p)).take (((t).length) - (endN ar t p)))] : List (List Int))) := CO.fz hc1 (by first | rfl | simp | omega) hz1.fz
    refine XL.cons (XOp.frzF <| XOp.call (args := [v5]) Try.call186 rfl (Concat_spec hf1 (hg1 := (by simp; omega)) (hn := (by first | assumption | rfl | omega | (left; simp; done) | (right; simp; done))) (hb := (fun i hi => by match i, hi with | 0, _ => simp; omega | 1, _ => simp; omega | 2, _ => simp; omega))) ?_)
    rintro v6 _ _ _ ⟨rfl, hs1, rfl⟩
    refine ⟨_, _, rfl, fun F3 le3 hz2 => ?_⟩
    replace har := har.mono le3
    replace ht := ht.mono le3
    replace hu := hu.mono le3
    replace f2_1hv := f2_1hv.mono le3
    replace f9_1hv := f9_1hv.mono le3
    replace hc1 := hc1.mono le3
    replace hf1 := hf1.mono le3
    have hf2 : IntsF F3 v6 (((([((t.drop 0).take (p - 0)), u, ((t.drop (endN ar t p)).take (((t).length) - (endN ar t p)))] : List (List Int))).flatten)) := intsH.fz (xs := ((([((t.drop 0).take (p - 0)), u, ((t.drop (endN ar t p)).take (((t).length) - (endN ar t p)))] : List (List Int))).flatten)) hz2.fz
    refine XL.cons (XOp.assign (v6) rfl ?_)
    refine XL.nil ?_
    refine X.seq ?_
    refine X.seq ?_
    refine X.region ?_
    refine XL.cons (XOp.move (v6) rfl ?_)
    refine XL.cons (XOp.lenS (v := v6) (n := (((([((t.drop 0).take (p - 0)), u, ((t.drop (endN ar t p)).take (((t).length) - (endN ar t p)))] : List (List Int))).flatten)).length) Try.runUnderlying22 rfl hf2.slv ?_)
    refine XL.cons (XOp.gtr (a := (((((([((t.drop 0).take (p - 0)), u, ((t.drop (endN ar t p)).take (((t).length) - (endN ar t p)))] : List (List Int))).flatten)).length : Nat) : Int)) (b := 60) rfl rfl ?_)
    refine XL.nil ?_
    refine X.condD (p := ((((((([((t.drop 0).take (p - 0)), u, ((t.drop (endN ar t p)).take (((t).length) - (endN ar t p)))] : List (List Int))).flatten)).length : Nat) : Int) : Int) > 60) rfl (fun h1 => ?_) (fun h1 => ?_)
    · refine X.seq ?_
      refine X.region ?_
      refine XL.cons (XOp.assign ((.slice none 0 0)) rfl ?_)
      refine XL.cons (XOp.assign (.bool (false)) rfl ?_)
      refine XL.nil ?_
      refine X.ret (thenQ_ret (retEnd (L' := L) [(.slice none 0 0), .bool (false)] (.tuple #[(.slice none 0 0), .bool (false)]) (.tmp rfl (.tmp rfl .nil)) rfl (FLe.trans (FLe.trans le1 le2) le3) (FLe.refl _) (Sub.drop (Sub.refl _)) ?_))
      have hz : putL ar t p u = none := putL_none put_flat (by omega)
      exact ⟨_, by rw [hz]; rfl, by rw [hz]; exact IntsF.nilV, fun h => (by rw [hz] at h; cases h), by rw [hz]; exact Fresh.ofNil _, rfl⟩
    · refine X.skip ?_
      refine X.seq ?_
      refine X.region ?_
      refine XL.cons (XOp.move (v6) rfl ?_)
      refine XL.cons (XOp.assign (v6) rfl ?_)
      refine XL.cons (XOp.assign (.bool (true)) rfl ?_)
      refine XL.nil ?_
      refine X.ret (retEnd (L' := L) [v6, .bool (true)] (.tuple #[v6, .bool (true)]) (.tmp rfl (.tmp rfl .nil)) rfl (FLe.trans (FLe.trans le1 le2) le3) (FLe.refl _) (Sub.drop (Sub.refl _)) ?_)
      have hz := putL_some (ar := ar) (t := t) (p := p) (u := u) put_flat (by omega)
      exact ⟨_, by rw [hz]; rfl, by rw [hz]; exact hf2, fun _ => notNil_of_pos hf2 (by rw [put_flat]; simp; omega), by rw [hz]; exact (hz2.base (FLe.trans le1 le2)), rfl⟩

/- (impl.Subst).byVar -/
theorem byVar_spec {F : FH} {L : List HP} {sv : Value} {s : List (List Int)} (hs : RowsF F sv s) {i : Nat} (hsl : s.length ≤ 4000000) :
    Does Try.prog 208 [.agg #[sv], .int .i64 (((i : Nat) : Int))] F (L) (fun v F' L' => F = F' ∧ ∃ (a : Value), (a : Value) = v ∧ (IntsF F' a (s.getD i [])) ∧ (isNil a = decide (s.getD i [] = [])) ∧ L = L') := by
  refine Does.of_X Try.func208 rfl rfl rfl ?_
  refine X.seq ?_
  refine X.region ?_
  refine XL.cons (XOp.box [sv] rfl rfl ?_)
  intro b1
  refine XL.cons (XOp.assign ((.slice none 0 0)) rfl ?_)
  refine XL.nil ?_
  refine X.seq ?_
  refine X.seq ?_
  refine X.region ?_
  refine XL.cons (XOp.move (.int .i64 (((i : Nat) : Int))) rfl ?_)
  refine XL.cons (XOp.fieldP (b := b1) (0) Try.runUnderlying184 rfl Try.sizeOf47 (by decide) rfl rfl ?_)
  refine XL.cons (XOp.load1 (v := sv) Try.isAgg47 rfl (Rd.own [] rfl rfl) ?_)
  refine XL.cons (XOp.lenS (v := sv) (n := (s).length) Try.runUnderlying47 rfl hs.slv ?_)
  refine XL.cons (XOp.geq (a := ((i : Nat) : Int)) (b := (((s).length : Nat) : Int)) rfl rfl ?_)
  refine XL.cons (XOp.move (.bool (decide ((((i : Nat) : Int) : Int) ≥ (((s).length : Nat) : Int)))) rfl ?_)
  by_cases h1 : (((i : Nat) : Int) : Int) ≥ (((s).length : Nat) : Int)
  · refine XL.no (t := 10) rfl (congrArg Value.bool (decide_eq_true h1)) ?_
    refine XL.no (t := 10) rfl (congrArg Value.bool (decide_eq_true h1)) ?_
    refine XL.no (t := 10) rfl (congrArg Value.bool (decide_eq_true h1)) ?_
    refine XL.no (t := 10) rfl (congrArg Value.bool (decide_eq_true h1)) ?_
    refine XL.no (t := 10) rfl (congrArg Value.bool (decide_eq_true h1)) ?_
    refine XL.no (t := 10) rfl (congrArg Value.bool (decide_eq_true h1)) ?_
    refine XL.no (t := 10) rfl (congrArg Value.bool (decide_eq_true h1)) ?_
    refine XL.cons (XOp.pickT (.bool (true)) (congrArg Value.bool (decide_eq_true h1)) rfl ?_)
    refine XL.nil ?_
    refine X.condT rfl ?_
    refine X.seq ?_
    refine X.region ?_
    refine XL.cons (XOp.assign ((.slice none 0 0)) rfl ?_)
    refine XL.nil ?_
    refine X.ret (thenQ_ret (retEnd (L' := L) [(.slice none 0 0)] ((.slice none 0 0)) (.tmp rfl .nil) rfl (FLe.refl _) (FLe.refl _) (Sub.drop (Sub.refl _)) ?_))
    have e : s.getD i [] = [] := by first | exact List.eq_nil_of_length_eq_zero (by omega) | (rw [List.getD_eq_getElem?_getD, List.getElem?_eq_none (by omega)]; rfl)
    exact ⟨rfl, _, rfl, by rw [e]; exact IntsF.nilV, by rw [e]; rfl, rfl⟩
  · refine XL.yes (t := 10) rfl (congrArg Value.bool (decide_eq_false h1)) (XOp.fieldP (b := b1) (0) Try.runUnderlying184 rfl Try.sizeOf47 (by decide) rfl rfl ?_)
    refine XL.yes (t := 10) rfl (congrArg Value.bool (decide_eq_false h1)) (XOp.load1 (v := sv) Try.isAgg47 rfl (Rd.own [] rfl rfl) ?_)
    refine XL.yes (t := 10) rfl (congrArg Value.bool (decide_eq_false h1)) (XOp.move (.int .i64 (((i : Nat) : Int))) rfl ?_)
    refine XL.yes (t := 10) rfl (congrArg Value.bool (decide_eq_false h1)) (XOp.indexS (v := sv) (i := ((i : Nat) : Int)) (n := (s).length) i Try.runUnderlying47 Try.sizeOf22 rfl rfl rfl hs.slv (by omega) (Nat.mul_one _) ?_)
    obtain ⟨a1, ha1, hr1⟩ := hs.rd (i := i) (by omega)
    refine XL.yes (t := 10) rfl (congrArg Value.bool (decide_eq_false h1)) (XOp.load1 (v := a1) Try.isAgg22 rfl (hr1 _) ?_)
    refine XL.yes (t := 10) rfl (congrArg Value.bool (decide_eq_false h1)) (XOp.lenS (v := a1) (n := ((s.getD i [])).length) Try.runUnderlying22 rfl ha1.slv ?_)
    refine XL.yes (t := 10) rfl (congrArg Value.bool (decide_eq_false h1)) (XOp.eql (a := ((((s.getD i [])).length : Nat) : Int)) (b := 0) rfl rfl ?_)
    refine XL.cons (XOp.pickF (.bool (decide ((((((s.getD i [])).length : Nat) : Int) : Int) = 0))) (congrArg Value.bool (decide_eq_false h1)) rfl ?_)
    refine XL.nil ?_
    refine X.condD (p := (((((s.getD i [])).length : Nat) : Int) : Int) = 0) rfl (fun h2 => ?_) (fun h2 => ?_)
    · refine X.seq ?_
      refine X.region ?_
      refine XL.cons (XOp.assign ((.slice none 0 0)) rfl ?_)
      refine XL.nil ?_
      refine X.ret (thenQ_ret (retEnd (L' := L) [(.slice none 0 0)] ((.slice none 0 0)) (.tmp rfl .nil) rfl (FLe.refl _) (FLe.refl _) (Sub.drop (Sub.refl _)) ?_))
      have e : s.getD i [] = [] := by first | exact List.eq_nil_of_length_eq_zero (by omega) | (rw [List.getD_eq_getElem?_getD, List.getElem?_eq_none (by omega)]; rfl)
      exact ⟨rfl, _, rfl, by rw [e]; exact IntsF.nilV, by rw [e]; rfl, rfl⟩
    · refine X.skip ?_
      refine X.seq ?_
      refine X.region ?_
      refine XL.cons (XOp.fieldP (b := b1) (0) Try.runUnderlying184 rfl Try.sizeOf47 (by decide) rfl rfl ?_)
      refine XL.cons (XOp.load1 (v := sv) Try.isAgg47 rfl (Rd.own [] rfl rfl) ?_)
      refine XL.cons (XOp.move (.int .i64 (((i : Nat) : Int))) rfl ?_)
      refine XL.cons (XOp.indexS (v := sv) (i := ((i : Nat) : Int)) (n := (s).length) i Try.runUnderlying47 Try.sizeOf22 rfl rfl rfl hs.slv (by omega) (Nat.mul_one _) ?_)
      refine XL.cons (XOp.load1 (v := a1) Try.isAgg22 rfl (hr1 _) ?_)
      refine XL.cons (XOp.assign (a1) rfl ?_)
      refine XL.nil ?_
      refine X.ret (retEnd (L' := L) [a1] (a1) (.tmp rfl .nil) rfl (FLe.refl _) (FLe.refl _) (Sub.drop (Sub.refl _)) ?_)
      have e : s.getD i [] ≠ [] := by intro e; have := congrArg List.length e; simp only [List.length_nil] at this; omega
      exact ⟨rfl, _, rfl, ha1, by rw [notNil_of_pos ha1 (List.length_pos_iff.2 e)]; exact (decide_eq_false e).symm, rfl⟩

/- (impl.Subst).lookup$1 -/
theorem lookup1_spec {F : FH} {L : List HP} {n : Int} {sv : Value} {s : List (List Int)} (hs : RowsF F sv s) {b : Nat} (hzb : FzC F b [sv]) (hsl : s.length ≤ 4000000) (hg : -4000000 ≤ n) :
    Does Try.prog 207 [.int .i64 (n), ptr b 0] F (L) (fun v F' L' => F = F' ∧ ∃ (a : Value), (a : Value) = v ∧ (IntsF F' a (lkN s n)) ∧ (isNil a = decide (lkN s n = [])) ∧ L = L') := by
  refine Does.of_X Try.func207 rfl rfl rfl ?_
  refine X.seq ?_
  refine X.region ?_
  refine XL.cons (XOp.assign ((.slice none 0 0)) rfl ?_)
  refine XL.nil ?_
  refine X.seq ?_
  refine X.seq ?_
  refine X.region ?_
  refine XL.cons (XOp.move (.int .i64 (n)) rfl ?_)
  refine XL.cons (XOp.geq (a := n) (b := 0) rfl rfl ?_)
  refine XL.nil ?_
  refine X.condD (p := (n : Int) ≥ 0) rfl (fun h1 => ?_) (fun h1 => ?_)
  · refine X.seq ?_
    refine X.region ?_
    refine XL.cons (XOp.assign ((.slice none 0 0)) rfl ?_)
    refine XL.nil ?_
    refine X.ret (thenQ_ret (retEnd (L' := L) [(.slice none 0 0)] ((.slice none 0 0)) (.tmp rfl .nil) rfl (FLe.refl _) (FLe.refl _) (Sub.refl _) ?_))
    have e : lkN s n = [] := lkN_pos (by omega)
    exact ⟨rfl, _, rfl, by rw [e]; exact IntsF.nilV, by rw [e]; rfl, rfl⟩
  · refine X.skip ?_
    refine X.seq ?_
    refine X.region ?_
    refine XL.cons (XOp.loadN [sv] Try.isAgg184 Try.sizeOf184 rfl rfl (FzC.rd hzb rfl) ?_)
    refine XL.cons (XOp.move (.int .i64 (n)) rfl ?_)
    refine XL.cons (XOp.subR (a := -1) (b := n) ((-1) - n) rfl rfl (by omega) (by omega) ?_)
    refine XL.cons (XOp.call (args := [.agg #[sv], .int .i64 ((((-1) - n).toNat : Nat) : Int)]) Try.call208 (by rw [show ((((-1) - n).toNat : Nat) : Int) = (-1) - n from by omega]; rfl) (byVar_spec (i := ((-1) - n).toNat) hs (hsl := (by first | assumption | rfl | omega | (left; simp; done) | (right; simp; done)))) ?_)
    rintro _ _ _ _ ⟨rfl, x1, rfl, hr1, hr2, rfl⟩
    refine XL.cons (XOp.assign (x1) rfl ?_)
    refine XL.nil ?_
    refine X.ret (retEnd (L' := L) [x1] (x1) (.tmp rfl .nil) rfl (FLe.refl _) (FLe.refl _) (Sub.refl _) ?_)
    have e : lkN s n = s.getD (varIx n) [] := lkN_neg (by omega)
    exact ⟨rfl, _, rfl, by rw [e]; exact hr1, by rw [e]; exact hr2, rfl⟩

/- (impl.Subst).lookup -/
theorem lookup_spec {F : FH} {L : List HP} {sv : Value} {s : List (List Int)} (hs : RowsF F sv s) :
    Does Try.prog 185 [.agg #[sv]] F (L) (fun v F' L' => ∃ (b : Nat), (.func (.func 207) #[] #[ptr b 0] : Value) = v ∧ (FzC F' b [sv]) ∧ L = L') := by
  refine Does.of_X Try.func185 rfl rfl rfl ?_
  refine X.seq ?_
  refine X.region ?_
  refine XL.cons (XOp.box [sv] rfl rfl ?_)
  intro b1
  refine XL.cons (XOp.assign (.nilFunc) rfl ?_)
  refine XL.nil ?_
  refine X.seq ?_
  refine X.region ?_
  refine XL.cons (XOp.makeFuncL [] [ptr b1 0] rfl rfl ?_)
  refine XL.cons (XOp.assign (.func (.func 207) #[] #[ptr b1 0]) rfl ?_)
  refine XL.nil ?_
  refine X.freeze [] _ _ rfl (fun F1 le1 hz1 => ?_)
  replace hs := hs.mono le1
  have hf1 : FzC F1 b1 [sv] := Fz.cells hz1
  refine X.ret (retEnd (L' := L) [.func (.func 207) #[] #[ptr b1 0]] (.func (.func 207) #[] #[ptr b1 0]) (.tmp rfl .nil) rfl le1 (FLe.refl _) (Sub.refl _) ?_)
  exact ⟨_, rfl, hf1, rfl⟩

/- impl.fill -/
theorem fill_spec {F : FH} {L : List HP} {sv : Value} {s : List (List Int)} (hs : RowsF F sv s) {tv : Value} {t : List Int} (ht : IntsF F tv t) (hsl : s.length ≤ 4000000) (hsb : ∀ i, (s.getD i []).length ≤ 4000000) (htl : t.length ≤ 4000000) (htg : ∀ k, k < t.length → -4000000 ≤ t.getD k 0) :
    Does Try.prog 154 [.agg #[sv], tv] F (L) (fun v F' L' => ∃ (a : Value), (.tuple #[a, .bool ((fillL s t).isSome)] : Value) = v ∧ (IntsF F' a ((fillL s t).getD [])) ∧ (Fresh F F' (intsH 2 a ((fillL s t).getD []))) ∧ L = L') := by
  refine Does.of_X Try.func154 rfl rfl rfl ?_
  refine X.seq ?_
  refine X.region ?_
  refine XL.cons (XOp.box [sv] rfl rfl ?_)
  intro b1
  refine XL.cons (XOp.assign ((.slice none 0 0)) rfl ?_)
  refine XL.cons (XOp.assign (.bool (false)) rfl ?_)
  refine XL.nil ?_
  refine X.seq ?_
  refine X.region ?_
  refine XL.cons (XOp.loadN [sv] Try.isAgg184 Try.sizeOf184 rfl rfl (Rd.ownN [] rfl rfl) ?_)
  refine XL.cons (XOp.call (args := [.agg #[sv]]) Try.call185 rfl (lookup_spec hs) ?_)
  rintro _ F1 _ le1 ⟨x1, rfl, hr1, rfl⟩
  replace hs := hs.mono le1
  replace ht := ht.mono le1
  refine XL.cons (XOp.assign (.func (.func 207) #[] #[ptr x1 0]) rfl ?_)
  refine XL.nil ?_
  refine X.seq ?_
  refine X.region ?_
  refine XL.cons (XOp.move (tv) rfl ?_)
  refine XL.cons (XOp.lenS (v := tv) (n := (t).length) Try.runUnderlying22 rfl ht.slv ?_)
  refine XL.cons (XOp.makeSlice0 (n := (t).length) (bytes := 8) [.int .i64 (0)] Try.runUnderlying22 Try.sizeOf2 Try.typeInfo2 rfl Try.zeroValue2 rfl rfl rfl rfl (by omega) (by omega) ?_)
  intro v1 hv1
  have hs1 : IsSl v1 := by obtain ⟨b0, h0⟩ := hv1; exact ⟨_, _, _, h0⟩
  show XL _ _ _ _ _ _ _ (intsH 2 v1 ([]) :: cellsH b1 [sv] 184 :: L)
  refine XL.cons (XOp.assign (v1) rfl ?_)
  refine XL.nil ?_
  refine X.seq ?_
  refine X.seq ?_
  refine X.region ?_
  refine XL.cons (XOp.move (tv) rfl ?_)
  refine XL.cons (XOp.lenS (v := tv) (n := (t).length) Try.runUnderlying22 rfl ht.slv ?_)
  refine XL.cons (XOp.move (.int .i64 (0)) rfl ?_)
  refine XL.nil ?_
  refine X.block ?_
  refine X.loop (α := Nat × Value × List Int) (fun xQ => [(6, .func (.func 207) #[] #[ptr x1 0]), (7, xQ.2.1), (16, tv), (17, .int .i64 ((((t).length : Nat) : Int))), (18, .int .i64 (((xQ.1 : Nat) : Int)))]) (fun xQ => intsH 2 xQ.2.1 xQ.2.2 :: cellsH b1 [sv] 184 :: L) (fun xQ F' => F1 = F' ∧ (IsSl xQ.2.1) ∧ (xQ.1 ≤ t.length) ∧ (fillL s t = fillGo s (t.drop xQ.1) xQ.2.2) ∧ (xQ.2.2.length ≤ 60)) (fun xQ => t.length - xQ.1) (0, v1, []) ⟨rfl, rfl, rfl, rfl, rfl, trivial⟩ (Sub.cons (Sub.cons (Sub.refl _))) ⟨rfl, (hs1), (by (try dsimp only) <;> omega), (rfl), (by simp)⟩ ?_
  rintro ⟨k, ov, os⟩ rE _ _ ⟨rfl, hov, hk, hm, hol⟩
  show X _ _ _ _ (envs [(6, .func (.func 207) #[] #[ptr x1 0]), (7, ov), (16, tv), (17, .int .i64 ((((t).length : Nat) : Int))), (18, .int .i64 (((k : Nat) : Int)))] rE) _ (intsH 2 ov os :: cellsH b1 [sv] 184 :: L)
  dsimp only at hov hk hm hol
  have htk := htg k
  refine X.seq ?_
  refine X.region ?_
  refine XL.cons (XOp.lss (a := ((k : Nat) : Int)) (b := (((t).length : Nat) : Int)) rfl rfl ?_)
  refine XL.nil ?_
  refine X.seq ?_
  refine X.condD (p := (((k : Nat) : Int) : Int) < (((t).length : Nat) : Int)) rfl (fun h1 => ?_) (fun h1 => ?_)
  · refine X.skip ?_
    refine X.seq ?_
    refine X.block ?_
    refine X.seq ?_
    refine X.region ?_
    refine XL.cons (XOp.indexS (v := tv) (i := ((k : Nat) : Int)) (n := (t).length) k Try.runUnderlying22 Try.sizeOf2 rfl rfl rfl ht.slv (by omega) (Nat.mul_one _) ?_)
    refine XL.cons (XOp.load1 (v := .int .i64 (t.getD k 0)) Try.isAgg2 rfl (ht.rd (by omega)) ?_)
    refine XL.cons (XOp.assign (.int .i64 (t.getD k 0)) rfl ?_)
    refine XL.nil ?_
    refine X.seq ?_
    refine X.seq ?_
    refine X.region ?_
    refine XL.cons (XOp.move (.func (.func 207) #[] #[ptr x1 0]) rfl ?_)
    refine XL.cons (XOp.move (.int .i64 (t.getD k 0)) rfl ?_)
    refine XL.cons (XOp.callV (first := []) (captured := [ptr x1 0]) (args := [.int .i64 (t.getD k 0), ptr x1 0]) Try.call207 rfl rfl (lookup1_spec (n := t.getD k 0) hs hr1 (hsl := (by first | assumption | rfl | omega | (left; simp; done) | (right; simp; done))) (hg := (by first | assumption | rfl | omega | (left; simp; done) | (right; simp; done)))) ?_)
    rintro _ _ _ _ ⟨rfl, x2, rfl, hr2, hr3, rfl⟩
    skip
    refine XL.cons (XOp.assign (x2) rfl ?_)
    refine XL.nil ?_
    refine X.seq ?_
    refine X.region ?_
    refine XL.cons (XOp.move (x2) rfl ?_)
    refine XL.cons (XOp.eqNil (v := x2) Try.runUnderlying22 rfl rfl (IntsF.isSl hr2) ?_)
    refine XL.nil ?_
    refine X.cond (t := isNil x2) rfl (fun h2 => ?_) (fun h2 => ?_)
    · refine X.region ?_
      refine XL.cons (XOp.move (ov) rfl ?_)
      refine XL.cons (XOp.move (.int .i64 (t.getD k 0)) rfl ?_)
      refine XL.cons (XOp.buildSlice (s := 1) [.int .i64 (t.getD k 0)] [.int .i64 (0)] [(0, [.int .i64 (t.getD k 0)])] Try.runUnderlying22 Try.sizeOf2 Try.zeroValue2 rfl (by decide) rfl (.cons rfl CellsAre.nil) rfl ?_)
      intro v2 hv2
      refine XL.cons (XOp.append1 (u := t.getD k 0) [_] _ Try.runUnderlying22 Try.typeInfo2 rfl rfl rfl rfl rfl rfl (SlV.own [] rfl) (Rd.sl [] rfl rfl) (by (try simp only [List.length_append, List.length_nil, List.length_cons, List.length_singleton, List.length_take, List.length_drop]); omega) ?_)
      intro v3 hs2 hn1
      refine XL.cons (XOp.assign (v3) rfl ?_)
      refine XL.nil ?_
      refine X.seq ?_
      refine X.region ?_
      refine XL.cons (XOp.move (v3) rfl ?_)
      refine XL.cons (XOp.lenS (v := v3) (n := (os ++ [t.getD k 0]).length) Try.runUnderlying22 rfl (intsH.slv [_] rfl) ?_)
      refine XL.cons (XOp.gtr (a := (((os ++ [t.getD k 0]).length : Nat) : Int)) (b := 60) rfl rfl ?_)
      refine XL.nil ?_
      refine X.condD (p := ((((os ++ [t.getD k 0]).length : Nat) : Int) : Int) > 60) rfl (fun h3 => ?_) (fun h3 => ?_)
      · refine X.seq ?_
        refine X.region ?_
        refine XL.cons (XOp.assign ((.slice none 0 0)) rfl ?_)
        refine XL.cons (XOp.assign (.bool (false)) rfl ?_)
        refine XL.nil ?_
        refine X.ret (blockQ_ret (thenQ_ret (thenQ_ret (blockQ_ret (thenQ_ret (retEnd (L' := L) [(.slice none 0 0), .bool (false)] (.tuple #[(.slice none 0 0), .bool (false)]) (.tmp rfl (.tmp rfl .nil)) rfl le1 (FLe.refl _) (Sub.drop (Sub.drop (Sub.drop (Sub.refl _)))) ?_))))))
        have hz : fillL s t = none := hm.trans (fillGo_long (a := os ++ [t.getD k 0]) (by omega) (by rw [lk_of_nil (of_decide_eq_true (hr3.symm.trans (by assumption)))]) (by omega))
        exact ⟨_, by rw [hz]; rfl, by rw [hz]; exact IntsF.nilV, by rw [hz]; exact Fresh.ofNil _, rfl⟩
      · refine X.skip ?_
        refine X.region ?_
        refine XL.cons (XOp.addR (a := ((k : Nat) : Int)) (b := 1) (((k + 1 : Nat) : Int)) rfl rfl (by omega) (by omega) ?_)
        refine XL.cons (XOp.move (.int .i64 (((k + 1 : Nat) : Int))) rfl ?_)
        refine XL.nil ?_
        exact ⟨(k + 1, v3, os ++ [t.getD k 0]), _, FLe.refl _, (FLe.refl _), ⟨rfl, rfl, rfl, rfl, rfl, trivial⟩, (Sub.drop (Sub.cons (Sub.cons (Sub.refl _)))), ⟨rfl, (hs2), (by (try dsimp only) <;> omega), (by dsimp only; exact hm.trans (fillGo_next (by omega) (by rw [lk_of_nil (of_decide_eq_true (hr3.symm.trans (by assumption)))]) (by omega))), (by dsimp only; omega)⟩, (by omega)⟩
    · refine X.region ?_
      have hlb : (lkN s (t.getD k 0)).length ≤ 4000000 := lkN_bound hsb
      refine XL.cons (XOp.move (ov) rfl ?_)
      refine XL.cons (XOp.move (x2) rfl ?_)
      refine XL.cons (XOp.appendI [] _ Try.runUnderlying22 Try.typeInfo2 rfl rfl rfl rfl rfl rfl hr2 (by (try simp only [List.length_append, List.length_nil, List.length_cons, List.length_singleton, List.length_take, List.length_drop]); omega) ?_)
      intro v4 hs3 hn2 hm1
      refine XL.cons (XOp.assign (v4) rfl ?_)
      refine XL.nil ?_
      refine X.seq ?_
      refine X.region ?_
      refine XL.cons (XOp.move (v4) rfl ?_)
      refine XL.cons (XOp.lenS (v := v4) (n := (os ++ (lkN s (t.getD k 0))).length) Try.runUnderlying22 rfl (intsH.slv [] rfl) ?_)
      refine XL.cons (XOp.gtr (a := (((os ++ (lkN s (t.getD k 0))).length : Nat) : Int)) (b := 60) rfl rfl ?_)
      refine XL.nil ?_
      refine X.condD (p := ((((os ++ (lkN s (t.getD k 0))).length : Nat) : Int) : Int) > 60) rfl (fun h4 => ?_) (fun h4 => ?_)
      · refine X.seq ?_
        refine X.region ?_
        refine XL.cons (XOp.assign ((.slice none 0 0)) rfl ?_)
        refine XL.cons (XOp.assign (.bool (false)) rfl ?_)
        refine XL.nil ?_
        refine X.ret (blockQ_ret (thenQ_ret (thenQ_ret (blockQ_ret (thenQ_ret (retEnd (L' := L) [(.slice none 0 0), .bool (false)] (.tuple #[(.slice none 0 0), .bool (false)]) (.tmp rfl (.tmp rfl .nil)) rfl le1 (FLe.refl _) (Sub.drop (Sub.drop (Sub.refl _))) ?_))))))
        have hz : fillL s t = none := hm.trans (fillGo_long (a := os ++ (lkN s (t.getD k 0))) (by omega) (by rw [lk_of_ne (of_decide_eq_false (hr3.symm.trans (by assumption)))]) (by omega))
        exact ⟨_, by rw [hz]; rfl, by rw [hz]; exact IntsF.nilV, by rw [hz]; exact Fresh.ofNil _, rfl⟩
      · refine X.skip ?_
        refine X.region ?_
        refine XL.cons (XOp.addR (a := ((k : Nat) : Int)) (b := 1) (((k + 1 : Nat) : Int)) rfl rfl (by omega) (by omega) ?_)
        refine XL.cons (XOp.move (.int .i64 (((k + 1 : Nat) : Int))) rfl ?_)
        refine XL.nil ?_
        exact ⟨(k + 1, v4, os ++ (lkN s (t.getD k 0))), _, FLe.refl _, (FLe.refl _), ⟨rfl, rfl, rfl, rfl, rfl, trivial⟩, (Sub.cons (Sub.cons (Sub.refl _))), ⟨rfl, (hs3), (by (try dsimp only) <;> omega), (by dsimp only; exact hm.trans (fillGo_next (by omega) (by rw [lk_of_ne (of_decide_eq_false (hr3.symm.trans (by assumption)))]) (by omega))), (by dsimp only; omega)⟩, (by omega)⟩
  · refine X.exit (thenQ_exit (thenQ_exit (blockQ_exit ?_)))
    refine X.seq ?_
    refine X.region ?_
    refine XL.cons (XOp.move (ov) rfl ?_)
    refine XL.cons (XOp.assign (ov) rfl ?_)
    refine XL.cons (XOp.assign (.bool (true)) rfl ?_)
    refine XL.nil ?_
    refine X.freezeF [] _ _ rfl (fun F3 le3 hz1 => ?_)
    replace hs := hs.mono le3
    replace ht := ht.mono le3
    replace hr1 := hr1.mono le3
    have hf1 : IntsF F3 ov os := intsH.fz (xs := os) hz1.fz
    refine X.ret (retEnd (L' := L) [ov, .bool (true)] (.tuple #[ov, .bool (true)]) (.tmp rfl (.tmp rfl .nil)) rfl (FLe.trans le1 le3) (FLe.refl _) (Sub.drop (Sub.refl _)) ?_)
    have hz : fillL s t = some os := hm.trans (fillGo_done (by omega))
    exact ⟨_, by rw [hz]; rfl, by rw [hz]; exact hf1, by rw [hz]; exact (hz1.base le1), rfl⟩

/- impl.step -/
theorem step_spec {F : FH} {L : List HP} {arv : Value} {ar : List Int} (har : IntsF F arv ar) {rsv : Value} {rs : List (List Int × List Int)} (hrs : PairsF F rsv rs) {tv : Value} {t : List Int} (ht : IntsF F tv t) {p : Nat} {r : Nat} (hsys : sysOk ar rs = true) (ho : termOk ar t = true) (hp : p < t.length) (hr : r < rs.length) :
    Does Try.prog 167 [.agg #[arv, rsv], tv, .int .i64 (((p : Nat) : Int)), .int .i64 (((r : Nat) : Int))] F (L) (fun v F' L' => ∃ (a : Value), (.tuple #[a, .bool ((stepL ar rs t p r).isSome)] : Value) = v ∧ (IntsF F' a ((stepL ar rs t p r).getD [])) ∧ ((stepL ar rs t p r).isSome = true → isNil a = false) ∧ (Fresh F F' (intsH 2 a ((stepL ar rs t p r).getD []))) ∧ L = L') := by
  refine Does.of_X Try.func167 rfl rfl rfl ?_
  have hnn := notNil_of_pos ht (by have := termOk_len ho; omega)
  have htl := termOk_len ho
  have hrl := (sysOk_iff.1 hsys).2.1
  have hsig := (sysOk_iff.1 hsys).1
  have hsl := sigOk_spec hsig
  have hR := ruleOk_iff.1 ((sysOk_iff.1 hsys).2.2 r hr)
  have hRl := hR.left
  have hRr := hR.right
  have hso := sub_ok ho hp
  have hsb := sub_length ho hp
  have hee := endN_spec ho hp
  have hRrl := termOk_len hRr
  have hRg := fun k (hk : k < (rs.getD r ([], [])).2.length) => termOk_ge hRr hk
  have hmp := matchP_len (ar := ar) (p := (rs.getD r ([], [])).1) (t := sub ar t p)
  have hmp2 := hmp.2
  have hmp3 := hmp.1
  refine X.seq ?_
  refine X.region ?_
  refine XL.cons (XOp.box [arv, rsv] rfl rfl ?_)
  intro b1
  refine XL.cons (XOp.assign ((.slice none 0 0)) rfl ?_)
  refine XL.cons (XOp.assign (.bool (false)) rfl ?_)
  refine XL.nil ?_
  refine X.seq ?_
  obtain ⟨a1, a2, ha1, ha2, hr1, hr2⟩ := hrs.rd (i := r) (by omega)
  refine X.drawG [cellsH b1 [arv, rsv] 36] L 19 [[], [], [], [], [], [], [], [], [], [], [], [], [], [], [13], [13], [], [], [13, 17]] [[], [0], [], [2], [], [3, 4], [5], [6], [], [8], [], [], [9, 10, 11], [1, 7, 12], [13], [13, 14], [13, 14], [], [13, 15, 17]] [[], [], [], [], [], [], [], [], [], [], [], [], [], [], [], [], [], [], [17]] (phiG [fun FF us v => v = ptr b1 0, fun FF us v => v = (.agg #[arv] : Value), fun FF us v => v = ptr b1 1, fun FF us v => v = rsv, fun FF us v => v = (.int .i64 (((r : Nat) : Int)) : Value), fun FF us v => v = (.pointer (some (elemA rsv (r * 2))) : Value), fun FF us v => v = (.pointer (some (elemA rsv (r * 2))) : Value), fun FF us v => v = a1, fun FF us v => v = ptr b1 0, fun FF us v => v = (.agg #[arv] : Value), fun FF us v => v = tv, fun FF us v => v = (.int .i64 (((p : Nat) : Int)) : Value), fun FF us v => ((v) : Value) = v ∧ (IntsF FF (v) (sub ar t p)) ∧ (isNil (v) = false), fun FF us v => (.tuple #[.agg #[((aggAt (tupAt v 0) 0))], .bool ((matchB ar ((rs.getD r ([], [])).1) ((sub ar t p))).isSome)] : Value) = v ∧ (RowsF FF ((aggAt (tupAt v 0) 0)) (matchP ar ((rs.getD r ([], [])).1) ((sub ar t p)))), fun FF us v => v = (.tuple #[.agg #[((aggAt (tupAt (us.getD 0 undef) 0) 0))], .bool ((matchB ar ((rs.getD r ([], [])).1) ((sub ar t p))).isSome)] : Value), fun FF us v => v = (.agg #[((aggAt (tupAt (us.getD 0 undef) 0) 0))] : Value), fun FF us v => v = (.bool ((matchB ar ((rs.getD r ([], [])).1) ((sub ar t p))).isSome) : Value), fun FF us v => v = ptr (blk v) 0, fun FF us v => True]) (ownL [fun us v => [], fun us v => [], fun us v => [], fun us v => [], fun us v => [], fun us v => [], fun us v => [], fun us v => [], fun us v => [], fun us v => [], fun us v => [], fun us v => [], fun us v => [], fun us v => [], fun us v => [], fun us v => [], fun us v => [], fun us v => [cellsH (blk v) [(.slice none 0 0)] 184], fun us v => [cellsH (blk (us.getD 1 undef)) [((aggAt (tupAt (us.getD 0 undef) 0) 0))] 184]]) mixed rfl rfl (by kernel_rfl) (by kernel_rfl) (MonoG.get (MonoG.cons (fun le h => h) (MonoG.cons (fun le h => h) (MonoG.cons (fun le h => h) (MonoG.cons (fun le h => h) (MonoG.cons (fun le h => h) (MonoG.cons (fun le h => h) (MonoG.cons (fun le h => h) (MonoG.cons (fun le h => h) (MonoG.cons (fun le h => h) (MonoG.cons (fun le h => h) (MonoG.cons (fun le h => h) (MonoG.cons (fun le h => h) (MonoG.cons (fun le h => ⟨h.1, h.2.1.mono le, h.2.2⟩) (MonoG.cons (fun le h => ⟨h.1, h.2.mono le⟩) (MonoG.cons (fun le h => h) (MonoG.cons (fun le h => h) (MonoG.cons (fun le h => h) (MonoG.cons (fun le h => h) (MonoG.cons (fun le h => h) MonoG.nil)))))))))))))))))))) ?_ ?_
  · refine stepsG.cons (fun vals Fs R leFs hpZ => ?_) ?_
    · refine XG.op (XOp.fieldP (b := b1) (0) Try.runUnderlying36 rfl Try.sizeOf33 (by decide) rfl rfl ?_)
      exact ⟨rfl, rfl⟩
    refine stepsG.cons (fun vals Fs R leFs hpZ => ?_) ?_
    · have e0 : vals 0 = ptr b1 0 := hpZ 0 (by decide)
      replace har := har.mono leFs
      replace hrs := hrs.mono leFs
      replace ht := ht.mono leFs
      replace ha1 := ha1.mono leFs
      replace ha2 := ha2.mono leFs
      replace hr1 := Rd.monoA hr1 leFs
      replace hr2 := Rd.monoA hr2 leFs
      rw [(envs_of_sat (l := [(0, ptr b1 0)]) ⟨e0, trivial⟩).symm]
      refine XG.op (XOp.loadN [arv] Try.isAgg33 Try.sizeOf33 rfl rfl (Rd.ownN [] rfl rfl) ?_)
      exact ⟨rfl, rfl⟩
    refine stepsG.cons (fun vals Fs R leFs hpZ => ?_) ?_
    · refine XG.op (XOp.fieldP (b := b1) (1) Try.runUnderlying36 rfl Try.sizeOf34 (by decide) rfl rfl ?_)
      exact ⟨rfl, rfl⟩
    refine stepsG.cons (fun vals Fs R leFs hpZ => ?_) ?_
    · have e2 : vals 2 = ptr b1 1 := hpZ 2 (by decide)
      replace har := har.mono leFs
      replace hrs := hrs.mono leFs
      replace ht := ht.mono leFs
      replace ha1 := ha1.mono leFs
      replace ha2 := ha2.mono leFs
      replace hr1 := Rd.monoA hr1 leFs
      replace hr2 := Rd.monoA hr2 leFs
      rw [(envs_of_sat (l := [(2, ptr b1 1)]) ⟨e2, trivial⟩).symm]
      refine XG.op (XOp.load1 (v := rsv) Try.isAgg34 rfl (Rd.own [] rfl rfl) ?_)
      exact ⟨rfl, rfl⟩
    refine stepsG.cons (fun vals Fs R leFs hpZ => ?_) ?_
    · refine XG.op (XOp.move (.int .i64 (((r : Nat) : Int))) rfl ?_)
      exact ⟨rfl, rfl⟩
    refine stepsG.cons (fun vals Fs R leFs hpZ => ?_) ?_
    · have e3 : vals 3 = rsv := hpZ 3 (by decide)
      have e4 : vals 4 = (.int .i64 (((r : Nat) : Int)) : Value) := hpZ 4 (by decide)
      replace har := har.mono leFs
      replace hrs := hrs.mono leFs
      replace ht := ht.mono leFs
      replace ha1 := ha1.mono leFs
      replace ha2 := ha2.mono leFs
      replace hr1 := Rd.monoA hr1 leFs
      replace hr2 := Rd.monoA hr2 leFs
      rw [(envs_of_sat (l := [(3, rsv), (4, (.int .i64 (((r : Nat) : Int)) : Value))]) ⟨e3, e4, trivial⟩).symm]
      refine XG.op (XOp.indexS (v := rsv) (i := ((r : Nat) : Int)) (n := (rs).length) r Try.runUnderlying34 Try.sizeOf98 rfl rfl rfl hrs.slv (by omega) rfl ?_)
      exact ⟨rfl, rfl⟩
    refine stepsG.cons (fun vals Fs R leFs hpZ => ?_) ?_
    · have e5 : vals 5 = (.pointer (some (elemA rsv (r * 2))) : Value) := hpZ 5 (by decide)
      rw [(envs_of_sat (l := [(5, (.pointer (some (elemA rsv (r * 2))) : Value))]) ⟨e5, trivial⟩).symm]
      refine XG.op (XOp.fieldE (v := rsv) (r * 2) Try.runUnderlying98 rfl Try.sizeOf22 (by decide) rfl rfl ?_)
      exact ⟨rfl, rfl⟩
    refine stepsG.cons (fun vals Fs R leFs hpZ => ?_) ?_
    · have e6 : vals 6 = (.pointer (some (elemA rsv (r * 2))) : Value) := hpZ 6 (by decide)
      replace har := har.mono leFs
      replace hrs := hrs.mono leFs
      replace ht := ht.mono leFs
      replace ha1 := ha1.mono leFs
      replace ha2 := ha2.mono leFs
      replace hr1 := Rd.monoA hr1 leFs
      replace hr2 := Rd.monoA hr2 leFs
      rw [(envs_of_sat (l := [(6, (.pointer (some (elemA rsv (r * 2))) : Value))]) ⟨e6, trivial⟩).symm]
      refine XG.op (XOp.load1 (v := a1) Try.isAgg22 rfl (hr1 _) ?_)
      exact ⟨rfl, rfl⟩
    refine stepsG.cons (fun vals Fs R leFs hpZ => ?_) ?_
    · refine XG.op (XOp.fieldP (b := b1) (0) Try.runUnderlying36 rfl Try.sizeOf33 (by decide) rfl rfl ?_)
      exact ⟨rfl, rfl⟩
    refine stepsG.cons (fun vals Fs R leFs hpZ => ?_) ?_
    · have e8 : vals 8 = ptr b1 0 := hpZ 8 (by decide)
      replace har := har.mono leFs
      replace hrs := hrs.mono leFs
      replace ht := ht.mono leFs
      replace ha1 := ha1.mono leFs
      replace ha2 := ha2.mono leFs
      replace hr1 := Rd.monoA hr1 leFs
      replace hr2 := Rd.monoA hr2 leFs
      rw [(envs_of_sat (l := [(8, ptr b1 0)]) ⟨e8, trivial⟩).symm]
      refine XG.op (XOp.loadN [arv] Try.isAgg33 Try.sizeOf33 rfl rfl (Rd.ownN [] rfl rfl) ?_)
      exact ⟨rfl, rfl⟩
    refine stepsG.cons (fun vals Fs R leFs hpZ => ?_) ?_
    · refine XG.op (XOp.move (tv) rfl ?_)
      exact ⟨rfl, rfl⟩
    refine stepsG.cons (fun vals Fs R leFs hpZ => ?_) ?_
    · refine XG.op (XOp.move (.int .i64 (((p : Nat) : Int))) rfl ?_)
      exact ⟨rfl, rfl⟩
    refine stepsG.cons (fun vals Fs R leFs hpZ => ?_) ?_
    · have e9 : vals 9 = (.agg #[arv] : Value) := hpZ 9 (by decide)
      have e10 : vals 10 = tv := hpZ 10 (by decide)
      have e11 : vals 11 = (.int .i64 (((p : Nat) : Int)) : Value) := hpZ 11 (by decide)
      replace har := har.mono leFs
      replace hrs := hrs.mono leFs
      replace ht := ht.mono leFs
      replace ha1 := ha1.mono leFs
      replace ha2 := ha2.mono leFs
      replace hr1 := Rd.monoA hr1 leFs
      replace hr2 := Rd.monoA hr2 leFs
      rw [(envs_of_sat (l := [(9, (.agg #[arv] : Value)), (10, tv), (11, (.int .i64 (((p : Nat) : Int)) : Value))]) ⟨e9, e10, e11, trivial⟩).symm]
      refine XG.op (XOp.call (args := [.agg #[arv], tv, .int .i64 ((p : Nat) : Int)]) Try.call153 rfl (subAt_spec (p := p) har ht (ho := (by first | assumption | rfl | omega | (left; simp; done) | (right; simp; done))) (hp := (by first | assumption | rfl | omega | (left; simp; done) | (right; simp; done))) (hnn := (by first | assumption | rfl | omega | (left; simp; done) | (right; simp; done)))) ?_)
      rintro v2 _ _ _ ⟨rfl, rfl, hv2, hn2⟩
      exact ⟨⟨rfl, hv2, hn2⟩, rfl⟩
    refine stepsG.cons (fun vals Fs R leFs hpZ => ?_) ?_
    · have e1 : vals 1 = (.agg #[arv] : Value) := hpZ 1 (by decide)
      have e7 : vals 7 = a1 := hpZ 7 (by decide)
      obtain ⟨e12, f12_1ha, f12_1hn⟩ := hpZ 12 (by decide)
      replace har := har.mono leFs
      replace hrs := hrs.mono leFs
      replace ht := ht.mono leFs
      replace ha1 := ha1.mono leFs
      replace ha2 := ha2.mono leFs
      replace hr1 := Rd.monoA hr1 leFs
      replace hr2 := Rd.monoA hr2 leFs
      rw [(envs_of_sat (l := [(1, (.agg #[arv] : Value)), (7, a1), (12, ((vals 12)))]) ⟨e1, e7, (e12).symm, trivial⟩).symm]
      refine XG.op (XOp.call (args := [.agg #[arv], a1, ((vals 12))]) Try.call190 rfl (match_spec har ha1 f12_1ha (ho := (by first | assumption | rfl | omega | (left; simp; done) | (right; simp; done))) (hpo := (by first | assumption | rfl | omega | (left; simp; done) | (right; simp; done)))) ?_)
      rintro _ F2 _ le2 ⟨x2, rfl, hr4, rfl⟩
      replace har := har.mono le2
      replace hrs := hrs.mono le2
      replace ht := ht.mono le2
      replace ha1 := ha1.mono le2
      replace ha2 := ha2.mono le2
      replace f12_1ha := f12_1ha.mono le2
      replace hr1 := Rd.monoA hr1 le2
      replace hr2 := Rd.monoA hr2 le2
      exact ⟨⟨rfl, hr4⟩, rfl⟩
    refine stepsG.cons (fun vals Fs R leFs hpZ => ?_) ?_
    · obtain ⟨e13, f13_1hr⟩ := hpZ 13 (by decide)
      rw [(envs_of_sat (l := [(13, (.tuple #[.agg #[((aggAt (tupAt (vals 13) 0) 0))], .bool ((matchB ar ((rs.getD r ([], [])).1) ((sub ar t p))).isSome)] : Value))]) ⟨(e13).symm, trivial⟩).symm]
      refine XG.op (XOp.move (.tuple #[.agg #[((aggAt (tupAt (vals 13) 0) 0))], .bool ((matchB ar ((rs.getD r ([], [])).1) ((sub ar t p))).isSome)]) rfl ?_)
      exact ⟨rfl, rfl⟩
    refine stepsG.cons (fun vals Fs R leFs hpZ => ?_) ?_
    · obtain ⟨e13, f13_1hr⟩ := hpZ 13 (by decide)
      have e14 : vals 14 = (.tuple #[.agg #[((aggAt (tupAt (vals 13) 0) 0))], .bool ((matchB ar ((rs.getD r ([], [])).1) ((sub ar t p))).isSome)] : Value) := hpZ 14 (by decide)
      rw [(envs_of_sat (l := [(13, (.tuple #[.agg #[((aggAt (tupAt (vals 13) 0) 0))], .bool ((matchB ar ((rs.getD r ([], [])).1) ((sub ar t p))).isSome)] : Value)), (14, (.tuple #[.agg #[((aggAt (tupAt (vals 13) 0) 0))], .bool ((matchB ar ((rs.getD r ([], [])).1) ((sub ar t p))).isSome)] : Value))]) ⟨(e13).symm, e14, trivial⟩).symm]
      refine XG.op (XOp.extract (.agg #[((aggAt (tupAt (vals 13) 0) 0))]) rfl rfl ?_)
      exact ⟨rfl, rfl⟩
    refine stepsG.cons (fun vals Fs R leFs hpZ => ?_) ?_
    · obtain ⟨e13, f13_1hr⟩ := hpZ 13 (by decide)
      have e14 : vals 14 = (.tuple #[.agg #[((aggAt (tupAt (vals 13) 0) 0))], .bool ((matchB ar ((rs.getD r ([], [])).1) ((sub ar t p))).isSome)] : Value) := hpZ 14 (by decide)
      rw [(envs_of_sat (l := [(13, (.tuple #[.agg #[((aggAt (tupAt (vals 13) 0) 0))], .bool ((matchB ar ((rs.getD r ([], [])).1) ((sub ar t p))).isSome)] : Value)), (14, (.tuple #[.agg #[((aggAt (tupAt (vals 13) 0) 0))], .bool ((matchB ar ((rs.getD r ([], [])).1) ((sub ar t p))).isSome)] : Value))]) ⟨(e13).symm, e14, trivial⟩).symm]
      refine XG.op (XOp.extract (.bool ((matchB ar ((rs.getD r ([], [])).1) ((sub ar t p))).isSome)) rfl rfl ?_)
      exact ⟨rfl, rfl⟩
    refine stepsG.cons (fun vals Fs R leFs hpZ => ?_) ?_
    · replace har := har.mono leFs
      replace hrs := hrs.mono leFs
      replace ht := ht.mono leFs
      replace ha1 := ha1.mono leFs
      replace ha2 := ha2.mono leFs
      replace hr1 := Rd.monoA hr1 leFs
      replace hr2 := Rd.monoA hr2 leFs
      refine XG.op (XOp.alloc [(.slice none 0 0)] Try.zeroValue184 rfl ?_)
      intro b3
      exact ⟨rfl, rfl⟩
    refine stepsG.cons (fun vals Fs R leFs hpZ => ?_) ?_
    · obtain ⟨e13, f13_1hr⟩ := hpZ 13 (by decide)
      have e15 : vals 15 = (.agg #[((aggAt (tupAt (vals 13) 0) 0))] : Value) := hpZ 15 (by decide)
      have e17 : vals 17 = ptr (blk (vals 17)) 0 := hpZ 17 (by decide)
      replace har := har.mono leFs
      replace hrs := hrs.mono leFs
      replace ht := ht.mono leFs
      replace ha1 := ha1.mono leFs
      replace ha2 := ha2.mono leFs
      replace hr1 := Rd.monoA hr1 leFs
      replace hr2 := Rd.monoA hr2 leFs
      rw [(envs_of_sat (l := [(13, (.tuple #[.agg #[((aggAt (tupAt (vals 13) 0) 0))], .bool ((matchB ar ((rs.getD r ([], [])).1) ((sub ar t p))).isSome)] : Value)), (15, (.agg #[((aggAt (tupAt (vals 13) 0) 0))] : Value)), (17, ptr (blk (vals 17)) 0)]) ⟨(e13).symm, e15, e17, trivial⟩).symm]
      show XG _ _ _ _ _ (cellsH (blk (vals 17)) [(.slice none 0 0)] 184 :: ([cellsH b1 [arv, rsv] 36] ++ R)) _
      refine XG.op (XOp.storeN (vs := [((aggAt (tupAt (vals 13) 0) 0))]) [] _ [((aggAt (tupAt (vals 13) 0) 0))] Try.sizeOf184 rfl rfl rfl (ones_cons (one_sl (RowsF.isSl f13_1hr)) ones_nil) rfl rfl rfl ?_)
      exact ⟨trivial, rfl⟩
    exact stepsG.nil
  · intro vals F3 le3 hphi
    have e0 : vals 0 = ptr b1 0 := hphi 0 (by decide)
    have e1 : vals 1 = (.agg #[arv] : Value) := hphi 1 (by decide)
    have e2 : vals 2 = ptr b1 1 := hphi 2 (by decide)
    have e3 : vals 3 = rsv := hphi 3 (by decide)
    have e4 : vals 4 = (.int .i64 (((r : Nat) : Int)) : Value) := hphi 4 (by decide)
    have e5 : vals 5 = (.pointer (some (elemA rsv (r * 2))) : Value) := hphi 5 (by decide)
    have e6 : vals 6 = (.pointer (some (elemA rsv (r * 2))) : Value) := hphi 6 (by decide)
    have e7 : vals 7 = a1 := hphi 7 (by decide)
    have e8 : vals 8 = ptr b1 0 := hphi 8 (by decide)
    have e9 : vals 9 = (.agg #[arv] : Value) := hphi 9 (by decide)
    have e10 : vals 10 = tv := hphi 10 (by decide)
    have e11 : vals 11 = (.int .i64 (((p : Nat) : Int)) : Value) := hphi 11 (by decide)
    obtain ⟨e12, f12_1ha, f12_1hn⟩ := hphi 12 (by decide)
    obtain ⟨e13, f13_1hr⟩ := hphi 13 (by decide)
    have e14 : vals 14 = (.tuple #[.agg #[((aggAt (tupAt (vals 13) 0) 0))], .bool ((matchB ar ((rs.getD r ([], [])).1) ((sub ar t p))).isSome)] : Value) := hphi 14 (by decide)
    have e15 : vals 15 = (.agg #[((aggAt (tupAt (vals 13) 0) 0))] : Value) := hphi 15 (by decide)
    have e16 : vals 16 = (.bool ((matchB ar ((rs.getD r ([], [])).1) ((sub ar t p))).isSome) : Value) := hphi 16 (by decide)
    have e17 : vals 17 = ptr (blk (vals 17)) 0 := hphi 17 (by decide)
    generalize hu1 : ((vals 12)) = u1 at e0 e1 e2 e3 e4 e5 e6 e7 e8 e9 e10 e11 e12 f12_1ha f12_1hn e13 f13_1hr e14 e15 e16 e17
    generalize hu2 : ((aggAt (tupAt (vals 13) 0) 0)) = u2 at e0 e1 e2 e3 e4 e5 e6 e7 e8 e9 e10 e11 e12 f12_1ha f12_1hn e13 f13_1hr e14 e15 e16 e17
    generalize hu3 : blk (vals 17) = b4 at e0 e1 e2 e3 e4 e5 e6 e7 e8 e9 e10 e11 e12 f12_1ha f12_1hn e13 f13_1hr e14 e15 e16 e17
    rw [(envs_of_sat (l := [(0, ptr b1 0), (1, (.agg #[arv] : Value)), (2, ptr b1 1), (3, rsv), (4, (.int .i64 (((r : Nat) : Int)) : Value)), (5, (.pointer (some (elemA rsv (r * 2))) : Value)), (6, (.pointer (some (elemA rsv (r * 2))) : Value)), (7, a1), (8, ptr b1 0), (9, (.agg #[arv] : Value)), (10, tv), (11, (.int .i64 (((p : Nat) : Int)) : Value)), (12, u1), (13, (.tuple #[.agg #[u2], .bool ((matchB ar ((rs.getD r ([], [])).1) ((sub ar t p))).isSome)] : Value)), (14, (.tuple #[.agg #[u2], .bool ((matchB ar ((rs.getD r ([], [])).1) ((sub ar t p))).isSome)] : Value)), (15, (.agg #[u2] : Value)), (16, (.bool ((matchB ar ((rs.getD r ([], [])).1) ((sub ar t p))).isSome) : Value)), (17, ptr b4 0)]) ⟨e0, e1, e2, e3, e4, e5, e6, e7, e8, e9, e10, e11, hu1, (e13).symm, e14, e15, e16, e17, trivial⟩).symm]
    replace har := har.mono le3
    replace hrs := hrs.mono le3
    replace ht := ht.mono le3
    replace ha1 := ha1.mono le3
    replace ha2 := ha2.mono le3
    replace hr1 := Rd.monoA hr1 le3
    replace hr2 := Rd.monoA hr2 le3
    show XL _ _ _ _ _ _ _ (cellsH b4 [u2] 184 :: cellsH b1 [arv, rsv] 36 :: L)
    refine XL.cons (XOp.assign (.bool ((matchB ar ((rs.getD r ([], [])).1) ((sub ar t p))).isSome)) rfl ?_)
    refine XL.nil ?_
    refine X.seq ?_
    refine X.seq ?_
    refine X.region ?_
    refine XL.cons (XOp.move (.bool ((matchB ar ((rs.getD r ([], [])).1) ((sub ar t p))).isSome)) rfl ?_)
    refine XL.cons (XOp.notB (b := (matchB ar ((rs.getD r ([], [])).1) ((sub ar t p))).isSome) rfl ?_)
    refine XL.nil ?_
    refine X.cond (t := !((matchB ar ((rs.getD r ([], [])).1) ((sub ar t p))).isSome)) rfl (fun h1 => ?_) (fun h1 => ?_)
    · have hms : (matchB ar (rs.getD r ([], [])).1 (sub ar t p)).isSome = false := by simpa using h1
      refine X.seq ?_
      refine X.region ?_
      refine XL.cons (XOp.assign ((.slice none 0 0)) rfl ?_)
      refine XL.cons (XOp.assign (.bool (false)) rfl ?_)
      refine XL.nil ?_
      refine X.ret (thenQ_ret (retEnd (L' := L) [(.slice none 0 0), .bool (false)] (.tuple #[(.slice none 0 0), .bool (false)]) (.tmp rfl (.tmp rfl .nil)) rfl le3 (FLe.refl _) (Sub.drop (Sub.drop (Sub.refl _))) ?_))
      have hz := stepL_nomatch hms
      exact ⟨_, by rw [hz]; rfl, by rw [hz]; exact IntsF.nilV, fun h => (by rw [hz] at h; cases h), by rw [hz]; exact Fresh.ofNil _, rfl⟩
    · have hms : (matchB ar (rs.getD r ([], [])).1 (sub ar t p)).isSome = true := by simpa using h1
      refine X.skip ?_
      refine X.seq ?_
      refine X.drawG [cellsH b4 [u2] 184, cellsH b1 [arv, rsv] 36] L 12 [[], [], [], [], [], [], [], [], [7], [7], [], [7]] [[], [], [1], [], [2, 3], [4], [5], [0, 6], [7], [7, 8], [7, 8], [7, 9]] [[], [], [], [], [], [], [], [], [], [], [], []] (phiG [fun FF us v => v = (.agg #[u2] : Value), fun FF us v => v = ptr b1 1, fun FF us v => v = rsv, fun FF us v => v = (.int .i64 (((r : Nat) : Int)) : Value), fun FF us v => v = (.pointer (some (elemA rsv (r * 2))) : Value), fun FF us v => v = (.pointer (some (elemA rsv (r * 2 + 1))) : Value), fun FF us v => v = a2, fun FF us v => (.tuple #[((tupAt v 0)), .bool ((fillL (matchP ar ((rs.getD r ([], [])).1) ((sub ar t p))) ((rs.getD r ([], [])).2)).isSome)] : Value) = v ∧ (IntsF FF ((tupAt v 0)) ((fillL (matchP ar ((rs.getD r ([], [])).1) ((sub ar t p))) ((rs.getD r ([], [])).2)).getD [])), fun FF us v => v = (.tuple #[((tupAt (us.getD 0 undef) 0)), .bool ((fillL (matchP ar ((rs.getD r ([], [])).1) ((sub ar t p))) ((rs.getD r ([], [])).2)).isSome)] : Value), fun FF us v => v = ((tupAt (us.getD 0 undef) 0)), fun FF us v => v = (.bool ((fillL (matchP ar ((rs.getD r ([], [])).1) ((sub ar t p))) ((rs.getD r ([], [])).2)).isSome) : Value), fun FF us v => v = ((tupAt (us.getD 0 undef) 0))]) (ownL [fun us v => [], fun us v => [], fun us v => [], fun us v => [], fun us v => [], fun us v => [], fun us v => [], fun us v => [], fun us v => [], fun us v => [], fun us v => [], fun us v => []]) mixed rfl rfl (by kernel_rfl) (by kernel_rfl) (MonoG.get (MonoG.cons (fun le h => h) (MonoG.cons (fun le h => h) (MonoG.cons (fun le h => h) (MonoG.cons (fun le h => h) (MonoG.cons (fun le h => h) (MonoG.cons (fun le h => h) (MonoG.cons (fun le h => h) (MonoG.cons (fun le h => ⟨h.1, h.2.mono le⟩) (MonoG.cons (fun le h => h) (MonoG.cons (fun le h => h) (MonoG.cons (fun le h => h) (MonoG.cons (fun le h => h) MonoG.nil))))))))))))) ?_ ?_
      · refine stepsG.cons (fun vals Fs R leFs hpZ => ?_) ?_
        · replace har := har.mono leFs
          replace hrs := hrs.mono leFs
          replace ht := ht.mono leFs
          replace ha1 := ha1.mono leFs
          replace ha2 := ha2.mono leFs
          replace f12_1ha := f12_1ha.mono leFs
          replace f13_1hr := f13_1hr.mono leFs
          replace hr1 := Rd.monoA hr1 leFs
          replace hr2 := Rd.monoA hr2 leFs
          refine XG.op (XOp.loadN [u2] Try.isAgg184 Try.sizeOf184 rfl rfl (Rd.ownN [] rfl rfl) ?_)
          exact ⟨rfl, rfl⟩
        refine stepsG.cons (fun vals Fs R leFs hpZ => ?_) ?_
        · refine XG.op (XOp.fieldP (b := b1) (1) Try.runUnderlying36 rfl Try.sizeOf34 (by decide) rfl rfl ?_)
          exact ⟨rfl, rfl⟩
        refine stepsG.cons (fun vals Fs R leFs hpZ => ?_) ?_
        · have e1 : vals 1 = ptr b1 1 := hpZ 1 (by decide)
          replace har := har.mono leFs
          replace hrs := hrs.mono leFs
          replace ht := ht.mono leFs
          replace ha1 := ha1.mono leFs
          replace ha2 := ha2.mono leFs
          replace f12_1ha := f12_1ha.mono leFs
          replace f13_1hr := f13_1hr.mono leFs
          replace hr1 := Rd.monoA hr1 leFs
          replace hr2 := Rd.monoA hr2 leFs
          rw [(envs_of_sat (l := [(1, ptr b1 1)]) ⟨e1, trivial⟩).symm]
          refine XG.op (XOp.load1 (v := rsv) Try.isAgg34 rfl (Rd.own [_] rfl rfl) ?_)
          exact ⟨rfl, rfl⟩
        refine stepsG.cons (fun vals Fs R leFs hpZ => ?_) ?_
        · refine XG.op (XOp.move (.int .i64 (((r : Nat) : Int))) rfl ?_)
          exact ⟨rfl, rfl⟩
        refine stepsG.cons (fun vals Fs R leFs hpZ => ?_) ?_
        · have e2 : vals 2 = rsv := hpZ 2 (by decide)
          have e3 : vals 3 = (.int .i64 (((r : Nat) : Int)) : Value) := hpZ 3 (by decide)
          replace har := har.mono leFs
          replace hrs := hrs.mono leFs
          replace ht := ht.mono leFs
          replace ha1 := ha1.mono leFs
          replace ha2 := ha2.mono leFs
          replace f12_1ha := f12_1ha.mono leFs
          replace f13_1hr := f13_1hr.mono leFs
          replace hr1 := Rd.monoA hr1 leFs
          replace hr2 := Rd.monoA hr2 leFs
          rw [(envs_of_sat (l := [(2, rsv), (3, (.int .i64 (((r : Nat) : Int)) : Value))]) ⟨e2, e3, trivial⟩).symm]
          refine XG.op (XOp.indexS (v := rsv) (i := ((r : Nat) : Int)) (n := (rs).length) r Try.runUnderlying34 Try.sizeOf98 rfl rfl rfl hrs.slv (by omega) rfl ?_)
          exact ⟨rfl, rfl⟩
        refine stepsG.cons (fun vals Fs R leFs hpZ => ?_) ?_
        · have e4 : vals 4 = (.pointer (some (elemA rsv (r * 2))) : Value) := hpZ 4 (by decide)
          rw [(envs_of_sat (l := [(4, (.pointer (some (elemA rsv (r * 2))) : Value))]) ⟨e4, trivial⟩).symm]
          refine XG.op (XOp.fieldE (v := rsv) (r * 2 + 1) Try.runUnderlying98 rfl Try.sizeOf22 (by decide) rfl rfl ?_)
          exact ⟨rfl, rfl⟩
        refine stepsG.cons (fun vals Fs R leFs hpZ => ?_) ?_
        · have e5 : vals 5 = (.pointer (some (elemA rsv (r * 2 + 1))) : Value) := hpZ 5 (by decide)
          replace har := har.mono leFs
          replace hrs := hrs.mono leFs
          replace ht := ht.mono leFs
          replace ha1 := ha1.mono leFs
          replace ha2 := ha2.mono leFs
          replace f12_1ha := f12_1ha.mono leFs
          replace f13_1hr := f13_1hr.mono leFs
          replace hr1 := Rd.monoA hr1 leFs
          replace hr2 := Rd.monoA hr2 leFs
          rw [(envs_of_sat (l := [(5, (.pointer (some (elemA rsv (r * 2 + 1))) : Value))]) ⟨e5, trivial⟩).symm]
          refine XG.op (XOp.load1 (v := a2) Try.isAgg22 rfl (hr2 _) ?_)
          exact ⟨rfl, rfl⟩
        refine stepsG.cons (fun vals Fs R leFs hpZ => ?_) ?_
        · have e0 : vals 0 = (.agg #[u2] : Value) := hpZ 0 (by decide)
          have e6 : vals 6 = a2 := hpZ 6 (by decide)
          replace har := har.mono leFs
          replace hrs := hrs.mono leFs
          replace ht := ht.mono leFs
          replace ha1 := ha1.mono leFs
          replace ha2 := ha2.mono leFs
          replace f12_1ha := f12_1ha.mono leFs
          replace f13_1hr := f13_1hr.mono leFs
          replace hr1 := Rd.monoA hr1 leFs
          replace hr2 := Rd.monoA hr2 leFs
          rw [(envs_of_sat (l := [(0, (.agg #[u2] : Value)), (6, a2)]) ⟨e0, e6, trivial⟩).symm]
          refine XG.op (XOp.call (args := [.agg #[u2], a2]) Try.call154 rfl (fill_spec f13_1hr ha2 (hsl := (by first | assumption | rfl | omega | (left; simp; done) | (right; simp; done))) (hsb := (fun i => by have := hmp2 i; omega)) (htl := (by first | assumption | rfl | omega | (left; simp; done) | (right; simp; done))) (htg := (fun k hk => by have := hRg k hk; omega))) ?_)
          rintro _ F5 _ le5 ⟨x4, rfl, hr7, hr8, rfl⟩
          replace har := har.mono le5
          replace hrs := hrs.mono le5
          replace ht := ht.mono le5
          replace ha1 := ha1.mono le5
          replace ha2 := ha2.mono le5
          replace f12_1ha := f12_1ha.mono le5
          replace f13_1hr := f13_1hr.mono le5
          replace hr1 := Rd.monoA hr1 le5
          replace hr2 := Rd.monoA hr2 le5
          exact ⟨⟨rfl, hr7⟩, rfl⟩
        refine stepsG.cons (fun vals Fs R leFs hpZ => ?_) ?_
        · obtain ⟨e7, f7_2hr⟩ := hpZ 7 (by decide)
          rw [(envs_of_sat (l := [(7, (.tuple #[((tupAt (vals 7) 0)), .bool ((fillL (matchP ar ((rs.getD r ([], [])).1) ((sub ar t p))) ((rs.getD r ([], [])).2)).isSome)] : Value))]) ⟨(e7).symm, trivial⟩).symm]
          refine XG.op (XOp.move (.tuple #[((tupAt (vals 7) 0)), .bool ((fillL (matchP ar ((rs.getD r ([], [])).1) ((sub ar t p))) ((rs.getD r ([], [])).2)).isSome)]) rfl ?_)
          exact ⟨rfl, rfl⟩
        refine stepsG.cons (fun vals Fs R leFs hpZ => ?_) ?_
        · obtain ⟨e7, f7_2hr⟩ := hpZ 7 (by decide)
          have e8 : vals 8 = (.tuple #[((tupAt (vals 7) 0)), .bool ((fillL (matchP ar ((rs.getD r ([], [])).1) ((sub ar t p))) ((rs.getD r ([], [])).2)).isSome)] : Value) := hpZ 8 (by decide)
          rw [(envs_of_sat (l := [(7, (.tuple #[((tupAt (vals 7) 0)), .bool ((fillL (matchP ar ((rs.getD r ([], [])).1) ((sub ar t p))) ((rs.getD r ([], [])).2)).isSome)] : Value)), (8, (.tuple #[((tupAt (vals 7) 0)), .bool ((fillL (matchP ar ((rs.getD r ([], [])).1) ((sub ar t p))) ((rs.getD r ([], [])).2)).isSome)] : Value))]) ⟨(e7).symm, e8, trivial⟩).symm]
          refine XG.op (XOp.extract (((tupAt (vals 7) 0))) rfl rfl ?_)
          exact ⟨rfl, rfl⟩
        refine stepsG.cons (fun vals Fs R leFs hpZ => ?_) ?_
        · obtain ⟨e7, f7_2hr⟩ := hpZ 7 (by decide)
          have e8 : vals 8 = (.tuple #[((tupAt (vals 7) 0)), .bool ((fillL (matchP ar ((rs.getD r ([], [])).1) ((sub ar t p))) ((rs.getD r ([], [])).2)).isSome)] : Value) := hpZ 8 (by decide)
          rw [(envs_of_sat (l := [(7, (.tuple #[((tupAt (vals 7) 0)), .bool ((fillL (matchP ar ((rs.getD r ([], [])).1) ((sub ar t p))) ((rs.getD r ([], [])).2)).isSome)] : Value)), (8, (.tuple #[((tupAt (vals 7) 0)), .bool ((fillL (matchP ar ((rs.getD r ([], [])).1) ((sub ar t p))) ((rs.getD r ([], [])).2)).isSome)] : Value))]) ⟨(e7).symm, e8, trivial⟩).symm]
          refine XG.op (XOp.extract (.bool ((fillL (matchP ar ((rs.getD r ([], [])).1) ((sub ar t p))) ((rs.getD r ([], [])).2)).isSome)) rfl rfl ?_)
          exact ⟨rfl, rfl⟩
        refine stepsG.cons (fun vals Fs R leFs hpZ => ?_) ?_
        · obtain ⟨e7, f7_2hr⟩ := hpZ 7 (by decide)
          have e9 : vals 9 = ((tupAt (vals 7) 0)) := hpZ 9 (by decide)
          rw [(envs_of_sat (l := [(7, (.tuple #[((tupAt (vals 7) 0)), .bool ((fillL (matchP ar ((rs.getD r ([], [])).1) ((sub ar t p))) ((rs.getD r ([], [])).2)).isSome)] : Value)), (9, ((tupAt (vals 7) 0)))]) ⟨(e7).symm, e9, trivial⟩).symm]
          refine XG.op (XOp.assign (((tupAt (vals 7) 0))) rfl ?_)
          exact ⟨rfl, rfl⟩
        exact stepsG.nil
      · intro vals F6 le6 hphi
        have e0 : vals 0 = (.agg #[u2] : Value) := hphi 0 (by decide)
        have e1 : vals 1 = ptr b1 1 := hphi 1 (by decide)
        have e2 : vals 2 = rsv := hphi 2 (by decide)
        have e3 : vals 3 = (.int .i64 (((r : Nat) : Int)) : Value) := hphi 3 (by decide)
        have e4 : vals 4 = (.pointer (some (elemA rsv (r * 2))) : Value) := hphi 4 (by decide)
        have e5 : vals 5 = (.pointer (some (elemA rsv (r * 2 + 1))) : Value) := hphi 5 (by decide)
        have e6 : vals 6 = a2 := hphi 6 (by decide)
        obtain ⟨e7, f7_2hr⟩ := hphi 7 (by decide)
        have e8 : vals 8 = (.tuple #[((tupAt (vals 7) 0)), .bool ((fillL (matchP ar ((rs.getD r ([], [])).1) ((sub ar t p))) ((rs.getD r ([], [])).2)).isSome)] : Value) := hphi 8 (by decide)
        have e9 : vals 9 = ((tupAt (vals 7) 0)) := hphi 9 (by decide)
        have e10 : vals 10 = (.bool ((fillL (matchP ar ((rs.getD r ([], [])).1) ((sub ar t p))) ((rs.getD r ([], [])).2)).isSome) : Value) := hphi 10 (by decide)
        have e11 : vals 11 = ((tupAt (vals 7) 0)) := hphi 11 (by decide)
        generalize hu4 : ((tupAt (vals 7) 0)) = u3 at e0 e1 e2 e3 e4 e5 e6 e7 f7_2hr e8 e9 e10 e11
        rw [(envs_of_sat (l := [(0, (.agg #[u2] : Value)), (1, ptr b1 1), (2, rsv), (3, (.int .i64 (((r : Nat) : Int)) : Value)), (4, (.pointer (some (elemA rsv (r * 2))) : Value)), (5, (.pointer (some (elemA rsv (r * 2 + 1))) : Value)), (6, a2), (7, (.tuple #[u3, .bool ((fillL (matchP ar ((rs.getD r ([], [])).1) ((sub ar t p))) ((rs.getD r ([], [])).2)).isSome)] : Value)), (8, (.tuple #[u3, .bool ((fillL (matchP ar ((rs.getD r ([], [])).1) ((sub ar t p))) ((rs.getD r ([], [])).2)).isSome)] : Value)), (9, u3), (10, (.bool ((fillL (matchP ar ((rs.getD r ([], [])).1) ((sub ar t p))) ((rs.getD r ([], [])).2)).isSome) : Value)), (11, u3)]) ⟨e0, e1, e2, e3, e4, e5, e6, (e7).symm, e8, e9, e10, e11, trivial⟩).symm]
        replace har := har.mono le6
        replace hrs := hrs.mono le6
        replace ht := ht.mono le6
        replace ha1 := ha1.mono le6
        replace ha2 := ha2.mono le6
        replace f12_1ha := f12_1ha.mono le6
        replace f13_1hr := f13_1hr.mono le6
        replace hr1 := Rd.monoA hr1 le6
        replace hr2 := Rd.monoA hr2 le6
        show XL _ _ _ _ _ _ _ (cellsH b4 [u2] 184 :: cellsH b1 [arv, rsv] 36 :: L)
        refine XL.cons (XOp.assign (.bool ((fillL (matchP ar ((rs.getD r ([], [])).1) ((sub ar t p))) ((rs.getD r ([], [])).2)).isSome)) rfl ?_)
        refine XL.nil ?_
        refine X.seq ?_
        refine X.seq ?_
        refine X.region ?_
        refine XL.cons (XOp.move (.bool ((fillL (matchP ar ((rs.getD r ([], [])).1) ((sub ar t p))) ((rs.getD r ([], [])).2)).isSome)) rfl ?_)
        refine XL.cons (XOp.notB (b := (fillL (matchP ar ((rs.getD r ([], [])).1) ((sub ar t p))) ((rs.getD r ([], [])).2)).isSome) rfl ?_)
        refine XL.nil ?_
        refine X.cond (t := !((fillL (matchP ar ((rs.getD r ([], [])).1) ((sub ar t p))) ((rs.getD r ([], [])).2)).isSome)) rfl (fun h2 => ?_) (fun h2 => ?_)
        · have hfs : (fillL (matchP ar (rs.getD r ([], [])).1 (sub ar t p)) (rs.getD r ([], [])).2).isSome = false := by simpa using h2
          refine X.seq ?_
          refine X.region ?_
          refine XL.cons (XOp.assign ((.slice none 0 0)) rfl ?_)
          refine XL.cons (XOp.assign (.bool (false)) rfl ?_)
          refine XL.nil ?_
          refine X.ret (thenQ_ret (retEnd (L' := L) [(.slice none 0 0), .bool (false)] (.tuple #[(.slice none 0 0), .bool (false)]) (.tmp rfl (.tmp rfl .nil)) rfl (FLe.trans le3 le6) (FLe.refl _) (Sub.drop (Sub.drop (Sub.refl _))) ?_))
          have hz := stepL_nofill hms hfs
          exact ⟨_, by rw [hz]; rfl, by rw [hz]; exact IntsF.nilV, fun h => (by rw [hz] at h; cases h), by rw [hz]; exact Fresh.ofNil _, rfl⟩
        · have hfs : (fillL (matchP ar (rs.getD r ([], [])).1 (sub ar t p)) (rs.getD r ([], [])).2).isSome = true := by simpa using h2
          have hfl := fill_getD_len hfs (by omega)
          refine X.skip ?_
          refine X.seq ?_
          refine X.region ?_
          refine XL.cons (XOp.fieldP (b := b1) (0) Try.runUnderlying36 rfl Try.sizeOf33 (by decide) rfl rfl ?_)
          refine XL.cons (XOp.loadN [arv] Try.isAgg33 Try.sizeOf33 rfl rfl (Rd.ownN [_] rfl rfl) ?_)
          refine XL.cons (XOp.move (tv) rfl ?_)
          refine XL.cons (XOp.move (.int .i64 (((p : Nat) : Int))) rfl ?_)
          refine XL.cons (XOp.move (u3) rfl ?_)
          refine XL.cons (XOp.call (args := [.agg #[arv], tv, .int .i64 ((p : Nat) : Int), u3]) Try.call156 rfl (put_spec (p := p) har ht f7_2hr (ho := (by first | assumption | rfl | omega | (left; simp; done) | (right; simp; done))) (hp := (by first | assumption | rfl | omega | (left; simp; done) | (right; simp; done))) (hul := (by first | assumption | rfl | omega | (left; simp; done) | (right; simp; done)))) ?_)
          rintro _ F7 _ le7 ⟨x5, rfl, hr9, hr10, hr11, rfl⟩
          replace har := har.mono le7
          replace hrs := hrs.mono le7
          replace ht := ht.mono le7
          replace ha1 := ha1.mono le7
          replace ha2 := ha2.mono le7
          replace f12_1ha := f12_1ha.mono le7
          replace f13_1hr := f13_1hr.mono le7
          replace f7_2hr := f7_2hr.mono le7
          replace hr1 := Rd.monoA hr1 le7
          replace hr2 := Rd.monoA hr2 le7
          refine XL.cons (XOp.extract (x5) rfl rfl ?_)
          refine XL.cons (XOp.extract (.bool ((putL ar t p ((fillL (matchP ar ((rs.getD r ([], [])).1) ((sub ar t p))) ((rs.getD r ([], [])).2)).getD [])).isSome)) rfl rfl ?_)
          refine XL.cons (XOp.assign (x5) rfl ?_)
          refine XL.cons (XOp.assign (.bool ((putL ar t p ((fillL (matchP ar ((rs.getD r ([], [])).1) ((sub ar t p))) ((rs.getD r ([], [])).2)).getD [])).isSome)) rfl ?_)
          refine XL.nil ?_
          refine X.ret (retEnd (L' := L) [x5, .bool ((putL ar t p ((fillL (matchP ar ((rs.getD r ([], [])).1) ((sub ar t p))) ((rs.getD r ([], [])).2)).getD [])).isSome)] (.tuple #[x5, .bool ((putL ar t p ((fillL (matchP ar ((rs.getD r ([], [])).1) ((sub ar t p))) ((rs.getD r ([], [])).2)).getD [])).isSome)]) (.tmp rfl (.tmp rfl .nil)) rfl (FLe.trans (FLe.trans le3 le6) le7) (FLe.refl _) (Sub.drop (Sub.drop (Sub.refl _))) ?_)
          have hz := stepL_put hms hfs
          exact ⟨_, by rw [hz], by rw [hz]; exact hr9, by rw [hz]; exact hr10, by rw [hz]; exact (hr11.base (FLe.trans le3 le6)), rfl⟩
end Go.Proofs.Ytnloeeaidknblaa
