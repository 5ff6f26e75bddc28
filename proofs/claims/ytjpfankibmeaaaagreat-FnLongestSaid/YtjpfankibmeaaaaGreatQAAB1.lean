/-
  Walks, one after the other (part 2).
-/
import Derived.Test.YtjpfankibmeaaaaGreatQAAL1
import Derived.Test.YtjpfankibmeaaaaGreatQAAB0
set_option linter.unusedSimpArgs false
set_option linter.unusedVariables false
namespace Go.Proofs.YtjpfankibmeaaaaGreat
open Go X M Tryz

/- slices.Grow[[]int64,int64] -/
theorem GrowNil_spec {F : FH} {L : List HP}  {n : Nat} (hg1 : 1 ≤ n) (hn : n ≤ 400000000) :
    Does prog 293 [sN, ii ((n : Int))] F (L) (fun v F' L' => F = F' ∧ IsSl v ∧ intsH 2 v ([]) :: L = L') := by
 refine qI func293 rfl rfl rfl (qc (qa (qg (sN) rfl (qb (qc (qc (qa (qd (ii ((n : Int))) rfl (cX (qW rfl rfl (qb ?_)))))))))))
 refine qA (p := (n : Int) < 0) rfl (fun h1 => ?_) (fun h1 => ?_)
 ·omega
 refine qw (qc (qc (qa (qd (ii ((n : Int))) rfl (qd (sN) rfl (cX (XOp.capNil qf rfl (qd (sN) rfl (cX (qE qf rfl SlV.nil (cX (jq (0 - (((0 : Nat) : Int))) rfl rfl (by omega) (by omega) (cX (jq (((n : Int)) - (0 - (((0 : Nat) : Int)))) rfl rfl (by omega) (by omega) (qg (ii (((n : Int)) - (0 - (((0 : Nat) : Int))))) rfl (qb (qc (qa ?_))))))))))))))))))
 refine qd (ii (((n : Int)) - (0 - (((0 : Nat) : Int))))) rfl (cX (jI rfl rfl (qb ?_)))
 refine qA (p := (((n : Int)) - (0 - (((0 : Nat) : Int))) : Int) > 0) rfl (fun h2 => ?_) (fun h2 => ?_)
 ·refine qa (qd (sN) rfl (qd (sN) rfl (cX (XOp.capNil qf rfl (cX (XOp.sliceNil qf qB rfl ⟨_, rfl⟩ (qd (ii (((n : Int)) - (0 - (((0 : Nat) : Int))))) rfl (cX (XOp.appendZ (s := 1) (bytes := 8) (n := (((n : Int)) - (0 - (((0 : Nat) : Int)))).toNat) [ii (0)] qf runUnderlying3 typeInfo2 rfl rfl rfl rfl rfl (by decide) rfl (by rw [show (((((n : Int)) - (0 - (((0 : Nat) : Int)))).toNat : Nat) : Int) = ((n : Int)) - (0 - (((0 : Nat) : Int))) from by omega]; rfl) (by omega) (by omega) (by omega) ?_)))))))))
  intro v1 hv1
  have hv2 : IsSl v1 := by obtain ⟨b0, c0, h0⟩ := hv1; exact ⟨_, _, _, h0⟩
  rw [intsH_zeros]
  refine qd (sN) rfl (cX (qE qf rfl SlV.nil (cX (XOp.sliceOwn (cs := List.map (Value.int .i64) ((List.replicate ((((n : Int)) - (0 - (((0 : Nat) : Int)))).toNat) 0))) [] _ 0 qf qB rfl rfl ⟨_, rfl⟩ (Nat.zero_le _) ?_))))
  intro v2 hs1
  show XL _ _ _ _ _ _ _ (intsH 2 v2 ([]) :: L)
  refine qg (v2) rfl (qb (qc (qa (qd (v2) rfl (qg (v2) rfl (qb (qu (qq (L' := intsH 2 v2 ([]) :: L) [v2] (v2) (.tmp rfl .nil) rfl rF rF (sC sR) ?_))))))))
  refine ⟨rfl, hs1, ?_⟩
  have hxs : ([] : List Int) = [] := rfl
  exact congrArg (fun z => intsH 2 _ z :: L) hxs
 omega

/- slices.Concat[[]int64,int64] -/
theorem Concat_spec {F : FH} {L : List HP} {xsv : Value} {xs : List (List Int)} (hxs : RowsF F xsv xs) (hg1 : 1 ≤ xs.flatten.length) (hn : xs.length ≤ 10) (hb : ∀ i, i < xs.length → (xs.getD i []).length ≤ 4000000) :
    Does prog 191 [xsv] F (L) (fun v F' L' => F = F' ∧ IsSl v ∧ intsH 2 v xs.flatten :: L = L') := by
 refine qI func191 rfl rfl rfl (qc (qa (qg (sN) rfl (qb (qc (qa (qg (ii (0)) rfl (qb (qc (qc (qa (qd (xsv) rfl (cX (qE qv rfl hxs.slv (qd (ii (0)) rfl (qb (qK ?_)))))))))))))))))
 refine jl (α := Nat × Nat) (fun xQ => [(0, xsv), (3, ii (((xQ.2 : Nat) : Int))), (9, xsv), (10, ii ((xs.length : Int))), (11, ii (((xQ.1 : Nat) : Int)))]) (fun xQ => L) (fun xQ F' => F = F' ∧ (xQ.1 ≤ xs.length) ∧ (xQ.2 = (xs.take xQ.1).flatten.length) ∧ (xQ.2 ≤ xQ.1 * 4000000)) (fun xQ => xs.length - xQ.1) (0, 0) ⟨rfl, rfl, rfl, rfl, rfl, ⟨⟩⟩ sR ⟨rfl, (by (try dsimp only) <;> omega), (rfl), (by (try dsimp only) <;> omega)⟩ ?_
 rintro ⟨k, z⟩ rE _ _ ⟨rfl, hk, hz, hz2⟩
 show X _ _ _ _ (envs [(0, xsv), (3, ii ((z : Int))), (9, xsv), (10, ii ((xs.length : Int))), (11, ii ((k : Int)))] rE) _ (L)
 dsimp only at hk hz hz2
 have hbk := hb k
 have hft := fun h => congrArg List.length (flatten_take (xs := xs) (k := k) h)
 simp only [List.length_append] at hft
 refine qc (qa (cX (qW rfl rfl (qb (qc ?_)))))
 refine qA (p := (k : Int) < (xs.length : Int)) rfl (fun h1 => ?_) (fun h1 => ?_)
 ·refine qw (qc (qK (qc (qa (cX (qD k qv qs rfl rfl rfl hxs.slv (by omega) (Nat.mul_one _) ?_))))))
  obtain ⟨a1, ha1, hr1⟩ := hxs.rd (i := k) (by omega)
  refine cX (qj qU rfl (hr1 _) (qg (a1) rfl (qb (qc (qa (qd (ii ((z : Int))) rfl (qd (a1) rfl (cX (qE qf rfl ha1.slv (cX (qH (((z + (((xs.getD k [])).length) : Nat) : Int)) rfl rfl (by omega) (by omega) (qg (ii (((z + (((xs.getD k [])).length) : Nat) : Int))) rfl (qb (qc (qa (qd (ii (((z + (((xs.getD k [])).length) : Nat) : Int))) rfl ?_))))))))))))))))
  refine cX (qW rfl rfl (qb ?_))
  refine qA (p := (((z + (((xs.getD k [])).length) : Nat) : Int) : Int) < 0) rfl (fun h2 => ?_) (fun h2 => ?_)
  ·omega
  refine qw (qa (cX (qH (((k + 1 : Nat) : Int)) rfl rfl (by omega) (by omega) (qd (ii (((k + 1 : Nat) : Int))) rfl (qb ?_)))))
  exact ⟨(k + 1, z + (((xs.getD k [])).length)), _, FLe.refl _, rF, ⟨rfl, rfl, rfl, rfl, rfl, ⟨⟩⟩, sR, ⟨rfl, (by (try dsimp only) <;> omega), (by (try dsimp only) <;> omega), (by (try dsimp only) <;> omega)⟩, (by omega)⟩
 refine jk (qt (qt (qM (qc (qa ?_)))))
 have hz1 : 1 ≤ z := by rw [hz, show xs.take k = xs from List.take_of_length_le (by omega)]; exact hg1
 refine qd (ii ((z : Int))) rfl (cX (qm (args := [sN, ii (z : Int)]) call293 rfl (GrowNil_spec (n := z) (hg1 := (hz1)) (hn := (by omega))) ?_))
 rintro v1 _ _ _ ⟨rfl, hs1, rfl⟩
 refine qg (v1) rfl (qb (qc (qc (qa (qd (xsv) rfl (cX (qE qv rfl hxs.slv (qd (ii (0)) rfl (qb (qK (jl (α := Nat × Value × List Int) (fun xQ => [(6, xQ.2.1), (25, xsv), (26, ii ((xs.length : Int))), (27, ii (((xQ.1 : Nat) : Int)))]) (fun xQ => intsH 2 xQ.2.1 xQ.2.2 :: L) (fun xQ F' => F = F' ∧ (IsSl xQ.2.1) ∧ (xQ.1 ≤ xs.length) ∧ (xQ.2.2 = (xs.take xQ.1).flatten)) (fun xQ => xs.length - xQ.1) (0, v1, ([])) ⟨rfl, rfl, rfl, rfl, ⟨⟩⟩ (sC sR) ⟨rfl, (hs1), (by (try dsimp only) <;> omega), (rfl)⟩ ?_)))))))))))
 rintro ⟨k, ov, os⟩ rE _ _ ⟨rfl, hov, hk, hos⟩
 show X _ _ _ _ (envs [(6, ov), (25, xsv), (26, ii ((xs.length : Int))), (27, ii ((k : Int)))] rE) _ (intsH 2 ov os :: L)
 dsimp only at hov hk hos
 have hbk := hb k
 have hol : os.length ≤ k * 4000000 := by rw [hos]; exact flatten_bound hb k (by omega)
 refine qc (qa (cX (qW rfl rfl (qb (qc ?_)))))
 refine qA (p := (k : Int) < (xs.length : Int)) rfl (fun h3 => ?_) (fun h3 => ?_)
 ·refine qw (qc (qK (qc (qa (cX (qD k qv qs rfl rfl rfl hxs.slv (by omega) (Nat.mul_one _) ?_))))))
  obtain ⟨a2, ha2, hr2⟩ := hxs.rd (i := k) (by omega)
  refine cX (qj qU rfl (hr2 _) (qg (a2) rfl (qb (qa (qd (ov) rfl (qd (a2) rfl (cX (XOp.appendI [] _ qf typeInfo2 rfl rfl rfl rfl rfl rfl ha2 (by (try simp only [List.length_append, List.length_nil, List.length_cons, List.length_singleton, List.length_take, List.length_drop]); omega) ?_))))))))
  intro v2 hs2 hn1 hm1
  refine qg (v2) rfl (qb (qa (cX (qH (((k + 1 : Nat) : Int)) rfl rfl (by omega) (by omega) (qd (ii (((k + 1 : Nat) : Int))) rfl (qb ?_))))))
  exact ⟨(k + 1, v2, os ++ ((xs.getD k []))), _, FLe.refl _, rF, ⟨rfl, rfl, rfl, rfl, ⟨⟩⟩, (sC sR), ⟨rfl, (hs2), (by (try dsimp only) <;> omega), ((by dsimp only; rw [hos, flatten_take (by omega)]))⟩, (by omega)⟩
 refine jk (qt (qt (qM (qc (qa (qd (ov) rfl (qg (ov) rfl (qb (qu (qq (L' := intsH 2 ov os :: L) [ov] (ov) (.tmp rfl .nil) rfl rF rF (sC sR) ?_))))))))))
 refine ⟨rfl, hov, ?_⟩
 have hxs : (xs.flatten : List Int) = os := by rw [hos, List.take_of_length_le (by omega)]
 exact congrArg (fun z => intsH 2 _ z :: L) hxs

/- impl.put -/
theorem put_spec {F : FH} {L : List HP} {arv : Value} {ar : List Int} (har : IntsF F arv ar) {tv : Value} {t : List Int} (ht : IntsF F tv t) {p : Nat} {uv : Value} {u : List Int} (hu : IntsF F uv u) (ho : termOk ar t = true) (hp : p < t.length) (hul : 1 ≤ u.length ∧ u.length ≤ 4000000) :
    Does prog 147 [.agg #[arv], tv, ii ((p : Int)), uv] F (L) (fun v F' L' => ∃ (a : Value), (.tuple #[a, .bool ((putL ar t p u).isSome)] : Value) = v ∧ (IntsF F' a ((putL ar t p u).getD [])) ∧ ((putL ar t p u).isSome = true → isNil a = false) ∧ (Fresh F F' (intsH 2 a ((putL ar t p u).getD []))) ∧ L = L') := by
 refine qI func147 rfl rfl rfl ?_
 have hsig := termOk_sig ho
 have hsl := sigOk_spec hsig
 have htl := termOk_len ho
 have hee := endN_spec ho hp
 refine qc (qa (cX (jc [arv] rfl rfl ?_)))
 intro b1
 refine qg (sN) rfl (qg (.bool (false)) rfl (qb (qc ?_)))
 refine jW [cellsH b1 [arv] 36] L 10 [] [[], [], [0, 1], [], [], [], [], [], [5, 6, 7], [4, 8]] [] (phiG [pe tv, pe (ii ((p : Int)) : Value), fun FF us v => (v : Value) = v ∧ (IntsF FF v ((t.drop 0).take (p - 0))) ∧ (isNil v = isNil tv), pe uv, pe tv, pe (.agg #[arv]), pe tv, pe (ii ((p : Int)) : Value), pe (ii (((endN ar t p : Nat) : Int)) : Value), fun FF us v => (v : Value) = v ∧ (IntsF FF v ((t.drop (endN ar t p)).take (((t).length) - (endN ar t p)))) ∧ (isNil v = isNil tv)]) (ownL []) mixed rfl rfl (by kernel_rfl) (by kernel_rfl) (MonoG.get (m1 (m1 (mC (fun le h => ⟨h.1, h.2.1.mono le, h.2.2⟩) (m1 (m1 (m1 (m1 (m1 (m1 (mC (fun le h => ⟨h.1, h.2.1.mono le, h.2.2⟩) MonoG.nil))))))))))) ?_ ?_
 ·refine gD (fun W Fs R lF z9 => ?_) ?_
  ·refine qi (qp (tv) rfl ?_)
   exact ⟨rfl, rfl⟩
  refine gD (fun W Fs R lF z9 => ?_) ?_
  ·refine qi (qp (ii ((p : Int))) rfl ?_)
   exact ⟨rfl, rfl⟩
  refine gD (fun W Fs R lF z9 => ?_) ?_
  ·replace har := har.mono lF
   replace ht := ht.mono lF
   replace hu := hu.mono lF
   rw [eS (l := [(0, _), (1, _)]) ⟨z9 0 rfl, z9 1 rfl, ⟨⟩⟩]
   refine qi (XOp.sliceI 0 p qf qB rfl ht rfl ⟨_, rfl⟩ (by omega) (by omega) ?_)
   intro v3 hv3 hn3
   exact ⟨⟨rfl, hv3, hn3⟩, rfl⟩
  refine gD (fun W Fs R lF z9 => ?_) ?_
  ·refine qi (qp (uv) rfl ?_)
   exact ⟨rfl, rfl⟩
  refine gD (fun W Fs R lF z9 => ?_) ?_
  ·refine qi (qp (tv) rfl ?_)
   exact ⟨rfl, rfl⟩
  refine gD (fun W Fs R lF z9 => ?_) ?_
  ·replace har := har.mono lF
   replace ht := ht.mono lF
   replace hu := hu.mono lF
   refine qi (qr [arv] qX qF rfl rfl (Rd.ownN [] rfl rfl) ?_)
   exact ⟨rfl, rfl⟩
  refine gD (fun W Fs R lF z9 => ?_) ?_
  ·refine qi (qp (tv) rfl ?_)
   exact ⟨rfl, rfl⟩
  refine gD (fun W Fs R lF z9 => ?_) ?_
  ·refine qi (qp (ii ((p : Int))) rfl ?_)
   exact ⟨rfl, rfl⟩
  refine gD (fun W Fs R lF z9 => ?_) ?_
  ·replace har := har.mono lF
   replace ht := ht.mono lF
   replace hu := hu.mono lF
   rw [eS (l := [(5, _), (6, _), (7, _)]) ⟨z9 5 rfl, z9 6 rfl, z9 7 rfl, ⟨⟩⟩]
   refine qi (qm (args := [.agg #[arv], tv, ii (p : Int)]) call206 rfl (endAt_ok (p := p) har ht (ho := (by first | assumption | rfl | omega | (left; simp; done) | (right; simp; done))) (hp := (by first | assumption | rfl | omega | (left; simp; done) | (right; simp; done)))) ?_)
   rintro _ _ _ _ ⟨rfl, rfl, rfl⟩
   exact ⟨rfl, rfl⟩
  refine gD (fun W Fs R lF z9 => ?_) ?_
  ·replace har := har.mono lF
   replace ht := ht.mono lF
   replace hu := hu.mono lF
   rw [eS (l := [(4, _), (8, _)]) ⟨z9 4 rfl, z9 8 rfl, ⟨⟩⟩]
   refine qi (XOp.sliceI (endN ar t p) ((t).length) qf qB rfl ht ⟨_, rfl⟩ rfl (by omega) (by omega) ?_)
   intro v4 hv4 hn4
   exact ⟨⟨rfl, hv4, hn4⟩, rfl⟩
  exact stepsG.nil
 intro W F1 le1 hphi
 obtain ⟨e2, f2_1hv, f2_1hn⟩ := hphi 2 (by decide)
 obtain ⟨e9, f9_1hv, f9_1hn⟩ := hphi 9 (by decide)
 generalize hu1 : (W 2) = u1 at e2 f2_1hv f2_1hn e9 f9_1hv f9_1hn
 generalize hu2 : (W 9) = u2 at e2 f2_1hv f2_1hn e9 f9_1hv f9_1hn
 rw [eS (l := [(2, u1), (3, _), (9, u2)]) ⟨hu1, (hphi 3 (by decide)), hu2, ⟨⟩⟩]
 replace hu := hu.mono le1
 show XL _ _ _ _ _ _ _ (cellsH b1 [arv] 36 :: L)
 refine cX (qo (s := 1) [u1, uv, u2] [sN] [(0, [u1]), (1, [uv]), (2, [u2])] qv qs jD rfl (by decide) rfl (.cons (cells_one (qz f2_1hv)) (.cons (cells_one (qz hu)) (.cons (cells_one (qz f9_1hv)) CellsAre.nil))) rfl ?_)
 intro v5 hv5
 have hc1 : RowsC F1 [u1, uv, u2] ([((t.drop 0).take (p - 0)), u, ((t.drop (endN ar t p)).take (((t).length) - (endN ar t p)))] : List (List Int)) := (RowsC.snoc (RowsC.snoc (RowsC.snoc (CO.nil : RowsC F1 [] []) f2_1hv) hu) f9_1hv)
 refine jO [] _ _ rfl (fun F2 le2 hz1 => ?_)
 replace hc1 := hc1.mono le2
 have hf1 : RowsF F2 v5 (([((t.drop 0).take (p - 0)), u, ((t.drop (endN ar t p)).take (((t).length) - (endN ar t p)))] : List (List Int))) := CO.fz hc1 (by first | rfl | omega | (rw [List.length_set]; omega) | (simp; done)) hz1.fz
 refine cX (jZ <| qm (args := [v5]) call191 rfl (Concat_spec hf1 (hg1 := (by simp; omega)) (hn := (by first | assumption | rfl | omega | simp)) (hb := (fun i hi => by match i, hi with | 0, _ => simp; omega | 1, _ => simp; omega | 2, _ => simp; omega))) ?_)
 rintro v6 _ _ _ ⟨rfl, hs1, rfl⟩
 refine ⟨_, _, rfl, fun F3 le3 hz2 => ?_⟩
 have hf2 : IntsF F3 v6 (((([((t.drop 0).take (p - 0)), u, ((t.drop (endN ar t p)).take (((t).length) - (endN ar t p)))] : List (List Int))).flatten)) := intsH.fz (xs := ((([((t.drop 0).take (p - 0)), u, ((t.drop (endN ar t p)).take (((t).length) - (endN ar t p)))] : List (List Int))).flatten)) hz2.fz
 refine qg (v6) rfl (qb (qc (qc (qa (qd (v6) rfl (cX (qE qf rfl hf2.slv (cX (jI rfl rfl (qb ?_))))))))))
 refine qA (p := ((((((([((t.drop 0).take (p - 0)), u, ((t.drop (endN ar t p)).take (((t).length) - (endN ar t p)))] : List (List Int))).flatten)).length : Nat) : Int) : Int) > 60) rfl (fun h1 => ?_) (fun h1 => ?_)
 ·refine qc (qa (qg (sN) rfl (qg (.bool (false)) rfl (qb (qu (qk (qq (L' := L) [sN, .bool (false)] (.tuple #[sN, .bool (false)]) (.tmp rfl (.tmp rfl .nil)) rfl (qh (qh le1 le2) le3) rF (sD sR) ?_)))))))
  have hz : putL ar t p u = none := putL_none put_flat (by omega)
  exact ⟨_, by rw [hz]; rfl, by rw [hz]; exact IntsF.nilV, fun h => (by rw [hz] at h; cases h), by rw [hz]; exact Fresh.ofNil _, rfl⟩
 refine qw (qc (qa (qd (v6) rfl (qg (v6) rfl (qg (.bool (true)) rfl (qb (qu (qq (L' := L) [v6, .bool (true)] (.tuple #[v6, .bool (true)]) (.tmp rfl (.tmp rfl .nil)) rfl (qh (qh le1 le2) le3) rF (sD sR) ?_))))))))
 have hz := putL_some (ar := ar) (t := t) (p := p) (u := u) put_flat (by omega)
 exact ⟨_, by rw [hz]; rfl, by rw [hz]; exact hf2, fun _ => jt hf2 (by rw [put_flat]; simp; omega), by rw [hz]; exact (hz2.base (qh le1 le2)), rfl⟩

/- (impl.Subst).byVar -/
theorem byVar_spec {F : FH} {L : List HP} {sv : Value} {s : List (List Int)} (hs : RowsF F sv s) {i : Nat} (hsl : s.length ≤ 4000000) :
    Does prog 329 [.agg #[sv], ii ((i : Int))] F (L) (fun v F' L' => F = F' ∧ ∃ (a : Value), (a : Value) = v ∧ (IntsF F' a (s.getD i [])) ∧ (isNil a = decide (s.getD i [] = [])) ∧ L = L') := by
 refine qI func329 rfl rfl rfl (qc (qa (cX (jc [sv] rfl rfl ?_))))
 intro b1
 refine qg (sN) rfl (qb (qc (qc (qa (qd (ii ((i : Int))) rfl (cX (ql (0) qT rfl jb (by decide) rfl rfl (cX (qj jC rfl (Rd.own [] rfl rfl) (cX (qE qv rfl hs.slv (cX (jQ rfl rfl (qd (.bool (decide ((i : Int) ≥ (s.length : Int)))) rfl ?_))))))))))))))
 by_cases h1 : (i : Int) ≥ (s.length : Int)
 ·refine qx (t := 10) rfl (vT h1) (qx (t := 10) rfl (vT h1) (qx (t := 10) rfl (vT h1) (qx (t := 10) rfl (vT h1) (qx (t := 10) rfl (vT h1) (qx (t := 10) rfl (vT h1) (qx (t := 10) rfl (vT h1) (cX (jj (.bool (true)) (vT h1) rfl (qb (yd rfl ?_))))))))))
  refine qc (qa (qg (sN) rfl (qb (qu (qk (qq (L' := L) [sN] (sN) (.tmp rfl .nil) rfl rF rF (sD sR) ?_))))))
  have e : s.getD i [] = [] := by first | exact List.eq_nil_of_length_eq_zero (by omega) | (rw [List.getD_eq_getElem?_getD, List.getElem?_eq_none (by omega)]; rfl)
  exact ⟨rfl, _, rfl, by rw [e]; exact IntsF.nilV, by rw [e]; rfl, rfl⟩
 refine qy (t := 10) rfl (vF h1) (ql (0) qT rfl jb (by decide) rfl rfl (qy (t := 10) rfl (vF h1) (qj jC rfl (Rd.own [] rfl rfl) (qy (t := 10) rfl (vF h1) (qp (ii ((i : Int))) rfl (qy (t := 10) rfl (vF h1) (qD i qv qs rfl rfl rfl hs.slv (by omega) (Nat.mul_one _) ?_)))))))
 obtain ⟨a1, ha1, hr1⟩ := hs.rd (i := i) (by omega)
 refine qy (t := 10) rfl (vF h1) (qj qU rfl (hr1 _) (qy (t := 10) rfl (vF h1) (qE qf rfl ha1.slv (qy (t := 10) rfl (vF h1) (js rfl rfl (cX (qY (.bool (decide ((((((s.getD i [])).length : Nat) : Int) : Int) = 0))) (vF h1) rfl (qb ?_))))))))
 refine qA (p := (((((s.getD i [])).length : Nat) : Int) : Int) = 0) rfl (fun h2 => ?_) (fun h2 => ?_)
 ·refine qc (qa (qg (sN) rfl (qb (qu (qk (qq (L' := L) [sN] (sN) (.tmp rfl .nil) rfl rF rF (sD sR) ?_))))))
  have e : s.getD i [] = [] := by first | exact List.eq_nil_of_length_eq_zero (by omega) | (rw [List.getD_eq_getElem?_getD, List.getElem?_eq_none (by omega)]; rfl)
  exact ⟨rfl, _, rfl, by rw [e]; exact IntsF.nilV, by rw [e]; rfl, rfl⟩
 refine qw (qc (qa (cX (ql (0) qT rfl jb (by decide) rfl rfl (cX (qj jC rfl (Rd.own [] rfl rfl) (qd (ii ((i : Int))) rfl (cX (qD i qv qs rfl rfl rfl hs.slv (by omega) (Nat.mul_one _) (cX (qj qU rfl (hr1 _) (qg (a1) rfl (qb (qu (qq (L' := L) [a1] (a1) (.tmp rfl .nil) rfl rF rF (sD sR) ?_)))))))))))))))
 have e : s.getD i [] ≠ [] := by intro e; have := congrArg List.length e; simp only [List.length_nil] at this; omega
 exact ⟨rfl, _, rfl, ha1, by rw [jt ha1 (List.length_pos_iff.2 e)]; exact (decide_eq_false e).symm, rfl⟩

/- (impl.Subst).lookup$1 -/
theorem lookup1_spec {F : FH} {L : List HP} {n : Int} {sv : Value} {s : List (List Int)} (hs : RowsF F sv s) {b : Nat} (hzb : FzC F b [sv]) (hsl : s.length ≤ 4000000) (hg : -4000000 ≤ n) :
    Does prog 328 [ii (n), ptr b 0] F (L) (fun v F' L' => F = F' ∧ ∃ (a : Value), (a : Value) = v ∧ (IntsF F' a (lkN s n)) ∧ (isNil a = decide (lkN s n = [])) ∧ L = L') := by
 refine qI func328 rfl rfl rfl (qc (qa (qg (sN) rfl (qb (qc (qc (qa (qd (ii (n)) rfl (cX (jQ rfl rfl (qb ?_)))))))))))
 refine qA (p := (n : Int) ≥ 0) rfl (fun h1 => ?_) (fun h1 => ?_)
 ·refine qc (qa (qg (sN) rfl (qb (qu (qk (qq (L' := L) [sN] (sN) (.tmp rfl .nil) rfl rF rF sR ?_))))))
  have e : lkN s n = [] := lkN_pos (by omega)
  exact ⟨rfl, _, rfl, by rw [e]; exact IntsF.nilV, by rw [e]; rfl, rfl⟩
 refine qw (qc (qa (cX (qr [sv] jR jo rfl rfl (FzC.rd hzb rfl) (qd (ii (n)) rfl (cX (jq ((-1) - n) rfl rfl (by omega) (by omega) (cX (qm (args := [.agg #[sv], ii ((((-1) - n).toNat : Nat) : Int)]) call329 (by rw [show ((((-1) - n).toNat : Nat) : Int) = (-1) - n from by omega]; rfl) (byVar_spec (i := ((-1) - n).toNat) hs (hsl := (by first | assumption | rfl | omega | simp))) ?_)))))))))
 rintro _ _ _ _ ⟨rfl, x1, rfl, hr1, hr2, rfl⟩
 refine qg (x1) rfl (qb (qu (qq (L' := L) [x1] (x1) (.tmp rfl .nil) rfl rF rF sR ?_)))
 have e : lkN s n = s.getD (varIx n) [] := lkN_neg (by omega)
 exact ⟨rfl, _, rfl, by rw [e]; exact hr1, by rw [e]; exact hr2, rfl⟩

/- (impl.Subst).lookup -/
theorem lookup_spec {F : FH} {L : List HP} {sv : Value} {s : List (List Int)} (hs : RowsF F sv s) :
    Does prog 257 [.agg #[sv]] F (L) (fun v F' L' => ∃ (b : Nat), (.func (.func 328) #[] #[ptr b 0] : Value) = v ∧ (FzC F' b [sv]) ∧ L = L') := by
 refine qI func257 rfl rfl rfl (qc (qa (cX (jc [sv] rfl rfl ?_))))
 intro b1
 refine qg (.nilFunc) rfl (qb (qc (qa (cX (ya [] [ptr b1 0] rfl rfl (qg (.func (.func 328) #[] #[ptr b1 0]) rfl (qb (X.freeze [] _ _ rfl (fun F1 le1 hz1 => ?_)))))))))
 have hf1 : FzC F1 b1 [sv] := Fz.cells hz1
 refine qu (qq (L' := L) [.func (.func 328) #[] #[ptr b1 0]] (.func (.func 328) #[] #[ptr b1 0]) (.tmp rfl .nil) rfl le1 rF sR ?_)
 exact ⟨_, rfl, hf1, rfl⟩

/- impl.fill -/
theorem fill_spec {F : FH} {L : List HP} {sv : Value} {s : List (List Int)} (hs : RowsF F sv s) {tv : Value} {t : List Int} (ht : IntsF F tv t) (hsl : s.length ≤ 4000000) (hsb : ∀ i, (s.getD i []).length ≤ 4000000) (htl : t.length ≤ 4000000) (htg : ∀ k, k < t.length → -4000000 ≤ t.getD k 0) :
    Does prog 146 [.agg #[sv], tv] F (L) (fun v F' L' => ∃ (a : Value), (.tuple #[a, .bool ((fillL s t).isSome)] : Value) = v ∧ (IntsF F' a ((fillL s t).getD [])) ∧ (Fresh F F' (intsH 2 a ((fillL s t).getD []))) ∧ L = L') := by
 refine qI func146 rfl rfl rfl (qc (qa (cX (jc [sv] rfl rfl ?_))))
 intro b1
 refine qg (sN) rfl (qg (.bool (false)) rfl (qb (qc (qa (cX (qr [sv] jR jo rfl rfl (Rd.ownN [] rfl rfl) (cX (qm (args := [.agg #[sv]]) call257 rfl (lookup_spec hs) ?_))))))))
 rintro _ F1 _ le1 ⟨x1, rfl, hr1, rfl⟩
 replace hs := hs.mono le1
 replace ht := ht.mono le1
 refine qg (.func (.func 328) #[] #[ptr x1 0]) rfl (qb (qc (qa (qd (tv) rfl (cX (qE qf rfl ht.slv (cX (XOp.makeSlice0 (n := (t).length) (bytes := 8) [ii (0)] qf qB typeInfo2 rfl qS rfl rfl rfl rfl (by omega) (by omega) ?_))))))))
 intro v1 hv1
 have hs1 : IsSl v1 := by obtain ⟨b0, h0⟩ := hv1; exact ⟨_, _, _, h0⟩
 show XL _ _ _ _ _ _ _ (intsH 2 v1 ([]) :: cellsH b1 [sv] 137 :: L)
 refine qg (v1) rfl (qb (qc (qc (qa (qd (tv) rfl (cX (qE qf rfl ht.slv (qd (ii (0)) rfl (qb (qK (jl (α := Nat × Value × List Int) (fun xQ => [(6, .func (.func 328) #[] #[ptr x1 0]), (7, xQ.2.1), (16, tv), (17, ii ((t.length : Int))), (18, ii (((xQ.1 : Nat) : Int)))]) (fun xQ => intsH 2 xQ.2.1 xQ.2.2 :: cellsH b1 [sv] 137 :: L) (fun xQ F' => F1 = F' ∧ (IsSl xQ.2.1) ∧ (xQ.1 ≤ t.length) ∧ (fillL s t = fillGo s (t.drop xQ.1) xQ.2.2) ∧ (xQ.2.2.length ≤ 60)) (fun xQ => t.length - xQ.1) (0, v1, []) ⟨rfl, rfl, rfl, rfl, rfl, ⟨⟩⟩ (sC (sC sR)) ⟨rfl, (hs1), (by (try dsimp only) <;> omega), (rfl), (by simp)⟩ ?_)))))))))))
 rintro ⟨k, ov, os⟩ rE _ _ ⟨rfl, hov, hk, hm, hol⟩
 show X _ _ _ _ (envs [(6, .func (.func 328) #[] #[ptr x1 0]), (7, ov), (16, tv), (17, ii ((t.length : Int))), (18, ii ((k : Int)))] rE) _ (intsH 2 ov os :: cellsH b1 [sv] 137 :: L)
 dsimp only at hov hk hm hol
 have htk := htg k
 refine qc (qa (cX (qW rfl rfl (qb (qc ?_)))))
 refine qA (p := (k : Int) < (t.length : Int)) rfl (fun h1 => ?_) (fun h1 => ?_)
 ·refine qw (qc (qK (qc (qa (cX (qD k qf qB rfl rfl rfl ht.slv (by omega) (Nat.mul_one _) (cX (qj jm rfl (ht.rd (by omega)) (qg (ii (t.getD k 0)) rfl (qb (qc (qc (qa (qd (.func (.func 328) #[] #[ptr x1 0]) rfl (qd (ii (t.getD k 0)) rfl (cX (XOp.callV (first := []) (captured := [ptr x1 0]) (args := [ii (t.getD k 0), ptr x1 0]) call328 rfl rfl (lookup1_spec (n := t.getD k 0) hs hr1 (hsl := (by first | assumption | rfl | omega | simp)) (hg := (by first | assumption | rfl | omega | simp))) ?_)))))))))))))))))
  rintro _ _ _ _ ⟨rfl, x2, rfl, hr2, hr3, rfl⟩
  skip
  refine qg (x2) rfl (qb (qc (qa (qd (x2) rfl (cX (XOp.eqNil qf rfl rfl (qz hr2) (qb ?_)))))))
  refine jz (t := isNil x2) rfl (fun h2 => ?_) (fun h2 => ?_)
  ·refine qa (qd (ov) rfl (qd (ii (t.getD k 0)) rfl (cX (qo (s := 1) [ii (t.getD k 0)] [ii (0)] [(0, [ii (t.getD k 0)])] qf qB qS rfl (by decide) rfl (.cons rfl CellsAre.nil) rfl ?_))))
   intro v2 hv2
   refine cX (XOp.append1 (u := t.getD k 0) [_] _ qf typeInfo2 rfl rfl rfl rfl rfl rfl (SlV.own [] rfl) (Rd.sl [] rfl rfl) (by (try simp only [List.length_append, List.length_nil, List.length_cons, List.length_singleton, List.length_take, List.length_drop]); omega) ?_)
   intro v3 hs2 hn1
   refine qg (v3) rfl (qb (qc (qa (qd (v3) rfl (cX (qE qf rfl (intsH.slv [_] rfl) (cX (jI rfl rfl (qb ?_)))))))))
   refine qA (p := ((((os ++ [t.getD k 0]).length : Nat) : Int) : Int) > 60) rfl (fun h3 => ?_) (fun h3 => ?_)
   ·refine qc (qa (qg (sN) rfl (qg (.bool (false)) rfl (qb (qu (qC (qk (qk (qC (qk (qq (L' := L) [sN, .bool (false)] (.tuple #[sN, .bool (false)]) (.tmp rfl (.tmp rfl .nil)) rfl le1 rF (sD (sD (sD sR))) ?_)))))))))))
    have hz : fillL s t = none := hm.trans (fillGo_long (a := os ++ [t.getD k 0]) (by omega) (by rw [lk_of_nil (of_decide_eq_true (hr3.symm.trans (by assumption)))]) (by omega))
    exact ⟨_, by rw [hz]; rfl, by rw [hz]; exact IntsF.nilV, by rw [hz]; exact Fresh.ofNil _, rfl⟩
   refine qw (qa (cX (qH (((k + 1 : Nat) : Int)) rfl rfl (by omega) (by omega) (qd (ii (((k + 1 : Nat) : Int))) rfl (qb ?_)))))
   exact ⟨(k + 1, v3, os ++ [t.getD k 0]), _, FLe.refl _, rF, ⟨rfl, rfl, rfl, rfl, rfl, ⟨⟩⟩, (sD (sC (sC sR))), ⟨rfl, (hs2), (by (try dsimp only) <;> omega), (by dsimp only; exact hm.trans (fillGo_next (by omega) (by rw [lk_of_nil (of_decide_eq_true (hr3.symm.trans (by assumption)))]) (by omega))), (by dsimp only; omega)⟩, (by omega)⟩
  refine qa ?_
  have hlb : (lkN s (t.getD k 0)).length ≤ 4000000 := lkN_bound hsb
  refine qd (ov) rfl (qd (x2) rfl (cX (XOp.appendI [] _ qf typeInfo2 rfl rfl rfl rfl rfl rfl hr2 (by (try simp only [List.length_append, List.length_nil, List.length_cons, List.length_singleton, List.length_take, List.length_drop]); omega) ?_)))
  intro v4 hs3 hn2 hm1
  refine qg (v4) rfl (qb (qc (qa (qd (v4) rfl (cX (qE qf rfl (intsH.slv [] rfl) (cX (jI rfl rfl (qb ?_)))))))))
  refine qA (p := ((((os ++ (lkN s (t.getD k 0))).length : Nat) : Int) : Int) > 60) rfl (fun h4 => ?_) (fun h4 => ?_)
  ·refine qc (qa (qg (sN) rfl (qg (.bool (false)) rfl (qb (qu (qC (qk (qk (qC (qk (qq (L' := L) [sN, .bool (false)] (.tuple #[sN, .bool (false)]) (.tmp rfl (.tmp rfl .nil)) rfl le1 rF (sD (sD sR)) ?_)))))))))))
   have hz : fillL s t = none := hm.trans (fillGo_long (a := os ++ (lkN s (t.getD k 0))) (by omega) (by rw [lk_of_ne (of_decide_eq_false (hr3.symm.trans (by assumption)))]) (by omega))
   exact ⟨_, by rw [hz]; rfl, by rw [hz]; exact IntsF.nilV, by rw [hz]; exact Fresh.ofNil _, rfl⟩
  refine qw (qa (cX (qH (((k + 1 : Nat) : Int)) rfl rfl (by omega) (by omega) (qd (ii (((k + 1 : Nat) : Int))) rfl (qb ?_)))))
  exact ⟨(k + 1, v4, os ++ (lkN s (t.getD k 0))), _, FLe.refl _, rF, ⟨rfl, rfl, rfl, rfl, rfl, ⟨⟩⟩, (sC (sC sR)), ⟨rfl, (hs3), (by (try dsimp only) <;> omega), (by dsimp only; exact hm.trans (fillGo_next (by omega) (by rw [lk_of_ne (of_decide_eq_false (hr3.symm.trans (by assumption)))]) (by omega))), (by dsimp only; omega)⟩, (by omega)⟩
 refine jk (qt (qt (qM (qc (qa (qd (ov) rfl (qg (ov) rfl (qg (.bool (true)) rfl (qb (qQ [] _ _ rfl (fun F3 le3 hz1 => ?_)))))))))))
 have hf1 : IntsF F3 ov os := intsH.fz (xs := os) hz1.fz
 refine qu (qq (L' := L) [ov, .bool (true)] (.tuple #[ov, .bool (true)]) (.tmp rfl (.tmp rfl .nil)) rfl (qh le1 le3) rF (sD sR) ?_)
 have hz : fillL s t = some os := hm.trans (fillGo_done (by omega))
 exact ⟨_, by rw [hz]; rfl, by rw [hz]; exact hf1, by rw [hz]; exact (hz1.base le1), rfl⟩

/- impl.step -/
theorem step_spec {F : FH} {L : List HP} {arv : Value} {ar : List Int} (har : IntsF F arv ar) {rsv : Value} {rs : List (List Int × List Int)} (hrs : PairsF F rsv rs) {tv : Value} {t : List Int} (ht : IntsF F tv t) {p : Nat} {r : Nat} (hsys : sysOk ar rs = true) (ho : termOk ar t = true) (hp : p < t.length) (hr : r < rs.length) :
    Does prog 249 [.agg #[arv, rsv], tv, ii ((p : Int)), ii ((r : Int))] F (L) (fun v F' L' => ∃ (a : Value), (.tuple #[a, .bool ((stepL ar rs t p r).isSome)] : Value) = v ∧ (IntsF F' a ((stepL ar rs t p r).getD [])) ∧ ((stepL ar rs t p r).isSome = true → isNil a = false) ∧ (Fresh F F' (intsH 2 a ((stepL ar rs t p r).getD []))) ∧ L = L') := by
 refine qI func249 rfl rfl rfl ?_
 have hnn := jt ht (by have := termOk_len ho; omega)
 have htl := termOk_len ho
 have hrl := (sysOk_iff.1 hsys).2.1
 have hsig := (sysOk_iff.1 hsys).1
 have hsl := sigOk_spec hsig
 have hR := ruleOk_iff.1 ((sysOk_iff.1 hsys).2.2 r hr)
 have hRl := hR.left
 have hRr := hR.right
 have hso := sub_ok ho hp
 have hsb := sub_length ho hp
 have hee := endN_spec ho hp
 have hRrl := termOk_len hRr
 have hRg := fun k (hk : k < (rs.getD r ([], [])).2.length) => termOk_ge hRr hk
 have hmp := matchP_len (ar := ar) (p := (rs.getD r ([], [])).1) (t := sub ar t p)
 have hmp2 := hmp.2
 have hmp3 := hmp.1
 refine qc (qa (cX (jc [arv, rsv] rfl rfl ?_)))
 intro b1
 refine qg (sN) rfl (qg (.bool (false)) rfl (qb (qc ?_)))
 obtain ⟨a1, a2, ha1, ha2, hr1, hr2⟩ := hrs.rd (i := r) (by omega)
 refine jW [cellsH b1 [arv, rsv] 39] L 19 [[], [], [], [], [], [], [], [], [], [], [], [], [], [], [13], [13], [], [], [13, 17]] [[], [0], [], [2], [], [3, 4], [5], [6], [], [8], [], [], [9, 10, 11], [1, 7, 12], [13], [13, 14], [13, 14], [], [13, 15, 17]] [[], [], [], [], [], [], [], [], [], [], [], [], [], [], [], [], [], [], [17]] (phiG [pe (ptr b1 0), pe (.agg #[arv]), pe (ptr b1 1), pe rsv, pe (ii ((r : Int)) : Value), pe (.pointer (some (elemA rsv (r * 2)))), pe (.pointer (some (elemA rsv (r * 2)))), pe a1, pe (ptr b1 0), pe (.agg #[arv]), pe tv, pe (ii ((p : Int)) : Value), fun FF us v => ((v) : Value) = v ∧ (IntsF FF (v) (sub ar t p)) ∧ (isNil (v) = false), fun FF us v => (.tuple #[.agg #[((aggAt (tupAt v 0) 0))], .bool ((matchB ar ((rs.getD r ([], [])).1) ((sub ar t p))).isSome)] : Value) = v ∧ (RowsF FF ((aggAt (tupAt v 0) 0)) (matchP ar ((rs.getD r ([], [])).1) ((sub ar t p)))), fun FF us v => v = (.tuple #[.agg #[((aggAt (tupAt (us.getD 0 undef) 0) 0))], .bool ((matchB ar ((rs.getD r ([], [])).1) ((sub ar t p))).isSome)] : Value), fun FF us v => v = (.agg #[((aggAt (tupAt (us.getD 0 undef) 0) 0))] : Value), pe (.bool ((matchB ar ((rs.getD r ([], [])).1) ((sub ar t p))).isSome)), fun FF us v => v = ptr (blk v) 0, fun FF us v => True]) (ownL [o0, o0, o0, o0, o0, o0, o0, o0, o0, o0, o0, o0, o0, o0, o0, o0, o0, fun us v => [cellsH (blk v) [sN] 137], fun us v => [cellsH (blk (us.getD 1 undef)) [((aggAt (tupAt (us.getD 0 undef) 0) 0))] 137]]) mixed rfl rfl (by kernel_rfl) (by kernel_rfl) (MonoG.get (m1 (m1 (m1 (m1 (m1 (m1 (m1 (m1 (m1 (m1 (m1 (m1 (mC (fun le h => ⟨h.1, h.2.1.mono le, h.2.2⟩) (mC (fun le h => ⟨h.1, h.2.mono le⟩) (mC (fun le h => h) (mC (fun le h => h) (m1 (mC (fun le h => h) (mC (fun le h => h) MonoG.nil)))))))))))))))))))) ?_ ?_
 ·refine gD (fun W Fs R lF z9 => ?_) ?_
  ·refine qi (ql (0) qJ rfl qF (by decide) rfl rfl ?_)
   exact ⟨rfl, rfl⟩
  refine gD (fun W Fs R lF z9 => ?_) ?_
  ·replace har := har.mono lF
   replace hrs := hrs.mono lF
   replace ht := ht.mono lF
   replace ha1 := ha1.mono lF
   replace ha2 := ha2.mono lF
   replace hr1 := Rd.monoA hr1 lF
   replace hr2 := Rd.monoA hr2 lF
   rw [eS (l := [(0, _)]) ⟨z9 0 rfl, ⟨⟩⟩]
   refine qi (qr [arv] qX qF rfl rfl (Rd.ownN [] rfl rfl) ?_)
   exact ⟨rfl, rfl⟩
  refine gD (fun W Fs R lF z9 => ?_) ?_
  ·refine qi (ql (1) qJ rfl jw (by decide) rfl rfl ?_)
   exact ⟨rfl, rfl⟩
  refine gD (fun W Fs R lF z9 => ?_) ?_
  ·replace har := har.mono lF
   replace hrs := hrs.mono lF
   replace ht := ht.mono lF
   replace ha1 := ha1.mono lF
   replace ha2 := ha2.mono lF
   replace hr1 := Rd.monoA hr1 lF
   replace hr2 := Rd.monoA hr2 lF
   rw [eS (l := [(2, _)]) ⟨z9 2 rfl, ⟨⟩⟩]
   refine qi (qj yb rfl (Rd.own [] rfl rfl) ?_)
   exact ⟨rfl, rfl⟩
  refine gD (fun W Fs R lF z9 => ?_) ?_
  ·refine qi (qp (ii ((r : Int))) rfl ?_)
   exact ⟨rfl, rfl⟩
  refine gD (fun W Fs R lF z9 => ?_) ?_
  ·replace har := har.mono lF
   replace hrs := hrs.mono lF
   replace ht := ht.mono lF
   replace ha1 := ha1.mono lF
   replace ha2 := ha2.mono lF
   replace hr1 := Rd.monoA hr1 lF
   replace hr2 := Rd.monoA hr2 lF
   rw [eS (l := [(3, _), (4, _)]) ⟨z9 3 rfl, z9 4 rfl, ⟨⟩⟩]
   refine qi (qD r jd jA rfl rfl rfl hrs.slv (by omega) rfl ?_)
   exact ⟨rfl, rfl⟩
  refine gD (fun W Fs R lF z9 => ?_) ?_
  ·rw [eS (l := [(5, _)]) ⟨z9 5 rfl, ⟨⟩⟩]
   refine qi (XOp.fieldE (r * 2) qV rfl qs (by decide) rfl rfl ?_)
   exact ⟨rfl, rfl⟩
  refine gD (fun W Fs R lF z9 => ?_) ?_
  ·replace har := har.mono lF
   replace hrs := hrs.mono lF
   replace ht := ht.mono lF
   replace ha1 := ha1.mono lF
   replace ha2 := ha2.mono lF
   replace hr1 := Rd.monoA hr1 lF
   replace hr2 := Rd.monoA hr2 lF
   rw [eS (l := [(6, _)]) ⟨z9 6 rfl, ⟨⟩⟩]
   refine qi (qj qU rfl (hr1 _) ?_)
   exact ⟨rfl, rfl⟩
  refine gD (fun W Fs R lF z9 => ?_) ?_
  ·refine qi (ql (0) qJ rfl qF (by decide) rfl rfl ?_)
   exact ⟨rfl, rfl⟩
  refine gD (fun W Fs R lF z9 => ?_) ?_
  ·replace har := har.mono lF
   replace hrs := hrs.mono lF
   replace ht := ht.mono lF
   replace ha1 := ha1.mono lF
   replace ha2 := ha2.mono lF
   replace hr2 := Rd.monoA hr2 lF
   rw [eS (l := [(8, _)]) ⟨z9 8 rfl, ⟨⟩⟩]
   refine qi (qr [arv] qX qF rfl rfl (Rd.ownN [] rfl rfl) ?_)
   exact ⟨rfl, rfl⟩
  refine gD (fun W Fs R lF z9 => ?_) ?_
  ·refine qi (qp (tv) rfl ?_)
   exact ⟨rfl, rfl⟩
  refine gD (fun W Fs R lF z9 => ?_) ?_
  ·refine qi (qp (ii ((p : Int))) rfl ?_)
   exact ⟨rfl, rfl⟩
  refine gD (fun W Fs R lF z9 => ?_) ?_
  ·replace har := har.mono lF
   replace hrs := hrs.mono lF
   replace ht := ht.mono lF
   replace ha1 := ha1.mono lF
   replace ha2 := ha2.mono lF
   replace hr2 := Rd.monoA hr2 lF
   rw [eS (l := [(9, _), (10, _), (11, _)]) ⟨z9 9 rfl, z9 10 rfl, z9 11 rfl, ⟨⟩⟩]
   refine qi (qm (args := [.agg #[arv], tv, ii (p : Int)]) call142 rfl (subAt_spec (p := p) har ht (ho := (by first | assumption | rfl | omega | simp)) (hp := (by first | assumption | rfl | omega | simp)) (hnn := (by first | assumption | rfl | omega | simp))) ?_)
   rintro v2 _ _ _ ⟨rfl, rfl, hv2, hn2⟩
   exact ⟨⟨rfl, hv2, hn2⟩, rfl⟩
  refine gD (fun W Fs R lF z9 => ?_) ?_
  ·obtain ⟨e12, f12_1ha, f12_1hn⟩ := z9 12 rfl
   replace har := har.mono lF
   replace hrs := hrs.mono lF
   replace ht := ht.mono lF
   replace ha1 := ha1.mono lF
   replace ha2 := ha2.mono lF
   replace hr2 := Rd.monoA hr2 lF
   rw [eS (l := [(1, _), (7, _), (12, ((W 12)))]) ⟨z9 1 rfl, z9 7 rfl, (e12).symm, ⟨⟩⟩]
   refine qi (qm (args := [.agg #[arv], a1, ((W 12))]) call144 rfl (match_spec har ha1 f12_1ha (ho := (by first | assumption | rfl | omega | simp)) (hpo := (by first | assumption | rfl | omega | simp))) ?_)
   rintro _ F2 _ le2 ⟨x2, rfl, hr4, rfl⟩
   replace har := har.mono le2
   replace hrs := hrs.mono le2
   replace ht := ht.mono le2
   replace ha2 := ha2.mono le2
   replace f12_1ha := f12_1ha.mono le2
   replace hr2 := Rd.monoA hr2 le2
   exact ⟨⟨rfl, hr4⟩, rfl⟩
  refine gD (fun W Fs R lF z9 => ?_) ?_
  ·obtain ⟨e13, f13_1hr⟩ := z9 13 rfl
   rw [eS (l := [(13, (.tuple #[.agg #[((aggAt (tupAt (W 13) 0) 0))], .bool ((matchB ar ((rs.getD r ([], [])).1) ((sub ar t p))).isSome)]))]) ⟨(e13).symm, ⟨⟩⟩]
   refine qi (qp (.tuple #[.agg #[((aggAt (tupAt (W 13) 0) 0))], .bool ((matchB ar ((rs.getD r ([], [])).1) ((sub ar t p))).isSome)]) rfl ?_)
   exact ⟨rfl, rfl⟩
  refine gD (fun W Fs R lF z9 => ?_) ?_
  ·obtain ⟨e13, f13_1hr⟩ := z9 13 rfl
   have e14 : W 14 = (.tuple #[.agg #[((aggAt (tupAt (W 13) 0) 0))], .bool ((matchB ar ((rs.getD r ([], [])).1) ((sub ar t p))).isSome)] : Value) := z9 14 rfl
   rw [eS (l := [(13, (.tuple #[.agg #[((aggAt (tupAt (W 13) 0) 0))], .bool ((matchB ar ((rs.getD r ([], [])).1) ((sub ar t p))).isSome)])), (14, (.tuple #[.agg #[((aggAt (tupAt (W 13) 0) 0))], .bool ((matchB ar ((rs.getD r ([], [])).1) ((sub ar t p))).isSome)]))]) ⟨(e13).symm, e14, ⟨⟩⟩]
   refine qi (je (.agg #[((aggAt (tupAt (W 13) 0) 0))]) rfl rfl ?_)
   exact ⟨rfl, rfl⟩
  refine gD (fun W Fs R lF z9 => ?_) ?_
  ·obtain ⟨e13, f13_1hr⟩ := z9 13 rfl
   have e14 : W 14 = (.tuple #[.agg #[((aggAt (tupAt (W 13) 0) 0))], .bool ((matchB ar ((rs.getD r ([], [])).1) ((sub ar t p))).isSome)] : Value) := z9 14 rfl
   rw [eS (l := [(13, (.tuple #[.agg #[((aggAt (tupAt (W 13) 0) 0))], .bool ((matchB ar ((rs.getD r ([], [])).1) ((sub ar t p))).isSome)])), (14, (.tuple #[.agg #[((aggAt (tupAt (W 13) 0) 0))], .bool ((matchB ar ((rs.getD r ([], [])).1) ((sub ar t p))).isSome)]))]) ⟨(e13).symm, e14, ⟨⟩⟩]
   refine qi (je (.bool ((matchB ar ((rs.getD r ([], [])).1) ((sub ar t p))).isSome)) rfl rfl ?_)
   exact ⟨rfl, rfl⟩
  refine gD (fun W Fs R lF z9 => ?_) ?_
  ·replace har := har.mono lF
   replace hrs := hrs.mono lF
   replace ht := ht.mono lF
   replace ha2 := ha2.mono lF
   replace hr2 := Rd.monoA hr2 lF
   refine qi (ji [sN] jB rfl ?_)
   intro b3
   exact ⟨rfl, rfl⟩
  refine gD (fun W Fs R lF z9 => ?_) ?_
  ·obtain ⟨e13, f13_1hr⟩ := z9 13 rfl
   have e15 : W 15 = (.agg #[((aggAt (tupAt (W 13) 0) 0))] : Value) := z9 15 rfl
   have e17 : W 17 = ptr (blk (W 17)) 0 := z9 17 rfl
   replace har := har.mono lF
   replace hrs := hrs.mono lF
   replace ht := ht.mono lF
   replace ha2 := ha2.mono lF
   replace hr2 := Rd.monoA hr2 lF
   rw [eS (l := [(13, (.tuple #[.agg #[((aggAt (tupAt (W 13) 0) 0))], .bool ((matchB ar ((rs.getD r ([], [])).1) ((sub ar t p))).isSome)])), (15, (.agg #[((aggAt (tupAt (W 13) 0) 0))])), (17, ptr (blk (W 17)) 0)]) ⟨(e13).symm, e15, e17, ⟨⟩⟩]
   show XG _ _ _ _ _ (cellsH (blk (W 17)) [sN] 137 :: ([cellsH b1 [arv, rsv] 39] ++ R)) _
   refine qi (qL [] _ [((aggAt (tupAt (W 13) 0) 0))] jo rfl rfl rfl (qn (qG (RowsF.isSl f13_1hr)) qO) rfl rfl rfl ?_)
   exact ⟨trivial, rfl⟩
  exact stepsG.nil
 intro W F3 le3 hphi
 obtain ⟨e12, f12_1ha, f12_1hn⟩ := hphi 12 (by decide)
 obtain ⟨e13, f13_1hr⟩ := hphi 13 (by decide)
 have e14 : W 14 = (.tuple #[.agg #[((aggAt (tupAt (W 13) 0) 0))], .bool ((matchB ar ((rs.getD r ([], [])).1) ((sub ar t p))).isSome)] : Value) := hphi 14 (by decide)
 have e15 : W 15 = (.agg #[((aggAt (tupAt (W 13) 0) 0))] : Value) := hphi 15 (by decide)
 have e17 : W 17 = ptr (blk (W 17)) 0 := hphi 17 (by decide)
 generalize hu1 : ((W 12)) = u1 at e12 f12_1ha f12_1hn e13 f13_1hr e14 e15 e17
 generalize hu2 : ((aggAt (tupAt (W 13) 0) 0)) = u2 at e12 f12_1ha f12_1hn e13 f13_1hr e14 e15 e17
 generalize hu3 : blk (W 17) = b4 at e12 f12_1ha f12_1hn e13 f13_1hr e14 e15 e17
 rw [eS (l := [(13, (.tuple #[.agg #[u2], .bool ((matchB ar ((rs.getD r ([], [])).1) ((sub ar t p))).isSome)])), (16, _), (17, ptr b4 0)]) ⟨(e13).symm, (hphi 16 (by decide)), e17, ⟨⟩⟩]
 replace har := har.mono le3
 replace hrs := hrs.mono le3
 replace ht := ht.mono le3
 replace ha2 := ha2.mono le3
 replace hr2 := Rd.monoA hr2 le3
 show XL _ _ _ _ _ _ _ (cellsH b4 [u2] 137 :: cellsH b1 [arv, rsv] 39 :: L)
 refine qg (.bool ((matchB ar ((rs.getD r ([], [])).1) ((sub ar t p))).isSome)) rfl (qb (qc (qc (qa (qd (.bool ((matchB ar ((rs.getD r ([], [])).1) ((sub ar t p))).isSome)) rfl (cX (jE rfl (qb ?_))))))))
 refine jz (t := !((matchB ar ((rs.getD r ([], [])).1) ((sub ar t p))).isSome)) rfl (fun h1 => ?_) (fun h1 => ?_)
 ·have hms : (matchB ar (rs.getD r ([], [])).1 (sub ar t p)).isSome = false := by simpa using h1
  refine qc (qa (qg (sN) rfl (qg (.bool (false)) rfl (qb (qu (qk (qq (L' := L) [sN, .bool (false)] (.tuple #[sN, .bool (false)]) (.tmp rfl (.tmp rfl .nil)) rfl le3 rF (sD (sD sR)) ?_)))))))
  have hz := stepL_nomatch hms
  exact ⟨_, by rw [hz]; rfl, by rw [hz]; exact IntsF.nilV, fun h => (by rw [hz] at h; cases h), by rw [hz]; exact Fresh.ofNil _, rfl⟩
 have hms : (matchB ar (rs.getD r ([], [])).1 (sub ar t p)).isSome = true := by simpa using h1
 refine qw (qc ?_)
 refine jW [cellsH b4 [u2] 137, cellsH b1 [arv, rsv] 39] L 12 [[], [], [], [], [], [], [], [], [7], [7], [], [7]] [[], [], [1], [], [2, 3], [4], [5], [0, 6], [7], [7, 8], [7, 8], [7, 9]] [] (phiG [pe (.agg #[u2]), pe (ptr b1 1), pe rsv, pe (ii ((r : Int)) : Value), pe (.pointer (some (elemA rsv (r * 2)))), pe (.pointer (some (elemA rsv (r * 2 + 1)))), pe a2, fun FF us v => (.tuple #[((tupAt v 0)), .bool ((fillL (matchP ar ((rs.getD r ([], [])).1) ((sub ar t p))) ((rs.getD r ([], [])).2)).isSome)] : Value) = v ∧ (IntsF FF ((tupAt v 0)) ((fillL (matchP ar ((rs.getD r ([], [])).1) ((sub ar t p))) ((rs.getD r ([], [])).2)).getD [])), fun FF us v => v = (.tuple #[((tupAt (us.getD 0 undef) 0)), .bool ((fillL (matchP ar ((rs.getD r ([], [])).1) ((sub ar t p))) ((rs.getD r ([], [])).2)).isSome)] : Value), fun FF us v => v = ((tupAt (us.getD 0 undef) 0)), pe (.bool ((fillL (matchP ar ((rs.getD r ([], [])).1) ((sub ar t p))) ((rs.getD r ([], [])).2)).isSome)), fun FF us v => v = ((tupAt (us.getD 0 undef) 0))]) (ownL []) mixed rfl rfl (by kernel_rfl) (by kernel_rfl) (MonoG.get (m1 (m1 (m1 (m1 (m1 (m1 (m1 (mC (fun le h => ⟨h.1, h.2.mono le⟩) (mC (fun le h => h) (mC (fun le h => h) (m1 (mC (fun le h => h) MonoG.nil))))))))))))) ?_ ?_
 ·refine gD (fun W Fs R lF z9 => ?_) ?_
  ·replace har := har.mono lF
   replace hrs := hrs.mono lF
   replace ht := ht.mono lF
   replace ha2 := ha2.mono lF
   replace f13_1hr := f13_1hr.mono lF
   replace hr2 := Rd.monoA hr2 lF
   refine qi (qr [u2] jR jo rfl rfl (Rd.ownN [] rfl rfl) ?_)
   exact ⟨rfl, rfl⟩
  refine gD (fun W Fs R lF z9 => ?_) ?_
  ·refine qi (ql (1) qJ rfl jw (by decide) rfl rfl ?_)
   exact ⟨rfl, rfl⟩
  refine gD (fun W Fs R lF z9 => ?_) ?_
  ·replace har := har.mono lF
   replace hrs := hrs.mono lF
   replace ht := ht.mono lF
   replace ha2 := ha2.mono lF
   replace f13_1hr := f13_1hr.mono lF
   replace hr2 := Rd.monoA hr2 lF
   rw [eS (l := [(1, _)]) ⟨z9 1 rfl, ⟨⟩⟩]
   refine qi (qj yb rfl (Rd.own [_] rfl rfl) ?_)
   exact ⟨rfl, rfl⟩
  refine gD (fun W Fs R lF z9 => ?_) ?_
  ·refine qi (qp (ii ((r : Int))) rfl ?_)
   exact ⟨rfl, rfl⟩
  refine gD (fun W Fs R lF z9 => ?_) ?_
  ·replace har := har.mono lF
   replace hrs := hrs.mono lF
   replace ht := ht.mono lF
   replace ha2 := ha2.mono lF
   replace f13_1hr := f13_1hr.mono lF
   replace hr2 := Rd.monoA hr2 lF
   rw [eS (l := [(2, _), (3, _)]) ⟨z9 2 rfl, z9 3 rfl, ⟨⟩⟩]
   refine qi (qD r jd jA rfl rfl rfl hrs.slv (by omega) rfl ?_)
   exact ⟨rfl, rfl⟩
  refine gD (fun W Fs R lF z9 => ?_) ?_
  ·rw [eS (l := [(4, _)]) ⟨z9 4 rfl, ⟨⟩⟩]
   refine qi (XOp.fieldE (r * 2 + 1) qV rfl qs (by decide) rfl rfl ?_)
   exact ⟨rfl, rfl⟩
  refine gD (fun W Fs R lF z9 => ?_) ?_
  ·replace har := har.mono lF
   replace ht := ht.mono lF
   replace ha2 := ha2.mono lF
   replace f13_1hr := f13_1hr.mono lF
   replace hr2 := Rd.monoA hr2 lF
   rw [eS (l := [(5, _)]) ⟨z9 5 rfl, ⟨⟩⟩]
   refine qi (qj qU rfl (hr2 _) ?_)
   exact ⟨rfl, rfl⟩
  refine gD (fun W Fs R lF z9 => ?_) ?_
  ·replace har := har.mono lF
   replace ht := ht.mono lF
   replace ha2 := ha2.mono lF
   replace f13_1hr := f13_1hr.mono lF
   rw [eS (l := [(0, _), (6, _)]) ⟨z9 0 rfl, z9 6 rfl, ⟨⟩⟩]
   refine qi (qm (args := [.agg #[u2], a2]) call146 rfl (fill_spec f13_1hr ha2 (hsl := (by first | assumption | rfl | omega | simp)) (hsb := (fun i => by have := hmp2 i; omega)) (htl := (by first | assumption | rfl | omega | simp)) (htg := (fun k hk => by have := hRg k hk; omega))) ?_)
   rintro _ F5 _ le5 ⟨x4, rfl, hr7, hr8, rfl⟩
   replace har := har.mono le5
   replace ht := ht.mono le5
   exact ⟨⟨rfl, hr7⟩, rfl⟩
  refine gD (fun W Fs R lF z9 => ?_) ?_
  ·obtain ⟨e7, f7_2hr⟩ := z9 7 rfl
   rw [eS (l := [(7, (.tuple #[((tupAt (W 7) 0)), .bool ((fillL (matchP ar ((rs.getD r ([], [])).1) ((sub ar t p))) ((rs.getD r ([], [])).2)).isSome)]))]) ⟨(e7).symm, ⟨⟩⟩]
   refine qi (qp (.tuple #[((tupAt (W 7) 0)), .bool ((fillL (matchP ar ((rs.getD r ([], [])).1) ((sub ar t p))) ((rs.getD r ([], [])).2)).isSome)]) rfl ?_)
   exact ⟨rfl, rfl⟩
  refine gD (fun W Fs R lF z9 => ?_) ?_
  ·obtain ⟨e7, f7_2hr⟩ := z9 7 rfl
   have e8 : W 8 = (.tuple #[((tupAt (W 7) 0)), .bool ((fillL (matchP ar ((rs.getD r ([], [])).1) ((sub ar t p))) ((rs.getD r ([], [])).2)).isSome)] : Value) := z9 8 rfl
   rw [eS (l := [(7, (.tuple #[((tupAt (W 7) 0)), .bool ((fillL (matchP ar ((rs.getD r ([], [])).1) ((sub ar t p))) ((rs.getD r ([], [])).2)).isSome)])), (8, (.tuple #[((tupAt (W 7) 0)), .bool ((fillL (matchP ar ((rs.getD r ([], [])).1) ((sub ar t p))) ((rs.getD r ([], [])).2)).isSome)]))]) ⟨(e7).symm, e8, ⟨⟩⟩]
   refine qi (je (((tupAt (W 7) 0))) rfl rfl ?_)
   exact ⟨rfl, rfl⟩
  refine gD (fun W Fs R lF z9 => ?_) ?_
  ·obtain ⟨e7, f7_2hr⟩ := z9 7 rfl
   have e8 : W 8 = (.tuple #[((tupAt (W 7) 0)), .bool ((fillL (matchP ar ((rs.getD r ([], [])).1) ((sub ar t p))) ((rs.getD r ([], [])).2)).isSome)] : Value) := z9 8 rfl
   rw [eS (l := [(7, (.tuple #[((tupAt (W 7) 0)), .bool ((fillL (matchP ar ((rs.getD r ([], [])).1) ((sub ar t p))) ((rs.getD r ([], [])).2)).isSome)])), (8, (.tuple #[((tupAt (W 7) 0)), .bool ((fillL (matchP ar ((rs.getD r ([], [])).1) ((sub ar t p))) ((rs.getD r ([], [])).2)).isSome)]))]) ⟨(e7).symm, e8, ⟨⟩⟩]
   refine qi (je (.bool ((fillL (matchP ar ((rs.getD r ([], [])).1) ((sub ar t p))) ((rs.getD r ([], [])).2)).isSome)) rfl rfl ?_)
   exact ⟨rfl, rfl⟩
  refine gD (fun W Fs R lF z9 => ?_) ?_
  ·obtain ⟨e7, f7_2hr⟩ := z9 7 rfl
   have e9 : W 9 = ((tupAt (W 7) 0)) := z9 9 rfl
   rw [eS (l := [(7, (.tuple #[((tupAt (W 7) 0)), .bool ((fillL (matchP ar ((rs.getD r ([], [])).1) ((sub ar t p))) ((rs.getD r ([], [])).2)).isSome)])), (9, ((tupAt (W 7) 0)))]) ⟨(e7).symm, e9, ⟨⟩⟩]
   refine qi (XOp.assign (((tupAt (W 7) 0))) rfl ?_)
   exact ⟨rfl, rfl⟩
  exact stepsG.nil
 intro W F6 le6 hphi
 obtain ⟨e7, f7_2hr⟩ := hphi 7 (by decide)
 have e8 : W 8 = (.tuple #[((tupAt (W 7) 0)), .bool ((fillL (matchP ar ((rs.getD r ([], [])).1) ((sub ar t p))) ((rs.getD r ([], [])).2)).isSome)] : Value) := hphi 8 (by decide)
 have e9 : W 9 = ((tupAt (W 7) 0)) := hphi 9 (by decide)
 have e11 : W 11 = ((tupAt (W 7) 0)) := hphi 11 (by decide)
 generalize hu4 : ((tupAt (W 7) 0)) = u3 at e7 f7_2hr e8 e9 e11
 rw [eS (l := [(7, (.tuple #[u3, .bool ((fillL (matchP ar ((rs.getD r ([], [])).1) ((sub ar t p))) ((rs.getD r ([], [])).2)).isSome)])), (10, _), (11, u3)]) ⟨(e7).symm, (hphi 10 (by decide)), e11, ⟨⟩⟩]
 replace har := har.mono le6
 replace ht := ht.mono le6
 show XL _ _ _ _ _ _ _ (cellsH b4 [u2] 137 :: cellsH b1 [arv, rsv] 39 :: L)
 refine qg (.bool ((fillL (matchP ar ((rs.getD r ([], [])).1) ((sub ar t p))) ((rs.getD r ([], [])).2)).isSome)) rfl (qb (qc (qc (qa (qd (.bool ((fillL (matchP ar ((rs.getD r ([], [])).1) ((sub ar t p))) ((rs.getD r ([], [])).2)).isSome)) rfl (cX (jE rfl (qb ?_))))))))
 refine jz (t := !((fillL (matchP ar ((rs.getD r ([], [])).1) ((sub ar t p))) ((rs.getD r ([], [])).2)).isSome)) rfl (fun h2 => ?_) (fun h2 => ?_)
 ·have hfs : (fillL (matchP ar (rs.getD r ([], [])).1 (sub ar t p)) (rs.getD r ([], [])).2).isSome = false := by simpa using h2
  refine qc (qa (qg (sN) rfl (qg (.bool (false)) rfl (qb (qu (qk (qq (L' := L) [sN, .bool (false)] (.tuple #[sN, .bool (false)]) (.tmp rfl (.tmp rfl .nil)) rfl (qh le3 le6) rF (sD (sD sR)) ?_)))))))
  have hz := stepL_nofill hms hfs
  exact ⟨_, by rw [hz]; rfl, by rw [hz]; exact IntsF.nilV, fun h => (by rw [hz] at h; cases h), by rw [hz]; exact Fresh.ofNil _, rfl⟩
 have hfs : (fillL (matchP ar (rs.getD r ([], [])).1 (sub ar t p)) (rs.getD r ([], [])).2).isSome = true := by simpa using h2
 have hfl := fill_getD_len hfs (by omega)
 refine qw (qc (qa (cX (ql (0) qJ rfl qF (by decide) rfl rfl (cX (qr [arv] qX qF rfl rfl (Rd.ownN [_] rfl rfl) (qd (tv) rfl (qd (ii ((p : Int))) rfl (qd (u3) rfl (cX (qm (args := [.agg #[arv], tv, ii (p : Int), u3]) call147 rfl (put_spec (p := p) har ht f7_2hr (ho := (by first | assumption | rfl | omega | simp)) (hp := (by first | assumption | rfl | omega | simp)) (hul := (by first | assumption | rfl | omega | simp))) ?_)))))))))))
 rintro _ F7 _ le7 ⟨x5, rfl, hr9, hr10, hr11, rfl⟩
 refine cX (je (x5) rfl rfl (cX (je (.bool ((putL ar t p ((fillL (matchP ar ((rs.getD r ([], [])).1) ((sub ar t p))) ((rs.getD r ([], [])).2)).getD [])).isSome)) rfl rfl (qg (x5) rfl (qg (.bool ((putL ar t p ((fillL (matchP ar ((rs.getD r ([], [])).1) ((sub ar t p))) ((rs.getD r ([], [])).2)).getD [])).isSome)) rfl (qb (qu (qq (L' := L) [x5, .bool ((putL ar t p ((fillL (matchP ar ((rs.getD r ([], [])).1) ((sub ar t p))) ((rs.getD r ([], [])).2)).getD [])).isSome)] (.tuple #[x5, .bool ((putL ar t p ((fillL (matchP ar ((rs.getD r ([], [])).1) ((sub ar t p))) ((rs.getD r ([], [])).2)).getD [])).isSome)]) (.tmp rfl (.tmp rfl .nil)) rfl (qh (qh le3 le6) le7) rF (sD (sD sR)) ?_))))))))
 have hz := stepL_put hms hfs
 exact ⟨_, by rw [hz], by rw [hz]; exact hr9, by rw [hz]; exact hr10, by rw [hz]; exact (hr11.base (qh le3 le6)), rfl⟩

/- spec.l2Gives -/
theorem l2Gives_spec {F : FH} {L : List HP} {sv : Value} {s : List (List Int)} (hs : RowsF F sv s) {i : Nat} (hsl : s.length ≤ 4000000) (hi : i ≤ 4000000) (hsb : (s.getD i []).length ≤ 4000000) :
    Does prog 184 [.agg #[sv], ii ((i : Int))] F (L) (fun v F' L' => F = F' ∧ IsSl v ∧ intsH 2 v (lk s (-1 - (i : Int))) :: L = L') := by
 refine qI func184 rfl rfl rfl (qc (qa (cX (jc [sv] rfl rfl ?_))))
 intro b1
 refine qg (sN) rfl (qb (qc (qc (qa (qd (ii ((i : Int))) rfl (cX (ql (0) qT rfl jb (by decide) rfl rfl (cX (qj jC rfl (Rd.own [] rfl rfl) (cX (qE qv rfl hs.slv (cX (qW rfl rfl (qd (.bool (decide ((i : Int) < (s.length : Int)))) rfl ?_))))))))))))))
 by_cases h1 : (i : Int) < (s.length : Int)
 ·refine qy (t := 10) rfl (vT h1) (ql (0) qT rfl jb (by decide) rfl rfl (qy (t := 10) rfl (vT h1) (qj jC rfl (Rd.own [] rfl rfl) (qy (t := 10) rfl (vT h1) (qp (ii ((i : Int))) rfl (qy (t := 10) rfl (vT h1) (qD i qv qs rfl rfl rfl hs.slv (by omega) (Nat.mul_one _) ?_)))))))
  obtain ⟨a1, ha1, hr1⟩ := hs.rd (i := i) (by omega)
  refine qy (t := 10) rfl (vT h1) (qj qU rfl (hr1 _) (qy (t := 10) rfl (vT h1) (qE qf rfl ha1.slv (qy (t := 10) rfl (vT h1) (jI rfl rfl (cX (jj (.bool (decide ((((((s.getD i [])).length : Nat) : Int) : Int) > 0))) (vT h1) rfl (qb ?_))))))))
  refine qA (p := (((((s.getD i [])).length : Nat) : Int) : Int) > 0) rfl (fun h2 => ?_) (fun h2 => ?_)
  ·refine qc (qa (cX (ql (0) qT rfl jb (by decide) rfl rfl (cX (qj jC rfl (Rd.own [] rfl rfl) (qd (ii ((i : Int))) rfl (cX (qD i qv qs rfl rfl rfl hs.slv (by omega) (Nat.mul_one _) (cX (qj qU rfl (hr1 _) (cX (qm (args := [a1]) call105 rfl (l1Copy_spec ha1 (hlt := (by first | assumption | rfl | omega | simp))) ?_))))))))))))
   rintro v1 _ _ _ ⟨rfl, hs1, rfl⟩
   refine qg (v1) rfl (qb (qu (qk (qq (L' := intsH 2 v1 ((((s.getD i [])))) :: L) [v1] (v1) (.tmp rfl .nil) rfl rF rF (sC (sD sR)) ?_))))
   refine ⟨rfl, hs1, ?_⟩
   have hxs : (lk s (-1 - (i : Int)) : List Int) = (((s.getD i []))) := lk_copy (by omega)
   exact congrArg (fun z => intsH 2 _ z :: L) hxs
  refine qw (qc (qa (qd (ii ((i : Int))) rfl (cX (jq ((-1) - ((i : Int))) rfl rfl (by omega) (by omega) (cX (qo (s := 1) [ii ((-1) - ((i : Int)))] [ii (0)] [(0, [ii ((-1) - ((i : Int)))])] qf qB qS rfl (by decide) rfl (.cons rfl CellsAre.nil) rfl ?_)))))))
  intro v2 hv1
  refine qg (v2) rfl (qb (qu (qq (L' := intsH 2 v2 ([(-1) - ((i : Int))]) :: L) [v2] (v2) (.tmp rfl .nil) rfl rF rF (sC (sD sR)) ?_)))
  refine ⟨rfl, (qN hv1), ?_⟩
  have hxs : (lk s (-1 - (i : Int)) : List Int) = [(-1) - ((i : Int))] := lk_self (by first | omega | (rw [getD_out (by omega)]; simp))
  exact congrArg (fun z => intsH 2 _ z :: L) hxs
 refine qx (t := 10) rfl (vF h1) (qx (t := 10) rfl (vF h1) (qx (t := 10) rfl (vF h1) (qx (t := 10) rfl (vF h1) (qx (t := 10) rfl (vF h1) (qx (t := 10) rfl (vF h1) (qx (t := 10) rfl (vF h1) (cX (qY (.bool (false)) (vF h1) rfl (qb (X.condF rfl ?_))))))))))
 refine qw (qc (qa (qd (ii ((i : Int))) rfl (cX (jq ((-1) - ((i : Int))) rfl rfl (by omega) (by omega) (cX (qo (s := 1) [ii ((-1) - ((i : Int)))] [ii (0)] [(0, [ii ((-1) - ((i : Int)))])] qf qB qS rfl (by decide) rfl (.cons rfl CellsAre.nil) rfl ?_)))))))
 intro v3 hv2
 refine qg (v3) rfl (qb (qu (qq (L' := intsH 2 v3 ([(-1) - ((i : Int))]) :: L) [v3] (v3) (.tmp rfl .nil) rfl rF rF (sC (sD sR)) ?_)))
 refine ⟨rfl, (qN hv2), ?_⟩
 have hxs : (lk s (-1 - (i : Int)) : List Int) = [(-1) - ((i : Int))] := lk_self (by first | omega | (rw [getD_out (by omega)]; simp))
 exact congrArg (fun z => intsH 2 _ z :: L) hxs

/- spec.l2Plain -/
theorem l2Plain_spec {F : FH} {L : List HP} {sv : Value} {s : List (List Int)} (hs : RowsF F sv s) (hsl : s.length ≤ 24) (hsb : ∀ i, (s.getD i []).length ≤ 4000000) :
    Does prog 183 [.agg #[sv]] F (L) (fun v F' L' => ∃ (a : Value), (.agg #[a] : Value) = v ∧ (RowsF F' a (plainL s)) ∧ L = L') := by
 refine qI func183 rfl rfl rfl (qc (qa (cX (jc [sv] rfl rfl ?_))))
 intro b1
 refine cX (ji [sN] jB rfl ?_)
 intro b2
 refine qb (qc (qa (cX (jh [sN] [sN] [(0, 1)] [] qT jB rfl (.cons rfl jb PlacesAre.nil) rfl CellsAre.nil (cX (ji [sN] jB rfl ?_))))))
 intro b3
 refine cX (qL [] _ [sN] jo rfl rfl rfl (qn rfl qO) rfl rfl rfl (qb (qc (qc (qa (qg (ii (0)) rfl (qb (qK (jl (α := Nat × Value × RowL × FH) (fun xQ => [(1, ptr b1 0), (2, ptr b2 0), (3, ptr b3 0), (4, ii (((xQ.1 : Nat) : Int)))]) (fun xQ => rowsH 22 xQ.2.2.2 xQ.2.1 xQ.2.2.1 :: cellsH b3 [xQ.2.1] 137 :: cellsH b2 [sN] 137 :: cellsH b1 [sv] 137 :: L) (fun xQ F' => xQ.2.2.2 = F' ∧ F ≤ xQ.2.2.2 ∧ (IsSl xQ.2.1) ∧ (xQ.2.2.1 = (plainGo 0 s).take xQ.1) ∧ (xQ.1 ≤ s.length)) (fun xQ => s.length - xQ.1) (0, sN, [], F) ⟨rfl, rfl, rfl, rfl, ⟨⟩⟩ (coH.addNil none (sC (sC (sC sR)))) ⟨rfl, FLe.refl _, (⟨_, _, _, rfl⟩), (rfl), (by (try dsimp only) <;> omega)⟩ ?_)))))))))
 rintro ⟨k, ov, os, G1⟩ rE _ _ ⟨rfl, leG, hov, hos, hk⟩
 show X _ _ _ _ (envs [(1, ptr b1 0), (2, ptr b2 0), (3, ptr b3 0), (4, ii ((k : Int)))] rE) _ (rowsH 22 G1 ov os :: cellsH b3 [ov] 137 :: cellsH b2 [sN] 137 :: cellsH b1 [sv] 137 :: L)
 replace leG : F ≤ G1 := leG
 dsimp only at hov hos hk
 have hol : os.length ≤ k := by rw [hos, List.length_take]; omega
 have hsbk := hsb k
 have hlkb : (lk s (-1 - (k : Int))).length ≤ 4000000 := by rw [lk_var]; split <;> simp; exact hsbk
 have leG1 := leG
 replace hs := hs.mono leG1
 refine X.open [] rfl (fun cs1 hc1 => ?_)
 replace hc1 : RowsC G1 cs1 os := hc1
 refine qc (qc (qa (qd (ii ((k : Int))) rfl (cX (ql (0) qT rfl jb (by decide) rfl rfl (cX (qj jC rfl (Rd.own [_, _, _] rfl rfl) (cX (qE qv rfl hs.slv (cX (qW rfl rfl (qb ?_))))))))))))
 refine qA (p := (k : Int) < (s.length : Int)) rfl (fun h1 => ?_) (fun h1 => ?_)
 ·refine qw (qc (qK (qc (qa (cX (qr [sv] jR jo rfl rfl (Rd.ownN [_, _, _] rfl rfl) (qd (ii ((k : Int))) rfl (cX (jZ <| qm (args := [.agg #[sv], ii (k : Int)]) call184 rfl (l2Gives_spec (i := k) hs (hsl := (by first | assumption | rfl | omega | simp)) (hi := (by first | assumption | rfl | omega | simp)) (hsb := (hsb k))) ?_)))))))))
  rintro v1 _ _ _ ⟨rfl, hs1, rfl⟩
  refine ⟨_, _, rfl, fun F1 le1 hz1 => ?_⟩
  replace hc1 := hc1.mono le1
  have hf1 : IntsF F1 v1 ((lk s (-1 - (k : Int)))) := intsH.fz (xs := (lk s (-1 - (k : Int)))) hz1.fz
  refine qg (v1) rfl (qb (qc (qc (qa (qd (v1) rfl (cX (qE qf rfl hf1.slv (cX (js rfl rfl (qd (.bool (decide ((((((lk s (-1 - (k : Int)))).length : Nat) : Int) : Int) = 1))) rfl ?_))))))))))
  by_cases h2 : (((((lk s (-1 - (k : Int)))).length : Nat) : Int) : Int) = 1
  ·refine qy (t := 20) rfl (vT h2) (qp (v1) rfl (qy (t := 20) rfl (vT h2) (qD 0 qf qB rfl rfl rfl hf1.slv (by omega) (Nat.mul_one _) (qy (t := 20) rfl (vT h2) (qj jm rfl (hf1.rd (by omega)) (qy (t := 20) rfl (vT h2) (qp (ii ((k : Int))) rfl (qy (t := 20) rfl (vT h2) (jq ((-1) - ((k : Int))) rfl rfl (by omega) (by omega) (qy (t := 20) rfl (vT h2) (js rfl rfl (cX (jj (.bool (decide ((((lk s (-1 - (k : Int)))).getD 0 0 : Int) = (-1) - ((k : Int))))) (vT h2) rfl (qb ?_))))))))))))))
   refine qA (p := (((lk s (-1 - (k : Int)))).getD 0 0 : Int) = (-1) - ((k : Int))) rfl (fun h3 => ?_) (fun h3 => ?_)
   ·refine qa (cX (qo (s := 1) [] [ii (0)] [] qf qB qS rfl (by decide) rfl CellsAre.nil rfl ?_))
    intro v2 hv1
    refine qg (v2) rfl (qb (qa (cX (ql (0) qT rfl jb (by decide) rfl rfl (cX (qj jC rfl (Rd.own [_, _] rfl rfl) (qd (v2) rfl (cX (qo (s := 1) [v2] [sN] [(0, [v2])] qv qs jD rfl (by decide) rfl (.cons (cells_one (qN hv1)) CellsAre.nil) rfl ?_)))))))))
    intro v3 hv2
    show XL _ _ _ _ _ _ _ (slH 22 1 v3 1 [v2] :: intsH 2 v2 ([] : List Int) :: slH 22 1 ov ((os).length) cs1 :: cellsH b3 [ov] 137 :: cellsH b2 [sN] 137 :: cellsH b1 [sv] 137 :: L)
    refine jO [_] _ _ rfl (fun F2 le2 hz2 => ?_)
    replace hc1 := hc1.mono le2
    replace hf1 := hf1.mono le2
    have hf2 : IntsF F2 v2 ([]) := intsH.fz (xs := []) hz2.fz
    refine cX (jG (m := 1) (bytes := 24) (cs := cs1) [_] _ [v2] qv typeInfo22 rfl rfl rfl rfl rfl rfl rfl (SlV.own [] rfl) rfl (Rd.lit [] rfl) (qn (qG (qz hf2)) qO) (by (try simp only [List.length_append, List.length_nil, List.length_cons, List.length_singleton]); omega) (by (try simp only [List.length_append, List.length_nil, List.length_cons, List.length_singleton]); omega) ?_)
    intro v4 hs2 hn1 hm1
    have hc2 := RowsC.snoc hc1 hf2
    refine cX (ql (0) qT rfl jb (by decide) rfl rfl (cX (jv [_, _] _ [v4] jb rfl rfl (qG hs2) rfl rfl rfl (qb (qa (qd (ii ((k : Int))) rfl (cX (qH (((k + 1 : Nat) : Int)) rfl rfl (by omega) (by omega) (qg (ii (((k + 1 : Nat) : Int))) rfl (qb ?_))))))))))
    exact ⟨(k + 1, v4, os ++ [[]], F2), _, (qh (qh leG1 le1) le2), rF, ⟨rfl, rfl, rfl, rfl, ⟨⟩⟩, (sD (coH.close hc2 (by first | rfl | simp) (sC (sC (sC sR))))), ⟨rfl, (qh (qh leG1 le1) le2), (hs2), (by dsimp only; rw [hos, plainGo_take (by omega), plainGo_self (one_eq (by omega) (by omega))]), (by (try dsimp only) <;> omega)⟩, (by omega)⟩
   refine qw (qa (cX (ql (0) qT rfl jb (by decide) rfl rfl (cX (qj jC rfl (Rd.own [_] rfl rfl) (qd (v1) rfl (cX (qo (s := 1) [v1] [sN] [(0, [v1])] qv qs jD rfl (by decide) rfl (.cons (cells_one (qz hf1)) CellsAre.nil) rfl ?_))))))))
   intro v5 hv3
   refine cX (jG (m := 1) (bytes := 24) (cs := cs1) [_] _ [v1] qv typeInfo22 rfl rfl rfl rfl rfl rfl rfl (SlV.own [] rfl) rfl (Rd.lit [] rfl) (qn (qG (qz hf1)) qO) (by (try simp only [List.length_append, List.length_nil, List.length_cons, List.length_singleton]); omega) (by (try simp only [List.length_append, List.length_nil, List.length_cons, List.length_singleton]); omega) ?_)
   intro v6 hs3 hn2 hm2
   have hc3 := RowsC.snoc hc1 hf1
   refine cX (ql (0) qT rfl jb (by decide) rfl rfl (cX (jv [_, _] _ [v6] jb rfl rfl (qG hs3) rfl rfl rfl (qb (qa (qd (ii ((k : Int))) rfl (cX (qH (((k + 1 : Nat) : Int)) rfl rfl (by omega) (by omega) (qg (ii (((k + 1 : Nat) : Int))) rfl (qb ?_))))))))))
   exact ⟨(k + 1, v6, os ++ [(lk s (-1 - (k : Int)))], F1), _, (qh leG1 le1), rF, ⟨rfl, rfl, rfl, rfl, ⟨⟩⟩, (sD (coH.close hc3 (by first | rfl | simp) (sC (sC (sC sR))))), ⟨rfl, (qh leG1 le1), (hs3), (by dsimp only; rw [hos, plainGo_take (by omega), plainGo_other (by intro e; have e1 := congrArg List.length e; have e2 := congrArg (fun l => l.getD 0 0) e; simp only [List.length_singleton, List.getD_cons_zero] at e1 e2; omega)]), (by (try dsimp only) <;> omega)⟩, (by omega)⟩
  refine qx (t := 20) rfl (vF h2) (qx (t := 20) rfl (vF h2) (qx (t := 20) rfl (vF h2) (qx (t := 20) rfl (vF h2) (qx (t := 20) rfl (vF h2) (qx (t := 20) rfl (vF h2) (cX (qY (.bool (false)) (vF h2) rfl (qb (X.condF rfl (qw (qa ?_)))))))))))
  refine cX (ql (0) qT rfl jb (by decide) rfl rfl (cX (qj jC rfl (Rd.own [_] rfl rfl) (qd (v1) rfl (cX (qo (s := 1) [v1] [sN] [(0, [v1])] qv qs jD rfl (by decide) rfl (.cons (cells_one (qz hf1)) CellsAre.nil) rfl ?_))))))
  intro v7 hv4
  refine cX (jG (m := 1) (bytes := 24) (cs := cs1) [_] _ [v1] qv typeInfo22 rfl rfl rfl rfl rfl rfl rfl (SlV.own [] rfl) rfl (Rd.lit [] rfl) (qn (qG (qz hf1)) qO) (by (try simp only [List.length_append, List.length_nil, List.length_cons, List.length_singleton]); omega) (by (try simp only [List.length_append, List.length_nil, List.length_cons, List.length_singleton]); omega) ?_)
  intro v8 hs4 hn3 hm3
  have hc4 := RowsC.snoc hc1 hf1
  refine cX (ql (0) qT rfl jb (by decide) rfl rfl (cX (jv [_, _] _ [v8] jb rfl rfl (qG hs4) rfl rfl rfl (qb (qa (qd (ii ((k : Int))) rfl (cX (qH (((k + 1 : Nat) : Int)) rfl rfl (by omega) (by omega) (qg (ii (((k + 1 : Nat) : Int))) rfl (qb ?_))))))))))
  exact ⟨(k + 1, v8, os ++ [(lk s (-1 - (k : Int)))], F1), _, (qh leG1 le1), rF, ⟨rfl, rfl, rfl, rfl, ⟨⟩⟩, (sD (coH.close hc4 (by first | rfl | simp) (sC (sC (sC sR))))), ⟨rfl, (qh leG1 le1), (hs4), (by dsimp only; rw [hos, plainGo_take (by omega), plainGo_other (by intro e; have e1 := congrArg List.length e; have e2 := congrArg (fun l => l.getD 0 0) e; simp only [List.length_singleton, List.getD_cons_zero] at e1 e2; omega)]), (by (try dsimp only) <;> omega)⟩, (by omega)⟩
 refine jk (qt (qt (qM (qc (qK (jl (α := Value × RowL × FH) (fun xQ => [(2, ptr b2 0), (3, ptr b3 0)]) (fun xQ => rowsH 22 xQ.2.2 xQ.1 xQ.2.1 :: cellsH b3 [xQ.1] 137 :: cellsH b2 [sN] 137 :: cellsH b1 [sv] 137 :: L) (fun xQ F' => xQ.2.2 = F' ∧ G1 ≤ xQ.2.2 ∧ (IsSl xQ.1) ∧ (trim xQ.2.1 = plainL s) ∧ (xQ.2.1.length ≤ 24)) (fun xQ => xQ.2.1.length) (ov, os, G1) ⟨rfl, rfl, ⟨⟩⟩ (coH.close hc1 (by first | rfl | simp) (sC (sC (sC sR)))) ⟨rfl, FLe.refl _, (hov), (by dsimp only; rw [hos, plainL, List.take_of_length_le (by rw [plainGo_length]; omega)]), (by dsimp only; rw [hos, List.length_take, plainGo_length]; omega)⟩ ?_))))))
 rintro ⟨ov2, os2, G2⟩ rE _ _ ⟨rfl, leG, hov2, hos2, hl2⟩
 show X _ _ _ _ (envs [(2, ptr b2 0), (3, ptr b3 0)] rE) _ (rowsH 22 G2 ov2 os2 :: cellsH b3 [ov2] 137 :: cellsH b2 [sN] 137 :: cellsH b1 [sv] 137 :: L)
 replace leG : G1 ≤ G2 := leG
 dsimp only at hov2 hos2 hl2
 have leG2 := leG
 refine X.open [] rfl (fun cs2 hc5 => ?_)
 replace hc5 : RowsC G2 cs2 os2 := hc5
 refine qc (qc (qa (cX (ql (0) qT rfl jb (by decide) rfl rfl (cX (qj jC rfl (Rd.own [_] rfl rfl) (cX (qE qv rfl (SlV.own [] rfl) (cX (jI rfl rfl (qd (.bool (decide (((os2.length : Int) : Int) > 0))) rfl ?_)))))))))))
 by_cases h4 : ((os2.length : Int) : Int) > 0
 ·refine qy (t := 39) rfl (vT h4) (ql (0) qT rfl jb (by decide) rfl rfl (qy (t := 39) rfl (vT h4) (qj jC rfl (Rd.own [_] rfl rfl) (qy (t := 39) rfl (vT h4) (ql (0) qT rfl jb (by decide) rfl rfl (qy (t := 39) rfl (vT h4) (qj jC rfl (Rd.own [_] rfl rfl) (qy (t := 39) rfl (vT h4) (qE qv rfl (SlV.own [] rfl) (qy (t := 39) rfl (vT h4) (jq (((os2.length - 1 : Nat) : Int)) rfl rfl (by omega) (by omega) (qy (t := 39) rfl (vT h4) (qD (os2.length - 1) qv qs rfl rfl rfl (SlV.own [] rfl) (by omega) (Nat.mul_one _) ?_)))))))))))))
  obtain ⟨a1, ha1, he1⟩ := hc5.get (i := os2.length - 1) (by omega)
  refine qy (t := 39) rfl (vT h4) (qj qU rfl (Rd.sl [] rfl he1) (qy (t := 39) rfl (vT h4) (qE qf rfl ha1.slv (qy (t := 39) rfl (vT h4) (js rfl rfl (cX (jj (.bool (decide ((((((os2.getD (os2.length - 1) [])).length : Nat) : Int) : Int) = 0))) (vT h4) rfl (qb ?_))))))))
  refine qA (p := (((((os2.getD (os2.length - 1) [])).length : Nat) : Int) : Int) = 0) rfl (fun h5 => ?_) (fun h5 => ?_)
  ·refine qw (qK (qa (cX (ql (0) qT rfl jb (by decide) rfl rfl (cX (qj jC rfl (Rd.own [_] rfl rfl) (cX (ql (0) qT rfl jb (by decide) rfl rfl (cX (qj jC rfl (Rd.own [_] rfl rfl) (cX (qE qv rfl (SlV.own [] rfl) (cX (jq (((os2.length - 1 : Nat) : Int)) rfl rfl (by omega) (by omega) (cX (XOp.sliceOwn (cs := cs2) [] _ (os2.length - 1) qv qs rfl rfl ⟨_, rfl⟩ (by omega) ?_))))))))))))))))
   intro v9 hs5
   have hc6 : RowsC G2 _ _ := CO.take hc5 (k := os2.length - 1) (by omega)
   refine cX (ql (0) qT rfl jb (by decide) rfl rfl (cX (jv [_] _ [v9] jb rfl rfl (qG hs5) rfl rfl rfl (qb ?_))))
   exact ⟨(v9, (os2.take (os2.length - 1)), G2), _, leG2, rF, ⟨rfl, rfl, ⟨⟩⟩, (coH.close hc6 (by first | rfl | simp) (sC (sC (sC sR)))), ⟨rfl, leG2, (hs5), (by dsimp only; rw [trim_cut (by omega) (List.eq_nil_of_length_eq_zero (by omega))]; exact hos2), (by dsimp only; rw [List.length_take]; omega)⟩, (by dsimp only; rw [List.length_take]; omega)⟩
  refine jk (qt (qt (qM (qc (qa (cX (qr [ov2] jR jo rfl rfl (Rd.ownN [_] rfl rfl) (cX (qL [_, _] _ [ov2] jo rfl rfl rfl (qn (qG hov2) qO) rfl rfl rfl (qb (qQ [] _ _ rfl (fun F3 le3 hz3 => ?_))))))))))))
  replace hc5 := hc5.mono le3
  have hf3 : RowsF F3 ov2 os2 := CO.fz hc5 (by first | rfl | omega | (rw [List.length_set]; omega) | (simp; done)) hz3.fz
  refine qu (qq (L' := L) [.agg #[ov2]] (.agg #[ov2]) (.cell rfl (ju [ov2] jR jo rfl (Rd.ownN [_] rfl rfl)) .nil) rfl (qh (qh leG1 leG2) le3) rF (sD (sD (sD sR))) ?_)
  have e : os2 = plainL s := by rw [← hos2]; exact (trim_last (fun h0 e => by have := congrArg List.length e; simp only [List.length_nil] at this; omega)).symm
  exact ⟨_, rfl, by rw [← e]; exact hf3, rfl⟩
 refine qx (t := 39) rfl (vF h4) (qx (t := 39) rfl (vF h4) (qx (t := 39) rfl (vF h4) (qx (t := 39) rfl (vF h4) (qx (t := 39) rfl (vF h4) (qx (t := 39) rfl (vF h4) (qx (t := 39) rfl (vF h4) (qx (t := 39) rfl (vF h4) (qx (t := 39) rfl (vF h4) (qx (t := 39) rfl (vF h4) ?_)))))))))
 refine cX (qY (.bool (false)) (vF h4) rfl (qb (X.condF rfl (jk (qt (qt (qM (qc (qa (cX (qr [ov2] jR jo rfl rfl (Rd.ownN [_] rfl rfl) (cX (qL [_, _] _ [ov2] jo rfl rfl rfl (qn (qG hov2) qO) rfl rfl rfl (qb (qQ [] _ _ rfl (fun F4 le4 hz4 => ?_))))))))))))))))
 replace hc5 := hc5.mono le4
 have hf4 : RowsF F4 ov2 os2 := CO.fz hc5 (by first | rfl | omega | (rw [List.length_set]; omega) | (simp; done)) hz4.fz
 refine qu (qq (L' := L) [.agg #[ov2]] (.agg #[ov2]) (.cell rfl (ju [ov2] jR jo rfl (Rd.ownN [_] rfl rfl)) .nil) rfl (qh (qh leG1 leG2) le4) rF (sD (sD (sD sR))) ?_)
 have e : os2 = plainL s := by rw [← hos2]; exact (trim_last (fun h0 e => by have := congrArg List.length e; simp only [List.length_nil] at this; omega)).symm
 exact ⟨_, rfl, by rw [← e]; exact hf4, rfl⟩

/- spec.l4Match -/
theorem l4Match_spec {F : FH} {L : List HP} {arv : Value} {ar : List Int} (har : IntsF F arv ar) {pv : Value} {p : List Int} (hp : IntsF F pv p) {tv : Value} {t : List Int} (ht : IntsF F tv t) (ho : termOk ar t = true) (hpo : termOk ar p = true) :
    Does prog 216 [.agg #[arv], pv, tv] F (L) (fun v F' L' => ∃ (a : Value), (.tuple #[.agg #[a], .bool ((matchB ar p t).isSome)] : Value) = v ∧ (RowsF F' a (matchP ar p t)) ∧ L = L') := by
 refine qI func216 rfl rfl rfl ?_
 have hpl := termOk_len hpo
 have hpg := fun k (hk : k < p.length) => termOk_ge hpo hk
 have htl := termOk_len ho
 have hsl := sigOk_spec (termOk_sig ho)
 refine qc (qa (cX (jc [arv] rfl rfl ?_)))
 intro b1
 refine cX (ji [sN] jB rfl ?_)
 intro b2
 refine qg (.bool (false)) rfl (qb (qc (qa (cX (XOp.makeSlice (n := 24) (bytes := 24) [sN] qv qs typeInfo22 rfl jD rfl rfl rfl rfl (by omega) (by omega) ?_)))))
 intro v1 hv1
 rw [nils]
 have hc1 : RowsC F _ _ := RowsC.nils 24
 refine cX (jh [v1] [sN] [(0, 1)] [(0, [v1])] qT jB rfl (.cons rfl jb PlacesAre.nil) rfl (.cons (cells_one (qN hv1)) CellsAre.nil) (cX (ji [sN] jB rfl ?_)))
 intro b3
 refine cX (qL [] _ [v1] jo rfl rfl rfl (qn (qG (qN hv1)) qO) rfl rfl rfl (qb (qc (qa (qg (ii (0)) rfl (qb (qc (qc (qa (qg (ii (0)) rfl (qb (qK (jl (α := Nat × Nat × RowL × FH) (fun xQ => [(1, pv), (2, tv), (3, ptr b1 0), (6, ptr b2 0), (8, ptr b3 0), (9, ii (((xQ.2.1 : Nat) : Int))), (10, ii (((xQ.1 : Nat) : Int)))]) (fun xQ => cellsH b3 [v1] 137 :: rowsH 22 xQ.2.2.2 v1 xQ.2.2.1 :: cellsH b2 [sN] 137 :: cellsH b1 [arv] 36 :: L) (fun xQ F' => xQ.2.2.2 = F' ∧ F ≤ xQ.2.2.2 ∧ (xQ.2.2.1.length = 24) ∧ (xQ.1 ≤ p.length) ∧ (xQ.2.1 ≤ t.length) ∧ (matchB ar p t = mGo ar t (p.drop xQ.1) xQ.2.1 xQ.2.2.1)) (fun xQ => p.length - xQ.1) (0, 0, (List.replicate 24 [] : List (List Int)), F) ⟨rfl, rfl, rfl, rfl, rfl, rfl, rfl, ⟨⟩⟩ (sC (coH.close hc1 (by first | rfl | simp) (sC (sC sR)))) ⟨rfl, FLe.refl _, (by simp), (by (try dsimp only) <;> omega), (by (try dsimp only) <;> omega), (rfl)⟩ ?_)))))))))))))
 rintro ⟨k, i, bl, G1⟩ rE _ _ ⟨rfl, leG, hbl, hk, hi, hm⟩
 show X _ _ _ _ (envs [(1, pv), (2, tv), (3, ptr b1 0), (6, ptr b2 0), (8, ptr b3 0), (9, ii ((i : Int))), (10, ii ((k : Int)))] rE) _ (cellsH b3 [v1] 137 :: rowsH 22 G1 v1 bl :: cellsH b2 [sN] 137 :: cellsH b1 [arv] 36 :: L)
 replace leG : F ≤ G1 := leG
 dsimp only at hbl hk hi hm
 have hpk := hpg k
 have hsl2 := fun h => sub_length (p := i) ho h
 have hee := fun h => endN_spec (p := i) ho h
 have leG1 := leG
 replace har := har.mono leG1
 replace hp := hp.mono leG1
 replace ht := ht.mono leG1
 refine X.open [_] rfl (fun cs1 hc2 => ?_)
 replace hc2 : RowsC G1 cs1 bl := hc2
 refine qc (qc (qa (qd (ii ((k : Int))) rfl (qd (pv) rfl (cX (qE qf rfl hp.slv (cX (qW rfl rfl (qb ?_)))))))))
 refine qA (p := (k : Int) < (p.length : Int)) rfl (fun h1 => ?_) (fun h1 => ?_)
 ·refine qw (qc (qK (qc (qc (qa (qd (ii ((i : Int))) rfl (qd (tv) rfl (cX (qE qf rfl ht.slv (cX (jQ rfl rfl (qb ?_))))))))))))
  refine qA (p := (i : Int) ≥ (t.length : Int)) rfl (fun h2 => ?_) (fun h2 => ?_)
  ·refine qc (qa (cX (jh [sN] [sN] [(0, 1)] [] qT jB rfl (.cons rfl jb PlacesAre.nil) rfl CellsAre.nil (cX (qL [_, _] _ [sN] jo rfl rfl rfl (qn rfl qO) rfl rfl rfl (qg (.bool (false)) rfl (qb (qu (qk (qC (qk (qk (qC (qk (qq (L' := L) [.agg #[sN], .bool (false)] (.tuple #[.agg #[sN], .bool (false)]) (.cell rfl (ju [sN] jR jo rfl (Rd.ownN [_, _] rfl rfl)) (.tmp rfl .nil)) rfl leG1 rF (sD (sD (sD (sD sR)))) ?_)))))))))))))))
   have hz : matchB ar p t = none := hm.trans (mGo_short (by omega) (by omega))
   exact ⟨_, by rw [hz]; rfl, by rw [matchP, hz]; exact SlOf.nilV, rfl⟩
  refine qw (qc (qc (qa (qd (pv) rfl (qd (ii ((k : Int))) rfl (cX (qD k qf qB rfl rfl rfl hp.slv (by omega) (Nat.mul_one _) (cX (qj jm rfl (hp.rd (by omega)) (cX (jQ rfl rfl (qb ?_))))))))))))
  refine qA (p := (p.getD k 0 : Int) ≥ 0) rfl (fun h3 => ?_) (fun h3 => ?_)
  ·refine qc (qc ?_)
   refine jY [cellsH b3 [v1] 137, slH 22 1 v1 ((bl).length) cs1, cellsH b2 [sN] 137, cellsH b1 [arv] 36] L 8 [] [[], [], [0, 1], [2], [], [], [4, 5], [6]] (phiL [qe pv, qe (ii ((k : Int)) : Value), qe (.pointer (some (elemA pv (k)))), qe (ii (p.getD k 0)), qe tv, qe (ii ((i : Int)) : Value), qe (.pointer (some (elemA tv (i)))), qe (ii (t.getD i 0))]) (ownL []) mixed rfl rfl (by kernel_rfl) ?_ ?_
   ·refine pD (fun W R z9 => ?_) ?_
    ·refine qi (qp (pv) rfl ?_)
     exact ⟨rfl, rfl, rfl⟩
    refine pD (fun W R z9 => ?_) ?_
    ·refine qi (qp (ii ((k : Int))) rfl ?_)
     exact ⟨rfl, rfl, rfl⟩
    refine pD (fun W R z9 => ?_) ?_
    ·rw [eS (l := [(0, _), (1, _)]) ⟨z9 0 rfl, z9 1 rfl, ⟨⟩⟩]
     refine qi (qD k qf qB rfl rfl rfl hp.slv (by omega) (Nat.mul_one _) ?_)
     exact ⟨rfl, rfl, rfl⟩
    refine pD (fun W R z9 => ?_) ?_
    ·rw [eS (l := [(2, _)]) ⟨z9 2 rfl, ⟨⟩⟩]
     refine qi (qj jm rfl (hp.rd (by omega)) ?_)
     exact ⟨rfl, rfl, rfl⟩
    refine pD (fun W R z9 => ?_) ?_
    ·refine qi (qp (tv) rfl ?_)
     exact ⟨rfl, rfl, rfl⟩
    refine pD (fun W R z9 => ?_) ?_
    ·refine qi (qp (ii ((i : Int))) rfl ?_)
     exact ⟨rfl, rfl, rfl⟩
    refine pD (fun W R z9 => ?_) ?_
    ·rw [eS (l := [(4, _), (5, _)]) ⟨z9 4 rfl, z9 5 rfl, ⟨⟩⟩]
     refine qi (qD i qf qB rfl rfl rfl ht.slv (by omega) (Nat.mul_one _) ?_)
     exact ⟨rfl, rfl, rfl⟩
    refine pD (fun W R z9 => ?_) ?_
    ·rw [eS (l := [(6, _)]) ⟨z9 6 rfl, ⟨⟩⟩]
     refine qi (qj jm rfl (ht.rd (by omega)) ?_)
     exact ⟨rfl, rfl, rfl⟩
    exact stepsP.nil
   intro W hphi
   rw [eS (l := [(3, _), (7, _)]) ⟨(hphi 3 (by decide)), (hphi 7 (by decide)), ⟨⟩⟩]
   show XL _ _ _ _ _ _ _ (cellsH b3 [v1] 137 :: slH 22 1 v1 ((bl).length) cs1 :: cellsH b2 [sN] 137 :: cellsH b1 [arv] 36 :: L)
   refine cX (XOp.neq rfl rfl (qb ?_))
   refine qA (p := (p.getD k 0 : Int) ≠ t.getD i 0) rfl (fun h4 => ?_) (fun h4 => ?_)
   ·refine qc (qa (cX (jh [sN] [sN] [(0, 1)] [] qT jB rfl (.cons rfl jb PlacesAre.nil) rfl CellsAre.nil (cX (qL [_, _] _ [sN] jo rfl rfl rfl (qn rfl qO) rfl rfl rfl (qg (.bool (false)) rfl (qb (qu (qk (qk (qC (qk (qk (qC (qk (qq (L' := L) [.agg #[sN], .bool (false)] (.tuple #[.agg #[sN], .bool (false)]) (.cell rfl (ju [sN] jR jo rfl (Rd.ownN [_, _] rfl rfl)) (.tmp rfl .nil)) rfl leG1 rF (sD (sD (sD (sD sR)))) ?_))))))))))))))))
    have hz : matchB ar p t = none := hm.trans (mGo_ne (by omega) (by omega) (by omega) (by omega))
    exact ⟨_, by rw [hz]; rfl, by rw [matchP, hz]; exact SlOf.nilV, rfl⟩
   refine qw (qc (qa (qd (ii ((i : Int))) rfl (cX (qH (((i + 1 : Nat) : Int)) rfl rfl (by omega) (by omega) (qg (ii (((i + 1 : Nat) : Int))) rfl (qb (jk (qt (qM (qa (qd (ii ((k : Int))) rfl (cX (qH (((k + 1 : Nat) : Int)) rfl rfl (by omega) (by omega) (qg (ii (((k + 1 : Nat) : Int))) rfl ?_)))))))))))))))
   refine qb ?_
   exact ⟨(k + 1, i + 1, bl, G1), _, leG1, rF, ⟨rfl, rfl, rfl, rfl, rfl, rfl, rfl, ⟨⟩⟩, (sC (coH.close hc2 (by first | rfl | simp) (sC (sC sR)))), ⟨rfl, leG1, (by (try dsimp only); (try simp only [List.length_set]) <;> omega), (by (try dsimp only) <;> omega), (by (try dsimp only) <;> omega), (hm.trans (mGo_sym (by omega) (by omega) (by omega) (by omega)))⟩, (by omega)⟩
  refine qw (qc (qa (cX (qr [arv] qX qF rfl rfl (Rd.ownN [_, _, _] rfl rfl) (qd (tv) rfl (qd (ii ((i : Int))) rfl (cX (jZ <| qm (args := [.agg #[arv], tv, ii (i : Int)]) call150 rfl (l1Sub_spec (p := i) har ht (ho := (by first | assumption | rfl | omega | simp)) (hp := (by first | assumption | rfl | omega | simp))) ?_))))))))
  rintro v2 _ _ _ ⟨rfl, hs1, rfl⟩
  refine ⟨_, _, rfl, fun F1 le1 hz1 => ?_⟩
  replace hp := hp.mono le1
  replace hc2 := hc2.mono le1
  have hf1 : IntsF F1 v2 ((sub ar t i)) := intsH.fz (xs := (sub ar t i)) hz1.fz
  refine qg (v2) rfl (qb (qc ?_))
  refine jY [cellsH b3 [v1] 137, slH 22 1 v1 ((bl).length) cs1, cellsH b2 [sN] 137, cellsH b1 [arv] 36] L 7 [] [[], [0], [], [], [2, 3], [4], [5]] (phiL [qe (ptr b3 0), qe v1, qe pv, qe (ii ((k : Int)) : Value), qe (.pointer (some (elemA pv (k)))), qe (ii (p.getD k 0)), qe (ii ((-1) - (p.getD k 0)))]) (ownL []) mixed rfl rfl (by kernel_rfl) ?_ ?_
  ·refine pD (fun W R z9 => ?_) ?_
   ·refine qi (ql (0) qT rfl jb (by decide) rfl rfl ?_)
    exact ⟨rfl, rfl, rfl⟩
   refine pD (fun W R z9 => ?_) ?_
   ·rw [eS (l := [(0, _)]) ⟨z9 0 rfl, ⟨⟩⟩]
    refine qi (qj jC rfl (Rd.own [] rfl rfl) ?_)
    exact ⟨rfl, rfl, rfl⟩
   refine pD (fun W R z9 => ?_) ?_
   ·refine qi (qp (pv) rfl ?_)
    exact ⟨rfl, rfl, rfl⟩
   refine pD (fun W R z9 => ?_) ?_
   ·refine qi (qp (ii ((k : Int))) rfl ?_)
    exact ⟨rfl, rfl, rfl⟩
   refine pD (fun W R z9 => ?_) ?_
   ·rw [eS (l := [(2, _), (3, _)]) ⟨z9 2 rfl, z9 3 rfl, ⟨⟩⟩]
    refine qi (qD k qf qB rfl rfl rfl hp.slv (by omega) (Nat.mul_one _) ?_)
    exact ⟨rfl, rfl, rfl⟩
   refine pD (fun W R z9 => ?_) ?_
   ·rw [eS (l := [(4, _)]) ⟨z9 4 rfl, ⟨⟩⟩]
    refine qi (qj jm rfl (hp.rd (by omega)) ?_)
    exact ⟨rfl, rfl, rfl⟩
   refine pD (fun W R z9 => ?_) ?_
   ·rw [eS (l := [(5, _)]) ⟨z9 5 rfl, ⟨⟩⟩]
    refine qi (jq ((-1) - (p.getD k 0)) rfl rfl (by omega) (by omega) ?_)
    exact ⟨rfl, rfl, rfl⟩
   exact stepsP.nil
  intro W hphi
  rw [eS (l := [(1, _), (6, _)]) ⟨(hphi 1 (by decide)), (hphi 6 (by decide)), ⟨⟩⟩]
  show XL _ _ _ _ _ _ _ (cellsH b3 [v1] 137 :: slH 22 1 v1 ((bl).length) cs1 :: cellsH b2 [sN] 137 :: cellsH b1 [arv] 36 :: L)
  refine cX (qD (((-1) - (p.getD k 0)).toNat) qv qs rfl rfl (by omega) (SlV.own [_] rfl) (by omega) (Nat.mul_one _) ?_)
  obtain ⟨a1, ha1, he1⟩ := hc2.get (i := ((-1) - (p.getD k 0)).toNat) (by omega)
  refine cX (qj qU rfl (Rd.sl [_] rfl he1) (qg (a1) rfl (qb (qc (qc (qa (qd (a1) rfl (cX (qE qf rfl ha1.slv (cX (jI rfl rfl (qd (.bool (decide ((((((bl.getD (((-1) - (p.getD k 0)).toNat) [])).length : Nat) : Int) : Int) > 0))) rfl ?_))))))))))))
  by_cases h5 : (((((bl.getD (((-1) - (p.getD k 0)).toNat) [])).length : Nat) : Int) : Int) > 0
  ·refine qy (t := 59) rfl (vT h5) (qp (a1) rfl (qy (t := 59) rfl (vT h5) (qp (v2) rfl (qy (t := 59) rfl (vT h5) (qm (args := [a1, v2]) call32 rfl (SameTerm_spec ha1 hf1 (hbd := (by first | assumption | rfl | omega | (left; simp; done) | (right; simp; done)))) ?_)))))
   rintro _ _ _ _ ⟨rfl, rfl, rfl⟩
   refine qy (t := 59) rfl (vT h5) (XOp.notD rfl (cX (jj (.bool (decide (¬(((bl.getD (((-1) - (p.getD k 0)).toNat) [])) = ((sub ar t i)))))) (vT h5) rfl (qb ?_))))
   refine qA (p := ¬(((bl.getD (((-1) - (p.getD k 0)).toNat) [])) = ((sub ar t i)))) rfl (fun h6 => ?_) (fun h6 => ?_)
   ·refine qc (qa (cX (jh [sN] [sN] [(0, 1)] [] qT jB rfl (.cons rfl jb PlacesAre.nil) rfl CellsAre.nil (cX (qL [_, _] _ [sN] jo rfl rfl rfl (qn rfl qO) rfl rfl rfl (qg (.bool (false)) rfl (qb (qu (qk (qC (qk (qk (qC (qk (qq (L' := L) [.agg #[sN], .bool (false)] (.tuple #[.agg #[sN], .bool (false)]) (.cell rfl (ju [sN] jR jo rfl (Rd.ownN [_, _] rfl rfl)) (.tmp rfl .nil)) rfl (qh leG1 le1) rF (sD (sD (sD (sD sR)))) ?_)))))))))))))))
    have hz : matchB ar p t = none := hm.trans (mGo_clash (by omega) (by omega) (by omega) (by intro e; have := congrArg List.length (show bl.getD (-1 - p.getD k 0).toNat [] = [] from e); simp only [List.length_nil] at this; omega) (by assumption))
    exact ⟨_, by rw [hz]; rfl, by rw [matchP, hz]; exact SlOf.nilV, rfl⟩
   refine qw (qc ?_)
   refine jY [cellsH b3 [v1] 137, slH 22 1 v1 ((bl).length) cs1, cellsH b2 [sN] 137, cellsH b1 [arv] 36] L 8 [] [[], [0], [], [], [2, 3], [4], [5]] (phiL [qe (ptr b3 0), qe v1, qe pv, qe (ii ((k : Int)) : Value), qe (.pointer (some (elemA pv (k)))), qe (ii (p.getD k 0)), qe (ii ((-1) - (p.getD k 0))), qe v2]) (ownL []) mixed rfl rfl (by kernel_rfl) ?_ ?_
   ·refine pD (fun W R z9 => ?_) ?_
    ·refine qi (ql (0) qT rfl jb (by decide) rfl rfl ?_)
     exact ⟨rfl, rfl, rfl⟩
    refine pD (fun W R z9 => ?_) ?_
    ·rw [eS (l := [(0, _)]) ⟨z9 0 rfl, ⟨⟩⟩]
     refine qi (qj jC rfl (Rd.own [] rfl rfl) ?_)
     exact ⟨rfl, rfl, rfl⟩
    refine pD (fun W R z9 => ?_) ?_
    ·refine qi (qp (pv) rfl ?_)
     exact ⟨rfl, rfl, rfl⟩
    refine pD (fun W R z9 => ?_) ?_
    ·refine qi (qp (ii ((k : Int))) rfl ?_)
     exact ⟨rfl, rfl, rfl⟩
    refine pD (fun W R z9 => ?_) ?_
    ·rw [eS (l := [(2, _), (3, _)]) ⟨z9 2 rfl, z9 3 rfl, ⟨⟩⟩]
     refine qi (qD k qf qB rfl rfl rfl hp.slv (by omega) (Nat.mul_one _) ?_)
     exact ⟨rfl, rfl, rfl⟩
    refine pD (fun W R z9 => ?_) ?_
    ·rw [eS (l := [(4, _)]) ⟨z9 4 rfl, ⟨⟩⟩]
     refine qi (qj jm rfl (hp.rd (by omega)) ?_)
     exact ⟨rfl, rfl, rfl⟩
    refine pD (fun W R z9 => ?_) ?_
    ·rw [eS (l := [(5, _)]) ⟨z9 5 rfl, ⟨⟩⟩]
     refine qi (jq ((-1) - (p.getD k 0)) rfl rfl (by omega) (by omega) ?_)
     exact ⟨rfl, rfl, rfl⟩
    refine pD (fun W R z9 => ?_) ?_
    ·refine qi (qp (v2) rfl ?_)
     exact ⟨rfl, rfl, rfl⟩
    exact stepsP.nil
   intro W hphi
   rw [eS (l := [(1, _), (6, _), (7, _)]) ⟨(hphi 1 (by decide)), (hphi 6 (by decide)), (hphi 7 (by decide)), ⟨⟩⟩]
   show XL _ _ _ _ _ _ _ (cellsH b3 [v1] 137 :: slH 22 1 v1 ((bl).length) cs1 :: cellsH b2 [sN] 137 :: cellsH b1 [arv] 36 :: L)
   refine cX (qD (((-1) - (p.getD k 0)).toNat) qv qs rfl rfl (by omega) (SlV.own [_] rfl) (by omega) (Nat.mul_one _) (cX (XOp.storeS (i := ((-1) - (p.getD k 0)).toNat) (cs := cs1) [_] _ qs rfl rfl (qG (qz hf1)) rfl (by have h9 := CO.len hc2; (try simp only [List.length_set, List.length_replicate] at h9 ⊢) <;> omega) ?_)))
   have hc3 := hc2.set (((-1) - (p.getD k 0)).toNat) hf1
   refine qb (qa (qd (ii ((i : Int))) rfl (qd (v2) rfl (cX (qE qf rfl hf1.slv (cX (qH (((i + (((sub ar t i)).length) : Nat) : Int)) rfl rfl (by omega) (by omega) (qg (ii (((i + (((sub ar t i)).length) : Nat) : Int))) rfl (qb (qa (qd (ii ((k : Int))) rfl (cX (qH (((k + 1 : Nat) : Int)) rfl rfl (by omega) (by omega) (qg (ii (((k + 1 : Nat) : Int))) rfl ?_))))))))))))))
   refine qb ?_
   exact ⟨(k + 1, i + (((sub ar t i)).length), (bl.set (((-1) - (p.getD k 0)).toNat) ((sub ar t i))), F1), _, (qh leG1 le1), rF, ⟨rfl, rfl, rfl, rfl, rfl, rfl, rfl, ⟨⟩⟩, (sC (coH.close hc3 (by first | rfl | simp) (sC (sC sR)))), ⟨rfl, (qh leG1 le1), (by (try dsimp only); (try simp only [List.length_set]) <;> omega), (by (try dsimp only) <;> omega), (by (try dsimp only) <;> omega), (hm.trans (m4_next (by omega) (by omega) (by omega) (by first | (left; exact List.eq_nil_of_length_eq_zero (show (bl.getD (-1 - p.getD k 0).toNat []).length = 0 by omega)) | (right; first | assumption | exact Classical.not_not.1 (by assumption)))))⟩, (by omega)⟩
  refine qx (t := 59) rfl (vF h5) (qx (t := 59) rfl (vF h5) (qx (t := 59) rfl (vF h5) (qx (t := 59) rfl (vF h5) (cX (qY (.bool (false)) (vF h5) rfl (qb (X.condF rfl (qw (qc ?_)))))))))
  refine jY [cellsH b3 [v1] 137, slH 22 1 v1 ((bl).length) cs1, cellsH b2 [sN] 137, cellsH b1 [arv] 36] L 8 [] [[], [0], [], [], [2, 3], [4], [5]] (phiL [qe (ptr b3 0), qe v1, qe pv, qe (ii ((k : Int)) : Value), qe (.pointer (some (elemA pv (k)))), qe (ii (p.getD k 0)), qe (ii ((-1) - (p.getD k 0))), qe v2]) (ownL []) mixed rfl rfl (by kernel_rfl) ?_ ?_
  ·refine pD (fun W R z9 => ?_) ?_
   ·refine qi (ql (0) qT rfl jb (by decide) rfl rfl ?_)
    exact ⟨rfl, rfl, rfl⟩
   refine pD (fun W R z9 => ?_) ?_
   ·rw [eS (l := [(0, _)]) ⟨z9 0 rfl, ⟨⟩⟩]
    refine qi (qj jC rfl (Rd.own [] rfl rfl) ?_)
    exact ⟨rfl, rfl, rfl⟩
   refine pD (fun W R z9 => ?_) ?_
   ·refine qi (qp (pv) rfl ?_)
    exact ⟨rfl, rfl, rfl⟩
   refine pD (fun W R z9 => ?_) ?_
   ·refine qi (qp (ii ((k : Int))) rfl ?_)
    exact ⟨rfl, rfl, rfl⟩
   refine pD (fun W R z9 => ?_) ?_
   ·rw [eS (l := [(2, _), (3, _)]) ⟨z9 2 rfl, z9 3 rfl, ⟨⟩⟩]
    refine qi (qD k qf qB rfl rfl rfl hp.slv (by omega) (Nat.mul_one _) ?_)
    exact ⟨rfl, rfl, rfl⟩
   refine pD (fun W R z9 => ?_) ?_
   ·rw [eS (l := [(4, _)]) ⟨z9 4 rfl, ⟨⟩⟩]
    refine qi (qj jm rfl (hp.rd (by omega)) ?_)
    exact ⟨rfl, rfl, rfl⟩
   refine pD (fun W R z9 => ?_) ?_
   ·rw [eS (l := [(5, _)]) ⟨z9 5 rfl, ⟨⟩⟩]
    refine qi (jq ((-1) - (p.getD k 0)) rfl rfl (by omega) (by omega) ?_)
    exact ⟨rfl, rfl, rfl⟩
   refine pD (fun W R z9 => ?_) ?_
   ·refine qi (qp (v2) rfl ?_)
    exact ⟨rfl, rfl, rfl⟩
   exact stepsP.nil
  intro W hphi
  rw [eS (l := [(1, _), (6, _), (7, _)]) ⟨(hphi 1 (by decide)), (hphi 6 (by decide)), (hphi 7 (by decide)), ⟨⟩⟩]
  show XL _ _ _ _ _ _ _ (cellsH b3 [v1] 137 :: slH 22 1 v1 ((bl).length) cs1 :: cellsH b2 [sN] 137 :: cellsH b1 [arv] 36 :: L)
  refine cX (qD (((-1) - (p.getD k 0)).toNat) qv qs rfl rfl (by omega) (SlV.own [_] rfl) (by omega) (Nat.mul_one _) (cX (XOp.storeS (i := ((-1) - (p.getD k 0)).toNat) (cs := cs1) [_] _ qs rfl rfl (qG (qz hf1)) rfl (by have h9 := CO.len hc2; (try simp only [List.length_set, List.length_replicate] at h9 ⊢) <;> omega) ?_)))
  have hc4 := hc2.set (((-1) - (p.getD k 0)).toNat) hf1
  refine qb (qa (qd (ii ((i : Int))) rfl (qd (v2) rfl (cX (qE qf rfl hf1.slv (cX (qH (((i + (((sub ar t i)).length) : Nat) : Int)) rfl rfl (by omega) (by omega) (qg (ii (((i + (((sub ar t i)).length) : Nat) : Int))) rfl (qb (qa (qd (ii ((k : Int))) rfl (cX (qH (((k + 1 : Nat) : Int)) rfl rfl (by omega) (by omega) (qg (ii (((k + 1 : Nat) : Int))) rfl ?_))))))))))))))
  refine qb ?_
  exact ⟨(k + 1, i + (((sub ar t i)).length), (bl.set (((-1) - (p.getD k 0)).toNat) ((sub ar t i))), F1), _, (qh leG1 le1), rF, ⟨rfl, rfl, rfl, rfl, rfl, rfl, rfl, ⟨⟩⟩, (sC (coH.close hc4 (by first | rfl | simp) (sC (sC sR)))), ⟨rfl, (qh leG1 le1), (by (try dsimp only); (try simp only [List.length_set]) <;> omega), (by (try dsimp only) <;> omega), (by (try dsimp only) <;> omega), (hm.trans (m4_next (by omega) (by omega) (by omega) (by first | (left; exact List.eq_nil_of_length_eq_zero (show (bl.getD (-1 - p.getD k 0).toNat []).length = 0 by omega)) | (right; first | assumption | exact Classical.not_not.1 (by assumption)))))⟩, (by omega)⟩
 refine jk (qt (qt (qM (qc (qa (cX (qr [v1] jR jo rfl rfl (Rd.ownN [] rfl rfl) ?_)))))))
 have hmb := (matchB_len (hm.trans (mGo_done (by omega)))).2
 refine jO [_] _ _ rfl (fun F2 le2 hz2 => ?_)
 replace hc2 := hc2.mono le2
 have hf2 : RowsF F2 v1 bl := CO.fz hc2 (by first | rfl | omega | (rw [List.length_set]; omega) | (simp; done)) hz2.fz
 refine cX (qm (args := [.agg #[v1]]) call183 rfl (l2Plain_spec hf2 (hsl := (by omega)) (hsb := (fun j => by have := hmb j; omega))) ?_)
 rintro _ F3 _ le3 ⟨x1, rfl, hr1, rfl⟩
 refine cX (qL [_] _ [x1] jo rfl rfl rfl (qn (qG (RowsF.isSl hr1)) qO) rfl rfl rfl (qg (.bool (true)) rfl (qb (qu (qq (L' := L) [.agg #[x1], .bool (true)] (.tuple #[.agg #[x1], .bool (true)]) (.cell rfl (ju [x1] jR jo rfl (Rd.ownN [_] rfl rfl)) (.tmp rfl .nil)) rfl (qh (qh leG1 le2) le3) rF (sD (sD (sD sR))) ?_)))))
 have hz : matchB ar p t = some bl := hm.trans (mGo_done (by omega))
 exact ⟨_, by rw [hz]; rfl, by rw [matchP, hz]; exact hr1, rfl⟩

/- spec.l7Right -/
theorem l7Right_spec {F : FH} {L : List HP} {arv : Value} {ar : List Int} (har : IntsF F arv ar) {rsv : Value} {rs : List (List Int × List Int)} (hrs : PairsF F rsv rs) {tv : Value} {t : List Int} (ht : IntsF F tv t) (hla : ar.length ≤ 4000000) (hlr : rs.length ≤ 4000000) (hrb : ∀ i, i < rs.length → (rs.getD i ([], [])).1.length ≤ 4000000 ∧ (rs.getD i ([], [])).2.length ≤ 4000000) (hlt : t.length ≤ 4000000) :
    Does prog 107 [.agg #[arv, rsv], tv] F (L) (fun v F' L' => (.bool (rightB ar rs t) : Value) = v ∧ F = F' ∧ L = L') := by
 refine qI func107 rfl rfl rfl (qc (qa (cX (jc [arv, rsv] rfl rfl ?_))))
 intro b1
 refine qg (.bool (false)) rfl (qb (qc (qa (cX (qr [arv, rsv] ja qP rfl rfl (Rd.ownN [] rfl rfl) (cX (qm (args := [.agg #[arv, rsv]]) call82 rfl (sSystemOk_spec har hrs (hla := (by first | assumption | rfl | omega | simp)) (hlr := (by first | assumption | rfl | omega | simp)) (hrb := (by first | assumption | rfl | omega | simp))) ?_)))))))
 rintro _ _ _ _ ⟨rfl, rfl, rfl⟩
 refine qd (.bool (sysOk ar rs)) rfl ?_
 by_cases h1 : (sysOk ar rs) = true
 ·refine qy (t := 7) rfl (vB h1) (ql (0) qJ rfl qF (by decide) rfl rfl (qy (t := 7) rfl (vB h1) (qr [arv] qX qF rfl rfl (Rd.ownN [] rfl rfl) (qy (t := 7) rfl (vB h1) (qp (tv) rfl (qy (t := 7) rfl (vB h1) (qm (args := [.agg #[arv], tv]) call202 rfl (sTermOk_spec har ht (hla := (by first | assumption | rfl | omega | simp)) (hlt := (by first | assumption | rfl | omega | simp))) ?_)))))))
  rintro _ _ _ _ ⟨rfl, rfl, rfl⟩
  refine cX (jj (.bool (termOk ar t)) (vB h1) rfl (qg (.bool (termOk ar t)) rfl (qb (qu (qq (L' := L) [.bool (termOk ar t)] (.bool (termOk ar t)) (.tmp rfl .nil) rfl rF rF (sD sR) ?_)))))
  exact ⟨(vB (by rw [rightB]; simp_all)), rfl, rfl⟩
 rw [Bool.not_eq_true] at h1
 refine qx (t := 7) rfl (vB h1) (qx (t := 7) rfl (vB h1) (qx (t := 7) rfl (vB h1) (qx (t := 7) rfl (vB h1) (cX (qY (.bool (false)) (vB h1) rfl (qg (.bool (false)) rfl (qb (qu (qq (L' := L) [.bool (false)] (.bool (false)) (.tmp rfl .nil) rfl rF rF (sD sR) ?_)))))))))
 exact ⟨(vB (by rw [rightB]; simp_all)), rfl, rfl⟩

/- impl.strategyOk -/
theorem strategyOk_spec {F : FH} {L : List HP} {arv : Value} {ar : List Int} (har : IntsF F arv ar) {rsv : Value} {rs : List (List Int × List Int)} (hrs : PairsF F rsv rs) {tv : Value} {t : List Int} (ht : IntsF F tv t) {st : Int} :
    Does prog 135 [.agg #[arv, rsv], tv, ii (st)] F (L) (fun v F' L' => (.bool ((rightB ar rs t && decide (1 ≤ st ∧ st ≤ 3))) : Value) = v ∧ F = F' ∧ L = L') := by
 refine qI func135 rfl rfl rfl (qc (qa (cX (jc [arv, rsv] rfl rfl ?_))))
 intro b1
 refine qg (.bool (false)) rfl (qb (qc (qa (cX (qr [arv, rsv] ja qP rfl rfl (Rd.ownN [] rfl rfl) (cX (qm (args := [.agg #[arv, rsv]]) call172 rfl (SystemOk_spec har hrs) ?_)))))))
 rintro _ _ _ _ ⟨rfl, rfl, rfl⟩
 refine qd (.bool (sysOk ar rs)) rfl ?_
 by_cases h1 : (sysOk ar rs) = true
 ·refine qy (t := 9) rfl (vB h1) (ql (0) qJ rfl qF (by decide) rfl rfl (qy (t := 9) rfl (vB h1) (qr [arv] qX qF rfl rfl (Rd.ownN [] rfl rfl) (qy (t := 9) rfl (vB h1) (qp (tv) rfl (qy (t := 9) rfl (vB h1) (qm (args := [.agg #[arv], tv]) call112 rfl (TermOk_spec har ht) ?_)))))))
  rintro _ _ _ _ ⟨rfl, rfl, rfl⟩
  refine cX (jj (.bool (termOk ar t)) (vB h1) rfl (qd (.bool (termOk ar t)) rfl ?_))
  by_cases h2 : (termOk ar t) = true
  ·refine qy (t := 15) rfl (vB h2) (qp (ii (st)) rfl (qy (t := 15) rfl (vB h2) (jQ rfl rfl (cX (jj (.bool (decide ((st : Int) ≥ 1))) (vB h2) rfl (qd (.bool (decide ((st : Int) ≥ 1))) rfl ?_))))))
   by_cases h3 : (st : Int) ≥ 1
   ·refine qy (t := 19) rfl (vT h3) (qp (ii (st)) rfl (qy (t := 19) rfl (vT h3) (XOp.leq rfl rfl (cX (jj (.bool (decide ((st : Int) ≤ 3))) (vT h3) rfl (qg (.bool (decide ((st : Int) ≤ 3))) rfl (qb (qu (qq (L' := L) [.bool (decide ((st : Int) ≤ 3))] (.bool (decide ((st : Int) ≤ 3))) (.tmp rfl .nil) rfl rF rF (sD sR) ?_)))))))))
    exact ⟨(vB (by simp_all [rightB] <;> omega)), rfl, rfl⟩
   refine qx (t := 19) rfl (vF h3) (qx (t := 19) rfl (vF h3) (cX (qY (.bool (false)) (vF h3) rfl (qg (.bool (false)) rfl (qb (qu (qq (L' := L) [.bool (false)] (.bool (false)) (.tmp rfl .nil) rfl rF rF (sD sR) ?_)))))))
   exact ⟨(vB (by simp_all [rightB] <;> omega)), rfl, rfl⟩
  rw [Bool.not_eq_true] at h2
  refine qx (t := 15) rfl (vB h2) (qx (t := 15) rfl (vB h2) (cX (qY (.bool (false)) (vB h2) rfl (qd (.bool (false)) rfl (qx (t := 19) rfl rfl (qx (t := 19) rfl rfl (cX (qY (.bool (false)) rfl rfl (qg (.bool (false)) rfl (qb (qu (qq (L' := L) [.bool (false)] (.bool (false)) (.tmp rfl .nil) rfl rF rF (sD sR) ?_))))))))))))
  exact ⟨(vB (by simp_all [rightB] <;> omega)), rfl, rfl⟩
 rw [Bool.not_eq_true] at h1
 refine qx (t := 9) rfl (vB h1) (qx (t := 9) rfl (vB h1) (qx (t := 9) rfl (vB h1) (qx (t := 9) rfl (vB h1) (cX (qY (.bool (false)) (vB h1) rfl (qd (.bool (false)) rfl (qx (t := 15) rfl rfl (qx (t := 15) rfl rfl (cX (qY (.bool (false)) rfl rfl (qd (.bool (false)) rfl ?_)))))))))))
 refine qx (t := 19) rfl rfl (qx (t := 19) rfl rfl (cX (qY (.bool (false)) rfl rfl (qg (.bool (false)) rfl (qb (qu (qq (L' := L) [.bool (false)] (.bool (false)) (.tmp rfl .nil) rfl rF rF (sD sR) ?_)))))))
 exact ⟨(vB (by simp_all [rightB] <;> omega)), rfl, rfl⟩

/- spec.l2Filled -/
theorem l2Filled_spec {F : FH} {L : List HP} {sv : Value} {s : List (List Int)} (hs : RowsF F sv s) {tv : Value} {t : List Int} (ht : IntsF F tv t) (hsl : s.length ≤ 4000000) (hsb : ∀ i, (s.getD i []).length ≤ 4000000) (htl : t.length ≤ 4000000) (htg : ∀ k, k < t.length → -4000000 ≤ t.getD k 0) :
    Does prog 154 [.agg #[sv], tv] F (L) (fun v F' L' => ∃ (a : Value), (.tuple #[a, .bool ((fillL s t).isSome)] : Value) = v ∧ (IntsF F' a ((fillL s t).getD [])) ∧ L = L') := by
 refine qI func154 rfl rfl rfl (qc (qa (cX (jc [sv] rfl rfl ?_))))
 intro b1
 refine qg (sN) rfl (qg (.bool (false)) rfl (qb (qc (qa (cX (qo (s := 1) [] [ii (0)] [] qf qB qS rfl (by decide) rfl CellsAre.nil rfl ?_))))))
 intro v1 hv1
 refine qg (v1) rfl (qb (qc (qc (qa (qg (ii (0)) rfl (qb (qK (jl (α := Nat × Value × List Int) (fun xQ => [(1, tv), (2, ptr b1 0), (6, xQ.2.1), (7, ii (((xQ.1 : Nat) : Int)))]) (fun xQ => intsH 2 xQ.2.1 xQ.2.2 :: cellsH b1 [sv] 137 :: L) (fun xQ F' => F = F' ∧ (IsSl xQ.2.1) ∧ (xQ.1 ≤ t.length) ∧ (fillL s t = fillGo s (t.drop xQ.1) xQ.2.2) ∧ (xQ.2.2.length ≤ 60)) (fun xQ => t.length - xQ.1) (0, v1, []) ⟨rfl, rfl, rfl, rfl, ⟨⟩⟩ (sC (sC sR)) ⟨rfl, ((qN hv1)), (by (try dsimp only) <;> omega), (rfl), (by simp)⟩ ?_))))))))
 rintro ⟨k, ov, os⟩ rE _ _ ⟨rfl, hov, hk, hm, hol⟩
 show X _ _ _ _ (envs [(1, tv), (2, ptr b1 0), (6, ov), (7, ii ((k : Int)))] rE) _ (intsH 2 ov os :: cellsH b1 [sv] 137 :: L)
 dsimp only at hov hk hm hol
 have htk := htg k
 have hlk0 := lk_bound (N := 4000000) (by omega) hsb (-1 - (((-1 - t.getD k 0).toNat : Nat) : Int))
 refine qc (qc (qa (qd (ii ((k : Int))) rfl (qd (tv) rfl (cX (qE qf rfl ht.slv (cX (qW rfl rfl (qb ?_)))))))))
 refine qA (p := (k : Int) < (t.length : Int)) rfl (fun h1 => ?_) (fun h1 => ?_)
 ·refine qw (qc (qK (qc (qc (qa (qd (tv) rfl (qd (ii ((k : Int))) rfl (cX (qD k qf qB rfl rfl rfl ht.slv (by omega) (Nat.mul_one _) (cX (qj jm rfl (ht.rd (by omega)) (cX (qW rfl rfl (qb ?_))))))))))))))
  refine qA (p := (t.getD k 0 : Int) < 0) rfl (fun h2 => ?_) (fun h2 => ?_)
  ·refine jW [intsH 2 ov os, cellsH b1 [sv] 137] L 8 [] [[], [], [], [], [2, 3], [4], [5], [1, 6]] [] (phiG [pe ov, pe (.agg #[sv]), pe tv, pe (ii ((k : Int)) : Value), pe (.pointer (some (elemA tv (k)))), pe (ii (t.getD k 0)), pe (ii ((-1) - (t.getD k 0))), fun FF us v => ((v) : Value) = v ∧ (IntsF FF (v) (lk s (-1 - ((((-1) - (t.getD k 0)).toNat) : Int))))]) (ownL []) mixed rfl rfl (by kernel_rfl) (by kernel_rfl) (MonoG.get (m1 (m1 (m1 (m1 (m1 (m1 (m1 (mC (fun le h => ⟨h.1, h.2.mono le⟩) MonoG.nil))))))))) ?_ ?_
   ·refine gD (fun W Fs R lF z9 => ?_) ?_
    ·refine qi (qp (ov) rfl ?_)
     exact ⟨rfl, rfl⟩
    refine gD (fun W Fs R lF z9 => ?_) ?_
    ·replace hs := hs.mono lF
     replace ht := ht.mono lF
     refine qi (qr [sv] jR jo rfl rfl (Rd.ownN [_] rfl rfl) ?_)
     exact ⟨rfl, rfl⟩
    refine gD (fun W Fs R lF z9 => ?_) ?_
    ·refine qi (qp (tv) rfl ?_)
     exact ⟨rfl, rfl⟩
    refine gD (fun W Fs R lF z9 => ?_) ?_
    ·refine qi (qp (ii ((k : Int))) rfl ?_)
     exact ⟨rfl, rfl⟩
    refine gD (fun W Fs R lF z9 => ?_) ?_
    ·replace hs := hs.mono lF
     replace ht := ht.mono lF
     rw [eS (l := [(2, _), (3, _)]) ⟨z9 2 rfl, z9 3 rfl, ⟨⟩⟩]
     refine qi (qD k qf qB rfl rfl rfl ht.slv (by omega) (Nat.mul_one _) ?_)
     exact ⟨rfl, rfl⟩
    refine gD (fun W Fs R lF z9 => ?_) ?_
    ·replace hs := hs.mono lF
     replace ht := ht.mono lF
     rw [eS (l := [(4, _)]) ⟨z9 4 rfl, ⟨⟩⟩]
     refine qi (qj jm rfl (ht.rd (by omega)) ?_)
     exact ⟨rfl, rfl⟩
    refine gD (fun W Fs R lF z9 => ?_) ?_
    ·rw [eS (l := [(5, _)]) ⟨z9 5 rfl, ⟨⟩⟩]
     refine qi (jq ((-1) - (t.getD k 0)) rfl rfl (by omega) (by omega) ?_)
     exact ⟨rfl, rfl⟩
    refine gD (fun W Fs R lF z9 => ?_) ?_
    ·replace hs := hs.mono lF
     replace ht := ht.mono lF
     rw [eS (l := [(1, _), (6, _)]) ⟨z9 1 rfl, z9 6 rfl, ⟨⟩⟩]
     refine qi (jZ <| qm (args := [.agg #[sv], ii ((((-1) - (t.getD k 0)).toNat : Nat) : Int)]) call184 (by rw [show ((((-1) - (t.getD k 0)).toNat : Nat) : Int) = (-1) - (t.getD k 0) from by omega]; rfl) (l2Gives_spec (i := ((-1) - (t.getD k 0)).toNat) hs (hsl := (by first | assumption | rfl | omega | simp)) (hi := (by first | assumption | rfl | omega | simp)) (hsb := (hsb _))) ?_)
     rintro v3 _ _ _ ⟨rfl, hs2, rfl⟩
     refine ⟨_, _, rfl, fun F1 le1 hz1 => ?_⟩
     replace ht := ht.mono le1
     have hf1 : IntsF F1 v3 ((lk s (-1 - ((((-1) - (t.getD k 0)).toNat) : Int)))) := intsH.fz (xs := (lk s (-1 - ((((-1) - (t.getD k 0)).toNat) : Int)))) hz1.fz
     exact ⟨⟨rfl, hf1⟩, rfl⟩
    exact stepsG.nil
   intro W F2 le2 hphi
   obtain ⟨e7, f7_1ha⟩ := hphi 7 (by decide)
   generalize hu1 : ((W 7)) = u1 at e7 f7_1ha
   rw [eS (l := [(0, _), (7, u1)]) ⟨(hphi 0 (by decide)), hu1, ⟨⟩⟩]
   replace ht := ht.mono le2
   show XL _ _ _ _ _ _ _ (intsH 2 ov os :: cellsH b1 [sv] 137 :: L)
   refine cX (XOp.appendI [] _ qf typeInfo2 rfl rfl rfl rfl rfl rfl f7_1ha (by (try simp only [List.length_append, List.length_nil, List.length_cons, List.length_singleton, List.length_take, List.length_drop]); omega) ?_)
   intro v4 hs3 hn1 hm1
   refine qg (v4) rfl (qb (qc (qa (qd (v4) rfl (cX (qE qf rfl (intsH.slv [] rfl) (cX (jI rfl rfl (qb ?_)))))))))
   refine qA (p := ((((os ++ ((lk s (-1 - ((((-1) - (t.getD k 0)).toNat) : Int))))).length : Nat) : Int) : Int) > 60) rfl (fun h3 => ?_) (fun h3 => ?_)
   ·refine qc (qa (cX (qo (s := 1) [] [ii (0)] [] qf qB qS rfl (by decide) rfl CellsAre.nil rfl ?_)))
    intro v5 hv2
    refine qg (v5) rfl (qg (.bool (false)) rfl (qb ?_))
    show X _ _ _ _ _ _ (intsH 2 v5 ([] : List Int) :: intsH 2 v4 (os ++ ((lk s (-1 - ((((-1) - (t.getD k 0)).toNat) : Int))))) :: cellsH b1 [sv] 137 :: L)
    refine qQ [] _ _ rfl (fun F3 le3 hz2 => ?_)
    replace ht := ht.mono le3
    have hf2 : IntsF F3 v5 ([]) := intsH.fz (xs := []) hz2.fz
    refine qu (qC (qk (qk (qC (qk (qq (L' := L) [v5, .bool (false)] (.tuple #[v5, .bool (false)]) (.tmp rfl (.tmp rfl .nil)) rfl (qh le2 le3) rF (sD (sD sR)) ?_))))))
    have hz : fillL s t = none := hm.trans (fillGo_long (a := os ++ ((lk s (-1 - ((((-1) - (t.getD k 0)).toNat) : Int))))) (by omega) (by rw [show (-1 - (((-1 - t.getD k 0).toNat : Nat) : Int)) = t.getD k 0 from by omega]) (by omega))
    exact ⟨_, by rw [hz]; rfl, by rw [hz]; exact hf2, rfl⟩
   refine qw (qa (qd (ii ((k : Int))) rfl (cX (qH (((k + 1 : Nat) : Int)) rfl rfl (by omega) (by omega) (qg (ii (((k + 1 : Nat) : Int))) rfl (qb ?_))))))
   exact ⟨(k + 1, v4, os ++ ((lk s (-1 - ((((-1) - (t.getD k 0)).toNat) : Int))))), _, FLe.refl _, le2, ⟨rfl, rfl, rfl, rfl, ⟨⟩⟩, (sC (sC sR)), ⟨rfl, (hs3), (by (try dsimp only) <;> omega), (by dsimp only; exact hm.trans (fillGo_next (by omega) (by rw [show (-1 - (((-1 - t.getD k 0).toNat : Nat) : Int)) = t.getD k 0 from by omega]) (by omega))), (by dsimp only; omega)⟩, (by omega)⟩
  refine qa (qd (ov) rfl (qd (tv) rfl (qd (ii ((k : Int))) rfl (cX (qD k qf qB rfl rfl rfl ht.slv (by omega) (Nat.mul_one _) (cX (qj jm rfl (ht.rd (by omega)) (cX (qo (s := 1) [ii (t.getD k 0)] [ii (0)] [(0, [ii (t.getD k 0)])] qf qB qS rfl (by decide) rfl (.cons rfl CellsAre.nil) rfl ?_)))))))))
  intro v6 hv3
  refine cX (XOp.append1 (u := t.getD k 0) [_] _ qf typeInfo2 rfl rfl rfl rfl rfl rfl (SlV.own [] rfl) (Rd.sl [] rfl rfl) (by (try simp only [List.length_append, List.length_nil, List.length_cons, List.length_singleton, List.length_take, List.length_drop]); omega) ?_)
  intro v7 hs4 hn2
  refine qg (v7) rfl (qb (qc (qa (qd (v7) rfl (cX (qE qf rfl (intsH.slv [_] rfl) (cX (jI rfl rfl (qb ?_)))))))))
  refine qA (p := ((((os ++ [t.getD k 0]).length : Nat) : Int) : Int) > 60) rfl (fun h4 => ?_) (fun h4 => ?_)
  ·refine qc (qa (cX (qo (s := 1) [] [ii (0)] [] qf qB qS rfl (by decide) rfl CellsAre.nil rfl ?_)))
   intro v8 hv4
   refine qg (v8) rfl (qg (.bool (false)) rfl (qb ?_))
   show X _ _ _ _ _ _ (intsH 2 v8 ([] : List Int) :: slH 2 1 v6 1 [ii (t.getD k 0)] :: intsH 2 v7 (os ++ [t.getD k 0]) :: cellsH b1 [sv] 137 :: L)
   refine qQ [] _ _ rfl (fun F4 le4 hz3 => ?_)
   have hf3 : IntsF F4 v8 ([]) := intsH.fz (xs := []) hz3.fz
   refine qu (qC (qk (qk (qC (qk (qq (L' := L) [v8, .bool (false)] (.tuple #[v8, .bool (false)]) (.tmp rfl (.tmp rfl .nil)) rfl le4 rF (sD (sD (sD sR))) ?_))))))
   have hz : fillL s t = none := hm.trans (fillGo_long (a := os ++ [t.getD k 0]) (by omega) (by rw [lk_sym (by omega)]) (by omega))
   exact ⟨_, by rw [hz]; rfl, by rw [hz]; exact hf3, rfl⟩
  refine qw (qa (qd (ii ((k : Int))) rfl (cX (qH (((k + 1 : Nat) : Int)) rfl rfl (by omega) (by omega) (qg (ii (((k + 1 : Nat) : Int))) rfl (qb ?_))))))
  exact ⟨(k + 1, v7, os ++ [t.getD k 0]), _, FLe.refl _, rF, ⟨rfl, rfl, rfl, rfl, ⟨⟩⟩, (sD (sC (sC sR))), ⟨rfl, (hs4), (by (try dsimp only) <;> omega), (by dsimp only; exact hm.trans (fillGo_next (by omega) (by rw [lk_sym (by omega)]) (by omega))), (by dsimp only; omega)⟩, (by omega)⟩
 refine jk (qt (qt (qM (qc (qa (qd (ov) rfl (qg (ov) rfl (qg (.bool (true)) rfl (qb (qQ [] _ _ rfl (fun F5 le5 hz4 => ?_)))))))))))
 have hf4 : IntsF F5 ov os := intsH.fz (xs := os) hz4.fz
 refine qu (qq (L' := L) [ov, .bool (true)] (.tuple #[ov, .bool (true)]) (.tmp rfl (.tmp rfl .nil)) rfl le5 rF (sD sR) ?_)
 have hz : fillL s t = some os := hm.trans (fillGo_done (by omega))
 exact ⟨_, by rw [hz]; rfl, by rw [hz]; exact hf4, rfl⟩

/- spec.l3Put -/
theorem l3Put_spec {F : FH} {L : List HP} {arv : Value} {ar : List Int} (har : IntsF F arv ar) {tv : Value} {t : List Int} (ht : IntsF F tv t) {p : Nat} {uv : Value} {u : List Int} (hu : IntsF F uv u) (ho : termOk ar t = true) (hp : p < t.length) (hul : u.length ≤ 4000000) :
    Does prog 155 [.agg #[arv], tv, ii ((p : Int)), uv] F (L) (fun v F' L' => ∃ (a : Value), (.tuple #[a, .bool ((putL ar t p u).isSome)] : Value) = v ∧ (IntsF F' a ((putL ar t p u).getD [])) ∧ L = L') := by
 refine qI func155 rfl rfl rfl ?_
 have hsig := termOk_sig ho
 have hsl := sigOk_spec hsig
 have htl := termOk_len ho
 have hee := endN_spec ho hp
 refine qc (qa (cX (jc [arv] rfl rfl ?_)))
 intro b1
 refine qg (sN) rfl (qg (.bool (false)) rfl (qb (qc (qa (qd (tv) rfl (qd (ii ((p : Int))) rfl (cX (XOp.sliceI 0 p qf qB rfl ht rfl ⟨_, rfl⟩ (by omega) (by omega) ?_))))))))
 intro v1 hv1 hn1
 refine cX (qm (args := [v1]) call105 rfl (l1Copy_spec hv1 (hlt := (by simp; omega))) ?_)
 rintro v2 _ _ _ ⟨rfl, hs1, rfl⟩
 refine qd (uv) rfl (cX (XOp.appendI [] _ qf typeInfo2 rfl rfl rfl rfl rfl rfl hu (by (try simp only [List.length_append, List.length_nil, List.length_cons, List.length_singleton, List.length_take, List.length_drop]); omega) ?_))
 intro v3 hs2 hn2 hm1
 refine qg (v3) rfl (qb (qc (qa (qd (v3) rfl (qd (tv) rfl (cX (qr [arv] qX qF rfl rfl (Rd.ownN [_] rfl rfl) (qd (tv) rfl (qd (ii ((p : Int))) rfl (cX (qm (args := [.agg #[arv], tv, ii (p : Int)]) call208 rfl (l1End_ok (p := p) har ht (ho := (by first | assumption | rfl | omega | (left; simp; done) | (right; simp; done))) (hp := (by first | assumption | rfl | omega | (left; simp; done) | (right; simp; done)))) ?_)))))))))))
 rintro _ _ _ _ ⟨rfl, rfl, rfl⟩
 refine cX (XOp.sliceI (endN ar t p) ((t).length) qf qB rfl ht ⟨_, rfl⟩ rfl (by omega) (by omega) ?_)
 intro v4 hv2 hn3
 refine cX (XOp.appendI [] _ qf typeInfo2 rfl rfl rfl rfl rfl rfl hv2 (by (try simp only [List.length_append, List.length_nil, List.length_cons, List.length_singleton, List.length_take, List.length_drop]); omega) ?_)
 intro v5 hs3 hn4 hm2
 refine qg (v5) rfl (qb (qc (qc (qa (qd (v5) rfl (cX (qE qf rfl (intsH.slv [] rfl) (cX (jI rfl rfl (qb ?_))))))))))
 refine qA (p := ((((((((((t.drop 0).take (p - 0))))) ++ u) ++ (((t.drop (endN ar t p)).take (((t).length) - (endN ar t p))))).length : Nat) : Int) : Int) > 60) rfl (fun h1 => ?_) (fun h1 => ?_)
 ·refine qc (qa (cX (qo (s := 1) [] [ii (0)] [] qf qB qS rfl (by decide) rfl CellsAre.nil rfl ?_)))
  intro v6 hv3
  refine qg (v6) rfl (qg (.bool (false)) rfl (qb ?_))
  show X _ _ _ _ _ _ (intsH 2 v6 ([] : List Int) :: intsH 2 v5 (((((((t.drop 0).take (p - 0))))) ++ u) ++ (((t.drop (endN ar t p)).take (((t).length) - (endN ar t p))))) :: cellsH b1 [arv] 36 :: L)
  refine qQ [] _ _ rfl (fun F1 le1 hz1 => ?_)
  have hf1 : IntsF F1 v6 ([]) := intsH.fz (xs := []) hz1.fz
  refine qu (qk (qq (L' := L) [v6, .bool (false)] (.tuple #[v6, .bool (false)]) (.tmp rfl (.tmp rfl .nil)) rfl le1 rF (sD (sD sR)) ?_))
  have hz : putL ar t p u = none := putL_none put_three (by omega)
  exact ⟨_, by rw [hz]; rfl, by rw [hz]; exact hf1, rfl⟩
 refine qw (qc (qa (qd (v5) rfl (qg (v5) rfl (qg (.bool (true)) rfl (qb (qQ [] _ _ rfl (fun F2 le2 hz2 => ?_))))))))
 have hf2 : IntsF F2 v5 (((((((t.drop 0).take (p - 0))))) ++ u) ++ (((t.drop (endN ar t p)).take (((t).length) - (endN ar t p))))) := intsH.fz (xs := ((((((t.drop 0).take (p - 0))))) ++ u) ++ (((t.drop (endN ar t p)).take (((t).length) - (endN ar t p))))) hz2.fz
 refine qu (qq (L' := L) [v5, .bool (true)] (.tuple #[v5, .bool (true)]) (.tmp rfl (.tmp rfl .nil)) rfl le2 rF (sD sR) ?_)
 have hz := putL_some (ar := ar) (t := t) (p := p) (u := u) put_three (by omega)
 exact ⟨_, by rw [hz]; rfl, by rw [hz]; exact hf2, rfl⟩

/- spec.l7Step -/
theorem l7Step_spec {F : FH} {L : List HP} {arv : Value} {ar : List Int} (har : IntsF F arv ar) {rsv : Value} {rs : List (List Int × List Int)} (hrs : PairsF F rsv rs) {tv : Value} {t : List Int} (ht : IntsF F tv t) {p : Nat} {r : Nat} (hsys : sysOk ar rs = true) (ho : termOk ar t = true) (hp : p < t.length) (hr : r < rs.length) :
    Does prog 110 [.agg #[arv, rsv], tv, ii ((p : Int)), ii ((r : Int))] F (L) (fun v F' L' => ∃ (a : Value), (.tuple #[a, .bool ((stepL ar rs t p r).isSome)] : Value) = v ∧ (IntsF F' a ((stepL ar rs t p r).getD [])) ∧ L = L') := by
 refine qI func110 rfl rfl rfl ?_
 have hnn := jt ht (by have := termOk_len ho; omega)
 have htl := termOk_len ho
 have hrl := (sysOk_iff.1 hsys).2.1
 have hsig := (sysOk_iff.1 hsys).1
 have hsl := sigOk_spec hsig
 have hR := ruleOk_iff.1 ((sysOk_iff.1 hsys).2.2 r hr)
 have hRl := hR.left
 have hRr := hR.right
 have hso := sub_ok ho hp
 have hsb := sub_length ho hp
 have hee := endN_spec ho hp
 have hRrl := termOk_len hRr
 have hRg := fun k (hk : k < (rs.getD r ([], [])).2.length) => termOk_ge hRr hk
 have hmp := matchP_len (ar := ar) (p := (rs.getD r ([], [])).1) (t := sub ar t p)
 have hmp2 := hmp.2
 have hmp3 := hmp.1
 refine qc (qa (cX (jc [arv, rsv] rfl rfl ?_)))
 intro b1
 refine qg (sN) rfl (qg (.bool (false)) rfl (qb (qc (qa (cX (ql (1) qJ rfl jw (by decide) rfl rfl (cX (qj yb rfl (Rd.own [] rfl rfl) (qd (ii ((r : Int))) rfl (cX (qD r jd jA rfl rfl rfl hrs.slv (by omega) rfl ?_)))))))))))
 obtain ⟨a1, a2, ha1, ha2, hr1, hr2⟩ := hrs.rd (i := r) (by omega)
 refine cX (qr [a1, a2] isAgg76 jA rfl rfl (Rd.two (hr1 _) (hr2 _)) (cX (ji [sN, sN] jr rfl ?_)))
 intro b2
 refine cX (qL [] _ [a1, a2] jA rfl rfl rfl (qn (qG (qz ha1)) (qn (qG (qz ha2)) qO)) rfl rfl rfl (qb (qc ?_)))
 refine jW [cellsH b2 [a1, a2] 76, cellsH b1 [arv, rsv] 39] L 15 [[], [], [], [], [], [], [], [], [], [], [9], [9], [], [], [9, 13]] [[], [0], [], [2], [], [4], [], [], [5, 6, 7], [1, 3, 8], [9], [9, 10], [9, 10], [], [9, 11, 13]] [[], [], [], [], [], [], [], [], [], [], [], [], [], [], [13]] (phiG [pe (ptr b1 0), pe (.agg #[arv]), pe (ptr b2 0), pe a1, pe (ptr b1 0), pe (.agg #[arv]), pe tv, pe (ii ((p : Int)) : Value), fun FF us v => ((v) : Value) = v ∧ (IntsF FF (v) (sub ar t p)), fun FF us v => (.tuple #[.agg #[((aggAt (tupAt v 0) 0))], .bool ((matchB ar ((rs.getD r ([], [])).1) ((sub ar t p))).isSome)] : Value) = v ∧ (RowsF FF ((aggAt (tupAt v 0) 0)) (matchP ar ((rs.getD r ([], [])).1) ((sub ar t p)))), fun FF us v => v = (.tuple #[.agg #[((aggAt (tupAt (us.getD 0 undef) 0) 0))], .bool ((matchB ar ((rs.getD r ([], [])).1) ((sub ar t p))).isSome)] : Value), fun FF us v => v = (.agg #[((aggAt (tupAt (us.getD 0 undef) 0) 0))] : Value), pe (.bool ((matchB ar ((rs.getD r ([], [])).1) ((sub ar t p))).isSome)), fun FF us v => v = ptr (blk v) 0, fun FF us v => True]) (ownL [o0, o0, o0, o0, o0, o0, o0, o0, o0, o0, o0, o0, o0, fun us v => [cellsH (blk v) [sN] 137], fun us v => [cellsH (blk (us.getD 1 undef)) [((aggAt (tupAt (us.getD 0 undef) 0) 0))] 137]]) mixed rfl rfl (by kernel_rfl) (by kernel_rfl) (MonoG.get (m1 (m1 (m1 (m1 (m1 (m1 (m1 (m1 (mC (fun le h => ⟨h.1, h.2.mono le⟩) (mC (fun le h => ⟨h.1, h.2.mono le⟩) (mC (fun le h => h) (mC (fun le h => h) (m1 (mC (fun le h => h) (mC (fun le h => h) MonoG.nil)))))))))))))))) ?_ ?_
 ·refine gD (fun W Fs R lF z9 => ?_) ?_
  ·refine qi (ql (0) qJ rfl qF (by decide) rfl rfl ?_)
   exact ⟨rfl, rfl⟩
  refine gD (fun W Fs R lF z9 => ?_) ?_
  ·replace har := har.mono lF
   replace ht := ht.mono lF
   replace ha1 := ha1.mono lF
   replace ha2 := ha2.mono lF
   rw [eS (l := [(0, _)]) ⟨z9 0 rfl, ⟨⟩⟩]
   refine qi (qr [arv] qX qF rfl rfl (Rd.ownN [_] rfl rfl) ?_)
   exact ⟨rfl, rfl⟩
  refine gD (fun W Fs R lF z9 => ?_) ?_
  ·refine qi (ql (0) qV rfl qs (by decide) rfl rfl ?_)
   exact ⟨rfl, rfl⟩
  refine gD (fun W Fs R lF z9 => ?_) ?_
  ·replace har := har.mono lF
   replace ht := ht.mono lF
   replace ha1 := ha1.mono lF
   replace ha2 := ha2.mono lF
   rw [eS (l := [(2, _)]) ⟨z9 2 rfl, ⟨⟩⟩]
   refine qi (qj qU rfl (Rd.own [] rfl rfl) ?_)
   exact ⟨rfl, rfl⟩
  refine gD (fun W Fs R lF z9 => ?_) ?_
  ·refine qi (ql (0) qJ rfl qF (by decide) rfl rfl ?_)
   exact ⟨rfl, rfl⟩
  refine gD (fun W Fs R lF z9 => ?_) ?_
  ·replace har := har.mono lF
   replace ht := ht.mono lF
   replace ha1 := ha1.mono lF
   replace ha2 := ha2.mono lF
   rw [eS (l := [(4, _)]) ⟨z9 4 rfl, ⟨⟩⟩]
   refine qi (qr [arv] qX qF rfl rfl (Rd.ownN [_] rfl rfl) ?_)
   exact ⟨rfl, rfl⟩
  refine gD (fun W Fs R lF z9 => ?_) ?_
  ·refine qi (qp (tv) rfl ?_)
   exact ⟨rfl, rfl⟩
  refine gD (fun W Fs R lF z9 => ?_) ?_
  ·refine qi (qp (ii ((p : Int))) rfl ?_)
   exact ⟨rfl, rfl⟩
  refine gD (fun W Fs R lF z9 => ?_) ?_
  ·replace har := har.mono lF
   replace ht := ht.mono lF
   replace ha1 := ha1.mono lF
   replace ha2 := ha2.mono lF
   rw [eS (l := [(5, _), (6, _), (7, _)]) ⟨z9 5 rfl, z9 6 rfl, z9 7 rfl, ⟨⟩⟩]
   refine qi (jZ <| qm (args := [.agg #[arv], tv, ii (p : Int)]) call150 rfl (l1Sub_spec (p := p) har ht (ho := (by first | assumption | rfl | omega | simp)) (hp := (by first | assumption | rfl | omega | simp))) ?_)
   rintro v2 _ _ _ ⟨rfl, hs2, rfl⟩
   refine ⟨_, _, rfl, fun F2 le2 hz1 => ?_⟩
   replace har := har.mono le2
   replace ht := ht.mono le2
   replace ha1 := ha1.mono le2
   replace ha2 := ha2.mono le2
   have hf1 : IntsF F2 v2 ((sub ar t p)) := intsH.fz (xs := (sub ar t p)) hz1.fz
   exact ⟨⟨rfl, hf1⟩, rfl⟩
  refine gD (fun W Fs R lF z9 => ?_) ?_
  ·obtain ⟨e8, f8_1ha⟩ := z9 8 rfl
   replace har := har.mono lF
   replace ht := ht.mono lF
   replace ha1 := ha1.mono lF
   replace ha2 := ha2.mono lF
   rw [eS (l := [(1, _), (3, _), (8, ((W 8)))]) ⟨z9 1 rfl, z9 3 rfl, (e8).symm, ⟨⟩⟩]
   refine qi (qm (args := [.agg #[arv], a1, ((W 8))]) call216 rfl (l4Match_spec har ha1 f8_1ha (ho := (by first | assumption | rfl | omega | simp)) (hpo := (by first | assumption | rfl | omega | simp))) ?_)
   rintro _ F3 _ le3 ⟨x2, rfl, hr4, rfl⟩
   replace har := har.mono le3
   replace ht := ht.mono le3
   replace ha2 := ha2.mono le3
   replace f8_1ha := f8_1ha.mono le3
   exact ⟨⟨rfl, hr4⟩, rfl⟩
  refine gD (fun W Fs R lF z9 => ?_) ?_
  ·obtain ⟨e9, f9_1hr⟩ := z9 9 rfl
   rw [eS (l := [(9, (.tuple #[.agg #[((aggAt (tupAt (W 9) 0) 0))], .bool ((matchB ar ((rs.getD r ([], [])).1) ((sub ar t p))).isSome)]))]) ⟨(e9).symm, ⟨⟩⟩]
   refine qi (qp (.tuple #[.agg #[((aggAt (tupAt (W 9) 0) 0))], .bool ((matchB ar ((rs.getD r ([], [])).1) ((sub ar t p))).isSome)]) rfl ?_)
   exact ⟨rfl, rfl⟩
  refine gD (fun W Fs R lF z9 => ?_) ?_
  ·obtain ⟨e9, f9_1hr⟩ := z9 9 rfl
   have e10 : W 10 = (.tuple #[.agg #[((aggAt (tupAt (W 9) 0) 0))], .bool ((matchB ar ((rs.getD r ([], [])).1) ((sub ar t p))).isSome)] : Value) := z9 10 rfl
   rw [eS (l := [(9, (.tuple #[.agg #[((aggAt (tupAt (W 9) 0) 0))], .bool ((matchB ar ((rs.getD r ([], [])).1) ((sub ar t p))).isSome)])), (10, (.tuple #[.agg #[((aggAt (tupAt (W 9) 0) 0))], .bool ((matchB ar ((rs.getD r ([], [])).1) ((sub ar t p))).isSome)]))]) ⟨(e9).symm, e10, ⟨⟩⟩]
   refine qi (je (.agg #[((aggAt (tupAt (W 9) 0) 0))]) rfl rfl ?_)
   exact ⟨rfl, rfl⟩
  refine gD (fun W Fs R lF z9 => ?_) ?_
  ·obtain ⟨e9, f9_1hr⟩ := z9 9 rfl
   have e10 : W 10 = (.tuple #[.agg #[((aggAt (tupAt (W 9) 0) 0))], .bool ((matchB ar ((rs.getD r ([], [])).1) ((sub ar t p))).isSome)] : Value) := z9 10 rfl
   rw [eS (l := [(9, (.tuple #[.agg #[((aggAt (tupAt (W 9) 0) 0))], .bool ((matchB ar ((rs.getD r ([], [])).1) ((sub ar t p))).isSome)])), (10, (.tuple #[.agg #[((aggAt (tupAt (W 9) 0) 0))], .bool ((matchB ar ((rs.getD r ([], [])).1) ((sub ar t p))).isSome)]))]) ⟨(e9).symm, e10, ⟨⟩⟩]
   refine qi (je (.bool ((matchB ar ((rs.getD r ([], [])).1) ((sub ar t p))).isSome)) rfl rfl ?_)
   exact ⟨rfl, rfl⟩
  refine gD (fun W Fs R lF z9 => ?_) ?_
  ·replace har := har.mono lF
   replace ht := ht.mono lF
   replace ha2 := ha2.mono lF
   refine qi (ji [sN] jB rfl ?_)
   intro b4
   exact ⟨rfl, rfl⟩
  refine gD (fun W Fs R lF z9 => ?_) ?_
  ·obtain ⟨e9, f9_1hr⟩ := z9 9 rfl
   have e11 : W 11 = (.agg #[((aggAt (tupAt (W 9) 0) 0))] : Value) := z9 11 rfl
   have e13 : W 13 = ptr (blk (W 13)) 0 := z9 13 rfl
   replace har := har.mono lF
   replace ht := ht.mono lF
   replace ha2 := ha2.mono lF
   rw [eS (l := [(9, (.tuple #[.agg #[((aggAt (tupAt (W 9) 0) 0))], .bool ((matchB ar ((rs.getD r ([], [])).1) ((sub ar t p))).isSome)])), (11, (.agg #[((aggAt (tupAt (W 9) 0) 0))])), (13, ptr (blk (W 13)) 0)]) ⟨(e9).symm, e11, e13, ⟨⟩⟩]
   show XG _ _ _ _ _ (cellsH (blk (W 13)) [sN] 137 :: ([cellsH b2 [a1, a2] 76, cellsH b1 [arv, rsv] 39] ++ R)) _
   refine qi (qL [] _ [((aggAt (tupAt (W 9) 0) 0))] jo rfl rfl rfl (qn (qG (RowsF.isSl f9_1hr)) qO) rfl rfl rfl ?_)
   exact ⟨trivial, rfl⟩
  exact stepsG.nil
 intro W F4 le4 hphi
 obtain ⟨e8, f8_1ha⟩ := hphi 8 (by decide)
 obtain ⟨e9, f9_1hr⟩ := hphi 9 (by decide)
 have e10 : W 10 = (.tuple #[.agg #[((aggAt (tupAt (W 9) 0) 0))], .bool ((matchB ar ((rs.getD r ([], [])).1) ((sub ar t p))).isSome)] : Value) := hphi 10 (by decide)
 have e11 : W 11 = (.agg #[((aggAt (tupAt (W 9) 0) 0))] : Value) := hphi 11 (by decide)
 have e13 : W 13 = ptr (blk (W 13)) 0 := hphi 13 (by decide)
 generalize hu1 : ((W 8)) = u1 at e8 f8_1ha e9 f9_1hr e10 e11 e13
 generalize hu2 : ((aggAt (tupAt (W 9) 0) 0)) = u2 at e8 f8_1ha e9 f9_1hr e10 e11 e13
 generalize hu3 : blk (W 13) = b5 at e8 f8_1ha e9 f9_1hr e10 e11 e13
 rw [eS (l := [(9, (.tuple #[.agg #[u2], .bool ((matchB ar ((rs.getD r ([], [])).1) ((sub ar t p))).isSome)])), (12, _), (13, ptr b5 0)]) ⟨(e9).symm, (hphi 12 (by decide)), e13, ⟨⟩⟩]
 replace har := har.mono le4
 replace ht := ht.mono le4
 replace ha2 := ha2.mono le4
 show XL _ _ _ _ _ _ _ (cellsH b5 [u2] 137 :: cellsH b2 [a1, a2] 76 :: cellsH b1 [arv, rsv] 39 :: L)
 refine qg (.bool ((matchB ar ((rs.getD r ([], [])).1) ((sub ar t p))).isSome)) rfl (qb (qc (qc (qa (qd (.bool ((matchB ar ((rs.getD r ([], [])).1) ((sub ar t p))).isSome)) rfl (cX (jE rfl (qb ?_))))))))
 refine jz (t := !((matchB ar ((rs.getD r ([], [])).1) ((sub ar t p))).isSome)) rfl (fun h1 => ?_) (fun h1 => ?_)
 ·have hms : (matchB ar (rs.getD r ([], [])).1 (sub ar t p)).isSome = false := by simpa using h1
  refine qc (qa (cX (qo (s := 1) [] [ii (0)] [] qf qB qS rfl (by decide) rfl CellsAre.nil rfl ?_)))
  intro v3 hv1
  refine qg (v3) rfl (qg (.bool (false)) rfl (qb ?_))
  show X _ _ _ _ _ _ (intsH 2 v3 ([] : List Int) :: cellsH b5 [u2] 137 :: cellsH b2 [a1, a2] 76 :: cellsH b1 [arv, rsv] 39 :: L)
  refine qQ [] _ _ rfl (fun F5 le5 hz2 => ?_)
  replace har := har.mono le5
  replace ht := ht.mono le5
  replace ha2 := ha2.mono le5
  replace f9_1hr := f9_1hr.mono le5
  have hf2 : IntsF F5 v3 ([]) := intsH.fz (xs := []) hz2.fz
  refine qu (qk (qq (L' := L) [v3, .bool (false)] (.tuple #[v3, .bool (false)]) (.tmp rfl (.tmp rfl .nil)) rfl (qh le4 le5) rF (sD (sD (sD sR))) ?_))
  have hz := stepL_nomatch hms
  exact ⟨_, by rw [hz]; rfl, by rw [hz]; exact hf2, rfl⟩
 have hms : (matchB ar (rs.getD r ([], [])).1 (sub ar t p)).isSome = true := by simpa using h1
 refine qw (qc (qa (cX (qr [u2] jR jo rfl rfl (Rd.ownN [] rfl rfl) (cX (ql (1) qV rfl qs (by decide) rfl rfl (cX (qj qU rfl (Rd.own [_] rfl rfl) (cX (qm (args := [.agg #[u2], a2]) call154 rfl (l2Filled_spec f9_1hr ha2 (hsl := (by first | assumption | rfl | omega | simp)) (hsb := (fun i => by have := hmp2 i; omega)) (htl := (by first | assumption | rfl | omega | simp)) (htg := (fun k hk => by have := hRg k hk; omega))) ?_))))))))))
 rintro _ F6 _ le6 ⟨x3, rfl, hr5, rfl⟩
 replace har := har.mono le6
 replace ht := ht.mono le6
 refine qd (.tuple #[x3, .bool ((fillL (matchP ar ((rs.getD r ([], [])).1) ((sub ar t p))) ((rs.getD r ([], [])).2)).isSome)]) rfl (cX (je (x3) rfl rfl (cX (je (.bool ((fillL (matchP ar ((rs.getD r ([], [])).1) ((sub ar t p))) ((rs.getD r ([], [])).2)).isSome)) rfl rfl (qg (x3) rfl (qg (.bool ((fillL (matchP ar ((rs.getD r ([], [])).1) ((sub ar t p))) ((rs.getD r ([], [])).2)).isSome)) rfl (qb (qc (qc (qa (qd (.bool ((fillL (matchP ar ((rs.getD r ([], [])).1) ((sub ar t p))) ((rs.getD r ([], [])).2)).isSome)) rfl (cX (jE rfl (qb ?_))))))))))))))
 refine jz (t := !((fillL (matchP ar ((rs.getD r ([], [])).1) ((sub ar t p))) ((rs.getD r ([], [])).2)).isSome)) rfl (fun h2 => ?_) (fun h2 => ?_)
 ·have hfs : (fillL (matchP ar (rs.getD r ([], [])).1 (sub ar t p)) (rs.getD r ([], [])).2).isSome = false := by simpa using h2
  refine qc (qa (cX (qo (s := 1) [] [ii (0)] [] qf qB qS rfl (by decide) rfl CellsAre.nil rfl ?_)))
  intro v4 hv2
  refine qg (v4) rfl (qg (.bool (false)) rfl (qb ?_))
  show X _ _ _ _ _ _ (intsH 2 v4 ([] : List Int) :: cellsH b5 [u2] 137 :: cellsH b2 [a1, a2] 76 :: cellsH b1 [arv, rsv] 39 :: L)
  refine qQ [] _ _ rfl (fun F7 le7 hz3 => ?_)
  replace har := har.mono le7
  replace ht := ht.mono le7
  replace hr5 := hr5.mono le7
  have hf3 : IntsF F7 v4 ([]) := intsH.fz (xs := []) hz3.fz
  refine qu (qk (qq (L' := L) [v4, .bool (false)] (.tuple #[v4, .bool (false)]) (.tmp rfl (.tmp rfl .nil)) rfl (qh (qh le4 le6) le7) rF (sD (sD (sD sR))) ?_))
  have hz := stepL_nofill hms hfs
  exact ⟨_, by rw [hz]; rfl, by rw [hz]; exact hf3, rfl⟩
 have hfs : (fillL (matchP ar (rs.getD r ([], [])).1 (sub ar t p)) (rs.getD r ([], [])).2).isSome = true := by simpa using h2
 have hfl := fill_getD_len hfs (by omega)
 refine qw (qc (qa (cX (ql (0) qJ rfl qF (by decide) rfl rfl (cX (qr [arv] qX qF rfl rfl (Rd.ownN [_, _] rfl rfl) (qd (tv) rfl (qd (ii ((p : Int))) rfl (qd (x3) rfl (cX (qm (args := [.agg #[arv], tv, ii (p : Int), x3]) call155 rfl (l3Put_spec (p := p) har ht hr5 (ho := (by first | assumption | rfl | omega | simp)) (hp := (by first | assumption | rfl | omega | simp)) (hul := (by first | assumption | rfl | omega | simp))) ?_)))))))))))
 rintro _ F8 _ le8 ⟨x4, rfl, hr6, rfl⟩
 refine cX (je (x4) rfl rfl (cX (je (.bool ((putL ar t p ((fillL (matchP ar ((rs.getD r ([], [])).1) ((sub ar t p))) ((rs.getD r ([], [])).2)).getD [])).isSome)) rfl rfl (qg (x4) rfl (qg (.bool ((putL ar t p ((fillL (matchP ar ((rs.getD r ([], [])).1) ((sub ar t p))) ((rs.getD r ([], [])).2)).getD [])).isSome)) rfl (qb (qu (qq (L' := L) [x4, .bool ((putL ar t p ((fillL (matchP ar ((rs.getD r ([], [])).1) ((sub ar t p))) ((rs.getD r ([], [])).2)).getD [])).isSome)] (.tuple #[x4, .bool ((putL ar t p ((fillL (matchP ar ((rs.getD r ([], [])).1) ((sub ar t p))) ((rs.getD r ([], [])).2)).getD [])).isSome)]) (.tmp rfl (.tmp rfl .nil)) rfl (qh (qh le4 le6) le8) rF (sD (sD (sD sR))) ?_))))))))
 have hz := stepL_put hms hfs
 exact ⟨_, by rw [hz], by rw [hz]; exact hr6, rfl⟩

/- spec.l1New -/
theorem l1New_spec {F : FH} {L : List HP} {bsv : Value} {bs : List Int} (hbs : BytesF F bsv bs) (hlb : bs.length ≤ 4000000) :
    Does prog 92 [bsv] F (L) (fun v F' L' => ∃ cb : Nat, (ptr cb 0 : Value) = v ∧ F = F' ∧ curH .i64 247 cb bsv bs.length :: L = L') := by
 refine qI func92 rfl rfl rfl (qc (qa (qg ((.pointer none)) rfl (qb (qc (qa (qd (bsv) rfl (cX (qE runUnderlying60 rfl hbs.slv (cX (qH (((570029 + ((bs).length) : Nat) : Int)) rfl rfl (by omega) (by omega) (qg (ii (((570029 + ((bs).length) : Nat) : Int))) rfl (qb (qc (qc (qa (qg (ii (0)) rfl ?_)))))))))))))))))
 refine qb (qK (jl (α := Nat × Int) (fun xQ => [(0, bsv), (3, ii (xQ.2)), (4, ii (((xQ.1 : Nat) : Int)))]) (fun xQ => L) (fun xQ F' => F = F' ∧ (xQ.1 ≤ bs.length) ∧ (0 ≤ xQ.2 ∧ xQ.2 ≤ 1073741823)) (fun xQ => bs.length - xQ.1) (0, ((570029 + ((bs).length) : Nat) : Int)) ⟨rfl, rfl, rfl, ⟨⟩⟩ sR ⟨rfl, (Nat.zero_le _), (by (try dsimp only) <;> omega)⟩ ?_))
 rintro ⟨k, h⟩ rE _ _ ⟨rfl, hk, hh⟩
 show X _ _ _ _ (envs [(0, bsv), (3, ii (h)), (4, ii ((k : Int)))] rE) _ (L)
 dsimp only at hk hh
 refine qc (qc (qa (qd (ii ((k : Int))) rfl (qd (bsv) rfl (cX (qE runUnderlying60 rfl hbs.slv (cX (qW rfl rfl (qb ?_)))))))))
 refine qA (p := (k : Int) < (bs.length : Int)) rfl (fun h1 => ?_) (fun h1 => ?_)
 ·have hrg := hbs.range (i := k) (by omega)
  refine qw (qc (qK (qa (qd (ii (h)) rfl (cX (XOp.mulR (h * 317) rfl rfl (by omega) (by omega) (qd (bsv) rfl (qd (ii ((k : Int))) rfl (cX (qD k runUnderlying60 sizeOf5 rfl rfl rfl hbs.slv (by omega) (Nat.mul_one _) (cX (qj isAgg5 rfl (hbs.rd (by omega) _) (cX (XOp.convI (k' := .u8) (a := bs.getD k 0) (bs.getD k 0) runUnderlying5 runUnderlying2 rfl (IntWalk.i64_in _ (by omega)) (cX (qH ((h * 317) + (bs.getD k 0)) rfl rfl (by omega) (by omega) (cX (qH (((h * 317) + (bs.getD k 0)) + 11) rfl rfl (by omega) (by omega) ?_))))))))))))))))))
  refine cX (XOp.andW (a := ((h * 317) + (bs.getD k 0)) + 11) (b := 1073741823) rfl rfl rfl (by decide) ?_)
  intro r1 hr1
  refine qg (ii (r1)) rfl (qb (qa (qd (ii ((k : Int))) rfl (cX (qH (((k + 1 : Nat) : Int)) rfl rfl (by omega) (by omega) (qg (ii (((k + 1 : Nat) : Int))) rfl (qb ?_)))))))
  exact ⟨(k + 1, r1), _, FLe.refl _, rF, ⟨rfl, rfl, rfl, ⟨⟩⟩, sR, ⟨rfl, (by (try dsimp only) <;> omega), (hr1)⟩, (by omega)⟩
 refine jk (qt (qt (qM (qc (qa (qd (bsv) rfl (qd (ii (h)) rfl (cX (jh [bsv, ii (0), ii (h)] [sN, ii (0), ii (0)] [(0, 1), (1, 1), (2, 1)] [(0, [bsv]), (2, [ii (h)])] jT zeroValue247 rfl (.cons rfl sizeOf60 (.cons rfl jV (.cons rfl qB PlacesAre.nil))) rfl (.cons (cells_one (BytesF.isSl hbs)) (.cons rfl CellsAre.nil)) (cX (jc [bsv, ii (0), ii (h)] rfl rfl ?_)))))))))))
 intro b1
 refine qg (ptr b1 0) rfl (qb (qu (qq (L' := curH .i64 247 b1 bsv bs.length :: L) [ptr b1 0] (ptr b1 0) (.tmp rfl .nil) rfl rF rF (jU (curH.of (by omega) (by omega)) sR) ?_)))
 exact ⟨_, rfl, rfl, rfl⟩

/- spec.l1Byte -/
theorem l1Byte_spec0 {F : FH} {L : List HP} {cb : Nat} {bsv : Value} {bs : List Int} (hbs : BytesF F bsv bs) (hbl : bs.length ≤ 4000000) {i h : Int} (h0 : 0 ≤ i) (h1 : i ≤ bs.length) :
    Does prog 225 [ptr cb 0] F (cellsH cb [bsv, ii (i), ii (h)] 247 :: L) (fun v F' L' => (F = F' ∧ ∃ x : Int, (.int .i64 x : Value) = v ∧ (0 ≤ x ∧ x ≤ 255)) ∧ ∃ i' h' : Int, 0 ≤ i' ∧ i' ≤ bs.length ∧ cellsH cb [bsv, ii (i'), ii (h')] 247 :: L = L') := by
 refine qI func225 rfl rfl rfl (qc (qa (qg (ii (0)) rfl (qb (qc (qa (qd (ptr cb 0) rfl (qd (ptr cb 0) rfl (cX (jn rfl (cX (ql (2) jT rfl qB (by decide) rfl rfl (cX (qj jm rfl (Rd.own [] rfl rfl) (cX (XOp.mulW (a := h) (b := 6364136223846793005) rfl rfl ?_))))))))))))))))
 intro r1
 refine cX (XOp.addW (a := r1) (b := 1442695040888963407) rfl rfl ?_)
 intro r2
 refine cX (jn rfl (cX (ql (2) jT rfl qB (by decide) rfl rfl (cX (jv [] _ [bsv, ii (i), ii (r2)] qB rfl rfl rfl rfl rfl rfl (qb (qc ?_)))))))
 refine jW [cellsH cb [bsv, ii (i), ii (r2)] 247] L 10 [] [[], [0], [1], [2], [3], [], [5], [6], [7], [8]] [] (phiG [pe (ptr cb 0), pe (ptr cb 0), pe (ptr cb 2), pe (ii (r2)), fun FF us v => (ii ((intAt v)) : Value) = v, pe (ptr cb 0), pe (ptr cb 0), pe (ptr cb 2), pe (ii (r2)), fun FF us v => (ii ((intAt v)) : Value) = v]) (ownL []) mixed rfl rfl (by kernel_rfl) (by kernel_rfl) (MonoG.get (m1 (m1 (m1 (m1 (mC (fun le h => h) (m1 (m1 (m1 (m1 (mC (fun le h => h) MonoG.nil))))))))))) ?_ ?_
 ·refine gD (fun W Fs R lF z9 => ?_) ?_
  ·refine qi (qp (ptr cb 0) rfl ?_)
   exact ⟨rfl, rfl⟩
  refine gD (fun W Fs R lF z9 => ?_) ?_
  ·replace hbs := hbs.mono lF
   rw [eS (l := [(0, _)]) ⟨z9 0 rfl, ⟨⟩⟩]
   refine qi (jn rfl ?_)
   exact ⟨rfl, rfl⟩
  refine gD (fun W Fs R lF z9 => ?_) ?_
  ·rw [eS (l := [(1, _)]) ⟨z9 1 rfl, ⟨⟩⟩]
   refine qi (ql (2) jT rfl qB (by decide) rfl rfl ?_)
   exact ⟨rfl, rfl⟩
  refine gD (fun W Fs R lF z9 => ?_) ?_
  ·replace hbs := hbs.mono lF
   rw [eS (l := [(2, _)]) ⟨z9 2 rfl, ⟨⟩⟩]
   refine qi (qj jm rfl (Rd.own [] rfl rfl) ?_)
   exact ⟨rfl, rfl⟩
  refine gD (fun W Fs R lF z9 => ?_) ?_
  ·rw [eS (l := [(3, _)]) ⟨z9 3 rfl, ⟨⟩⟩]
   refine qi (XOp.shrW (a := r2) (b := 33) rfl rfl (by decide) ?_)
   intro r5
   exact ⟨rfl, rfl⟩
  refine gD (fun W Fs R lF z9 => ?_) ?_
  ·refine qi (qp (ptr cb 0) rfl ?_)
   exact ⟨rfl, rfl⟩
  refine gD (fun W Fs R lF z9 => ?_) ?_
  ·replace hbs := hbs.mono lF
   rw [eS (l := [(5, _)]) ⟨z9 5 rfl, ⟨⟩⟩]
   refine qi (jn rfl ?_)
   exact ⟨rfl, rfl⟩
  refine gD (fun W Fs R lF z9 => ?_) ?_
  ·rw [eS (l := [(6, _)]) ⟨z9 6 rfl, ⟨⟩⟩]
   refine qi (ql (2) jT rfl qB (by decide) rfl rfl ?_)
   exact ⟨rfl, rfl⟩
  refine gD (fun W Fs R lF z9 => ?_) ?_
  ·replace hbs := hbs.mono lF
   rw [eS (l := [(7, _)]) ⟨z9 7 rfl, ⟨⟩⟩]
   refine qi (qj jm rfl (Rd.own [] rfl rfl) ?_)
   exact ⟨rfl, rfl⟩
  refine gD (fun W Fs R lF z9 => ?_) ?_
  ·rw [eS (l := [(8, _)]) ⟨z9 8 rfl, ⟨⟩⟩]
   refine qi (XOp.shrW (a := r2) (b := 45) rfl rfl (by decide) ?_)
   intro r6
   exact ⟨rfl, rfl⟩
  exact stepsG.nil
 intro W F1 le1 hphi
 have e4 : (ii ((intAt (W 4))) : Value) = (W 4) := hphi 4 (by decide)
 have e9 : (ii ((intAt (W 9))) : Value) = (W 9) := hphi 9 (by decide)
 generalize hu1 : (intAt (W 4)) = u1 at e4 e9
 generalize hu2 : (intAt (W 9)) = u2 at e4 e9
 rw [eS (l := [(4, (ii (u1))), (9, (ii (u2)))]) ⟨(e4).symm, (e9).symm, ⟨⟩⟩]
 replace hbs := hbs.mono le1
 show XL _ _ _ _ _ _ _ (cellsH cb [bsv, ii (i), ii (r2)] 247 :: L)
 refine cX (XOp.xorW (a := u1) (b := u2) rfl rfl ?_)
 intro r7
 refine cX (XOp.andW (a := r7) (b := 255) rfl rfl rfl (by decide) ?_)
 intro r8 hr1
 refine qg (ii (r8)) rfl (qb (qc (qc ?_)))
 refine jY [cellsH cb [bsv, ii (i), ii (r2)] 247] L 9 [] [[], [0], [1], [2], [], [4], [5], [6], [7]] (phiL [qe (ptr cb 0), qe (ptr cb 0), qe (ptr cb 1), qe (ii (i)), qe (ptr cb 0), qe (ptr cb 0), qe (ptr cb 0), qe bsv, qe (ii ((bs.length : Int)) : Value)]) (ownL []) mixed rfl rfl (by kernel_rfl) ?_ ?_
 ·refine pD (fun W R z9 => ?_) ?_
  ·refine qi (qp (ptr cb 0) rfl ?_)
   exact ⟨rfl, rfl, rfl⟩
  refine pD (fun W R z9 => ?_) ?_
  ·rw [eS (l := [(0, _)]) ⟨z9 0 rfl, ⟨⟩⟩]
   refine qi (jn rfl ?_)
   exact ⟨rfl, rfl, rfl⟩
  refine pD (fun W R z9 => ?_) ?_
  ·rw [eS (l := [(1, _)]) ⟨z9 1 rfl, ⟨⟩⟩]
   refine qi (ql (1) jT rfl jV (by decide) rfl rfl ?_)
   exact ⟨rfl, rfl, rfl⟩
  refine pD (fun W R z9 => ?_) ?_
  ·rw [eS (l := [(2, _)]) ⟨z9 2 rfl, ⟨⟩⟩]
   refine qi (qj isAgg3 rfl (Rd.own [] rfl rfl) ?_)
   exact ⟨rfl, rfl, rfl⟩
  refine pD (fun W R z9 => ?_) ?_
  ·refine qi (qp (ptr cb 0) rfl ?_)
   exact ⟨rfl, rfl, rfl⟩
  refine pD (fun W R z9 => ?_) ?_
  ·rw [eS (l := [(4, _)]) ⟨z9 4 rfl, ⟨⟩⟩]
   refine qi (jn rfl ?_)
   exact ⟨rfl, rfl, rfl⟩
  refine pD (fun W R z9 => ?_) ?_
  ·rw [eS (l := [(5, _)]) ⟨z9 5 rfl, ⟨⟩⟩]
   refine qi (ql (0) jT rfl sizeOf60 (by decide) rfl rfl ?_)
   exact ⟨rfl, rfl, rfl⟩
  refine pD (fun W R z9 => ?_) ?_
  ·rw [eS (l := [(6, _)]) ⟨z9 6 rfl, ⟨⟩⟩]
   refine qi (qj isAgg60 rfl (Rd.own [] rfl rfl) ?_)
   exact ⟨rfl, rfl, rfl⟩
  refine pD (fun W R z9 => ?_) ?_
  ·rw [eS (l := [(7, _)]) ⟨z9 7 rfl, ⟨⟩⟩]
   refine qi (qE runUnderlying60 rfl hbs.slv ?_)
   exact ⟨rfl, rfl, rfl⟩
  exact stepsP.nil
 intro W hphi
 rw [eS (l := [(3, _), (8, _)]) ⟨(hphi 3 (by decide)), (hphi 8 (by decide)), ⟨⟩⟩]
 show XL _ _ _ _ _ _ _ (cellsH cb [bsv, ii (i), ii (r2)] 247 :: L)
 refine cX (qW rfl rfl (qb ?_))
 refine qA (p := (i : Int) < (bs.length : Int)) rfl (fun h1 => ?_) (fun h1 => ?_)
 ·have hrg := hbs.range (i := i.toNat) (by omega)
  refine qc ?_
  refine jY [cellsH cb [bsv, ii (i), ii (r2)] 247] L 12 [] [[], [], [1], [2], [3], [], [5], [6], [7], [4, 8], [9], [10]] (phiL [qe (ii (r8)), qe (ptr cb 0), qe (ptr cb 0), qe (ptr cb 0), qe bsv, qe (ptr cb 0), qe (ptr cb 0), qe (ptr cb 1), qe (ii (i)), qe (.pointer (some (elemA bsv ((i).toNat)))), qe (.int .u8 (bs.getD ((i).toNat) 0)), qe (ii (bs.getD ((i).toNat) 0))]) (ownL []) mixed rfl rfl (by kernel_rfl) ?_ ?_
  ·refine pD (fun W R z9 => ?_) ?_
   ·refine qi (qp (ii (r8)) rfl ?_)
    exact ⟨rfl, rfl, rfl⟩
   refine pD (fun W R z9 => ?_) ?_
   ·refine qi (qp (ptr cb 0) rfl ?_)
    exact ⟨rfl, rfl, rfl⟩
   refine pD (fun W R z9 => ?_) ?_
   ·rw [eS (l := [(1, _)]) ⟨z9 1 rfl, ⟨⟩⟩]
    refine qi (jn rfl ?_)
    exact ⟨rfl, rfl, rfl⟩
   refine pD (fun W R z9 => ?_) ?_
   ·rw [eS (l := [(2, _)]) ⟨z9 2 rfl, ⟨⟩⟩]
    refine qi (ql (0) jT rfl sizeOf60 (by decide) rfl rfl ?_)
    exact ⟨rfl, rfl, rfl⟩
   refine pD (fun W R z9 => ?_) ?_
   ·rw [eS (l := [(3, _)]) ⟨z9 3 rfl, ⟨⟩⟩]
    refine qi (qj isAgg60 rfl (Rd.own [] rfl rfl) ?_)
    exact ⟨rfl, rfl, rfl⟩
   refine pD (fun W R z9 => ?_) ?_
   ·refine qi (qp (ptr cb 0) rfl ?_)
    exact ⟨rfl, rfl, rfl⟩
   refine pD (fun W R z9 => ?_) ?_
   ·rw [eS (l := [(5, _)]) ⟨z9 5 rfl, ⟨⟩⟩]
    refine qi (jn rfl ?_)
    exact ⟨rfl, rfl, rfl⟩
   refine pD (fun W R z9 => ?_) ?_
   ·rw [eS (l := [(6, _)]) ⟨z9 6 rfl, ⟨⟩⟩]
    refine qi (ql (1) jT rfl jV (by decide) rfl rfl ?_)
    exact ⟨rfl, rfl, rfl⟩
   refine pD (fun W R z9 => ?_) ?_
   ·rw [eS (l := [(7, _)]) ⟨z9 7 rfl, ⟨⟩⟩]
    refine qi (qj isAgg3 rfl (Rd.own [] rfl rfl) ?_)
    exact ⟨rfl, rfl, rfl⟩
   refine pD (fun W R z9 => ?_) ?_
   ·rw [eS (l := [(4, _), (8, _)]) ⟨z9 4 rfl, z9 8 rfl, ⟨⟩⟩]
    refine qi (qD ((i).toNat) runUnderlying60 sizeOf5 rfl rfl (by omega) hbs.slv (by omega) (Nat.mul_one _) ?_)
    exact ⟨rfl, rfl, rfl⟩
   refine pD (fun W R z9 => ?_) ?_
   ·rw [eS (l := [(9, _)]) ⟨z9 9 rfl, ⟨⟩⟩]
    refine qi (qj isAgg5 rfl (hbs.rd (by omega) _) ?_)
    exact ⟨rfl, rfl, rfl⟩
   refine pD (fun W R z9 => ?_) ?_
   ·rw [eS (l := [(10, _)]) ⟨z9 10 rfl, ⟨⟩⟩]
    refine qi (XOp.convI (k' := .u8) (a := bs.getD ((i).toNat) 0) (bs.getD ((i).toNat) 0) runUnderlying5 runUnderlying2 rfl (IntWalk.i64_in _ (by omega)) ?_)
    exact ⟨rfl, rfl, rfl⟩
   exact stepsP.nil
  intro W hphi
  rw [eS (l := [(0, _), (11, _)]) ⟨(hphi 0 (by decide)), (hphi 11 (by decide)), ⟨⟩⟩]
  show XL _ _ _ _ _ _ _ (cellsH cb [bsv, ii (i), ii (r2)] 247 :: L)
  refine cX (qH (r8 + (bs.getD ((i).toNat) 0)) rfl rfl (by omega) (by omega) (cX (XOp.andW (a := r8 + (bs.getD ((i).toNat) 0)) (b := 255) rfl rfl rfl (by decide) ?_)))
  intro r9 hr2
  refine qg (ii (r9)) rfl (qb (qa (qd (ptr cb 0) rfl (qd (ptr cb 0) rfl (cX (jn rfl (cX (ql (1) jT rfl jV (by decide) rfl rfl (cX (qj isAgg3 rfl (Rd.own [] rfl rfl) (cX (qH (i + 1) rfl rfl (by omega) (by omega) (cX (jn rfl (cX (ql (1) jT rfl jV (by decide) rfl rfl ?_))))))))))))))))
  refine cX (jv [] _ [bsv, ii (i + 1), ii (r2)] jV rfl rfl rfl rfl rfl rfl (qb (qc (qa (qd (ii (r9)) rfl (qg (ii (r9)) rfl (qb (qu (qq (L' := cellsH cb [bsv, ii (i + 1), ii (r2)] 247 :: L) [ii (r9)] (ii (r9)) (.tmp rfl .nil) rfl rF le1 (sC sR) ?_)))))))))
  exact ⟨⟨rfl, _, rfl, by omega⟩, _, _, by omega, by omega, rfl⟩
 refine qw (qc (qa (qd (ii (r8)) rfl (qg (ii (r8)) rfl (qb (qu (qq (L' := cellsH cb [bsv, ii (i), ii (r2)] 247 :: L) [ii (r8)] (ii (r8)) (.tmp rfl .nil) rfl rF le1 (sC sR) ?_)))))))
 exact ⟨⟨rfl, _, rfl, by omega⟩, _, _, by omega, by omega, rfl⟩
theorem l1Byte_spec {F : FH} {L : List HP} {cb : Nat} {bsv : Value} {bs : List Int} (hbs : BytesF F bsv bs) (hbl : bs.length ≤ 4000000) : Does prog 225 [ptr cb 0] F (curH .i64 247 cb bsv bs.length :: L) (fun v F' L' => (F = F' ∧ ∃ (x : Int), (.int .i64 x : Value) = v ∧ (0 ≤ x ∧ x ≤ 255)) ∧ curH .i64 247 cb bsv bs.length :: L = L') :=
  Does.cur (Q := fun v F' => F = F' ∧ ∃ (x : Int), (.int .i64 x : Value) = v ∧ (0 ≤ x ∧ x ≤ 255)) fun i h h0 h1 => l1Byte_spec0 hbs hbl h0 h1

/- spec.l1Below -/
theorem l1Below_spec {F : FH} {L : List HP} {cb : Nat} {bsv : Value} {bs : List Int} (hbs : BytesF F bsv bs) (hbl : bs.length ≤ 4000000) {n : Int} (hn : n ≤ 1000000) :
    Does prog 116 [ptr cb 0, ii (n)] F (curH .i64 247 cb bsv bs.length :: L) (fun v F' L' => (F = F' ∧ ∃ (x : Int), (ii (x) : Value) = v ∧ (0 ≤ x ∧ (x < n ∨ x = 0))) ∧ curH .i64 247 cb bsv bs.length :: L = L') := by
 refine qI func116 rfl rfl rfl (qc (qa (qg (ii (0)) rfl (qb (qc (qc (qa (qd (ii (n)) rfl (cX (XOp.leq rfl rfl (qb ?_)))))))))))
 refine qA (p := (n : Int) ≤ 0) rfl (fun h1 => ?_) (fun h1 => ?_)
 ·refine qc (qa (qg (ii (0)) rfl (qb (qu (qk (qq (L' := curH .i64 247 cb bsv bs.length :: L) [ii (0)] (ii (0)) (.tmp rfl .nil) rfl rF rF (sC sR) ?_))))))
  exact ⟨⟨rfl, _, rfl, by omega⟩, rfl⟩
 refine qw (qc (qc (qa (qd (ii (n)) rfl (cX (XOp.leq rfl rfl (qb ?_)))))))
 refine qA (p := (n : Int) ≤ 256) rfl (fun h2 => ?_) (fun h2 => ?_)
 ·refine qc (qa (qd (ptr cb 0) rfl (cX (qm (args := [ptr cb 0]) call225 rfl (jf [] (l1Byte_spec hbs (by omega))) ?_))))
  rintro _ _ _ _ ⟨⟨rfl, x1, rfl, hr1⟩, rfl⟩
  show XL _ _ _ _ _ _ _ (curH .i64 247 cb bsv bs.length :: L)
  refine qd (ii (n)) rfl (cX (XOp.remV (a := x1) (b := n) rfl rfl (by omega) (by omega) ?_))
  intro r1 hr2
  refine qg (ii (r1)) rfl (qb (qu (qk (qq (L' := curH .i64 247 cb bsv bs.length :: L) [ii (r1)] (ii (r1)) (.tmp rfl .nil) rfl rF rF (sC sR) ?_))))
  exact ⟨⟨rfl, _, rfl, by omega⟩, rfl⟩
 refine qw (qc (qa (qd (ptr cb 0) rfl (cX (qm (args := [ptr cb 0]) call225 rfl (jf [] (l1Byte_spec hbs (by omega))) ?_)))))
 rintro _ _ _ _ ⟨⟨rfl, x2, rfl, hr3⟩, rfl⟩
 show XL _ _ _ _ _ _ _ (curH .i64 247 cb bsv bs.length :: L)
 refine qg (ii (x2)) rfl (qb (qc (qa (qd (ptr cb 0) rfl (cX (qm (args := [ptr cb 0]) call225 rfl (jf [] (l1Byte_spec hbs (by omega))) ?_))))))
 rintro _ _ _ _ ⟨⟨rfl, x3, rfl, hr4⟩, rfl⟩
 show XL _ _ _ _ _ _ _ (curH .i64 247 cb bsv bs.length :: L)
 refine qg (ii (x3)) rfl (qb (qc (qa (qd (ptr cb 0) rfl (cX (qm (args := [ptr cb 0]) call225 rfl (jf [] (l1Byte_spec hbs (by omega))) ?_))))))
 rintro _ _ _ _ ⟨⟨rfl, x4, rfl, hr5⟩, rfl⟩
 show XL _ _ _ _ _ _ _ (curH .i64 247 cb bsv bs.length :: L)
 refine qg (ii (x4)) rfl (qb (qc (qa (qd (ptr cb 0) rfl (cX (qm (args := [ptr cb 0]) call225 rfl (jf [] (l1Byte_spec hbs (by omega))) ?_))))))
 rintro _ _ _ _ ⟨⟨rfl, x5, rfl, hr6⟩, rfl⟩
 show XL _ _ _ _ _ _ _ (curH .i64 247 cb bsv bs.length :: L)
 refine qg (ii (x5)) rfl (qb (qc (qa (qd (ii (x2)) rfl (cX (XOp.mulR (x2 * 16777216) rfl rfl (by omega) (by omega) (qd (ii (x3)) rfl (cX (XOp.mulR (x3 * 65536) rfl rfl (by omega) (by omega) (cX (qH ((x2 * 16777216) + (x3 * 65536)) rfl rfl (by omega) (by omega) (qd (ii (x4)) rfl (cX (XOp.mulR (x4 * 256) rfl rfl (by omega) (by omega) (cX (qH (((x2 * 16777216) + (x3 * 65536)) + (x4 * 256)) rfl rfl (by omega) (by omega) ?_))))))))))))))))
 refine qd (ii (x5)) rfl (cX (qH ((((x2 * 16777216) + (x3 * 65536)) + (x4 * 256)) + x5) rfl rfl (by omega) (by omega) (qd (ii (n)) rfl (cX (XOp.remV (a := (((x2 * 16777216) + (x3 * 65536)) + (x4 * 256)) + x5) (b := n) rfl rfl (by omega) (by omega) ?_)))))
 intro r2 hr7
 refine qg (ii (r2)) rfl (qb (qu (qq (L' := curH .i64 247 cb bsv bs.length :: L) [ii (r2)] (ii (r2)) (.tmp rfl .nil) rfl rF rF (sC sR) ?_)))
 exact ⟨⟨rfl, _, rfl, by omega⟩, rfl⟩

/- spec.l1Once -/
theorem l1Once_spec {F : FH} {L : List HP} {cb : Nat} {bsv : Value} {bs : List Int} (hbs : BytesF F bsv bs) (hbl : bs.length ≤ 4000000) {n : Int} (hn : n ≤ 1000000) :
    Does prog 102 [ptr cb 0, ii (n)] F (curH .i64 247 cb bsv bs.length :: L) (fun v F' L' => (F = F' ∧ ∃ (b : Bool), (.bool (b) : Value) = v) ∧ curH .i64 247 cb bsv bs.length :: L = L') := by
 refine qI func102 rfl rfl rfl (qc (qa (qg (.bool (false)) rfl (qb (qc (qa (qd (ptr cb 0) rfl (qd (ii (n)) rfl (cX (qm (args := [ptr cb 0, ii (n)]) jL rfl (jf [] (l1Below_spec (n := n) hbs (by omega) (hn := (by first | assumption | rfl | omega | simp)))) ?_))))))))))
 rintro _ _ _ _ ⟨⟨rfl, x1, rfl, hr1⟩, rfl⟩
 show XL _ _ _ _ _ _ _ (curH .i64 247 cb bsv bs.length :: L)
 refine cX (js rfl rfl (qg (.bool (decide ((x1 : Int) = 0))) rfl (qb (qu (qq (L' := curH .i64 247 cb bsv bs.length :: L) [.bool (decide ((x1 : Int) = 0))] (.bool (decide ((x1 : Int) = 0))) (.tmp rfl .nil) rfl rF rF (sC sR) ?_)))))
 exact ⟨⟨rfl, _, rfl⟩, rfl⟩

/- spec.l1From -/
theorem l1From_spec {F : FH} {L : List HP} {cb : Nat} {bsv : Value} {bs : List Int} (hbs : BytesF F bsv bs) (hbl : bs.length ≤ 4000000) {lo : Int} {hi : Int} (hlo : -1000 ≤ lo ∧ lo ≤ 1000 ∧ -1000 ≤ hi ∧ hi ≤ 900000) :
    Does prog 201 [ptr cb 0, ii (lo), ii (hi)] F (curH .i64 247 cb bsv bs.length :: L) (fun v F' L' => (F = F' ∧ ∃ (x : Int), (ii (x) : Value) = v ∧ (lo ≤ x ∧ (x ≤ hi ∨ x = lo))) ∧ curH .i64 247 cb bsv bs.length :: L = L') := by
 refine qI func201 rfl rfl rfl (qc (qa (qg (ii (0)) rfl (qb (qc (qa (qd (ii (lo)) rfl (qd (ptr cb 0) rfl (qd (ii (hi)) rfl (qd (ii (lo)) rfl (cX (jq (hi - lo) rfl rfl (by omega) (by omega) (cX (qH ((hi - lo) + 1) rfl rfl (by omega) (by omega) ?_))))))))))))))
 refine cX (qm (args := [ptr cb 0, ii ((hi - lo) + 1)]) jL rfl (jf [] (l1Below_spec (n := (hi - lo) + 1) hbs (by omega) (hn := (by first | assumption | rfl | omega | simp)))) ?_)
 rintro _ _ _ _ ⟨⟨rfl, x1, rfl, hr1⟩, rfl⟩
 show XL _ _ _ _ _ _ _ (curH .i64 247 cb bsv bs.length :: L)
 refine cX (qH (lo + x1) rfl rfl (by omega) (by omega) (qg (ii (lo + x1)) rfl (qb (qu (qq (L' := curH .i64 247 cb bsv bs.length :: L) [ii (lo + x1)] (ii (lo + x1)) (.tmp rfl .nil) rfl rF rF (sC sR) ?_)))))
 exact ⟨⟨rfl, _, rfl, by omega⟩, rfl⟩

/- spec.l1Odd -/
theorem l1Odd_spec {F : FH} {L : List HP} {cb : Nat} {bsv : Value} {bs : List Int} (hbs : BytesF F bsv bs) (hbl : bs.length ≤ 4000000) :
    Does prog 295 [ptr cb 0] F (curH .i64 247 cb bsv bs.length :: L) (fun v F' L' => (F = F' ∧ ∃ (x : Int), (ii (x) : Value) = v) ∧ curH .i64 247 cb bsv bs.length :: L = L') := by
 refine qI func295 rfl rfl rfl (qc (qa (qg (ii (0)) rfl (qb (qc (qa (cX (qo (s := 1) [ii (-1), ii (0), ii (1), ii (2147483648), ii (-2147483648), ii (1099511627776), ii (4611686018427387904), ii (-4611686018427387904), ii (9223372036854775807), ii (-9223372036854775808)] [ii (0)] [(0, [ii (-1)]), (1, [ii (0)]), (2, [ii (1)]), (3, [ii (2147483648)]), (4, [ii (-2147483648)]), (5, [ii (1099511627776)]), (6, [ii (4611686018427387904)]), (7, [ii (-4611686018427387904)]), (8, [ii (9223372036854775807)]), (9, [ii (-9223372036854775808)])] qf qB qS rfl (by decide) rfl (.cons rfl (.cons rfl (.cons rfl (.cons rfl (.cons rfl (.cons rfl (.cons rfl (.cons rfl (.cons rfl (.cons rfl CellsAre.nil)))))))))) rfl ?_))))))))
 intro v1 hv1
 show XL _ _ _ _ _ _ _ (intsH 2 v1 ([-1, 0, 1, 2147483648, -2147483648, 1099511627776, 4611686018427387904, -4611686018427387904, 9223372036854775807, -9223372036854775808] : List Int) :: curH .i64 247 cb bsv bs.length :: L)
 have hl10 : ([-1, 0, 1, 2147483648, -2147483648, 1099511627776, 4611686018427387904, -4611686018427387904, 9223372036854775807, -9223372036854775808] : List Int).length = 10 := rfl
 refine qd (ptr cb 0) rfl (cX (qm (args := [ptr cb 0, ii (10)]) jL rfl (jf [_] (l1Below_spec (n := 10) hbs (by omega) (hn := (by first | assumption | rfl | omega | simp)))) ?_))
 rintro _ _ _ _ ⟨⟨rfl, x1, rfl, hr1⟩, rfl⟩
 show XL _ _ _ _ _ _ _ (intsH 2 v1 ([-1, 0, 1, 2147483648, -2147483648, 1099511627776, 4611686018427387904, -4611686018427387904, 9223372036854775807, -9223372036854775808] : List Int) :: curH .i64 247 cb bsv bs.length :: L)
 refine cX (qD ((x1).toNat) qf qB rfl rfl (by omega) (intsH.slv [] rfl) (by omega) (Nat.mul_one _) (cX (qj jm rfl (intsH.rd [] rfl (by omega)) (qg (ii (([-1, 0, 1, 2147483648, -2147483648, 1099511627776, 4611686018427387904, -4611686018427387904, 9223372036854775807, -9223372036854775808]).getD ((x1).toNat) 0)) rfl (qb (qu (qq (L' := curH .i64 247 cb bsv bs.length :: L) [ii (([-1, 0, 1, 2147483648, -2147483648, 1099511627776, 4611686018427387904, -4611686018427387904, 9223372036854775807, -9223372036854775808]).getD ((x1).toNat) 0)] (ii (([-1, 0, 1, 2147483648, -2147483648, 1099511627776, 4611686018427387904, -4611686018427387904, 9223372036854775807, -9223372036854775808]).getD ((x1).toNat) 0)) (.tmp rfl .nil) rfl rF rF (sD (sC sR)) ?_)))))))
 exact ⟨⟨rfl, _, rfl⟩, rfl⟩

/- spec.l1DrawSig -/
theorem l1DrawSig_spec {F : FH} {L : List HP} {cb : Nat} {bsv : Value} {bs : List Int} (hbs : BytesF F bsv bs) (hbl : bs.length ≤ 4000000) :
    Does prog 222 [ptr cb 0] F (curH .i64 247 cb bsv bs.length :: L) (fun v F' L' => ∃ a : Value, ((.agg #[a] : Value) = v ∧ IsSl a) ∧ drawnH 2 a (fun ar => sigOk ar = true) :: curH .i64 247 cb bsv bs.length :: L = L') := by
 refine qI func222 rfl rfl rfl (qc (qa (cX (ji [sN] zeroValue36 rfl ?_))))
 intro b1
 refine qb (qc (qa (cX (qo (s := 1) [ii (2), ii (1), ii (0)] [ii (0)] [(0, [ii (2)]), (1, [ii (1)]), (2, [ii (0)])] qf qB qS rfl (by decide) rfl (.cons rfl (.cons rfl (.cons rfl CellsAre.nil))) rfl ?_))))
 intro v1 hv1
 refine cX (jh [v1] [sN] [(0, 1)] [(0, [v1])] jg zeroValue36 rfl (.cons rfl qs PlacesAre.nil) rfl (.cons (cells_one (qN hv1)) CellsAre.nil) (cX (ji [sN] zeroValue36 rfl ?_)))
 intro b2
 refine cX (qL [] _ [v1] qF rfl rfl rfl (qn (qG (qN hv1)) qO) rfl rfl rfl (qb (qc (qc (qa (qd (ptr cb 0) rfl (cX (qm (args := [ptr cb 0, ii (4)]) call102 rfl (jf [_, _, _] (l1Once_spec (n := 4) hbs (by omega) (hn := (by first | assumption | rfl | omega | simp)))) ?_))))))))
 rintro _ _ _ _ ⟨⟨rfl, x1, rfl⟩, rfl⟩
 show XL _ _ _ _ _ _ _ (cellsH b2 [v1] 36 :: slH 2 1 v1 3 [ii (2), ii (1), ii (0)] :: cellsH b1 [sN] 36 :: curH .i64 247 cb bsv bs.length :: L)
 refine qb ?_
 refine jz (t := x1) rfl (fun h1 => ?_) (fun h1 => ?_)
 ·refine qc (qa (cX (qo (s := 1) [ii (0)] [ii (0)] [(0, [ii (0)])] qf qB qS rfl (by decide) rfl (.cons rfl CellsAre.nil) rfl ?_)))
  intro v2 hv2
  refine cX (jh [v2] [sN] [(0, 1)] [(0, [v2])] jg zeroValue36 rfl (.cons rfl qs PlacesAre.nil) rfl (.cons (cells_one (qN hv2)) CellsAre.nil) (cX (qL [_] _ [v2] qF rfl rfl rfl (qn (qG (qN hv2)) qO) rfl rfl rfl (qb (qc (qa ?_))))))
  show XL _ _ _ _ _ _ _ (intsH 2 v2 ([0] : List Int) :: cellsH b2 [v2] 36 :: slH 2 1 v1 3 [ii (2), ii (1), ii (0)] :: cellsH b1 [sN] 36 :: curH .i64 247 cb bsv bs.length :: L)
  skip
  refine qd (ptr cb 0) rfl (cX (qm (args := [ptr cb 0, ii (4)]) jL rfl (jf [_, _, _, _] (l1Below_spec (n := 4) hbs (by omega) (hn := (by first | assumption | rfl | omega | simp)))) ?_))
  rintro _ _ _ _ ⟨⟨rfl, x2, rfl, hr1⟩, rfl⟩
  show XL _ _ _ _ _ _ _ (intsH 2 v2 ([0] : List Int) :: cellsH b2 [v2] 36 :: slH 2 1 v1 3 [ii (2), ii (1), ii (0)] :: cellsH b1 [sN] 36 :: curH .i64 247 cb bsv bs.length :: L)
  refine qg (ii (x2)) rfl (qb (qK (jl (α := Nat × Value × List Int) (fun xQ => [(0, ptr cb 0), (2, ptr b1 0), (3, ptr b2 0), (4, ii (((xQ.1 : Nat) : Int)))]) (fun xQ => intsH 2 xQ.2.1 xQ.2.2 :: cellsH b2 [xQ.2.1] 36 :: slH 2 1 v1 3 [ii (2), ii (1), ii (0)] :: cellsH b1 [sN] 36 :: curH .i64 247 cb bsv bs.length :: L) (fun xQ F' => F = F' ∧ (IsSl xQ.2.1) ∧ (sigOk xQ.2.2 = true) ∧ (xQ.2.2.length + xQ.1 ≤ 4)) (fun xQ => xQ.1) (x2.toNat, v2, [0]) ⟨rfl, rfl, rfl, (vI (by omega)), ⟨⟩⟩ (sC (sC (sC (sC (sC sR))))) ⟨rfl, ((qN hv2)), ((show sigOk [0] = true from by decide)), (by (try simp only [List.length_cons, List.length_nil]); omega)⟩ ?_)))
  rintro ⟨n, ov, os⟩ rE _ _ ⟨rfl, hov, hso, hon⟩
  show X _ _ _ _ (envs [(0, ptr cb 0), (2, ptr b1 0), (3, ptr b2 0), (4, ii ((n : Int)))] rE) _ (intsH 2 ov os :: cellsH b2 [ov] 36 :: slH 2 1 v1 3 [ii (2), ii (1), ii (0)] :: cellsH b1 [sN] 36 :: curH .i64 247 cb bsv bs.length :: L)
  dsimp only at hov hso hon
  refine qc (qc (qa (qd (ii ((n : Int))) rfl (cX (jI rfl rfl (qb ?_))))))
  refine qA (p := (n : Int) > 0) rfl (fun h2 => ?_) (fun h2 => ?_)
  ·refine qw (qc (qK ?_))
   refine jW [intsH 2 ov os, cellsH b2 [ov] 36, slH 2 1 v1 3 [ii (2), ii (1), ii (0)], cellsH b1 [sN] 36, curH .i64 247 cb bsv bs.length] L 5 [[], [], [], [], [3]] [[], [0], [], [2], [3]] [] (phiG [pe (ptr b2 0), pe ov, pe (ptr cb 0), fun FF us v => (ii (((intAt v))) : Value) = v ∧ (0 ≤ ((intAt v)) ∧ (((intAt v)) < 3 ∨ ((intAt v)) = 0)), fun FF us v => ∃ b, v = .slice (some ⟨b, 0, none⟩) 1 1]) (ownL [o0, o0, o0, o0, fun us v => [slH 2 1 v 1 [ii (((intAt (us.getD 0 undef))))]]]) mixed rfl rfl (by kernel_rfl) (by kernel_rfl) (MonoG.get (m1 (m1 (m1 (mC (fun le h => ⟨h.1, h.2⟩) (mC (fun le h => h) MonoG.nil)))))) ?_ ?_
   ·refine gD (fun W Fs R lF z9 => ?_) ?_
    ·refine qi (ql (0) jg rfl qs (by decide) rfl rfl ?_)
     exact ⟨rfl, rfl⟩
    refine gD (fun W Fs R lF z9 => ?_) ?_
    ·replace hbs := hbs.mono lF
     rw [eS (l := [(0, _)]) ⟨z9 0 rfl, ⟨⟩⟩]
     refine qi (qj qU rfl (Rd.own [_] rfl rfl) ?_)
     exact ⟨rfl, rfl⟩
    refine gD (fun W Fs R lF z9 => ?_) ?_
    ·refine qi (qp (ptr cb 0) rfl ?_)
     exact ⟨rfl, rfl⟩
    refine gD (fun W Fs R lF z9 => ?_) ?_
    ·replace hbs := hbs.mono lF
     rw [eS (l := [(2, _)]) ⟨z9 2 rfl, ⟨⟩⟩]
     refine qi (qm (args := [ptr cb 0, ii (3)]) jL rfl (jf [_, _, _, _] (l1Below_spec (n := 3) hbs (by omega) (hn := (by first | assumption | rfl | omega | simp)))) ?_)
     rintro _ _ _ _ ⟨⟨rfl, x4, rfl, hr3⟩, rfl⟩
     exact ⟨⟨rfl, hr3⟩, rfl⟩
    refine gD (fun W Fs R lF z9 => ?_) ?_
    ·obtain ⟨e3, f3_1hx⟩ := z9 3 rfl
     rw [eS (l := [(3, (ii (((intAt (W 3))))))]) ⟨(e3).symm, ⟨⟩⟩]
     refine qi (qo (s := 1) [ii (((intAt (W 3))))] [ii (0)] [(0, [ii (((intAt (W 3))))])] qf qB qS rfl (by decide) rfl (.cons rfl CellsAre.nil) rfl ?_)
     intro v4 hv4
     exact ⟨hv4, rfl⟩
    exact stepsG.nil
   intro W F5 le5 hphi
   obtain ⟨e3, f3_1hx⟩ := hphi 3 (by decide)
   have f4 : ∃ b, (W 4) = .slice (some ⟨b, 0, none⟩) 1 1 := hphi 4 (by decide)
   generalize hu1 : (intAt (W 3)) = u1 at e3 f3_1hx f4
   generalize hu4 : W 4 = u2 at e3 f3_1hx f4
   rw [eS (l := [(1, _), (3, (ii ((u1)))), (4, u2)]) ⟨(hphi 1 (by decide)), (e3).symm, hu4, ⟨⟩⟩]
   show XL _ _ _ _ _ _ _ (slH 2 1 u2 1 [ii ((u1))] :: intsH 2 ov os :: cellsH b2 [ov] 36 :: slH 2 1 v1 3 [ii (2), ii (1), ii (0)] :: cellsH b1 [sN] 36 :: curH .i64 247 cb bsv bs.length :: L)
   refine cX (XOp.append1 (u := (u1)) [_] _ qf typeInfo2 rfl rfl rfl rfl rfl rfl (SlV.own [] rfl) (Rd.sl [] rfl rfl) (by (try simp only [List.length_append, List.length_nil, List.length_cons, List.length_singleton, List.length_take, List.length_drop]); omega) ?_)
   intro v5 hs1 hn1
   refine cX (ql (0) jg rfl qs (by decide) rfl rfl (cX (jv [_, _] _ [v5] qs rfl rfl (qG hs1) rfl rfl rfl (qb (qa (qd (ii ((n : Int))) rfl (cX (jq (((n : Int)) - 1) rfl rfl (by omega) (by omega) (qg (ii (((n : Int)) - 1)) rfl (qb ?_))))))))))
   exact ⟨(n - 1, v5, os ++ [(u1)]), _, FLe.refl _, le5, ⟨rfl, rfl, rfl, (vI (by (try dsimp only); omega)), ⟨⟩⟩, (sD (sC (sC (sC (sC (sC sR)))))), ⟨rfl, (hs1), (sigOk_snoc hso (by omega) (by omega)), (by (try dsimp only); rw [List.length_append]; simp only [List.length_singleton]; omega)⟩, (by (try dsimp only); omega)⟩
  refine jk (qt (qt (qM (qc (qa (cX (qr [ov] qX qF rfl rfl (Rd.ownN [_] rfl rfl) (cX (qL [_, _, _] _ [ov] qF rfl rfl rfl (qn (qG hov) qO) rfl rfl rfl (qb (qu (qq (L' := drawnH 2 ov (fun ar => sigOk ar = true) :: curH .i64 247 cb bsv bs.length :: L) [.agg #[ov]] (.agg #[ov]) (.cell rfl (ju [ov] qX qF rfl (Rd.ownN [_, _, _] rfl rfl)) .nil) rfl rF rF (qR (sC (sD (sD (sD (sC sR))))) (jU (drawnH.of (t := os) hso) sR)) ?_))))))))))))
  exact ⟨_, ⟨rfl, hov⟩, rfl⟩
 refine qw (qc (qa (cX (qr [v1] qX qF rfl rfl (Rd.ownN [] rfl rfl) (cX (qL [_, _] _ [v1] qF rfl rfl rfl (qn (qG (qN hv1)) qO) rfl rfl rfl (qb (qu (qq (L' := drawnH 2 v1 (fun ar => sigOk ar = true) :: curH .i64 247 cb bsv bs.length :: L) [.agg #[v1]] (.agg #[v1]) (.cell rfl (ju [v1] qX qF rfl (Rd.ownN [_, _] rfl rfl)) .nil) rfl rF rF (qR (sD (sC (sD (sC sR)))) (jU (drawnH.of (t := [2, 1, 0]) ((by decide))) sR)) ?_)))))))))
 exact ⟨_, ⟨rfl, (qN hv1)⟩, rfl⟩

/- spec.l1DrawSigAny -/
theorem l1DrawSigAny_spec {F : FH} {L : List HP} {cb : Nat} {bsv : Value} {bs : List Int} (hbs : BytesF F bsv bs) (hbl : bs.length ≤ 4000000) :
    Does prog 210 [ptr cb 0] F (curH .i64 247 cb bsv bs.length :: L) (fun v F' L' => (∃ (a : Value), ∃ (ar : List Int), (.agg #[a] : Value) = v ∧ (IntsF F' a ar) ∧ (ar.length ≤ 20)) ∧ curH .i64 247 cb bsv bs.length :: L = L') := by
 refine qI func210 rfl rfl rfl (qc (qa (cX (ji [sN] zeroValue36 rfl ?_))))
 intro b1
 refine qb (qc (qa (qd (ptr cb 0) rfl (cX (qm (args := [ptr cb 0]) call222 rfl (Does.atO [_] (l1DrawSig_spec hbs (by omega))) ?_)))))
 rintro _ F1 _ le1 ⟨x2, ⟨rfl, hsl1⟩, rfl⟩
 replace hbs := hbs.mono le1
 show XL _ _ _ _ _ _ _ (drawnH 2 x2 (fun ar => sigOk ar = true) :: cellsH b1 [sN] 36 :: curH .i64 247 cb bsv bs.length :: L)
 refine XL.undraw [] rfl (fun t1 hq9 => ?_)
 have q1 := hq9
 show XL _ _ _ _ _ _ _ (intsH 2 x2 t1 :: cellsH b1 [sN] 36 :: curH .i64 247 cb bsv bs.length :: L)
 have hsl9 := sigOk_spec q1
 refine cX (ji [sN] zeroValue36 rfl ?_)
 intro b2
 refine cX (qL [] _ [x2] qF rfl rfl rfl (qn (qG hsl1) qO) rfl rfl rfl (qb (qc (qc (qa (qd (ptr cb 0) rfl (cX (qm (args := [ptr cb 0, ii (15)]) call102 rfl (jf [_, _, _] (l1Once_spec (n := 15) hbs (by omega) (hn := (by first | assumption | rfl | omega | simp)))) ?_))))))))
 rintro _ _ _ _ ⟨⟨rfl, x3, rfl⟩, rfl⟩
 show XL _ _ _ _ _ _ _ (cellsH b2 [x2] 36 :: intsH 2 x2 t1 :: cellsH b1 [sN] 36 :: curH .i64 247 cb bsv bs.length :: L)
 refine qb ?_
 refine jz (t := x3) rfl (fun h1 => ?_) (fun h1 => ?_)
 ·refine qc (qa (qd (ptr cb 0) rfl (cX (qm (args := [ptr cb 0, ii (3)]) jL rfl (jf [_, _, _] (l1Below_spec (n := 3) hbs (by omega) (hn := (by first | assumption | rfl | omega | simp)))) ?_))))
  rintro _ _ _ _ ⟨⟨rfl, x4, rfl, hr1⟩, rfl⟩
  show XL _ _ _ _ _ _ _ (cellsH b2 [x2] 36 :: intsH 2 x2 t1 :: cellsH b1 [sN] 36 :: curH .i64 247 cb bsv bs.length :: L)
  refine qb (qK (qc (qa (cX (js rfl rfl (qg (.bool (decide ((x4 : Int) = 0))) rfl (qb ?_)))))))
  refine qA (p := (x4 : Int) = 0) rfl (fun h2 => ?_) (fun h2 => ?_)
  ·refine jW [cellsH b2 [x2] 36, intsH 2 x2 t1, cellsH b1 [sN] 36, curH .i64 247 cb bsv bs.length] L 5 [[], [], [], [], [3]] [[], [0], [], [2], [3]] [] (phiG [pe (ptr b2 0), pe x2, pe (ptr cb 0), fun FF us v => (ii (((intAt v))) : Value) = v ∧ ((-1) ≤ ((intAt v)) ∧ (((intAt v)) ≤ 4 ∨ ((intAt v)) = (-1))), fun FF us v => ∃ b, v = .slice (some ⟨b, 0, none⟩) 1 1]) (ownL [o0, o0, o0, o0, fun us v => [slH 2 1 v 1 [ii (((intAt (us.getD 0 undef))))]]]) mixed rfl rfl (by kernel_rfl) (by kernel_rfl) (MonoG.get (m1 (m1 (m1 (mC (fun le h => ⟨h.1, h.2⟩) (mC (fun le h => h) MonoG.nil)))))) ?_ ?_
   ·refine gD (fun W Fs R lF z9 => ?_) ?_
    ·refine qi (ql (0) jg rfl qs (by decide) rfl rfl ?_)
     exact ⟨rfl, rfl⟩
    refine gD (fun W Fs R lF z9 => ?_) ?_
    ·replace hbs := hbs.mono lF
     rw [eS (l := [(0, _)]) ⟨z9 0 rfl, ⟨⟩⟩]
     refine qi (qj qU rfl (Rd.own [] rfl rfl) ?_)
     exact ⟨rfl, rfl⟩
    refine gD (fun W Fs R lF z9 => ?_) ?_
    ·refine qi (qp (ptr cb 0) rfl ?_)
     exact ⟨rfl, rfl⟩
    refine gD (fun W Fs R lF z9 => ?_) ?_
    ·replace hbs := hbs.mono lF
     rw [eS (l := [(2, _)]) ⟨z9 2 rfl, ⟨⟩⟩]
     refine qi (qm (args := [ptr cb 0, ii (-1), ii (4)]) call201 rfl (jf [_, _, _] (l1From_spec (lo := -1) (hi := 4) hbs (by omega) (hlo := (by first | assumption | rfl | omega | simp)))) ?_)
     rintro _ _ _ _ ⟨⟨rfl, x6, rfl, hr3⟩, rfl⟩
     exact ⟨⟨rfl, hr3⟩, rfl⟩
    refine gD (fun W Fs R lF z9 => ?_) ?_
    ·obtain ⟨e3, f3_1hx⟩ := z9 3 rfl
     replace hbs := hbs.mono lF
     rw [eS (l := [(3, (ii (((intAt (W 3))))))]) ⟨(e3).symm, ⟨⟩⟩]
     refine qi (qo (s := 1) [ii (((intAt (W 3))))] [ii (0)] [(0, [ii (((intAt (W 3))))])] qf qB qS rfl (by decide) rfl (.cons rfl CellsAre.nil) rfl ?_)
     intro v2 hv2
     exact ⟨hv2, rfl⟩
    exact stepsG.nil
   intro W F6 le6 hphi
   obtain ⟨e3, f3_1hx⟩ := hphi 3 (by decide)
   have f4 : ∃ b, (W 4) = .slice (some ⟨b, 0, none⟩) 1 1 := hphi 4 (by decide)
   generalize hu1 : (intAt (W 3)) = u1 at e3 f3_1hx f4
   generalize hu4 : W 4 = u2 at e3 f3_1hx f4
   rw [eS (l := [(1, _), (3, (ii ((u1)))), (4, u2)]) ⟨(hphi 1 (by decide)), (e3).symm, hu4, ⟨⟩⟩]
   replace hbs := hbs.mono le6
   show XL _ _ _ _ _ _ _ (slH 2 1 u2 1 [ii ((u1))] :: cellsH b2 [x2] 36 :: intsH 2 x2 t1 :: cellsH b1 [sN] 36 :: curH .i64 247 cb bsv bs.length :: L)
   refine cX (XOp.append1 (u := (u1)) [_, _] _ qf typeInfo2 rfl rfl rfl rfl rfl rfl (SlV.own [] rfl) (Rd.sl [] rfl rfl) (by (try simp only [List.length_append, List.length_nil, List.length_cons, List.length_singleton, List.length_take, List.length_drop]); omega) ?_)
   intro v3 hs1 hn1
   refine cX (ql (0) jg rfl qs (by decide) rfl rfl (cX (jv [_] _ [v3] qs rfl rfl (qG hs1) rfl rfl rfl (qb (qc (qa (cX (qr [v3] qX qF rfl rfl (Rd.ownN [_] rfl rfl) (cX (qL [_, _, _] _ [v3] qF rfl rfl rfl (qn (qG hs1) qO) rfl rfl rfl (qb (qQ [_, _] _ _ rfl (fun F7 le7 hz1 => ?_)))))))))))))
   replace hbs := hbs.mono le7
   have hf1 : IntsF F7 v3 (t1 ++ [(u1)]) := intsH.fz (xs := t1 ++ [(u1)]) hz1.fz
   refine qu (qq (L' := curH .i64 247 cb bsv bs.length :: L) [.agg #[v3]] (.agg #[v3]) (.cell rfl (ju [v3] qX qF rfl (Rd.ownN [_, _] rfl rfl)) .nil) rfl (qh (qh le1 le6) le7) rF (sD (sD (sD (sC sR)))) ?_)
   exact ⟨⟨_, _, rfl, hf1, by (have h9 := sigOk_spec q1); (try simp only [List.length_append, List.length_cons, List.length_nil, List.length_replicate]); omega⟩, rfl⟩
  refine qc (qa (cX (js rfl rfl (qg (.bool (decide ((x4 : Int) = 1))) rfl (qb ?_)))))
  refine qA (p := (x4 : Int) = 1) rfl (fun h3 => ?_) (fun h3 => ?_)
  ·refine qa (cX (qo (s := 1) [] [ii (0)] [] qf qB qS rfl (by decide) rfl CellsAre.nil rfl ?_))
   intro v4 hv3
   refine cX (ql (0) jg rfl qs (by decide) rfl rfl (cX (jv [_] _ [v4] qs rfl rfl (qG (qN hv3)) rfl rfl rfl (qb (qc (qa (cX (qr [v4] qX qF rfl rfl (Rd.ownN [_] rfl rfl) (cX (qL [_, _, _] _ [v4] qF rfl rfl rfl (qn (qG (qN hv3)) qO) rfl rfl rfl (qb ?_)))))))))))
   show X _ _ _ _ _ _ (intsH 2 v4 ([] : List Int) :: cellsH b2 [v4] 36 :: intsH 2 x2 t1 :: cellsH b1 [v4] 36 :: curH .i64 247 cb bsv bs.length :: L)
   refine qQ [] _ _ rfl (fun F8 le8 hz2 => ?_)
   replace hbs := hbs.mono le8
   have hf2 : IntsF F8 v4 ([]) := intsH.fz (xs := []) hz2.fz
   refine qu (qq (L' := curH .i64 247 cb bsv bs.length :: L) [.agg #[v4]] (.agg #[v4]) (.cell rfl (ju [v4] qX qF rfl (Rd.ownN [_, _] rfl rfl)) .nil) rfl (qh le1 le8) rF (sD (sD (sD (sC sR)))) ?_)
   exact ⟨⟨_, _, rfl, hf2, by (have h9 := sigOk_spec q1); (try simp only [List.length_append, List.length_cons, List.length_nil, List.length_replicate]); omega⟩, rfl⟩
  refine qc (qa (cX (js rfl rfl (qg (.bool (decide ((x4 : Int) = 2))) rfl (qb ?_)))))
  refine qA (p := (x4 : Int) = 2) rfl (fun h4 => ?_) (fun h4 => ?_)
  ·refine qa (qd (ptr cb 0) rfl (cX (qm (args := [ptr cb 0, ii (2)]) jL rfl (jf [_, _, _] (l1Below_spec (n := 2) hbs (by omega) (hn := (by first | assumption | rfl | omega | simp)))) ?_)))
   rintro _ _ _ _ ⟨⟨rfl, x7, rfl, hr4⟩, rfl⟩
   show XL _ _ _ _ _ _ _ (cellsH b2 [x2] 36 :: intsH 2 x2 t1 :: cellsH b1 [sN] 36 :: curH .i64 247 cb bsv bs.length :: L)
   refine cX (qH (((8 + (x7).toNat : Nat) : Int)) rfl rfl (by omega) (by omega) (cX (XOp.makeSlice (n := 8 + (x7).toNat) (bytes := 8) [ii (0)] qf qB typeInfo2 rfl qS rfl rfl rfl rfl (by omega) (by omega) ?_)))
   intro v5 hv4
   rw [intsH_zeros]
   refine cX (ql (0) jg rfl qs (by decide) rfl rfl (cX (jv [_] _ [v5] qs rfl rfl (qG (qN hv4)) rfl rfl rfl (qb (qc (qa (cX (qr [v5] qX qF rfl rfl (Rd.ownN [_] rfl rfl) (cX (qL [_, _, _] _ [v5] qF rfl rfl rfl (qn (qG (qN hv4)) qO) rfl rfl rfl (qb (qQ [] _ _ rfl (fun F10 le10 hz3 => ?_)))))))))))))
   have hf3 : IntsF F10 v5 ((List.replicate (8 + (x7).toNat) 0)) := intsH.fz (xs := (List.replicate (8 + (x7).toNat) 0)) hz3.fz
   refine qu (qq (L' := curH .i64 247 cb bsv bs.length :: L) [.agg #[v5]] (.agg #[v5]) (.cell rfl (ju [v5] qX qF rfl (Rd.ownN [_, _] rfl rfl)) .nil) rfl (qh le1 le10) rF (sD (sD (sD (sC sR)))) ?_)
   exact ⟨⟨_, _, rfl, hf3, by (have h9 := sigOk_spec q1); (try simp only [List.length_append, List.length_cons, List.length_nil, List.length_replicate]); omega⟩, rfl⟩
  refine qw (qc (qa (cX (qr [x2] qX qF rfl rfl (Rd.ownN [] rfl rfl) (cX (qL [_, _] _ [x2] qF rfl rfl rfl (qn (qG hsl1) qO) rfl rfl rfl (qb (qQ [_] _ _ rfl (fun F11 le11 hz4 => ?_)))))))))
  have hf4 : IntsF F11 x2 t1 := intsH.fz (xs := t1) hz4.fz
  refine qu (qq (L' := curH .i64 247 cb bsv bs.length :: L) [.agg #[x2]] (.agg #[x2]) (.cell rfl (ju [x2] qX qF rfl (Rd.ownN [_] rfl rfl)) .nil) rfl (qh le1 le11) rF (sD (sD (sC sR))) ?_)
  exact ⟨⟨_, _, rfl, hf4, by (have h9 := sigOk_spec q1); (try simp only [List.length_append, List.length_cons, List.length_nil, List.length_replicate]); omega⟩, rfl⟩
 refine qw (qc (qa (cX (qr [x2] qX qF rfl rfl (Rd.ownN [] rfl rfl) (cX (qL [_, _] _ [x2] qF rfl rfl rfl (qn (qG hsl1) qO) rfl rfl rfl (qb (qQ [_] _ _ rfl (fun F12 le12 hz5 => ?_)))))))))
 have hf5 : IntsF F12 x2 t1 := intsH.fz (xs := t1) hz5.fz
 refine qu (qq (L' := curH .i64 247 cb bsv bs.length :: L) [.agg #[x2]] (.agg #[x2]) (.cell rfl (ju [x2] qX qF rfl (Rd.ownN [_] rfl rfl)) .nil) rfl (qh le1 le12) rF (sD (sD (sC sR))) ?_)
 exact ⟨⟨_, _, rfl, hf5, by (have h9 := sigOk_spec q1); (try simp only [List.length_append, List.length_cons, List.length_nil, List.length_replicate]); omega⟩, rfl⟩

/- spec.l1DrawTerm -/
theorem l1DrawTerm_spec_step {dp : Nat} (ih : ∀ m : Nat, m < dp → ∀ {F : FH} {L : List HP} {cb : Nat} {bsv : Value} {bs : List Int} (hbs : BytesF F bsv bs) (hbl : bs.length ≤ 4000000) {arv : Value} {ar : List Int} (har : IntsF F arv ar) {vs : Int} (hso : sigOk ar = true) (hdp : m ≤ 5) (hvs : 0 ≤ vs ∧ vs ≤ 24), Does prog 252 [ptr cb 0, .agg #[arv], ii ((m : Int)), ii (vs)] F (curH .i64 247 cb bsv bs.length :: L) (fun v F' L' => ∃ a : Value, ((a : Value) = v ∧ IsSl a) ∧ drawnH 2 a (fun t => goodT ar t ∧ 1 ≤ t.length ∧ t.length ≤ szT m) :: curH .i64 247 cb bsv bs.length :: L = L')) {F : FH} {L : List HP} {cb : Nat} {bsv : Value} {bs : List Int} (hbs : BytesF F bsv bs) (hbl : bs.length ≤ 4000000) {arv : Value} {ar : List Int} (har : IntsF F arv ar) {vs : Int} (hso : sigOk ar = true) (hdp : dp ≤ 5) (hvs : 0 ≤ vs ∧ vs ≤ 24) :
    Does prog 252 [ptr cb 0, .agg #[arv], ii (((dp : Nat) : Int)), ii (vs)] F (curH .i64 247 cb bsv bs.length :: L) (fun v F' L' => ∃ a : Value, ((a : Value) = v ∧ IsSl a) ∧ drawnH 2 a (fun t => goodT ar t ∧ 1 ≤ t.length ∧ t.length ≤ szT dp) :: curH .i64 247 cb bsv bs.length :: L = L') := by
 refine qI func252 rfl rfl rfl ?_
 have hz9 := szT_le (d := dp - 1) (e := 4) (by omega)
 have hz8 : szT 4 = 121 := rfl
 have hz7 := szT_pos (dp - 1)
 have hsl := sigOk_spec hso
 refine qc (qa (cX (jc [arv] rfl rfl ?_)))
 intro b1
 refine qg (sN) rfl (qb (qc (qc (qa (qd (ii (((dp : Nat) : Int))) rfl (cX (XOp.leq rfl rfl (qd (.bool (decide ((((dp : Nat) : Int) : Int) ≤ 1))) rfl ?_))))))))
 by_cases h1 : (((dp : Nat) : Int) : Int) ≤ 1
 ·refine qx (t := 15) rfl (vT h1) (qx (t := 15) rfl (vT h1) (cX (jj (.bool (true)) (vT h1) rfl (qb (yd rfl (qc (qc (qa (qd (ii (vs)) rfl (cX (jI rfl rfl (qd (.bool (decide ((vs : Int) > 0))) rfl ?_))))))))))))
  by_cases h2 : (vs : Int) > 0
  ·refine qy (t := 21) rfl (vT h2) (qp (ptr cb 0) rfl (qy (t := 21) rfl (vT h2) (qm (args := [ptr cb 0, ii (2)]) call102 rfl (jf [_] (l1Once_spec (n := 2) hbs (by omega) (hn := (by first | assumption | rfl | omega | simp)))) ?_)))
   rintro _ _ _ _ ⟨⟨rfl, x1, rfl⟩, rfl⟩
   show XL _ _ _ _ _ _ _ (cellsH b1 [arv] 36 :: curH .i64 247 cb bsv bs.length :: L)
   refine cX (jj (.bool (x1)) (vT h2) rfl (qb ?_))
   refine jz (t := x1) rfl (fun h3 => ?_) (fun h3 => ?_)
   ·refine qc (qa (qd (ptr cb 0) rfl (qd (ii (vs)) rfl (cX (qm (args := [ptr cb 0, ii (vs)]) jL rfl (jf [_] (l1Below_spec (n := vs) hbs (by omega) (hn := (by first | assumption | rfl | omega | simp)))) ?_)))))
    rintro _ _ _ _ ⟨⟨rfl, x2, rfl, hr1⟩, rfl⟩
    show XL _ _ _ _ _ _ _ (cellsH b1 [arv] 36 :: curH .i64 247 cb bsv bs.length :: L)
    refine cX (jq ((-1) - x2) rfl rfl (by omega) (by omega) (cX (qo (s := 1) [ii ((-1) - x2)] [ii (0)] [(0, [ii ((-1) - x2)])] qf qB qS rfl (by decide) rfl (.cons rfl CellsAre.nil) rfl ?_)))
    intro v1 hv1
    refine qg (v1) rfl (qb (qu (qk (qk (qq (L' := drawnH 2 v1 (fun t => goodT ar t ∧ 1 ≤ t.length ∧ t.length ≤ szT dp) :: curH .i64 247 cb bsv bs.length :: L) [v1] (v1) (.tmp rfl .nil) rfl rF rF (qR (sC (sD (sC sR))) (jU (drawnH.of (t := [(-1) - x2]) (⟨goodT.var (by omega) (by omega), Nat.le_refl _, szT_pos dp⟩)) sR)) ?_)))))
    exact ⟨_, ⟨rfl, (qN hv1)⟩, rfl⟩
   refine qw (qc (qc (qa (cX (ql (0) jg rfl qs (by decide) rfl rfl (cX (qj qU rfl (Rd.own [] rfl rfl) (cX (qE qf rfl har.slv (cX (jq (((((ar).length) - 1 : Nat) : Int)) rfl rfl (by omega) (by omega) (qg (ii (((((ar).length) - 1 : Nat) : Int))) rfl (qb (qK (jl (α := Nat) (fun j => [(5, ptr b1 0), (9, ii ((j : Int) - 1))]) (fun j => cellsH b1 [arv] 36 :: curH .i64 247 cb bsv bs.length :: L) (fun j F' => F = F' ∧ (j ≤ ar.length)) (fun j => j) ar.length ⟨rfl, (vI (by omega)), ⟨⟩⟩ (sC (sC sR)) ⟨rfl, (Nat.le_refl _)⟩ ?_)))))))))))))))
   rintro j rE _ _ ⟨rfl, hj⟩
   show X _ _ _ _ (envs [(5, ptr b1 0), (9, ii ((j : Int) - 1))] rE) _ (cellsH b1 [arv] 36 :: curH .i64 247 cb bsv bs.length :: L)
   refine qc (qc (qa (qd (ii ((j : Int) - 1)) rfl (cX (jQ rfl rfl (qb ?_))))))
   refine qA (p := ((j : Int) - 1 : Int) ≥ 0) rfl (fun h4 => ?_) (fun h4 => ?_)
   ·refine qw (qc (qK (qc (qa (cX (ql (0) jg rfl qs (by decide) rfl rfl (cX (qj qU rfl (Rd.own [] rfl rfl) (qd (ii ((j : Int) - 1)) rfl (cX (qD (((j : Int) - 1).toNat) qf qB rfl rfl (by omega) har.slv (by omega) (Nat.mul_one _) (cX (qj jm rfl (har.rd (by omega)) (cX (js rfl rfl (qb ?_))))))))))))))))
    refine qA (p := (ar.getD (((j : Int) - 1).toNat) 0 : Int) = 0) rfl (fun h5 => ?_) (fun h5 => ?_)
    ·refine qc (qa (qd (ii ((j : Int) - 1)) rfl (cX (qo (s := 1) [ii ((j : Int) - 1)] [ii (0)] [(0, [ii ((j : Int) - 1)])] qf qB qS rfl (by decide) rfl (.cons rfl CellsAre.nil) rfl ?_))))
     intro v2 hv2
     refine qg (v2) rfl (qb (qu (qC (qk (qk (qC (qk (qk (qq (L' := drawnH 2 v2 (fun t => goodT ar t ∧ 1 ≤ t.length ∧ t.length ≤ szT dp) :: curH .i64 247 cb bsv bs.length :: L) [v2] (v2) (.tmp rfl .nil) rfl rF rF (qR (sC (sD (sC sR))) (jU (drawnH.of (t := [(j : Int) - 1]) (⟨goodT.one (by omega) (by omega) (by rw [arity, if_neg (by omega)]; omega), Nat.le_refl _, szT_pos dp⟩)) sR)) ?_)))))))))
     exact ⟨_, ⟨rfl, (qN hv2)⟩, rfl⟩
    refine qw (qa (qd (ii ((j : Int) - 1)) rfl (cX (jq (((j : Int) - 1) - 1) rfl rfl (by omega) (by omega) (qg (ii (((j : Int) - 1) - 1)) rfl (qb ?_))))))
    exact ⟨j - 1, _, FLe.refl _, rF, ⟨rfl, (vI (by (try dsimp only); omega)), ⟨⟩⟩, (sC (sC sR)), ⟨rfl, (by (try dsimp only) <;> omega)⟩, (by (try dsimp only); omega)⟩
   refine jk (qt (qt (qM (qc (qa (cX (qo (s := 1) [ii (-1)] [ii (0)] [(0, [ii (-1)])] qf qB qS rfl (by decide) rfl (.cons rfl CellsAre.nil) rfl ?_)))))))
   intro v3 hv3
   refine qg (v3) rfl (qb (qu (qk (qq (L' := drawnH 2 v3 (fun t => goodT ar t ∧ 1 ≤ t.length ∧ t.length ≤ szT dp) :: curH .i64 247 cb bsv bs.length :: L) [v3] (v3) (.tmp rfl .nil) rfl rF rF (qR (sC (sD (sC sR))) (jU (drawnH.of (t := [-1]) (⟨goodT.var (by omega) (by omega), Nat.le_refl _, szT_pos dp⟩)) sR)) ?_))))
   exact ⟨_, ⟨rfl, (qN hv3)⟩, rfl⟩
  refine qx (t := 21) rfl (vF h2) (qx (t := 21) rfl (vF h2) (cX (qY (.bool (false)) (vF h2) rfl (qb (X.condF rfl (qw (qc (qc (qa (cX (ql (0) jg rfl qs (by decide) rfl rfl (cX (qj qU rfl (Rd.own [] rfl rfl) (cX (qE qf rfl har.slv (cX (jq (((((ar).length) - 1 : Nat) : Int)) rfl rfl (by omega) (by omega) ?_)))))))))))))))))
  refine qg (ii (((((ar).length) - 1 : Nat) : Int))) rfl (qb (qK (jl (α := Nat) (fun j => [(5, ptr b1 0), (9, ii ((j : Int) - 1))]) (fun j => cellsH b1 [arv] 36 :: curH .i64 247 cb bsv bs.length :: L) (fun j F' => F = F' ∧ (j ≤ ar.length)) (fun j => j) ar.length ⟨rfl, (vI (by omega)), ⟨⟩⟩ (sC (sC sR)) ⟨rfl, (Nat.le_refl _)⟩ ?_)))
  rintro j rE _ _ ⟨rfl, hj⟩
  show X _ _ _ _ (envs [(5, ptr b1 0), (9, ii ((j : Int) - 1))] rE) _ (cellsH b1 [arv] 36 :: curH .i64 247 cb bsv bs.length :: L)
  refine qc (qc (qa (qd (ii ((j : Int) - 1)) rfl (cX (jQ rfl rfl (qb ?_))))))
  refine qA (p := ((j : Int) - 1 : Int) ≥ 0) rfl (fun h6 => ?_) (fun h6 => ?_)
  ·refine qw (qc (qK (qc (qa (cX (ql (0) jg rfl qs (by decide) rfl rfl (cX (qj qU rfl (Rd.own [] rfl rfl) (qd (ii ((j : Int) - 1)) rfl (cX (qD (((j : Int) - 1).toNat) qf qB rfl rfl (by omega) har.slv (by omega) (Nat.mul_one _) (cX (qj jm rfl (har.rd (by omega)) (cX (js rfl rfl (qb ?_))))))))))))))))
   refine qA (p := (ar.getD (((j : Int) - 1).toNat) 0 : Int) = 0) rfl (fun h7 => ?_) (fun h7 => ?_)
   ·refine qc (qa (qd (ii ((j : Int) - 1)) rfl (cX (qo (s := 1) [ii ((j : Int) - 1)] [ii (0)] [(0, [ii ((j : Int) - 1)])] qf qB qS rfl (by decide) rfl (.cons rfl CellsAre.nil) rfl ?_))))
    intro v4 hv4
    refine qg (v4) rfl (qb (qu (qC (qk (qk (qC (qk (qk (qq (L' := drawnH 2 v4 (fun t => goodT ar t ∧ 1 ≤ t.length ∧ t.length ≤ szT dp) :: curH .i64 247 cb bsv bs.length :: L) [v4] (v4) (.tmp rfl .nil) rfl rF rF (qR (sC (sD (sC sR))) (jU (drawnH.of (t := [(j : Int) - 1]) (⟨goodT.one (by omega) (by omega) (by rw [arity, if_neg (by omega)]; omega), Nat.le_refl _, szT_pos dp⟩)) sR)) ?_)))))))))
    exact ⟨_, ⟨rfl, (qN hv4)⟩, rfl⟩
   refine qw (qa (qd (ii ((j : Int) - 1)) rfl (cX (jq (((j : Int) - 1) - 1) rfl rfl (by omega) (by omega) (qg (ii (((j : Int) - 1) - 1)) rfl (qb ?_))))))
   exact ⟨j - 1, _, FLe.refl _, rF, ⟨rfl, (vI (by (try dsimp only); omega)), ⟨⟩⟩, (sC (sC sR)), ⟨rfl, (by (try dsimp only) <;> omega)⟩, (by (try dsimp only); omega)⟩
  refine jk (qt (qt (qM (qc (qa (cX (qo (s := 1) [ii (-1)] [ii (0)] [(0, [ii (-1)])] qf qB qS rfl (by decide) rfl (.cons rfl CellsAre.nil) rfl ?_)))))))
  intro v5 hv5
  refine qg (v5) rfl (qb (qu (qk (qq (L' := drawnH 2 v5 (fun t => goodT ar t ∧ 1 ≤ t.length ∧ t.length ≤ szT dp) :: curH .i64 247 cb bsv bs.length :: L) [v5] (v5) (.tmp rfl .nil) rfl rF rF (qR (sC (sD (sC sR))) (jU (drawnH.of (t := [-1]) (⟨goodT.var (by omega) (by omega), Nat.le_refl _, szT_pos dp⟩)) sR)) ?_))))
  exact ⟨_, ⟨rfl, (qN hv5)⟩, rfl⟩
 refine qy (t := 15) rfl (vF h1) (qp (ptr cb 0) rfl (qy (t := 15) rfl (vF h1) (qm (args := [ptr cb 0, ii (4)]) call102 rfl (jf [_] (l1Once_spec (n := 4) hbs (by omega) (hn := (by first | assumption | rfl | omega | simp)))) ?_)))
 rintro _ _ _ _ ⟨⟨rfl, x3, rfl⟩, rfl⟩
 show XL _ _ _ _ _ _ _ (cellsH b1 [arv] 36 :: curH .i64 247 cb bsv bs.length :: L)
 refine cX (qY (.bool (x3)) (vF h1) rfl (qb ?_))
 refine jz (t := x3) rfl (fun h8 => ?_) (fun h8 => ?_)
 ·refine qc (qc (qa (qd (ii (vs)) rfl (cX (jI rfl rfl (qd (.bool (decide ((vs : Int) > 0))) rfl ?_))))))
  by_cases h9 : (vs : Int) > 0
  ·refine qy (t := 21) rfl (vT h9) (qp (ptr cb 0) rfl (qy (t := 21) rfl (vT h9) (qm (args := [ptr cb 0, ii (2)]) call102 rfl (jf [_] (l1Once_spec (n := 2) hbs (by omega) (hn := (by first | assumption | rfl | omega | simp)))) ?_)))
   rintro _ _ _ _ ⟨⟨rfl, x4, rfl⟩, rfl⟩
   show XL _ _ _ _ _ _ _ (cellsH b1 [arv] 36 :: curH .i64 247 cb bsv bs.length :: L)
   refine cX (jj (.bool (x4)) (vT h9) rfl (qb ?_))
   refine jz (t := x4) rfl (fun h10 => ?_) (fun h10 => ?_)
   ·refine qc (qa (qd (ptr cb 0) rfl (qd (ii (vs)) rfl (cX (qm (args := [ptr cb 0, ii (vs)]) jL rfl (jf [_] (l1Below_spec (n := vs) hbs (by omega) (hn := (by first | assumption | rfl | omega | simp)))) ?_)))))
    rintro _ _ _ _ ⟨⟨rfl, x5, rfl, hr2⟩, rfl⟩
    show XL _ _ _ _ _ _ _ (cellsH b1 [arv] 36 :: curH .i64 247 cb bsv bs.length :: L)
    refine cX (jq ((-1) - x5) rfl rfl (by omega) (by omega) (cX (qo (s := 1) [ii ((-1) - x5)] [ii (0)] [(0, [ii ((-1) - x5)])] qf qB qS rfl (by decide) rfl (.cons rfl CellsAre.nil) rfl ?_)))
    intro v6 hv6
    refine qg (v6) rfl (qb (qu (qk (qk (qq (L' := drawnH 2 v6 (fun t => goodT ar t ∧ 1 ≤ t.length ∧ t.length ≤ szT dp) :: curH .i64 247 cb bsv bs.length :: L) [v6] (v6) (.tmp rfl .nil) rfl rF rF (qR (sC (sD (sC sR))) (jU (drawnH.of (t := [(-1) - x5]) (⟨goodT.var (by omega) (by omega), Nat.le_refl _, szT_pos dp⟩)) sR)) ?_)))))
    exact ⟨_, ⟨rfl, (qN hv6)⟩, rfl⟩
   refine qw (qc (qc (qa (cX (ql (0) jg rfl qs (by decide) rfl rfl (cX (qj qU rfl (Rd.own [] rfl rfl) (cX (qE qf rfl har.slv (cX (jq (((((ar).length) - 1 : Nat) : Int)) rfl rfl (by omega) (by omega) (qg (ii (((((ar).length) - 1 : Nat) : Int))) rfl (qb (qK (jl (α := Nat) (fun j => [(5, ptr b1 0), (9, ii ((j : Int) - 1))]) (fun j => cellsH b1 [arv] 36 :: curH .i64 247 cb bsv bs.length :: L) (fun j F' => F = F' ∧ (j ≤ ar.length)) (fun j => j) ar.length ⟨rfl, (vI (by omega)), ⟨⟩⟩ (sC (sC sR)) ⟨rfl, (Nat.le_refl _)⟩ ?_)))))))))))))))
   rintro j rE _ _ ⟨rfl, hj⟩
   show X _ _ _ _ (envs [(5, ptr b1 0), (9, ii ((j : Int) - 1))] rE) _ (cellsH b1 [arv] 36 :: curH .i64 247 cb bsv bs.length :: L)
   refine qc (qc (qa (qd (ii ((j : Int) - 1)) rfl (cX (jQ rfl rfl (qb ?_))))))
   refine qA (p := ((j : Int) - 1 : Int) ≥ 0) rfl (fun h11 => ?_) (fun h11 => ?_)
   ·refine qw (qc (qK (qc (qa (cX (ql (0) jg rfl qs (by decide) rfl rfl (cX (qj qU rfl (Rd.own [] rfl rfl) (qd (ii ((j : Int) - 1)) rfl (cX (qD (((j : Int) - 1).toNat) qf qB rfl rfl (by omega) har.slv (by omega) (Nat.mul_one _) (cX (qj jm rfl (har.rd (by omega)) (cX (js rfl rfl (qb ?_))))))))))))))))
    refine qA (p := (ar.getD (((j : Int) - 1).toNat) 0 : Int) = 0) rfl (fun h12 => ?_) (fun h12 => ?_)
    ·refine qc (qa (qd (ii ((j : Int) - 1)) rfl (cX (qo (s := 1) [ii ((j : Int) - 1)] [ii (0)] [(0, [ii ((j : Int) - 1)])] qf qB qS rfl (by decide) rfl (.cons rfl CellsAre.nil) rfl ?_))))
     intro v7 hv7
     refine qg (v7) rfl (qb (qu (qC (qk (qk (qC (qk (qk (qq (L' := drawnH 2 v7 (fun t => goodT ar t ∧ 1 ≤ t.length ∧ t.length ≤ szT dp) :: curH .i64 247 cb bsv bs.length :: L) [v7] (v7) (.tmp rfl .nil) rfl rF rF (qR (sC (sD (sC sR))) (jU (drawnH.of (t := [(j : Int) - 1]) (⟨goodT.one (by omega) (by omega) (by rw [arity, if_neg (by omega)]; omega), Nat.le_refl _, szT_pos dp⟩)) sR)) ?_)))))))))
     exact ⟨_, ⟨rfl, (qN hv7)⟩, rfl⟩
    refine qw (qa (qd (ii ((j : Int) - 1)) rfl (cX (jq (((j : Int) - 1) - 1) rfl rfl (by omega) (by omega) (qg (ii (((j : Int) - 1) - 1)) rfl (qb ?_))))))
    exact ⟨j - 1, _, FLe.refl _, rF, ⟨rfl, (vI (by (try dsimp only); omega)), ⟨⟩⟩, (sC (sC sR)), ⟨rfl, (by (try dsimp only) <;> omega)⟩, (by (try dsimp only); omega)⟩
   refine jk (qt (qt (qM (qc (qa (cX (qo (s := 1) [ii (-1)] [ii (0)] [(0, [ii (-1)])] qf qB qS rfl (by decide) rfl (.cons rfl CellsAre.nil) rfl ?_)))))))
   intro v8 hv8
   refine qg (v8) rfl (qb (qu (qk (qq (L' := drawnH 2 v8 (fun t => goodT ar t ∧ 1 ≤ t.length ∧ t.length ≤ szT dp) :: curH .i64 247 cb bsv bs.length :: L) [v8] (v8) (.tmp rfl .nil) rfl rF rF (qR (sC (sD (sC sR))) (jU (drawnH.of (t := [-1]) (⟨goodT.var (by omega) (by omega), Nat.le_refl _, szT_pos dp⟩)) sR)) ?_))))
   exact ⟨_, ⟨rfl, (qN hv8)⟩, rfl⟩
  refine qx (t := 21) rfl (vF h9) (qx (t := 21) rfl (vF h9) (cX (qY (.bool (false)) (vF h9) rfl (qb (X.condF rfl (qw (qc (qc (qa (cX (ql (0) jg rfl qs (by decide) rfl rfl (cX (qj qU rfl (Rd.own [] rfl rfl) (cX (qE qf rfl har.slv (cX (jq (((((ar).length) - 1 : Nat) : Int)) rfl rfl (by omega) (by omega) ?_)))))))))))))))))
  refine qg (ii (((((ar).length) - 1 : Nat) : Int))) rfl (qb (qK (jl (α := Nat) (fun j => [(5, ptr b1 0), (9, ii ((j : Int) - 1))]) (fun j => cellsH b1 [arv] 36 :: curH .i64 247 cb bsv bs.length :: L) (fun j F' => F = F' ∧ (j ≤ ar.length)) (fun j => j) ar.length ⟨rfl, (vI (by omega)), ⟨⟩⟩ (sC (sC sR)) ⟨rfl, (Nat.le_refl _)⟩ ?_)))
  rintro j rE _ _ ⟨rfl, hj⟩
  show X _ _ _ _ (envs [(5, ptr b1 0), (9, ii ((j : Int) - 1))] rE) _ (cellsH b1 [arv] 36 :: curH .i64 247 cb bsv bs.length :: L)
  refine qc (qc (qa (qd (ii ((j : Int) - 1)) rfl (cX (jQ rfl rfl (qb ?_))))))
  refine qA (p := ((j : Int) - 1 : Int) ≥ 0) rfl (fun h13 => ?_) (fun h13 => ?_)
  ·refine qw (qc (qK (qc (qa (cX (ql (0) jg rfl qs (by decide) rfl rfl (cX (qj qU rfl (Rd.own [] rfl rfl) (qd (ii ((j : Int) - 1)) rfl (cX (qD (((j : Int) - 1).toNat) qf qB rfl rfl (by omega) har.slv (by omega) (Nat.mul_one _) (cX (qj jm rfl (har.rd (by omega)) (cX (js rfl rfl (qb ?_))))))))))))))))
   refine qA (p := (ar.getD (((j : Int) - 1).toNat) 0 : Int) = 0) rfl (fun h14 => ?_) (fun h14 => ?_)
   ·refine qc (qa (qd (ii ((j : Int) - 1)) rfl (cX (qo (s := 1) [ii ((j : Int) - 1)] [ii (0)] [(0, [ii ((j : Int) - 1)])] qf qB qS rfl (by decide) rfl (.cons rfl CellsAre.nil) rfl ?_))))
    intro v9 hv9
    refine qg (v9) rfl (qb (qu (qC (qk (qk (qC (qk (qk (qq (L' := drawnH 2 v9 (fun t => goodT ar t ∧ 1 ≤ t.length ∧ t.length ≤ szT dp) :: curH .i64 247 cb bsv bs.length :: L) [v9] (v9) (.tmp rfl .nil) rfl rF rF (qR (sC (sD (sC sR))) (jU (drawnH.of (t := [(j : Int) - 1]) (⟨goodT.one (by omega) (by omega) (by rw [arity, if_neg (by omega)]; omega), Nat.le_refl _, szT_pos dp⟩)) sR)) ?_)))))))))
    exact ⟨_, ⟨rfl, (qN hv9)⟩, rfl⟩
   refine qw (qa (qd (ii ((j : Int) - 1)) rfl (cX (jq (((j : Int) - 1) - 1) rfl rfl (by omega) (by omega) (qg (ii (((j : Int) - 1) - 1)) rfl (qb ?_))))))
   exact ⟨j - 1, _, FLe.refl _, rF, ⟨rfl, (vI (by (try dsimp only); omega)), ⟨⟩⟩, (sC (sC sR)), ⟨rfl, (by (try dsimp only) <;> omega)⟩, (by (try dsimp only); omega)⟩
  refine jk (qt (qt (qM (qc (qa (cX (qo (s := 1) [ii (-1)] [ii (0)] [(0, [ii (-1)])] qf qB qS rfl (by decide) rfl (.cons rfl CellsAre.nil) rfl ?_)))))))
  intro v10 hv10
  refine qg (v10) rfl (qb (qu (qk (qq (L' := drawnH 2 v10 (fun t => goodT ar t ∧ 1 ≤ t.length ∧ t.length ≤ szT dp) :: curH .i64 247 cb bsv bs.length :: L) [v10] (v10) (.tmp rfl .nil) rfl rF rF (qR (sC (sD (sC sR))) (jU (drawnH.of (t := [-1]) (⟨goodT.var (by omega) (by omega), Nat.le_refl _, szT_pos dp⟩)) sR)) ?_))))
  exact ⟨_, ⟨rfl, (qN hv10)⟩, rfl⟩
 refine qw (qc (qa (qd (ptr cb 0) rfl (cX (ql (0) jg rfl qs (by decide) rfl rfl (cX (qj qU rfl (Rd.own [] rfl rfl) (cX (qE qf rfl har.slv (cX (qm (args := [ptr cb 0, ii ((ar.length : Int))]) jL rfl (jf [_] (l1Below_spec (n := (ar.length : Int)) hbs (by omega) (hn := (by first | assumption | rfl | omega | simp)))) ?_)))))))))))
 rintro _ _ _ _ ⟨⟨rfl, x6, rfl, hr3⟩, rfl⟩
 show XL _ _ _ _ _ _ _ (cellsH b1 [arv] 36 :: curH .i64 247 cb bsv bs.length :: L)
 refine qg (ii (x6)) rfl (qb (qc (qa (qd (ii (x6)) rfl (cX (qo (s := 1) [ii (x6)] [ii (0)] [(0, [ii (x6)])] qf qB qS rfl (by decide) rfl (.cons rfl CellsAre.nil) rfl ?_))))))
 intro v11 hv11
 refine qg (v11) rfl (qb (qc (qc (qa ?_))))
 show XL _ _ _ _ _ _ _ (intsH 2 v11 ([x6] : List Int) :: cellsH b1 [arv] 36 :: curH .i64 247 cb bsv bs.length :: L)
 skip
 refine cX (ql (0) jg rfl qs (by decide) rfl rfl (cX (qj qU rfl (Rd.own [_] rfl rfl) (qd (ii (x6)) rfl (cX (qD ((x6).toNat) qf qB rfl rfl (by omega) har.slv (by omega) (Nat.mul_one _) (cX (qj jm rfl (har.rd (by omega)) (qg (ii (ar.getD ((x6).toNat) 0)) rfl ?_)))))))))
 have hfr : 0 ≤ x6 ∧ x6 < (ar.length : Int) := by omega
 have hsp := (sigOk_spec hso).2.2 (x6).toNat (by omega)
 obtain ⟨haK, hKe⟩ : ∃ q : Nat, q = (ar.getD ((x6).toNat) 0).toNat := ⟨_, rfl⟩
 have hK3 : haK ≤ 3 := by omega
 have hKa : arity ar x6 = (haK : Int) := by rw [arity, if_neg (by omega)]; omega
 refine qb (qK (jl (α := Nat × Value × List Int × List Int × FH) (fun xQ => [(0, ptr cb 0), (2, ii (((dp : Nat) : Int))), (3, ii (vs)), (5, ptr b1 0), (11, xQ.2.1), (12, ii (((xQ.1 : Nat) : Int)))]) (fun xQ => intsH 2 xQ.2.1 xQ.2.2.1 :: cellsH b1 [arv] 36 :: curH .i64 247 cb bsv bs.length :: L) (fun xQ F' => xQ.2.2.2.2 = F' ∧ F ≤ xQ.2.2.2.2 ∧ (IsSl xQ.2.1) ∧ (xQ.2.2.1 = x6 :: xQ.2.2.2.1) ∧ (xQ.1 + (haK - xQ.1) = haK ∧ xQ.1 ≤ haK) ∧ (goodN ar xQ.2.2.2.1 (haK - xQ.1)) ∧ (xQ.2.2.2.1.length ≤ (haK - xQ.1) * szT (dp - 1))) (fun xQ => xQ.1) ((ar.getD ((x6).toNat) 0).toNat, v11, [x6], [], F) ⟨rfl, rfl, rfl, rfl, rfl, (vI (by omega)), ⟨⟩⟩ (sC (sC (sC sR))) ⟨rfl, FLe.refl _, ((qN hv11)), (rfl), (by (try dsimp only); omega), (by (try dsimp only); rw [show haK - (ar.getD ((x6).toNat) 0).toNat = 0 from by omega]; exact goodN.nil), (by (try dsimp only); simp)⟩ ?_))
 rintro ⟨n, ov, os, ot, G1⟩ rE _ _ ⟨rfl, leG, hov, hoe, hn3, hgo, hol⟩
 show X _ _ _ _ (envs [(0, ptr cb 0), (2, ii (((dp : Nat) : Int))), (3, ii (vs)), (5, ptr b1 0), (11, ov), (12, ii ((n : Int)))] rE) _ (intsH 2 ov os :: cellsH b1 [arv] 36 :: curH .i64 247 cb bsv bs.length :: L)
 replace leG : F ≤ G1 := leG
 dsimp only at hov hoe hn3 hgo hol
 have hm9 : (haK - n) * szT (dp - 1) ≤ 3 * szT (dp - 1) := Nat.mul_le_mul_right _ (by omega)
 have hool : os.length = ot.length + 1 := by rw [hoe]; rfl
 have leG1 := leG
 replace hbs := hbs.mono leG1
 replace har := har.mono leG1
 refine qc (qc (qa (qd (ii ((n : Int))) rfl (cX (jI rfl rfl (qb ?_))))))
 refine qA (p := (n : Int) > 0) rfl (fun h15 => ?_) (fun h15 => ?_)
 ·refine qw (qc (qK (qa (qd (ov) rfl (qd (ptr cb 0) rfl (cX (qr [arv] qX qF rfl rfl (Rd.ownN [_] rfl rfl) (qd (ii (((dp : Nat) : Int))) rfl (cX (jq (((dp - 1 : Nat) : Int)) rfl rfl (by omega) (by omega) (qd (ii (vs)) rfl (cX (qm (args := [ptr cb 0, .agg #[arv], ii ((dp - 1 : Nat) : Int), ii (vs)]) call252 rfl (Does.atO [_, _] (ih (dp - 1) (by omega) (vs := vs) hbs (by omega) har (hso := (by first | assumption | rfl | omega | simp)) (hdp := (by first | assumption | rfl | omega | simp)) (hvs := (by first | assumption | rfl | omega | simp)))) ?_)))))))))))))
  rintro _ F7 _ le7 ⟨x8, ⟨rfl, hsl1⟩, rfl⟩
  show XL _ _ _ _ _ _ _ (drawnH 2 x8 (fun t => goodT ar t ∧ 1 ≤ t.length ∧ t.length ≤ szT (dp - 1)) :: intsH 2 ov os :: cellsH b1 [arv] 36 :: curH .i64 247 cb bsv bs.length :: L)
  refine XL.undraw [] rfl (fun t1 hq9 => ?_)
  obtain ⟨q1, q2, q3⟩ := hq9
  show XL _ _ _ _ _ _ _ (intsH 2 x8 t1 :: intsH 2 ov os :: cellsH b1 [arv] 36 :: curH .i64 247 cb bsv bs.length :: L)
  refine jO [] _ _ rfl (fun F8 le8 hz1 => ?_)
  have hf1 : IntsF F8 x8 t1 := intsH.fz (xs := t1) hz1.fz
  refine cX (XOp.appendI [] _ qf typeInfo2 rfl rfl rfl rfl rfl rfl hf1 (by (try simp only [List.length_append, List.length_nil, List.length_cons, List.length_singleton, List.length_take, List.length_drop]); omega) ?_)
  intro v12 hs1 hn1 hm1
  refine qg (v12) rfl (qb (qa (qd (ii ((n : Int))) rfl (cX (jq (((n - 1 : Nat) : Int)) rfl rfl (by omega) (by omega) (qg (ii (((n - 1 : Nat) : Int))) rfl (qb ?_)))))))
  exact ⟨(n - 1, v12, os ++ t1, (ot ++ t1), F8), _, (qh (qh leG1 le7) le8), rF, ⟨rfl, rfl, rfl, rfl, rfl, rfl, ⟨⟩⟩, (sC (sC (sC sR))), ⟨rfl, (qh (qh leG1 le7) le8), (hs1), (by (try dsimp only); rw [hoe] <;> rfl), (by (try dsimp only); omega), (by (try dsimp only); rw [show haK - (n - 1) = haK - n + 1 from by omega]; exact hgo.snoc q1), (by (try dsimp only); rw [show haK - (n - 1) = haK - n + 1 from by omega, Nat.succ_mul, List.length_append]; omega)⟩, (by (try dsimp only); omega)⟩
 refine jk (qt (qt (qM (qc (qa (qd (ov) rfl (qg (ov) rfl (qb (qu (qq (L' := drawnH 2 ov (fun t => goodT ar t ∧ 1 ≤ t.length ∧ t.length ≤ szT dp) :: curH .i64 247 cb bsv bs.length :: L) [ov] (ov) (.tmp rfl .nil) rfl leG1 rF (qR (sC (sD (sC sR))) (jU (drawnH.of (t := os) ((show goodT ar os ∧ 1 ≤ os.length ∧ os.length ≤ szT dp from ⟨by rw [hoe]; exact goodT.node hfr.1 (by omega) hKa (by have h9 := hgo; rwa [show haK - n = haK from by omega] at h9), by omega, by have h9 := szT_next (d := dp) (by omega); omega⟩))) sR)) ?_))))))))))
 exact ⟨_, ⟨rfl, hov⟩, rfl⟩

theorem l1DrawTerm_spec (dp : Nat) : ∀ {F : FH} {L : List HP} {cb : Nat} {bsv : Value} {bs : List Int} (hbs : BytesF F bsv bs) (hbl : bs.length ≤ 4000000) {arv : Value} {ar : List Int} (har : IntsF F arv ar) {vs : Int} (hso : sigOk ar = true) (hdp : dp ≤ 5) (hvs : 0 ≤ vs ∧ vs ≤ 24), Does prog 252 [ptr cb 0, .agg #[arv], ii (((dp : Nat) : Int)), ii (vs)] F (curH .i64 247 cb bsv bs.length :: L) (fun v F' L' => ∃ a : Value, ((a : Value) = v ∧ IsSl a) ∧ drawnH 2 a (fun t => goodT ar t ∧ 1 ≤ t.length ∧ t.length ≤ szT dp) :: curH .i64 247 cb bsv bs.length :: L = L') := by
  induction dp using Nat.strongRecOn with
  | _ dp ih =>
    intros
    exact l1DrawTerm_spec_step ih (by assumption) (by assumption) (by assumption) (by assumption) (by assumption) (by assumption)

/- spec.l1DrawAny -/
set_option maxHeartbeats 1000000 in
theorem l1DrawAny_spec {F : FH} {L : List HP} {cb : Nat} {bsv : Value} {bs : List Int} (hbs : BytesF F bsv bs) (hbl : bs.length ≤ 4000000) {arv : Value} {ar : List Int} (har : IntsF F arv ar) (hal : ar.length ≤ 4000000) :
    Does prog 251 [ptr cb 0, .agg #[arv]] F (curH .i64 247 cb bsv bs.length :: L) (fun v F' L' => (∃ (a : Value), (a : Value) = v ∧ (SomesF F' a (fun u => u.length ≤ 2000))) ∧ curH .i64 247 cb bsv bs.length :: L = L') := by
 refine qI func251 rfl rfl rfl (qc (qa (cX (jc [arv] rfl rfl ?_))))
 intro b1
 refine qg (sN) rfl (qb (qc (qc (qa (cX (ql (0) jg rfl qs (by decide) rfl rfl (cX (qj qU rfl (Rd.own [] rfl rfl) (cX (qE qf rfl har.slv (cX (js rfl rfl (qd (.bool (decide (((ar.length : Int) : Int) = 0))) rfl ?_)))))))))))))
 by_cases h1 : ((ar.length : Int) : Int) = 0
 ·refine qx (t := 10) rfl (vT h1) (qx (t := 10) rfl (vT h1) (qx (t := 10) rfl (vT h1) (cX (jj (.bool (true)) (vT h1) rfl (qb (yd rfl (qc (qa (qd (ptr cb 0) rfl (cX (qm (args := [ptr cb 0, ii (-2), ii (2)]) call201 rfl (jf [_] (l1From_spec (lo := -2) (hi := 2) hbs (by omega) (hlo := (by first | assumption | rfl | omega | simp)))) ?_)))))))))))
  rintro _ _ _ _ ⟨⟨rfl, x1, rfl, hr1⟩, rfl⟩
  show XL _ _ _ _ _ _ _ (cellsH b1 [arv] 36 :: curH .i64 247 cb bsv bs.length :: L)
  refine cX (qo (s := 1) [ii (x1)] [ii (0)] [(0, [ii (x1)])] qf qB qS rfl (by decide) rfl (.cons rfl CellsAre.nil) rfl ?_)
  intro v1 hv1
  refine qg (v1) rfl (qb ?_)
  show X _ _ _ _ _ _ (intsH 2 v1 ([x1] : List Int) :: cellsH b1 [arv] 36 :: curH .i64 247 cb bsv bs.length :: L)
  refine qQ [] _ _ rfl (fun F2 le2 hz1 => ?_)
  replace hbs := hbs.mono le2
  replace har := har.mono le2
  have hf1 : IntsF F2 v1 ([x1]) := intsH.fz (xs := [x1]) hz1.fz
  refine qu (qk (qq (L' := curH .i64 247 cb bsv bs.length :: L) [v1] (v1) (.tmp rfl .nil) rfl le2 rF (sD (sC sR)) ?_))
  exact ⟨⟨_, rfl, ⟨_, hf1, by (try simp only [List.length_append, List.length_cons, List.length_nil, List.length_set, List.length_take, List.length_drop]); omega⟩⟩, rfl⟩
 refine qy (t := 10) rfl (vF h1) (qr [arv] qX qF rfl rfl (Rd.ownN [] rfl rfl) (qy (t := 10) rfl (vF h1) (qm (args := [.agg #[arv]]) call120 rfl (sSigOk_spec har (hla := (by first | assumption | rfl | omega | simp))) ?_)))
 rintro _ _ _ _ ⟨rfl, rfl, rfl⟩
 refine qy (t := 10) rfl (vF h1) (jE rfl (cX (qY (.bool (!(sigOk ar))) (vF h1) rfl (qb ?_))))
 refine jz (t := !(sigOk ar)) rfl (fun h2 => ?_) (fun h2 => ?_)
 ·refine qc (qa (qd (ptr cb 0) rfl (cX (qm (args := [ptr cb 0, ii (-2), ii (2)]) call201 rfl (jf [_] (l1From_spec (lo := -2) (hi := 2) hbs (by omega) (hlo := (by first | assumption | rfl | omega | simp)))) ?_))))
  rintro _ _ _ _ ⟨⟨rfl, x2, rfl, hr2⟩, rfl⟩
  show XL _ _ _ _ _ _ _ (cellsH b1 [arv] 36 :: curH .i64 247 cb bsv bs.length :: L)
  refine cX (qo (s := 1) [ii (x2)] [ii (0)] [(0, [ii (x2)])] qf qB qS rfl (by decide) rfl (.cons rfl CellsAre.nil) rfl ?_)
  intro v2 hv2
  refine qg (v2) rfl (qb ?_)
  show X _ _ _ _ _ _ (intsH 2 v2 ([x2] : List Int) :: cellsH b1 [arv] 36 :: curH .i64 247 cb bsv bs.length :: L)
  refine qQ [] _ _ rfl (fun F4 le4 hz2 => ?_)
  replace hbs := hbs.mono le4
  replace har := har.mono le4
  have hf2 : IntsF F4 v2 ([x2]) := intsH.fz (xs := [x2]) hz2.fz
  refine qu (qk (qq (L' := curH .i64 247 cb bsv bs.length :: L) [v2] (v2) (.tmp rfl .nil) rfl le4 rF (sD (sC sR)) ?_))
  exact ⟨⟨_, rfl, ⟨_, hf2, by (try simp only [List.length_append, List.length_cons, List.length_nil, List.length_set, List.length_take, List.length_drop]); omega⟩⟩, rfl⟩
 have hso : sigOk ar = true := by simpa using h2
 refine qw (qc ?_)
 refine jW [cellsH b1 [arv] 36, curH .i64 247 cb bsv bs.length] L 5 [[], [], [], [], [3]] [[], [], [], [2], [3]] [] (phiG [pe (ptr cb 0), pe (.agg #[arv]), pe (ptr cb 0), fun FF us v => (ii (((intAt v))) : Value) = v ∧ (0 ≤ ((intAt v)) ∧ (((intAt v)) < 4 ∨ ((intAt v)) = 0)), fun FF us v => v = (ii (1 + (((intAt (us.getD 0 undef))))) : Value)]) (ownL []) mixed rfl rfl (by kernel_rfl) (by kernel_rfl) (MonoG.get (m1 (m1 (m1 (mC (fun le h => ⟨h.1, h.2⟩) (mC (fun le h => h) MonoG.nil)))))) ?_ ?_
 ·refine gD (fun W Fs R lF z9 => ?_) ?_
  ·refine qi (qp (ptr cb 0) rfl ?_)
   exact ⟨rfl, rfl⟩
  refine gD (fun W Fs R lF z9 => ?_) ?_
  ·replace hbs := hbs.mono lF
   replace har := har.mono lF
   refine qi (qr [arv] qX qF rfl rfl (Rd.ownN [] rfl rfl) ?_)
   exact ⟨rfl, rfl⟩
  refine gD (fun W Fs R lF z9 => ?_) ?_
  ·refine qi (qp (ptr cb 0) rfl ?_)
   exact ⟨rfl, rfl⟩
  refine gD (fun W Fs R lF z9 => ?_) ?_
  ·replace hbs := hbs.mono lF
   replace har := har.mono lF
   rw [eS (l := [(2, _)]) ⟨z9 2 rfl, ⟨⟩⟩]
   refine qi (qm (args := [ptr cb 0, ii (4)]) jL rfl (jf [_] (l1Below_spec (n := 4) hbs (by omega) (hn := (by first | assumption | rfl | omega | simp)))) ?_)
   rintro _ _ _ _ ⟨⟨rfl, x4, rfl, hr4⟩, rfl⟩
   exact ⟨⟨rfl, hr4⟩, rfl⟩
  refine gD (fun W Fs R lF z9 => ?_) ?_
  ·obtain ⟨e3, f3_1hx⟩ := z9 3 rfl
   rw [eS (l := [(3, (ii (((intAt (W 3))))))]) ⟨(e3).symm, ⟨⟩⟩]
   refine qi (qH (1 + (((intAt (W 3))))) rfl rfl (by omega) (by omega) ?_)
   exact ⟨rfl, rfl⟩
  exact stepsG.nil
 intro W F7 le7 hphi
 obtain ⟨e3, f3_1hx⟩ := hphi 3 (by decide)
 have e4 : W 4 = (ii (1 + (((intAt (W 3))))) : Value) := hphi 4 (by decide)
 generalize hu1 : (intAt (W 3)) = u1 at e3 f3_1hx e4
 rw [eS (l := [(0, _), (1, _), (3, (ii ((u1)))), (4, (ii (1 + ((u1)))))]) ⟨(hphi 0 (by decide)), (hphi 1 (by decide)), (e3).symm, e4, ⟨⟩⟩]
 replace hbs := hbs.mono le7
 replace har := har.mono le7
 show XL _ _ _ _ _ _ _ (cellsH b1 [arv] 36 :: curH .i64 247 cb bsv bs.length :: L)
 refine cX (qm (args := [ptr cb 0, .agg #[arv], ii (((1 + ((u1))).toNat : Nat) : Int), ii (3)]) call252 (by rw [show (((1 + ((u1))).toNat : Nat) : Int) = 1 + ((u1)) from by omega]; rfl) (Does.atO [_] (l1DrawTerm_spec ((1 + ((u1))).toNat) (vs := 3) hbs (by omega) har (hso := (by first | assumption | rfl | omega | simp)) (hdp := (by first | assumption | rfl | omega | simp)) (hvs := (by first | assumption | rfl | omega | simp)))) ?_)
 rintro _ F8 _ le8 ⟨x6, ⟨rfl, hsl1⟩, rfl⟩
 replace hbs := hbs.mono le8
 show XL _ _ _ _ _ _ _ (drawnH 2 x6 (fun t => goodT ar t ∧ 1 ≤ t.length ∧ t.length ≤ szT ((1 + ((u1))).toNat)) :: cellsH b1 [arv] 36 :: curH .i64 247 cb bsv bs.length :: L)
 refine XL.undraw [] rfl (fun t1 hq9 => ?_)
 obtain ⟨q1, q2, q3⟩ := hq9
 show XL _ _ _ _ _ _ _ (intsH 2 x6 t1 :: cellsH b1 [arv] 36 :: curH .i64 247 cb bsv bs.length :: L)
 have hz9 := szT_le (d := (1 + ((u1))).toNat) (e := 4) (by omega)
 have hz8 : szT 4 = 121 := rfl
 refine qg (x6) rfl (qb (qc (qc (qa (qd (ptr cb 0) rfl (cX (qm (args := [ptr cb 0, ii (12)]) call102 rfl (jf [_, _] (l1Once_spec (n := 12) hbs (by omega) (hn := (by first | assumption | rfl | omega | simp)))) ?_)))))))
 rintro _ _ _ _ ⟨⟨rfl, x7, rfl⟩, rfl⟩
 show XL _ _ _ _ _ _ _ (intsH 2 x6 t1 :: cellsH b1 [arv] 36 :: curH .i64 247 cb bsv bs.length :: L)
 refine qb ?_
 refine jz (t := x7) rfl (fun h3 => ?_) (fun h3 => ?_)
 ·refine qc (qa (qd (ptr cb 0) rfl (cX (qm (args := [ptr cb 0, ii (4)]) jL rfl (jf [_, _] (l1Below_spec (n := 4) hbs (by omega) (hn := (by first | assumption | rfl | omega | simp)))) ?_))))
  rintro _ _ _ _ ⟨⟨rfl, x8, rfl, hr5⟩, rfl⟩
  show XL _ _ _ _ _ _ _ (intsH 2 x6 t1 :: cellsH b1 [arv] 36 :: curH .i64 247 cb bsv bs.length :: L)
  refine qb (qK (qc (qa (cX (js rfl rfl (qg (.bool (decide ((x8 : Int) = 0))) rfl (qb ?_)))))))
  refine qA (p := (x8 : Int) = 0) rfl (fun h4 => ?_) (fun h4 => ?_)
  ·refine qa (qd (x6) rfl (qd (ptr cb 0) rfl (cX (qm (args := [ptr cb 0, ii (-2), ii (3)]) call201 rfl (jf [_, _] (l1From_spec (lo := -2) (hi := 3) hbs (by omega) (hlo := (by first | assumption | rfl | omega | simp)))) ?_))))
   rintro _ _ _ _ ⟨⟨rfl, x9, rfl, hr6⟩, rfl⟩
   show XL _ _ _ _ _ _ _ (intsH 2 x6 t1 :: cellsH b1 [arv] 36 :: curH .i64 247 cb bsv bs.length :: L)
   refine cX (qo (s := 1) [ii (x9)] [ii (0)] [(0, [ii (x9)])] qf qB qS rfl (by decide) rfl (.cons rfl CellsAre.nil) rfl ?_)
   intro v3 hv3
   refine cX (XOp.append1 (u := x9) [_] _ qf typeInfo2 rfl rfl rfl rfl rfl rfl (SlV.own [] rfl) (Rd.sl [] rfl rfl) (by (try simp only [List.length_append, List.length_nil, List.length_cons, List.length_singleton, List.length_take, List.length_drop]); omega) ?_)
   intro v4 hs1 hn1
   refine qg (v4) rfl (qb (qc (qa (qd (v4) rfl (qg (v4) rfl (qb (qQ [_] _ _ rfl (fun F12 le12 hz3 => ?_))))))))
   replace hbs := hbs.mono le12
   have hf3 : IntsF F12 v4 (t1 ++ [x9]) := intsH.fz (xs := t1 ++ [x9]) hz3.fz
   refine qu (qq (L' := curH .i64 247 cb bsv bs.length :: L) [v4] (v4) (.tmp rfl .nil) rfl (qh (qh le7 le8) le12) rF (sD (sD (sC sR))) ?_)
   exact ⟨⟨_, rfl, ⟨_, hf3, by (try simp only [List.length_append, List.length_cons, List.length_nil, List.length_set, List.length_take, List.length_drop]); omega⟩⟩, rfl⟩
  refine qc (qa (cX (js rfl rfl (qg (.bool (decide ((x8 : Int) = 1))) rfl (qb ?_)))))
  refine qA (p := (x8 : Int) = 1) rfl (fun h5 => ?_) (fun h5 => ?_)
  ·refine qa (qd (x6) rfl (qd (ptr cb 0) rfl (qd (x6) rfl (cX (qE qf rfl (intsH.slv [] rfl) (cX (qm (args := [ptr cb 0, ii ((t1.length : Int))]) jL rfl (jf [_, _] (l1Below_spec (n := (t1.length : Int)) hbs (by omega) (hn := (by first | assumption | rfl | omega | simp)))) ?_)))))))
   rintro _ _ _ _ ⟨⟨rfl, x10, rfl, hr7⟩, rfl⟩
   show XL _ _ _ _ _ _ _ (intsH 2 x6 t1 :: cellsH b1 [arv] 36 :: curH .i64 247 cb bsv bs.length :: L)
   refine qd (ptr cb 0) rfl (cX (qm (args := [ptr cb 0, ii (-3), ii (4)]) call201 rfl (jf [_, _] (l1From_spec (lo := -3) (hi := 4) hbs (by omega) (hlo := (by first | assumption | rfl | omega | simp)))) ?_))
   rintro _ _ _ _ ⟨⟨rfl, x11, rfl, hr8⟩, rfl⟩
   show XL _ _ _ _ _ _ _ (intsH 2 x6 t1 :: cellsH b1 [arv] 36 :: curH .i64 247 cb bsv bs.length :: L)
   refine cX (qD ((x10).toNat) qf qB rfl rfl (by omega) (intsH.slv [] rfl) (by omega) (Nat.mul_one _) (cX (intsH.storeX (i := (x10).toNat) (v := x6) [] _ (t1.set ((x10).toNat) x11) qB rfl rfl rfl (by omega) rfl (qb (qc (qa (qd (x6) rfl (qg (x6) rfl (qb (qQ [] _ _ rfl (fun F15 le15 hz4 => ?_)))))))))))
   replace hbs := hbs.mono le15
   have hf4 : IntsF F15 x6 ((t1.set ((x10).toNat) x11)) := intsH.fz (xs := (t1.set ((x10).toNat) x11)) hz4.fz
   refine qu (qq (L' := curH .i64 247 cb bsv bs.length :: L) [x6] (x6) (.tmp rfl .nil) rfl (qh (qh le7 le8) le15) rF (sD (sC sR)) ?_)
   exact ⟨⟨_, rfl, ⟨_, hf4, by (try simp only [List.length_append, List.length_cons, List.length_nil, List.length_set, List.length_take, List.length_drop]); omega⟩⟩, rfl⟩
  refine qc (qa (cX (js rfl rfl (qg (.bool (decide ((x8 : Int) = 2))) rfl (qb ?_)))))
  refine qA (p := (x8 : Int) = 2) rfl (fun h6 => ?_) (fun h6 => ?_)
  ·refine qa (jO [] _ _ rfl (fun F16 le16 hz5 => ?_))
   replace hbs := hbs.mono le16
   have hf5 : IntsF F16 x6 t1 := intsH.fz (xs := t1) hz5.fz
   skip
   refine qd (x6) rfl (cX (XOp.sliceI 1 ((t1).length) qf qB rfl hf5 ⟨_, rfl⟩ rfl (by omega) (by omega) ?_))
   intro v5 hv4 hn2
   refine qg (v5) rfl (qb (qc (qa (qd (v5) rfl (qg (v5) rfl (qb (qu (qq (L' := curH .i64 247 cb bsv bs.length :: L) [v5] (v5) (.tmp rfl .nil) rfl (qh (qh le7 le8) le16) rF (sD (sC sR)) ?_))))))))
   exact ⟨⟨_, rfl, ⟨_, hv4, by (try simp only [List.length_append, List.length_cons, List.length_nil, List.length_set, List.length_take, List.length_drop]); omega⟩⟩, rfl⟩
  refine qc (qa (cX (js rfl rfl (qg (.bool (decide ((x8 : Int) = 3))) rfl (qb ?_)))))
  refine qA (p := (x8 : Int) = 3) rfl (fun h7 => ?_) (fun h7 => ?_)
  ·refine qa (qd (x6) rfl (qd (ptr cb 0) rfl (cX (qm (args := [ptr cb 0]) call295 rfl (jf [_, _] (l1Odd_spec hbs (by omega))) ?_))))
   rintro _ _ _ _ ⟨⟨rfl, x12, rfl⟩, rfl⟩
   show XL _ _ _ _ _ _ _ (intsH 2 x6 t1 :: cellsH b1 [arv] 36 :: curH .i64 247 cb bsv bs.length :: L)
   refine cX (qo (s := 1) [ii (x12)] [ii (0)] [(0, [ii (x12)])] qf qB qS rfl (by decide) rfl (.cons rfl CellsAre.nil) rfl ?_)
   intro v6 hv5
   refine cX (XOp.append1 (u := x12) [_] _ qf typeInfo2 rfl rfl rfl rfl rfl rfl (SlV.own [] rfl) (Rd.sl [] rfl rfl) (by (try simp only [List.length_append, List.length_nil, List.length_cons, List.length_singleton, List.length_take, List.length_drop]); omega) ?_)
   intro v7 hs2 hn3
   refine qg (v7) rfl (qb (qc (qa (qd (v7) rfl (qg (v7) rfl (qb (qQ [_] _ _ rfl (fun F18 le18 hz6 => ?_))))))))
   have hf6 : IntsF F18 v7 (t1 ++ [x12]) := intsH.fz (xs := t1 ++ [x12]) hz6.fz
   refine qu (qq (L' := curH .i64 247 cb bsv bs.length :: L) [v7] (v7) (.tmp rfl .nil) rfl (qh (qh le7 le8) le18) rF (sD (sD (sC sR))) ?_)
   exact ⟨⟨_, rfl, ⟨_, hf6, by (try simp only [List.length_append, List.length_cons, List.length_nil, List.length_set, List.length_take, List.length_drop]); omega⟩⟩, rfl⟩
  refine qw (qc (qa (qd (x6) rfl (qg (x6) rfl (qb (qQ [] _ _ rfl (fun F19 le19 hz7 => ?_)))))))
  have hf7 : IntsF F19 x6 t1 := intsH.fz (xs := t1) hz7.fz
  refine qu (qq (L' := curH .i64 247 cb bsv bs.length :: L) [x6] (x6) (.tmp rfl .nil) rfl (qh (qh le7 le8) le19) rF (sD (sC sR)) ?_)
  exact ⟨⟨_, rfl, ⟨_, hf7, by (try simp only [List.length_append, List.length_cons, List.length_nil, List.length_set, List.length_take, List.length_drop]); omega⟩⟩, rfl⟩
 refine qw (qc (qa (qd (x6) rfl (qg (x6) rfl (qb (qQ [] _ _ rfl (fun F20 le20 hz8 => ?_)))))))
 have hf8 : IntsF F20 x6 t1 := intsH.fz (xs := t1) hz8.fz
 refine qu (qq (L' := curH .i64 247 cb bsv bs.length :: L) [x6] (x6) (.tmp rfl .nil) rfl (qh (qh le7 le8) le20) rF (sD (sC sR)) ?_)
 exact ⟨⟨_, rfl, ⟨_, hf8, by (try simp only [List.length_append, List.length_cons, List.length_nil, List.length_set, List.length_take, List.length_drop]); omega⟩⟩, rfl⟩

/- spec.l2Draw -/
theorem l2Draw_spec {F : FH} {L : List HP} {cb : Nat} {bsv : Value} {bs : List Int} (hbs : BytesF F bsv bs) (hbl : bs.length ≤ 4000000) {arv : Value} {ar : List Int} (har : IntsF F arv ar) (hso : sigOk ar = true) :
    Does prog 314 [ptr cb 0, .agg #[arv]] F (curH .i64 247 cb bsv bs.length :: L) (fun v F' L' => (∃ (a : Value), (.agg #[a] : Value) = v ∧ (SomeRowsF F' a (fun s => s.length ≤ 4 ∧ ∀ i, (s.getD i []).length ≤ 2000))) ∧ curH .i64 247 cb bsv bs.length :: L = L') := by
 refine qI func314 rfl rfl rfl (qc (qa (cX (jc [arv] rfl rfl ?_))))
 intro b1
 refine cX (ji [sN] jB rfl ?_)
 intro b2
 refine qb (qc (qa (cX (jh [sN] [sN] [(0, 1)] [] qT jB rfl (.cons rfl jb PlacesAre.nil) rfl CellsAre.nil (cX (ji [sN] jB rfl ?_))))))
 intro b3
 refine cX (qL [] _ [sN] jo rfl rfl rfl (qn rfl qO) rfl rfl rfl (qb (qc (qc (qa (qd (ptr cb 0) rfl (cX (qm (args := [ptr cb 0, ii (4)]) jL rfl (jf [_, _, _] (l1Below_spec (n := 4) hbs (by omega) (hn := (by first | assumption | rfl | omega | simp)))) ?_))))))))
 rintro _ _ _ _ ⟨⟨rfl, x1, rfl, hr1⟩, rfl⟩
 show XL _ _ _ _ _ _ _ (cellsH b3 [sN] 137 :: cellsH b2 [sN] 137 :: cellsH b1 [arv] 36 :: curH .i64 247 cb bsv bs.length :: L)
 refine qg (ii (x1)) rfl (qb (qK (jl (α := Nat × Value × List (List Int) × List Value × Nat × FH) (fun xQ => [(0, ptr cb 0), (3, ptr b1 0), (4, ptr b2 0), (5, ptr b3 0), (6, ii (((xQ.1 : Nat) : Int)))]) (fun xQ => slH 22 1 xQ.2.1 xQ.2.2.2.2.1 xQ.2.2.2.1 :: cellsH b3 [xQ.2.1] 137 :: cellsH b2 [sN] 137 :: cellsH b1 [arv] 36 :: curH .i64 247 cb bsv bs.length :: L) (fun xQ F' => xQ.2.2.2.2.2 = F' ∧ F ≤ xQ.2.2.2.2.2 ∧ (IsSl xQ.2.1) ∧ (RowsC xQ.2.2.2.2.2 xQ.2.2.2.1 xQ.2.2.1) ∧ (xQ.2.2.2.2.1 = xQ.2.2.1.length) ∧ (xQ.2.2.1.length + xQ.1 ≤ 4) ∧ (∀ i, (xQ.2.2.1.getD i []).length ≤ 2000)) (fun xQ => xQ.1) (x1.toNat, sN, [], [], 0, F) ⟨rfl, rfl, rfl, rfl, (vI (by omega)), ⟨⟩⟩ (qR (Sub.addNil 22 1 _ _) (sC (sC (sC (sC (sC sR)))))) ⟨rfl, FLe.refl _, (⟨_, _, _, rfl⟩), (CO.nil), (rfl), (by (try dsimp only); simp only [List.length_nil]; omega), (fun i => by simp)⟩ ?_)))
 rintro ⟨n, ov, os, cs, m, G1⟩ rE _ _ ⟨rfl, leG, hov, hC, hm, hon, hob⟩
 show X _ _ _ _ (envs [(0, ptr cb 0), (3, ptr b1 0), (4, ptr b2 0), (5, ptr b3 0), (6, ii ((n : Int)))] rE) _ (slH 22 1 ov m cs :: cellsH b3 [ov] 137 :: cellsH b2 [sN] 137 :: cellsH b1 [arv] 36 :: curH .i64 247 cb bsv bs.length :: L)
 replace leG : F ≤ G1 := leG
 dsimp only at hov hC hm hon hob
 have leG1 := leG
 replace hbs := hbs.mono leG1
 replace har := har.mono leG1
 refine qc (qc (qa (qd (ii ((n : Int))) rfl (cX (jI rfl rfl (qb ?_))))))
 refine qA (p := (n : Int) > 0) rfl (fun h1 => ?_) (fun h1 => ?_)
 ·refine qw (qc (qK (qc (qa (cX (qo (s := 1) [] [ii (0)] [] qf qB qS rfl (by decide) rfl CellsAre.nil rfl ?_))))))
  intro v1 hv1
  refine qg (v1) rfl (qb (qc (qc (qa (qd (ptr cb 0) rfl (cX (qm (args := [ptr cb 0, ii (3)]) call102 rfl (jf [_, _, _, _, _] (l1Once_spec (n := 3) hbs (by omega) (hn := (by first | assumption | rfl | omega | simp)))) ?_)))))))
  rintro _ _ _ _ ⟨⟨rfl, x2, rfl⟩, rfl⟩
  show XL _ _ _ _ _ _ _ (slH 2 1 v1 0 [] :: slH 22 1 ov m cs :: cellsH b3 [ov] 137 :: cellsH b2 [sN] 137 :: cellsH b1 [arv] 36 :: curH .i64 247 cb bsv bs.length :: L)
  refine cX (jE rfl (qb ?_))
  refine jz (t := !(x2)) rfl (fun h2 => ?_) (fun h2 => ?_)
  ·refine jW [slH 2 1 v1 0 [], slH 22 1 ov m cs, cellsH b3 [ov] 137, cellsH b2 [sN] 137, cellsH b1 [arv] 36, curH .i64 247 cb bsv bs.length] L 5 [[], [], [], [], [3]] [[], [], [], [2], [3]] [] (phiG [pe (ptr cb 0), pe (.agg #[arv]), pe (ptr cb 0), fun FF us v => (ii (((intAt v))) : Value) = v ∧ (0 ≤ ((intAt v)) ∧ (((intAt v)) < 3 ∨ ((intAt v)) = 0)), fun FF us v => v = (ii (1 + (((intAt (us.getD 0 undef))))) : Value)]) (ownL []) mixed rfl rfl (by kernel_rfl) (by kernel_rfl) (MonoG.get (m1 (m1 (m1 (mC (fun le h => ⟨h.1, h.2⟩) (mC (fun le h => h) MonoG.nil)))))) ?_ ?_
   ·refine gD (fun W Fs R lF z9 => ?_) ?_
    ·refine qi (qp (ptr cb 0) rfl ?_)
     exact ⟨rfl, rfl⟩
    refine gD (fun W Fs R lF z9 => ?_) ?_
    ·replace hbs := hbs.mono lF
     replace har := har.mono lF
     replace hC := hC.mono lF
     refine qi (qr [arv] qX qF rfl rfl (Rd.ownN [_, _, _, _] rfl rfl) ?_)
     exact ⟨rfl, rfl⟩
    refine gD (fun W Fs R lF z9 => ?_) ?_
    ·refine qi (qp (ptr cb 0) rfl ?_)
     exact ⟨rfl, rfl⟩
    refine gD (fun W Fs R lF z9 => ?_) ?_
    ·replace hbs := hbs.mono lF
     replace har := har.mono lF
     replace hC := hC.mono lF
     rw [eS (l := [(2, _)]) ⟨z9 2 rfl, ⟨⟩⟩]
     refine qi (qm (args := [ptr cb 0, ii (3)]) jL rfl (jf [_, _, _, _, _] (l1Below_spec (n := 3) hbs (by omega) (hn := (by first | assumption | rfl | omega | simp)))) ?_)
     rintro _ _ _ _ ⟨⟨rfl, x4, rfl, hr3⟩, rfl⟩
     exact ⟨⟨rfl, hr3⟩, rfl⟩
    refine gD (fun W Fs R lF z9 => ?_) ?_
    ·obtain ⟨e3, f3_1hx⟩ := z9 3 rfl
     rw [eS (l := [(3, (ii (((intAt (W 3))))))]) ⟨(e3).symm, ⟨⟩⟩]
     refine qi (qH (1 + (((intAt (W 3))))) rfl rfl (by omega) (by omega) ?_)
     exact ⟨rfl, rfl⟩
    exact stepsG.nil
   intro W F5 le5 hphi
   obtain ⟨e3, f3_1hx⟩ := hphi 3 (by decide)
   have e4 : W 4 = (ii (1 + (((intAt (W 3))))) : Value) := hphi 4 (by decide)
   generalize hu1 : (intAt (W 3)) = u1 at e3 f3_1hx e4
   rw [eS (l := [(0, _), (1, _), (3, (ii ((u1)))), (4, (ii (1 + ((u1)))))]) ⟨(hphi 0 (by decide)), (hphi 1 (by decide)), (e3).symm, e4, ⟨⟩⟩]
   replace hbs := hbs.mono le5
   replace har := har.mono le5
   replace hC := hC.mono le5
   show XL _ _ _ _ _ _ _ (slH 2 1 v1 0 [] :: slH 22 1 ov m cs :: cellsH b3 [ov] 137 :: cellsH b2 [sN] 137 :: cellsH b1 [arv] 36 :: curH .i64 247 cb bsv bs.length :: L)
   refine cX (qm (args := [ptr cb 0, .agg #[arv], ii (((1 + ((u1))).toNat : Nat) : Int), ii (3)]) call252 (by rw [show (((1 + ((u1))).toNat : Nat) : Int) = 1 + ((u1)) from by omega]; rfl) (Does.atO [_, _, _, _, _] (l1DrawTerm_spec ((1 + ((u1))).toNat) (vs := 3) hbs (by omega) har (hso := (by first | assumption | rfl | omega | simp)) (hdp := (by first | assumption | rfl | omega | simp)) (hvs := (by first | assumption | rfl | omega | simp)))) ?_)
   rintro _ F6 _ le6 ⟨x6, ⟨rfl, hsl1⟩, rfl⟩
   replace hC := hC.mono le6
   show XL _ _ _ _ _ _ _ (drawnH 2 x6 (fun t => goodT ar t ∧ 1 ≤ t.length ∧ t.length ≤ szT ((1 + ((u1))).toNat)) :: slH 2 1 v1 0 [] :: slH 22 1 ov m cs :: cellsH b3 [ov] 137 :: cellsH b2 [sN] 137 :: cellsH b1 [arv] 36 :: curH .i64 247 cb bsv bs.length :: L)
   refine XL.undraw [] rfl (fun t1 hq9 => ?_)
   obtain ⟨q1, q2, q3⟩ := hq9
   show XL _ _ _ _ _ _ _ (intsH 2 x6 t1 :: slH 2 1 v1 0 [] :: slH 22 1 ov m cs :: cellsH b3 [ov] 137 :: cellsH b2 [sN] 137 :: cellsH b1 [arv] 36 :: curH .i64 247 cb bsv bs.length :: L)
   have hz9 := szT_le (d := (1 + ((u1))).toNat) (e := 4) (by omega)
   have hz8 : szT 4 = 121 := rfl
   refine qg (x6) rfl (qb (qa (cX (ql (0) qT rfl jb (by decide) rfl rfl (cX (qj jC rfl (Rd.own [_, _, _] rfl rfl) (qd (x6) rfl (cX (qo (s := 1) [x6] [sN] [(0, [x6])] qv qs jD rfl (by decide) rfl (.cons (cells_one hsl1) CellsAre.nil) rfl ?_)))))))))
   intro v2 hv2
   refine jO [_] _ _ rfl (fun F7 le7 hz1 => ?_)
   replace hC := hC.mono le7
   have hf1 : IntsF F7 x6 t1 := intsH.fz (xs := t1) hz1.fz
   refine cX (jG (m := 1) (bytes := 24) (cs := cs) [_, _] _ [x6] qv typeInfo22 rfl rfl rfl rfl rfl rfl rfl (SlV.own [] rfl) rfl (Rd.lit [] rfl) (qn (qG (qz hf1)) qO) (by (try simp only [List.length_append, List.length_nil, List.length_cons, List.length_singleton]); omega) (by (try simp only [List.length_append, List.length_nil, List.length_cons, List.length_singleton]); omega) ?_)
   intro v3 hs1 hn1 hm1
   have hc1 := RowsC.snoc hC hf1
   refine cX (ql (0) qT rfl jb (by decide) rfl rfl (cX (jv [_, _, _] _ [v3] jb rfl rfl (qG hs1) rfl rfl rfl (qb (qa (qd (ii ((n : Int))) rfl (cX (jq (((n : Int)) - 1) rfl rfl (by omega) (by omega) (qg (ii (((n : Int)) - 1)) rfl (qb ?_))))))))))
   exact ⟨(n - 1, v3, os ++ [t1], cs ++ [x6], (m) + 1, F7), _, (qh (qh (qh leG1 le5) le6) le7), rF, ⟨rfl, rfl, rfl, rfl, (vI (by (try dsimp only); omega)), ⟨⟩⟩, (sD (sD (sC (sC (sC (sC (sC sR))))))), ⟨rfl, (qh (qh (qh leG1 le5) le6) le7), (hs1), (hc1), (by (try dsimp only); rw [List.length_append]; simp only [List.length_singleton]; omega), (by (try dsimp only); rw [List.length_append]; simp only [List.length_singleton]; omega), (rows_snoc hob (by (try simp only [List.length_nil]); omega))⟩, (by (try dsimp only); omega)⟩
  refine qw (qa (cX (ql (0) qT rfl jb (by decide) rfl rfl (cX (qj jC rfl (Rd.own [_, _] rfl rfl) (qd (v1) rfl (cX (qo (s := 1) [v1] [sN] [(0, [v1])] qv qs jD rfl (by decide) rfl (.cons (cells_one (qN hv1)) CellsAre.nil) rfl ?_))))))))
  intro v4 hv3
  show XL _ _ _ _ _ _ _ (slH 22 1 v4 1 [v1] :: intsH 2 v1 ([] : List Int) :: slH 22 1 ov m cs :: cellsH b3 [ov] 137 :: cellsH b2 [sN] 137 :: cellsH b1 [arv] 36 :: curH .i64 247 cb bsv bs.length :: L)
  refine jO [_] _ _ rfl (fun F8 le8 hz2 => ?_)
  replace hC := hC.mono le8
  have hf2 : IntsF F8 v1 ([]) := intsH.fz (xs := []) hz2.fz
  refine cX (jG (m := 1) (bytes := 24) (cs := cs) [_] _ [v1] qv typeInfo22 rfl rfl rfl rfl rfl rfl rfl (SlV.own [] rfl) rfl (Rd.lit [] rfl) (qn (qG (qz hf2)) qO) (by (try simp only [List.length_append, List.length_nil, List.length_cons, List.length_singleton]); omega) (by (try simp only [List.length_append, List.length_nil, List.length_cons, List.length_singleton]); omega) ?_)
  intro v5 hs2 hn2 hm2
  have hc2 := RowsC.snoc hC hf2
  refine cX (ql (0) qT rfl jb (by decide) rfl rfl (cX (jv [_, _] _ [v5] jb rfl rfl (qG hs2) rfl rfl rfl (qb (qa (qd (ii ((n : Int))) rfl (cX (jq (((n : Int)) - 1) rfl rfl (by omega) (by omega) (qg (ii (((n : Int)) - 1)) rfl (qb ?_))))))))))
  exact ⟨(n - 1, v5, os ++ [[]], cs ++ [v1], (m) + 1, F8), _, (qh leG1 le8), rF, ⟨rfl, rfl, rfl, rfl, (vI (by (try dsimp only); omega)), ⟨⟩⟩, (sD (sC (sC (sC (sC (sC sR)))))), ⟨rfl, (qh leG1 le8), (hs2), (hc2), (by (try dsimp only); rw [List.length_append]; simp only [List.length_singleton]; omega), (by (try dsimp only); rw [List.length_append]; simp only [List.length_singleton]; omega), (rows_snoc hob (by (try simp only [List.length_nil]); omega))⟩, (by (try dsimp only); omega)⟩
 refine jk (qt (qt (qM (qc (qa (cX (qr [ov] jR jo rfl rfl (Rd.ownN [_] rfl rfl) (cX (qL [_, _] _ [ov] jo rfl rfl rfl (qn (qG hov) qO) rfl rfl rfl (qb (qQ [] _ _ rfl (fun F9 le9 hz3 => ?_))))))))))))
 replace hC := hC.mono le9
 have hf3 : RowsF F9 ov os := CO.fz hC (by first | rfl | omega | (rw [List.length_set]; omega) | (simp; done)) hz3.fz
 refine qu (qq (L' := curH .i64 247 cb bsv bs.length :: L) [.agg #[ov]] (.agg #[ov]) (.cell rfl (ju [ov] jR jo rfl (Rd.ownN [_] rfl rfl)) .nil) rfl (qh leG1 le9) rF (sD (sD (sD (sC sR)))) ?_)
 exact ⟨⟨_, rfl, ⟨_, hf3, by omega, hob⟩⟩, rfl⟩
end Go.Proofs.YtjpfankibmeaaaaGreat
