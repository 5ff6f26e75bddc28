/-
  Walks, one after the other (part 2).
-/
import Derived.Test.YtcdjpapjjoldeaaQVL1
import Derived.Test.YtcdjpapjjoldeaaQVB0
set_option linter.unusedSimpArgs false
set_option linter.unusedVariables false
namespace Go.Proofs.Ytcdjpapjjoldeaa
open Go X M Try

/- slices.Grow[[]int64,int64] -/
theorem GrowNil_spec {F : FH} {L : List HP}  {n : Nat} (hg1 : 1 ≤ n) (hn : n ≤ 400000000) :
    Does prog 244 [sN, ii ((n : Int))] F (L) (fun v F' L' => F = F' ∧ IsSl v ∧ intsH 2 v ([]) :: L = L') := by
 refine qD func244 rfl rfl rfl (qc (qa (qg (sN) rfl (qb (qc (qc (qa (qf (ii ((n : Int))) rfl (cX (qZ rfl rfl (qb ?_)))))))))))
 refine qA (p := (n : Int) < 0) rfl (fun h1 => ?_) (fun h1 => ?_)
 ·omega
 refine qx (qc (qc (qa (qf (ii ((n : Int))) rfl (qf (sN) rfl (cX (XOp.capNil qd rfl (qf (sN) rfl (cX (qC qd rfl SlV.nil (cX (jf (0 - (((0 : Nat) : Int))) rfl rfl (by omega) (by omega) (cX (jf (((n : Int)) - (0 - (((0 : Nat) : Int)))) rfl rfl (by omega) (by omega) (qg (ii (((n : Int)) - (0 - (((0 : Nat) : Int))))) rfl (qb (qc (qa ?_))))))))))))))))))
 refine qf (ii (((n : Int)) - (0 - (((0 : Nat) : Int))))) rfl (cX (jA rfl rfl (qb ?_)))
 refine qA (p := (((n : Int)) - (0 - (((0 : Nat) : Int))) : Int) > 0) rfl (fun h2 => ?_) (fun h2 => ?_)
 ·refine qa (qf (sN) rfl (qf (sN) rfl (cX (XOp.capNil qd rfl (cX (XOp.sliceNil qd qw rfl ⟨_, rfl⟩ (qf (ii (((n : Int)) - (0 - (((0 : Nat) : Int))))) rfl (cX (XOp.appendZ (s := 1) (bytes := 8) (n := (((n : Int)) - (0 - (((0 : Nat) : Int)))).toNat) [ii (0)] qd runUnderlying3 typeInfo2 rfl rfl rfl rfl rfl (by decide) rfl (by rw [show (((((n : Int)) - (0 - (((0 : Nat) : Int)))).toNat : Nat) : Int) = ((n : Int)) - (0 - (((0 : Nat) : Int))) from by omega]; rfl) (by omega) (by omega) (by omega) ?_)))))))))
  intro v1 hv1
  have hv2 : IsSl v1 := by obtain ⟨b0, c0, h0⟩ := hv1; exact ⟨_, _, _, h0⟩
  rw [intsH_zeros]
  refine qf (sN) rfl (cX (qC qd rfl SlV.nil (cX (XOp.sliceOwn (cs := List.map (Value.int .i64) ((List.replicate ((((n : Int)) - (0 - (((0 : Nat) : Int)))).toNat) 0))) [] _ 0 qd qw rfl rfl ⟨_, rfl⟩ (Nat.zero_le _) ?_))))
  intro v2 hs1
  show XL _ _ _ _ _ _ _ (intsH 2 v2 ([]) :: L)
  refine qg (v2) rfl (qb (qc (qa (qf (v2) rfl (qg (v2) rfl (qb (qr (qo (L' := intsH 2 v2 ([]) :: L) [v2] (v2) (.tmp rfl .nil) rfl rF rF (sC sR) ?_))))))))
  refine ⟨rfl, hs1, ?_⟩
  have hxs : ([] : List Int) = [] := rfl
  exact congrArg (fun z => intsH 2 _ z :: L) hxs
 omega

/- slices.Concat[[]int64,int64] -/
theorem Concat_spec {F : FH} {L : List HP} {xsv : Value} {xs : List (List Int)} (hxs : RowsF F xsv xs) (hg1 : 1 ≤ xs.flatten.length) (hn : xs.length ≤ 10) (hb : ∀ i, i < xs.length → (xs.getD i []).length ≤ 4000000) :
    Does prog 225 [xsv] F (L) (fun v F' L' => F = F' ∧ IsSl v ∧ intsH 2 v xs.flatten :: L = L') := by
 refine qD func225 rfl rfl rfl (qc (qa (qg (sN) rfl (qb (qc (qa (qg (ii (0)) rfl (qb (qc (qc (qa (qf (xsv) rfl (cX (qC qy rfl hxs.slv (qf (ii (0)) rfl (qb (qI ?_)))))))))))))))))
 refine jm (α := Nat × Nat) (fun xQ => [(0, xsv), (3, ii (((xQ.2 : Nat) : Int))), (9, xsv), (10, ii ((xs.length : Int))), (11, ii (((xQ.1 : Nat) : Int)))]) (fun xQ => L) (fun xQ F' => F = F' ∧ (xQ.1 ≤ xs.length) ∧ (xQ.2 = (xs.take xQ.1).flatten.length) ∧ (xQ.2 ≤ xQ.1 * 4000000)) (fun xQ => xs.length - xQ.1) (0, 0) ⟨rfl, rfl, rfl, rfl, rfl, ⟨⟩⟩ sR ⟨rfl, (by (try dsimp only) <;> omega), (rfl), (by (try dsimp only) <;> omega)⟩ ?_
 rintro ⟨k, z⟩ rE _ _ ⟨rfl, hk, hz, hz2⟩
 show X _ _ _ _ (envs [(0, xsv), (3, ii ((z : Int))), (9, xsv), (10, ii ((xs.length : Int))), (11, ii ((k : Int)))] rE) _ (L)
 dsimp only at hk hz hz2
 have hbk := hb k
 have hft := fun h => congrArg List.length (flatten_take (xs := xs) (k := k) h)
 simp only [List.length_append] at hft
 refine qc (qa (cX (qZ rfl rfl (qb (qc ?_)))))
 refine qA (p := (k : Int) < (xs.length : Int)) rfl (fun h1 => ?_) (fun h1 => ?_)
 ·refine qx (qc (qI (qc (qa (cX (qB k qy qu rfl rfl rfl hxs.slv (by omega) (Nat.mul_one _) ?_))))))
  obtain ⟨a1, ha1, hr1⟩ := hxs.rd (i := k) (by omega)
  refine cX (qj qY rfl (hr1 _) (qg (a1) rfl (qb (qc (qa (qf (ii ((z : Int))) rfl (qf (a1) rfl (cX (qC qd rfl ha1.slv (cX (qK (((z + (((xs.getD k [])).length) : Nat) : Int)) rfl rfl (by omega) (by omega) (qg (ii (((z + (((xs.getD k [])).length) : Nat) : Int))) rfl (qb (qc (qa (qf (ii (((z + (((xs.getD k [])).length) : Nat) : Int))) rfl ?_))))))))))))))))
  refine cX (qZ rfl rfl (qb ?_))
  refine qA (p := (((z + (((xs.getD k [])).length) : Nat) : Int) : Int) < 0) rfl (fun h2 => ?_) (fun h2 => ?_)
  ·omega
  refine qx (qa (cX (qK (((k + 1 : Nat) : Int)) rfl rfl (by omega) (by omega) (qf (ii (((k + 1 : Nat) : Int))) rfl (qb ?_)))))
  exact ⟨(k + 1, z + (((xs.getD k [])).length)), _, FLe.refl _, rF, ⟨rfl, rfl, rfl, rfl, rfl, ⟨⟩⟩, sR, ⟨rfl, (by (try dsimp only) <;> omega), (by (try dsimp only) <;> omega), (by (try dsimp only) <;> omega)⟩, (by omega)⟩
 refine je (qv (qv (qN (qc (qa ?_)))))
 have hz1 : 1 ≤ z := by rw [hz, show xs.take k = xs from List.take_of_length_le (by omega)]; exact hg1
 refine qf (ii ((z : Int))) rfl (cX (qp (args := [sN, ii (z : Int)]) call244 rfl (GrowNil_spec (n := z) (hg1 := (hz1)) (hn := (by omega))) ?_))
 rintro v1 _ _ _ ⟨rfl, hs1, rfl⟩
 refine qg (v1) rfl (qb (qc (qc (qa (qf (xsv) rfl (cX (qC qy rfl hxs.slv (qf (ii (0)) rfl (qb (qI (jm (α := Nat × Value × List Int) (fun xQ => [(6, xQ.2.1), (25, xsv), (26, ii ((xs.length : Int))), (27, ii (((xQ.1 : Nat) : Int)))]) (fun xQ => intsH 2 xQ.2.1 xQ.2.2 :: L) (fun xQ F' => F = F' ∧ (IsSl xQ.2.1) ∧ (xQ.1 ≤ xs.length) ∧ (xQ.2.2 = (xs.take xQ.1).flatten)) (fun xQ => xs.length - xQ.1) (0, v1, ([])) ⟨rfl, rfl, rfl, rfl, ⟨⟩⟩ (sC sR) ⟨rfl, (hs1), (by (try dsimp only) <;> omega), (rfl)⟩ ?_)))))))))))
 rintro ⟨k, ov, os⟩ rE _ _ ⟨rfl, hov, hk, hos⟩
 show X _ _ _ _ (envs [(6, ov), (25, xsv), (26, ii ((xs.length : Int))), (27, ii ((k : Int)))] rE) _ (intsH 2 ov os :: L)
 dsimp only at hov hk hos
 have hbk := hb k
 have hol : os.length ≤ k * 4000000 := by rw [hos]; exact flatten_bound hb k (by omega)
 refine qc (qa (cX (qZ rfl rfl (qb (qc ?_)))))
 refine qA (p := (k : Int) < (xs.length : Int)) rfl (fun h3 => ?_) (fun h3 => ?_)
 ·refine qx (qc (qI (qc (qa (cX (qB k qy qu rfl rfl rfl hxs.slv (by omega) (Nat.mul_one _) ?_))))))
  obtain ⟨a2, ha2, hr2⟩ := hxs.rd (i := k) (by omega)
  refine cX (qj qY rfl (hr2 _) (qg (a2) rfl (qb (qa (qf (ov) rfl (qf (a2) rfl (cX (jP [] _ qd typeInfo2 rfl rfl rfl rfl rfl rfl ha2 (by (try simp only [List.length_append, List.length_nil, List.length_cons, List.length_singleton, List.length_take, List.length_drop]); omega) ?_))))))))
  intro v2 hs2 hn1 hm1
  refine qg (v2) rfl (qb (qa (cX (qK (((k + 1 : Nat) : Int)) rfl rfl (by omega) (by omega) (qf (ii (((k + 1 : Nat) : Int))) rfl (qb ?_))))))
  exact ⟨(k + 1, v2, os ++ ((xs.getD k []))), _, FLe.refl _, rF, ⟨rfl, rfl, rfl, rfl, ⟨⟩⟩, (sC sR), ⟨rfl, (hs2), (by (try dsimp only) <;> omega), ((by dsimp only; rw [hos, flatten_take (by omega)]))⟩, (by omega)⟩
 refine je (qv (qv (qN (qc (qa (qf (ov) rfl (qg (ov) rfl (qb (qr (qo (L' := intsH 2 ov os :: L) [ov] (ov) (.tmp rfl .nil) rfl rF rF (sC sR) ?_))))))))))
 refine ⟨rfl, hov, ?_⟩
 have hxs : (xs.flatten : List Int) = os := by rw [hos, List.take_of_length_le (by omega)]
 exact congrArg (fun z => intsH 2 _ z :: L) hxs

/- impl.put -/
theorem put_spec {F : FH} {L : List HP} {arv : Value} {ar : List Int} (har : IntsF F arv ar) {tv : Value} {t : List Int} (ht : IntsF F tv t) {p : Nat} {uv : Value} {u : List Int} (hu : IntsF F uv u) (ho : termOk ar t = true) (hp : p < t.length) (hul : 1 ≤ u.length ∧ u.length ≤ 4000000) :
    Does prog 184 [.agg #[arv], tv, ii ((p : Int)), uv] F (L) (fun v F' L' => ∃ (a : Value), (.tuple #[a, .bool ((putL ar t p u).isSome)] : Value) = v ∧ (IntsF F' a ((putL ar t p u).getD [])) ∧ ((putL ar t p u).isSome = true → isNil a = false) ∧ (Fresh F F' (intsH 2 a ((putL ar t p u).getD []))) ∧ L = L') := by
 refine qD func184 rfl rfl rfl ?_
 have hsig := termOk_sig ho
 have hsl := sigOk_spec hsig
 have htl := termOk_len ho
 have hee := endN_spec ho hp
 refine qc (qa (cX (qW [arv] rfl rfl ?_)))
 intro b1
 refine qg (sN) rfl (qg (.bool (false)) rfl (qb (qc ?_)))
 refine X.drawG [cellsH b1 [arv] 29] L 10 [] [[], [], [0, 1], [], [], [], [], [], [5, 6, 7], [4, 8]] [] (phiG [pe tv, pe (ii ((p : Int)) : Value), fun FF us v => (v : Value) = v ∧ (IntsF FF v ((t.drop 0).take (p - 0))) ∧ (isNil v = isNil tv), pe uv, pe tv, pe (.agg #[arv]), pe tv, pe (ii ((p : Int)) : Value), pe (ii (((endN ar t p : Nat) : Int)) : Value), fun FF us v => (v : Value) = v ∧ (IntsF FF v ((t.drop (endN ar t p)).take (((t).length) - (endN ar t p)))) ∧ (isNil v = isNil tv)]) (ownL []) mixed rfl rfl (by kernel_rfl) (by kernel_rfl) (MonoG.get (m1 (m1 (mC (fun le h => ⟨h.1, h.2.1.mono le, h.2.2⟩) (m1 (m1 (m1 (m1 (m1 (m1 (mC (fun le h => ⟨h.1, h.2.1.mono le, h.2.2⟩) MonoG.nil))))))))))) ?_ ?_
 ·refine gD (fun W Fs R lF z9 => ?_) ?_
  ·refine qh (qm (tv) rfl ?_)
   exact ⟨rfl, rfl⟩
  refine gD (fun W Fs R lF z9 => ?_) ?_
  ·refine qh (qm (ii ((p : Int))) rfl ?_)
   exact ⟨rfl, rfl⟩
  refine gD (fun W Fs R lF z9 => ?_) ?_
  ·replace har := har.mono lF
   replace ht := ht.mono lF
   replace hu := hu.mono lF
   rw [eS (l := [(0, _), (1, _)]) ⟨z9 0 rfl, z9 1 rfl, ⟨⟩⟩]
   refine qh (XOp.sliceI 0 p qd qw rfl ht rfl ⟨_, rfl⟩ (by omega) (by omega) ?_)
   intro v3 hv3 hn3
   exact ⟨⟨rfl, hv3, hn3⟩, rfl⟩
  refine gD (fun W Fs R lF z9 => ?_) ?_
  ·refine qh (qm (uv) rfl ?_)
   exact ⟨rfl, rfl⟩
  refine gD (fun W Fs R lF z9 => ?_) ?_
  ·refine qh (qm (tv) rfl ?_)
   exact ⟨rfl, rfl⟩
  refine gD (fun W Fs R lF z9 => ?_) ?_
  ·replace har := har.mono lF
   replace ht := ht.mono lF
   replace hu := hu.mono lF
   refine qh (qq [arv] jk qP rfl rfl (Rd.ownN [] rfl rfl) ?_)
   exact ⟨rfl, rfl⟩
  refine gD (fun W Fs R lF z9 => ?_) ?_
  ·refine qh (qm (tv) rfl ?_)
   exact ⟨rfl, rfl⟩
  refine gD (fun W Fs R lF z9 => ?_) ?_
  ·refine qh (qm (ii ((p : Int))) rfl ?_)
   exact ⟨rfl, rfl⟩
  refine gD (fun W Fs R lF z9 => ?_) ?_
  ·replace har := har.mono lF
   replace ht := ht.mono lF
   replace hu := hu.mono lF
   rw [eS (l := [(5, _), (6, _), (7, _)]) ⟨z9 5 rfl, z9 6 rfl, z9 7 rfl, ⟨⟩⟩]
   refine qh (qp (args := [.agg #[arv], tv, ii (p : Int)]) call150 rfl (endAt_ok (p := p) har ht (ho := (by first | assumption | rfl | omega | (left; simp; done) | (right; simp; done))) (hp := (by first | assumption | rfl | omega | (left; simp; done) | (right; simp; done)))) ?_)
   rintro _ _ _ _ ⟨rfl, rfl, rfl⟩
   exact ⟨rfl, rfl⟩
  refine gD (fun W Fs R lF z9 => ?_) ?_
  ·replace har := har.mono lF
   replace ht := ht.mono lF
   replace hu := hu.mono lF
   rw [eS (l := [(4, _), (8, _)]) ⟨z9 4 rfl, z9 8 rfl, ⟨⟩⟩]
   refine qh (XOp.sliceI (endN ar t p) ((t).length) qd qw rfl ht ⟨_, rfl⟩ rfl (by omega) (by omega) ?_)
   intro v4 hv4 hn4
   exact ⟨⟨rfl, hv4, hn4⟩, rfl⟩
  exact stepsG.nil
 intro W F1 le1 hphi
 obtain ⟨e2, f2_1hv, f2_1hn⟩ := hphi 2 (by decide)
 obtain ⟨e9, f9_1hv, f9_1hn⟩ := hphi 9 (by decide)
 generalize hu1 : (W 2) = u1 at e2 f2_1hv f2_1hn e9 f9_1hv f9_1hn
 generalize hu2 : (W 9) = u2 at e2 f2_1hv f2_1hn e9 f9_1hv f9_1hn
 rw [eS (l := [(2, u1), (3, _), (9, u2)]) ⟨hu1, (hphi 3 (by decide)), hu2, ⟨⟩⟩]
 replace hu := hu.mono le1
 show XL _ _ _ _ _ _ _ (cellsH b1 [arv] 29 :: L)
 refine cX (ql (s := 1) [u1, uv, u2] [sN] [(0, [u1]), (1, [uv]), (2, [u2])] qy qu jK rfl (by decide) rfl (.cons (cells_one (qE f2_1hv)) (.cons (cells_one (qE hu)) (.cons (cells_one (qE f9_1hv)) CellsAre.nil))) rfl ?_)
 intro v5 hv5
 have hc1 : RowsC F1 [u1, uv, u2] ([((t.drop 0).take (p - 0)), u, ((t.drop (endN ar t p)).take (((t).length) - (endN ar t p)))] : List (List Int)) := (RowsC.snoc (RowsC.snoc (RowsC.snoc (CO.nil : RowsC F1 [] []) f2_1hv) hu) f9_1hv)
 refine jy [] _ _ rfl (fun F2 le2 hz1 => ?_)
 replace hc1 := hc1.mono le2
 have hf1 : RowsF F2 v5 (([((t.drop 0).take (p - 0)), u, ((t.drop (endN ar t p)).take (((t).length) - (endN ar t p)))] : List (List Int))) := CO.fz hc1 (by first | rfl | omega | (rw [List.length_set]; omega) | (simp; done)) hz1.fz
 refine cX (jD <| qp (args := [v5]) call225 rfl (Concat_spec hf1 (hg1 := (by simp; omega)) (hn := (by first | assumption | rfl | omega | simp)) (hb := (fun i hi => by match i, hi with | 0, _ => simp; omega | 1, _ => simp; omega | 2, _ => simp; omega))) ?_)
 rintro v6 _ _ _ ⟨rfl, hs1, rfl⟩
 refine ⟨_, _, rfl, fun F3 le3 hz2 => ?_⟩
 have hf2 : IntsF F3 v6 (((([((t.drop 0).take (p - 0)), u, ((t.drop (endN ar t p)).take (((t).length) - (endN ar t p)))] : List (List Int))).flatten)) := intsH.fz (xs := ((([((t.drop 0).take (p - 0)), u, ((t.drop (endN ar t p)).take (((t).length) - (endN ar t p)))] : List (List Int))).flatten)) hz2.fz
 refine qg (v6) rfl (qb (qc (qc (qa (qf (v6) rfl (cX (qC qd rfl hf2.slv (cX (jA rfl rfl (qb ?_))))))))))
 refine qA (p := ((((((([((t.drop 0).take (p - 0)), u, ((t.drop (endN ar t p)).take (((t).length) - (endN ar t p)))] : List (List Int))).flatten)).length : Nat) : Int) : Int) > 60) rfl (fun h1 => ?_) (fun h1 => ?_)
 ·refine qc (qa (qg (sN) rfl (qg (.bool (false)) rfl (qb (qr (qi (qo (L' := L) [sN, .bool (false)] (.tuple #[sN, .bool (false)]) (.tmp rfl (.tmp rfl .nil)) rfl (qk (qk le1 le2) le3) rF (sD sR) ?_)))))))
  have hz : putL ar t p u = none := putL_none put_flat (by omega)
  exact ⟨_, by rw [hz]; rfl, by rw [hz]; exact IntsF.nilV, fun h => (by rw [hz] at h; cases h), by rw [hz]; exact Fresh.ofNil _, rfl⟩
 refine qx (qc (qa (qf (v6) rfl (qg (v6) rfl (qg (.bool (true)) rfl (qb (qr (qo (L' := L) [v6, .bool (true)] (.tuple #[v6, .bool (true)]) (.tmp rfl (.tmp rfl .nil)) rfl (qk (qk le1 le2) le3) rF (sD sR) ?_))))))))
 have hz := putL_some (ar := ar) (t := t) (p := p) (u := u) put_flat (by omega)
 exact ⟨_, by rw [hz]; rfl, by rw [hz]; exact hf2, fun _ => jv hf2 (by rw [put_flat]; simp; omega), by rw [hz]; exact (hz2.base (qk le1 le2)), rfl⟩

/- (impl.Subst).byVar -/
theorem byVar_spec {F : FH} {L : List HP} {sv : Value} {s : List (List Int)} (hs : RowsF F sv s) {i : Nat} (hsl : s.length ≤ 4000000) :
    Does prog 203 [.agg #[sv], ii ((i : Int))] F (L) (fun v F' L' => F = F' ∧ ∃ (a : Value), (a : Value) = v ∧ (IntsF F' a (s.getD i [])) ∧ (isNil a = decide (s.getD i [] = [])) ∧ L = L') := by
 refine qD func203 rfl rfl rfl (qc (qa (cX (qW [sv] rfl rfl ?_))))
 intro b1
 refine qg (sN) rfl (qb (qc (qc (qa (qf (ii ((i : Int))) rfl (cX (qn (0) qQ rfl jd (by decide) rfl rfl (cX (qj jO rfl (Rd.own [] rfl rfl) (cX (qC qy rfl hs.slv (cX (XOp.geq rfl rfl (qf (.bool (decide ((i : Int) ≥ (s.length : Int)))) rfl ?_))))))))))))))
 by_cases h1 : (i : Int) ≥ (s.length : Int)
 ·refine qs (t := 10) rfl (vT h1) (qs (t := 10) rfl (vT h1) (qs (t := 10) rfl (vT h1) (qs (t := 10) rfl (vT h1) (qs (t := 10) rfl (vT h1) (qs (t := 10) rfl (vT h1) (qs (t := 10) rfl (vT h1) (cX (ja (.bool (true)) (vT h1) rfl (qb (jN rfl ?_))))))))))
  refine qc (qa (qg (sN) rfl (qb (qr (qi (qo (L' := L) [sN] (sN) (.tmp rfl .nil) rfl rF rF (sD sR) ?_))))))
  have e : s.getD i [] = [] := by first | exact List.eq_nil_of_length_eq_zero (by omega) | (rw [List.getD_eq_getElem?_getD, List.getElem?_eq_none (by omega)]; rfl)
  exact ⟨rfl, _, rfl, by rw [e]; exact IntsF.nilV, by rw [e]; rfl, rfl⟩
 refine qt (t := 10) rfl (vF h1) (qn (0) qQ rfl jd (by decide) rfl rfl (qt (t := 10) rfl (vF h1) (qj jO rfl (Rd.own [] rfl rfl) (qt (t := 10) rfl (vF h1) (qm (ii ((i : Int))) rfl (qt (t := 10) rfl (vF h1) (qB i qy qu rfl rfl rfl hs.slv (by omega) (Nat.mul_one _) ?_)))))))
 obtain ⟨a1, ha1, hr1⟩ := hs.rd (i := i) (by omega)
 refine qt (t := 10) rfl (vF h1) (qj qY rfl (hr1 _) (qt (t := 10) rfl (vF h1) (qC qd rfl ha1.slv (qt (t := 10) rfl (vF h1) (jq rfl rfl (cX (qV (.bool (decide ((((((s.getD i [])).length : Nat) : Int) : Int) = 0))) (vF h1) rfl (qb ?_))))))))
 refine qA (p := (((((s.getD i [])).length : Nat) : Int) : Int) = 0) rfl (fun h2 => ?_) (fun h2 => ?_)
 ·refine qc (qa (qg (sN) rfl (qb (qr (qi (qo (L' := L) [sN] (sN) (.tmp rfl .nil) rfl rF rF (sD sR) ?_))))))
  have e : s.getD i [] = [] := by first | exact List.eq_nil_of_length_eq_zero (by omega) | (rw [List.getD_eq_getElem?_getD, List.getElem?_eq_none (by omega)]; rfl)
  exact ⟨rfl, _, rfl, by rw [e]; exact IntsF.nilV, by rw [e]; rfl, rfl⟩
 refine qx (qc (qa (cX (qn (0) qQ rfl jd (by decide) rfl rfl (cX (qj jO rfl (Rd.own [] rfl rfl) (qf (ii ((i : Int))) rfl (cX (qB i qy qu rfl rfl rfl hs.slv (by omega) (Nat.mul_one _) (cX (qj qY rfl (hr1 _) (qg (a1) rfl (qb (qr (qo (L' := L) [a1] (a1) (.tmp rfl .nil) rfl rF rF (sD sR) ?_)))))))))))))))
 have e : s.getD i [] ≠ [] := by intro e; have := congrArg List.length e; simp only [List.length_nil] at this; omega
 exact ⟨rfl, _, rfl, ha1, by rw [jv ha1 (List.length_pos_iff.2 e)]; exact (decide_eq_false e).symm, rfl⟩

/- (impl.Subst).lookup$1 -/
theorem lookup1_spec {F : FH} {L : List HP} {n : Int} {sv : Value} {s : List (List Int)} (hs : RowsF F sv s) {b : Nat} (hzb : FzC F b [sv]) (hsl : s.length ≤ 4000000) (hg : -4000000 ≤ n) :
    Does prog 202 [ii (n), ptr b 0] F (L) (fun v F' L' => F = F' ∧ ∃ (a : Value), (a : Value) = v ∧ (IntsF F' a (lkN s n)) ∧ (isNil a = decide (lkN s n = [])) ∧ L = L') := by
 refine qD func202 rfl rfl rfl (qc (qa (qg (sN) rfl (qb (qc (qc (qa (qf (ii (n)) rfl (cX (XOp.geq rfl rfl (qb ?_)))))))))))
 refine qA (p := (n : Int) ≥ 0) rfl (fun h1 => ?_) (fun h1 => ?_)
 ·refine qc (qa (qg (sN) rfl (qb (qr (qi (qo (L' := L) [sN] (sN) (.tmp rfl .nil) rfl rF rF sR ?_))))))
  have e : lkN s n = [] := lkN_pos (by omega)
  exact ⟨rfl, _, rfl, by rw [e]; exact IntsF.nilV, by rw [e]; rfl, rfl⟩
 refine qx (qc (qa (cX (qq [sv] isAgg50 ji rfl rfl (FzC.rd hzb rfl) (qf (ii (n)) rfl (cX (jf ((-1) - n) rfl rfl (by omega) (by omega) (cX (qp (args := [.agg #[sv], ii ((((-1) - n).toNat : Nat) : Int)]) call203 (by rw [show ((((-1) - n).toNat : Nat) : Int) = (-1) - n from by omega]; rfl) (byVar_spec (i := ((-1) - n).toNat) hs (hsl := (by first | assumption | rfl | omega | simp))) ?_)))))))))
 rintro _ _ _ _ ⟨rfl, x1, rfl, hr1, hr2, rfl⟩
 refine qg (x1) rfl (qb (qr (qo (L' := L) [x1] (x1) (.tmp rfl .nil) rfl rF rF sR ?_)))
 have e : lkN s n = s.getD (varIx n) [] := lkN_neg (by omega)
 exact ⟨rfl, _, rfl, by rw [e]; exact hr1, by rw [e]; exact hr2, rfl⟩

/- (impl.Subst).lookup -/
theorem lookup_spec {F : FH} {L : List HP} {sv : Value} {s : List (List Int)} (hs : RowsF F sv s) :
    Does prog 141 [.agg #[sv]] F (L) (fun v F' L' => ∃ (b : Nat), (.func (.func 202) #[] #[ptr b 0] : Value) = v ∧ (FzC F' b [sv]) ∧ L = L') := by
 refine qD func141 rfl rfl rfl (qc (qa (cX (qW [sv] rfl rfl ?_))))
 intro b1
 refine qg (.nilFunc) rfl (qb (qc (qa (cX (jH [] [ptr b1 0] rfl rfl (qg (.func (.func 202) #[] #[ptr b1 0]) rfl (qb (X.freeze [] _ _ rfl (fun F1 le1 hz1 => ?_)))))))))
 have hf1 : FzC F1 b1 [sv] := Fz.cells hz1
 refine qr (qo (L' := L) [.func (.func 202) #[] #[ptr b1 0]] (.func (.func 202) #[] #[ptr b1 0]) (.tmp rfl .nil) rfl le1 rF sR ?_)
 exact ⟨_, rfl, hf1, rfl⟩

/- impl.fill -/
theorem fill_spec {F : FH} {L : List HP} {sv : Value} {s : List (List Int)} (hs : RowsF F sv s) {tv : Value} {t : List Int} (ht : IntsF F tv t) (hsl : s.length ≤ 4000000) (hsb : ∀ i, (s.getD i []).length ≤ 4000000) (htl : t.length ≤ 4000000) (htg : ∀ k, k < t.length → -4000000 ≤ t.getD k 0) :
    Does prog 74 [.agg #[sv], tv] F (L) (fun v F' L' => ∃ (a : Value), (.tuple #[a, .bool ((fillL s t).isSome)] : Value) = v ∧ (IntsF F' a ((fillL s t).getD [])) ∧ (Fresh F F' (intsH 2 a ((fillL s t).getD []))) ∧ L = L') := by
 refine qD func74 rfl rfl rfl (qc (qa (cX (qW [sv] rfl rfl ?_))))
 intro b1
 refine qg (sN) rfl (qg (.bool (false)) rfl (qb (qc (qa (cX (qq [sv] isAgg50 ji rfl rfl (Rd.ownN [] rfl rfl) (cX (qp (args := [.agg #[sv]]) call141 rfl (lookup_spec hs) ?_))))))))
 rintro _ F1 _ le1 ⟨x1, rfl, hr1, rfl⟩
 replace hs := hs.mono le1
 replace ht := ht.mono le1
 refine qg (.func (.func 202) #[] #[ptr x1 0]) rfl (qb (qc (qa (qf (tv) rfl (cX (qC qd rfl ht.slv (cX (XOp.makeSlice0 (n := (t).length) (bytes := 8) [ii (0)] qd qw typeInfo2 rfl qG rfl rfl rfl rfl (by omega) (by omega) ?_))))))))
 intro v1 hv1
 have hs1 : IsSl v1 := by obtain ⟨b0, h0⟩ := hv1; exact ⟨_, _, _, h0⟩
 show XL _ _ _ _ _ _ _ (intsH 2 v1 ([]) :: cellsH b1 [sv] 50 :: L)
 refine qg (v1) rfl (qb (qc (qc (qa (qf (tv) rfl (cX (qC qd rfl ht.slv (qf (ii (0)) rfl (qb (qI (jm (α := Nat × Value × List Int) (fun xQ => [(6, .func (.func 202) #[] #[ptr x1 0]), (7, xQ.2.1), (16, tv), (17, ii ((t.length : Int))), (18, ii (((xQ.1 : Nat) : Int)))]) (fun xQ => intsH 2 xQ.2.1 xQ.2.2 :: cellsH b1 [sv] 50 :: L) (fun xQ F' => F1 = F' ∧ (IsSl xQ.2.1) ∧ (xQ.1 ≤ t.length) ∧ (fillL s t = fillGo s (t.drop xQ.1) xQ.2.2) ∧ (xQ.2.2.length ≤ 60)) (fun xQ => t.length - xQ.1) (0, v1, []) ⟨rfl, rfl, rfl, rfl, rfl, ⟨⟩⟩ (sC (sC sR)) ⟨rfl, (hs1), (by (try dsimp only) <;> omega), (rfl), (by simp)⟩ ?_)))))))))))
 rintro ⟨k, ov, os⟩ rE _ _ ⟨rfl, hov, hk, hm, hol⟩
 show X _ _ _ _ (envs [(6, .func (.func 202) #[] #[ptr x1 0]), (7, ov), (16, tv), (17, ii ((t.length : Int))), (18, ii ((k : Int)))] rE) _ (intsH 2 ov os :: cellsH b1 [sv] 50 :: L)
 dsimp only at hov hk hm hol
 have htk := htg k
 refine qc (qa (cX (qZ rfl rfl (qb (qc ?_)))))
 refine qA (p := (k : Int) < (t.length : Int)) rfl (fun h1 => ?_) (fun h1 => ?_)
 ·refine qx (qc (qI (qc (qa (cX (qB k qd qw rfl rfl rfl ht.slv (by omega) (Nat.mul_one _) (cX (qj jj rfl (ht.rd (by omega)) (qg (ii (t.getD k 0)) rfl (qb (qc (qc (qa (qf (.func (.func 202) #[] #[ptr x1 0]) rfl (qf (ii (t.getD k 0)) rfl (cX (XOp.callV (first := []) (captured := [ptr x1 0]) (args := [ii (t.getD k 0), ptr x1 0]) call202 rfl rfl (lookup1_spec (n := t.getD k 0) hs hr1 (hsl := (by first | assumption | rfl | omega | simp)) (hg := (by first | assumption | rfl | omega | simp))) ?_)))))))))))))))))
  rintro _ _ _ _ ⟨rfl, x2, rfl, hr2, hr3, rfl⟩
  skip
  refine qg (x2) rfl (qb (qc (qa (qf (x2) rfl (cX (XOp.eqNil qd rfl rfl (qE hr2) (qb ?_)))))))
  refine jB (t := isNil x2) rfl (fun h2 => ?_) (fun h2 => ?_)
  ·refine qa (qf (ov) rfl (qf (ii (t.getD k 0)) rfl (cX (ql (s := 1) [ii (t.getD k 0)] [ii (0)] [(0, [ii (t.getD k 0)])] qd qw qG rfl (by decide) rfl (.cons rfl CellsAre.nil) rfl ?_))))
   intro v2 hv2
   refine cX (XOp.append1 (u := t.getD k 0) [_] _ qd typeInfo2 rfl rfl rfl rfl rfl rfl (SlV.own [] rfl) (Rd.sl [] rfl rfl) (by (try simp only [List.length_append, List.length_nil, List.length_cons, List.length_singleton, List.length_take, List.length_drop]); omega) ?_)
   intro v3 hs2 hn1
   refine qg (v3) rfl (qb (qc (qa (qf (v3) rfl (cX (qC qd rfl (intsH.slv [_] rfl) (cX (jA rfl rfl (qb ?_)))))))))
   refine qA (p := ((((os ++ [t.getD k 0]).length : Nat) : Int) : Int) > 60) rfl (fun h3 => ?_) (fun h3 => ?_)
   ·refine qc (qa (qg (sN) rfl (qg (.bool (false)) rfl (qb (qr (qF (qi (qi (qF (qi (qo (L' := L) [sN, .bool (false)] (.tuple #[sN, .bool (false)]) (.tmp rfl (.tmp rfl .nil)) rfl le1 rF (sD (sD (sD sR))) ?_)))))))))))
    have hz : fillL s t = none := hm.trans (fillGo_long (a := os ++ [t.getD k 0]) (by omega) (by rw [lk_of_nil (of_decide_eq_true (hr3.symm.trans (by assumption)))]) (by omega))
    exact ⟨_, by rw [hz]; rfl, by rw [hz]; exact IntsF.nilV, by rw [hz]; exact Fresh.ofNil _, rfl⟩
   refine qx (qa (cX (qK (((k + 1 : Nat) : Int)) rfl rfl (by omega) (by omega) (qf (ii (((k + 1 : Nat) : Int))) rfl (qb ?_)))))
   exact ⟨(k + 1, v3, os ++ [t.getD k 0]), _, FLe.refl _, rF, ⟨rfl, rfl, rfl, rfl, rfl, ⟨⟩⟩, (sD (sC (sC sR))), ⟨rfl, (hs2), (by (try dsimp only) <;> omega), (by dsimp only; exact hm.trans (fillGo_next (by omega) (by rw [lk_of_nil (of_decide_eq_true (hr3.symm.trans (by assumption)))]) (by omega))), (by dsimp only; omega)⟩, (by omega)⟩
  refine qa ?_
  have hlb : (lkN s (t.getD k 0)).length ≤ 4000000 := lkN_bound hsb
  refine qf (ov) rfl (qf (x2) rfl (cX (jP [] _ qd typeInfo2 rfl rfl rfl rfl rfl rfl hr2 (by (try simp only [List.length_append, List.length_nil, List.length_cons, List.length_singleton, List.length_take, List.length_drop]); omega) ?_)))
  intro v4 hs3 hn2 hm1
  refine qg (v4) rfl (qb (qc (qa (qf (v4) rfl (cX (qC qd rfl (intsH.slv [] rfl) (cX (jA rfl rfl (qb ?_)))))))))
  refine qA (p := ((((os ++ (lkN s (t.getD k 0))).length : Nat) : Int) : Int) > 60) rfl (fun h4 => ?_) (fun h4 => ?_)
  ·refine qc (qa (qg (sN) rfl (qg (.bool (false)) rfl (qb (qr (qF (qi (qi (qF (qi (qo (L' := L) [sN, .bool (false)] (.tuple #[sN, .bool (false)]) (.tmp rfl (.tmp rfl .nil)) rfl le1 rF (sD (sD sR)) ?_)))))))))))
   have hz : fillL s t = none := hm.trans (fillGo_long (a := os ++ (lkN s (t.getD k 0))) (by omega) (by rw [lk_of_ne (of_decide_eq_false (hr3.symm.trans (by assumption)))]) (by omega))
   exact ⟨_, by rw [hz]; rfl, by rw [hz]; exact IntsF.nilV, by rw [hz]; exact Fresh.ofNil _, rfl⟩
  refine qx (qa (cX (qK (((k + 1 : Nat) : Int)) rfl rfl (by omega) (by omega) (qf (ii (((k + 1 : Nat) : Int))) rfl (qb ?_)))))
  exact ⟨(k + 1, v4, os ++ (lkN s (t.getD k 0))), _, FLe.refl _, rF, ⟨rfl, rfl, rfl, rfl, rfl, ⟨⟩⟩, (sC (sC sR)), ⟨rfl, (hs3), (by (try dsimp only) <;> omega), (by dsimp only; exact hm.trans (fillGo_next (by omega) (by rw [lk_of_ne (of_decide_eq_false (hr3.symm.trans (by assumption)))]) (by omega))), (by dsimp only; omega)⟩, (by omega)⟩
 refine je (qv (qv (qN (qc (qa (qf (ov) rfl (qg (ov) rfl (qg (.bool (true)) rfl (qb (qH [] _ _ rfl (fun F3 le3 hz1 => ?_)))))))))))
 have hf1 : IntsF F3 ov os := intsH.fz (xs := os) hz1.fz
 refine qr (qo (L' := L) [ov, .bool (true)] (.tuple #[ov, .bool (true)]) (.tmp rfl (.tmp rfl .nil)) rfl (qk le1 le3) rF (sD sR) ?_)
 have hz : fillL s t = some os := hm.trans (fillGo_done (by omega))
 exact ⟨_, by rw [hz]; rfl, by rw [hz]; exact hf1, by rw [hz]; exact (hz1.base le1), rfl⟩

/- impl.step -/
theorem step_spec {F : FH} {L : List HP} {arv : Value} {ar : List Int} (har : IntsF F arv ar) {rsv : Value} {rs : List (List Int × List Int)} (hrs : PairsF F rsv rs) {tv : Value} {t : List Int} (ht : IntsF F tv t) {p : Nat} {r : Nat} (hsys : sysOk ar rs = true) (ho : termOk ar t = true) (hp : p < t.length) (hr : r < rs.length) :
    Does prog 191 [.agg #[arv, rsv], tv, ii ((p : Int)), ii ((r : Int))] F (L) (fun v F' L' => ∃ (a : Value), (.tuple #[a, .bool ((stepL ar rs t p r).isSome)] : Value) = v ∧ (IntsF F' a ((stepL ar rs t p r).getD [])) ∧ ((stepL ar rs t p r).isSome = true → isNil a = false) ∧ (Fresh F F' (intsH 2 a ((stepL ar rs t p r).getD []))) ∧ L = L') := by
 refine qD func191 rfl rfl rfl ?_
 have hnn := jv ht (by have := termOk_len ho; omega)
 have htl := termOk_len ho
 have hrl := (sysOk_iff.1 hsys).2.1
 have hsig := (sysOk_iff.1 hsys).1
 have hsl := sigOk_spec hsig
 have hR := ruleOk_iff.1 ((sysOk_iff.1 hsys).2.2 r hr)
 have hRl := hR.left
 have hRr := hR.right
 have hso := sub_ok ho hp
 have hsb := sub_length ho hp
 have hee := endN_spec ho hp
 have hRrl := termOk_len hRr
 have hRg := fun k (hk : k < (rs.getD r ([], [])).2.length) => termOk_ge hRr hk
 have hmp := matchP_len (ar := ar) (p := (rs.getD r ([], [])).1) (t := sub ar t p)
 have hmp2 := hmp.2
 have hmp3 := hmp.1
 refine qc (qa (cX (qW [arv, rsv] rfl rfl ?_)))
 intro b1
 refine qg (sN) rfl (qg (.bool (false)) rfl (qb (qc ?_)))
 obtain ⟨a1, a2, ha1, ha2, hr1, hr2⟩ := hrs.rd (i := r) (by omega)
 refine X.drawG [cellsH b1 [arv, rsv] 32] L 19 [[], [], [], [], [], [], [], [], [], [], [], [], [], [], [13], [13], [], [], [13, 17]] [[], [0], [], [2], [], [3, 4], [5], [6], [], [8], [], [], [9, 10, 11], [1, 7, 12], [13], [13, 14], [13, 14], [], [13, 15, 17]] [[], [], [], [], [], [], [], [], [], [], [], [], [], [], [], [], [], [], [17]] (phiG [pe (ptr b1 0), pe (.agg #[arv]), pe (ptr b1 1), pe rsv, pe (ii ((r : Int)) : Value), pe (.pointer (some (elemA rsv (r * 2)))), pe (.pointer (some (elemA rsv (r * 2)))), pe a1, pe (ptr b1 0), pe (.agg #[arv]), pe tv, pe (ii ((p : Int)) : Value), fun FF us v => ((v) : Value) = v ∧ (IntsF FF (v) (sub ar t p)) ∧ (isNil (v) = false), fun FF us v => (.tuple #[.agg #[((aggAt (tupAt v 0) 0))], .bool ((matchB ar ((rs.getD r ([], [])).1) ((sub ar t p))).isSome)] : Value) = v ∧ (RowsF FF ((aggAt (tupAt v 0) 0)) (matchP ar ((rs.getD r ([], [])).1) ((sub ar t p)))), fun FF us v => v = (.tuple #[.agg #[((aggAt (tupAt (us.getD 0 undef) 0) 0))], .bool ((matchB ar ((rs.getD r ([], [])).1) ((sub ar t p))).isSome)] : Value), fun FF us v => v = (.agg #[((aggAt (tupAt (us.getD 0 undef) 0) 0))] : Value), pe (.bool ((matchB ar ((rs.getD r ([], [])).1) ((sub ar t p))).isSome)), fun FF us v => v = ptr (blk v) 0, fun FF us v => True]) (ownL [o0, o0, o0, o0, o0, o0, o0, o0, o0, o0, o0, o0, o0, o0, o0, o0, o0, fun us v => [cellsH (blk v) [sN] 50], fun us v => [cellsH (blk (us.getD 1 undef)) [((aggAt (tupAt (us.getD 0 undef) 0) 0))] 50]]) mixed rfl rfl (by kernel_rfl) (by kernel_rfl) (MonoG.get (m1 (m1 (m1 (m1 (m1 (m1 (m1 (m1 (m1 (m1 (m1 (m1 (mC (fun le h => ⟨h.1, h.2.1.mono le, h.2.2⟩) (mC (fun le h => ⟨h.1, h.2.mono le⟩) (mC (fun le h => h) (mC (fun le h => h) (m1 (mC (fun le h => h) (mC (fun le h => h) MonoG.nil)))))))))))))))))))) ?_ ?_
 ·refine gD (fun W Fs R lF z9 => ?_) ?_
  ·refine qh (qn (0) qJ rfl qP (by decide) rfl rfl ?_)
   exact ⟨rfl, rfl⟩
  refine gD (fun W Fs R lF z9 => ?_) ?_
  ·replace har := har.mono lF
   replace hrs := hrs.mono lF
   replace ht := ht.mono lF
   replace ha1 := ha1.mono lF
   replace ha2 := ha2.mono lF
   replace hr1 := Rd.monoA hr1 lF
   replace hr2 := Rd.monoA hr2 lF
   rw [eS (l := [(0, _)]) ⟨z9 0 rfl, ⟨⟩⟩]
   refine qh (qq [arv] jk qP rfl rfl (Rd.ownN [] rfl rfl) ?_)
   exact ⟨rfl, rfl⟩
  refine gD (fun W Fs R lF z9 => ?_) ?_
  ·refine qh (qn (1) qJ rfl ju (by decide) rfl rfl ?_)
   exact ⟨rfl, rfl⟩
  refine gD (fun W Fs R lF z9 => ?_) ?_
  ·replace har := har.mono lF
   replace hrs := hrs.mono lF
   replace ht := ht.mono lF
   replace ha1 := ha1.mono lF
   replace ha2 := ha2.mono lF
   replace hr1 := Rd.monoA hr1 lF
   replace hr2 := Rd.monoA hr2 lF
   rw [eS (l := [(2, _)]) ⟨z9 2 rfl, ⟨⟩⟩]
   refine qh (qj isAgg30 rfl (Rd.own [] rfl rfl) ?_)
   exact ⟨rfl, rfl⟩
  refine gD (fun W Fs R lF z9 => ?_) ?_
  ·refine qh (qm (ii ((r : Int))) rfl ?_)
   exact ⟨rfl, rfl⟩
  refine gD (fun W Fs R lF z9 => ?_) ?_
  ·replace har := har.mono lF
   replace hrs := hrs.mono lF
   replace ht := ht.mono lF
   replace ha1 := ha1.mono lF
   replace ha2 := ha2.mono lF
   replace hr1 := Rd.monoA hr1 lF
   replace hr2 := Rd.monoA hr2 lF
   rw [eS (l := [(3, _), (4, _)]) ⟨z9 3 rfl, z9 4 rfl, ⟨⟩⟩]
   refine qh (qB r jb jF rfl rfl rfl hrs.slv (by omega) rfl ?_)
   exact ⟨rfl, rfl⟩
  refine gD (fun W Fs R lF z9 => ?_) ?_
  ·rw [eS (l := [(5, _)]) ⟨z9 5 rfl, ⟨⟩⟩]
   refine qh (XOp.fieldE (r * 2) qO rfl qu (by decide) rfl rfl ?_)
   exact ⟨rfl, rfl⟩
  refine gD (fun W Fs R lF z9 => ?_) ?_
  ·replace har := har.mono lF
   replace hrs := hrs.mono lF
   replace ht := ht.mono lF
   replace ha1 := ha1.mono lF
   replace ha2 := ha2.mono lF
   replace hr1 := Rd.monoA hr1 lF
   replace hr2 := Rd.monoA hr2 lF
   rw [eS (l := [(6, _)]) ⟨z9 6 rfl, ⟨⟩⟩]
   refine qh (qj qY rfl (hr1 _) ?_)
   exact ⟨rfl, rfl⟩
  refine gD (fun W Fs R lF z9 => ?_) ?_
  ·refine qh (qn (0) qJ rfl qP (by decide) rfl rfl ?_)
   exact ⟨rfl, rfl⟩
  refine gD (fun W Fs R lF z9 => ?_) ?_
  ·replace har := har.mono lF
   replace hrs := hrs.mono lF
   replace ht := ht.mono lF
   replace ha1 := ha1.mono lF
   replace ha2 := ha2.mono lF
   replace hr2 := Rd.monoA hr2 lF
   rw [eS (l := [(8, _)]) ⟨z9 8 rfl, ⟨⟩⟩]
   refine qh (qq [arv] jk qP rfl rfl (Rd.ownN [] rfl rfl) ?_)
   exact ⟨rfl, rfl⟩
  refine gD (fun W Fs R lF z9 => ?_) ?_
  ·refine qh (qm (tv) rfl ?_)
   exact ⟨rfl, rfl⟩
  refine gD (fun W Fs R lF z9 => ?_) ?_
  ·refine qh (qm (ii ((p : Int))) rfl ?_)
   exact ⟨rfl, rfl⟩
  refine gD (fun W Fs R lF z9 => ?_) ?_
  ·replace har := har.mono lF
   replace hrs := hrs.mono lF
   replace ht := ht.mono lF
   replace ha1 := ha1.mono lF
   replace ha2 := ha2.mono lF
   replace hr2 := Rd.monoA hr2 lF
   rw [eS (l := [(9, _), (10, _), (11, _)]) ⟨z9 9 rfl, z9 10 rfl, z9 11 rfl, ⟨⟩⟩]
   refine qh (qp (args := [.agg #[arv], tv, ii (p : Int)]) call224 rfl (subAt_spec (p := p) har ht (ho := (by first | assumption | rfl | omega | simp)) (hp := (by first | assumption | rfl | omega | simp)) (hnn := (by first | assumption | rfl | omega | simp))) ?_)
   rintro v2 _ _ _ ⟨rfl, rfl, hv2, hn2⟩
   exact ⟨⟨rfl, hv2, hn2⟩, rfl⟩
  refine gD (fun W Fs R lF z9 => ?_) ?_
  ·obtain ⟨e12, f12_1ha, f12_1hn⟩ := z9 12 rfl
   replace har := har.mono lF
   replace hrs := hrs.mono lF
   replace ht := ht.mono lF
   replace ha1 := ha1.mono lF
   replace ha2 := ha2.mono lF
   replace hr2 := Rd.monoA hr2 lF
   rw [eS (l := [(1, _), (7, _), (12, ((W 12)))]) ⟨z9 1 rfl, z9 7 rfl, (e12).symm, ⟨⟩⟩]
   refine qh (qp (args := [.agg #[arv], a1, ((W 12))]) call156 rfl (match_spec har ha1 f12_1ha (ho := (by first | assumption | rfl | omega | simp)) (hpo := (by first | assumption | rfl | omega | simp))) ?_)
   rintro _ F2 _ le2 ⟨x2, rfl, hr4, rfl⟩
   replace har := har.mono le2
   replace hrs := hrs.mono le2
   replace ht := ht.mono le2
   replace ha2 := ha2.mono le2
   replace f12_1ha := f12_1ha.mono le2
   replace hr2 := Rd.monoA hr2 le2
   exact ⟨⟨rfl, hr4⟩, rfl⟩
  refine gD (fun W Fs R lF z9 => ?_) ?_
  ·obtain ⟨e13, f13_1hr⟩ := z9 13 rfl
   rw [eS (l := [(13, (.tuple #[.agg #[((aggAt (tupAt (W 13) 0) 0))], .bool ((matchB ar ((rs.getD r ([], [])).1) ((sub ar t p))).isSome)]))]) ⟨(e13).symm, ⟨⟩⟩]
   refine qh (qm (.tuple #[.agg #[((aggAt (tupAt (W 13) 0) 0))], .bool ((matchB ar ((rs.getD r ([], [])).1) ((sub ar t p))).isSome)]) rfl ?_)
   exact ⟨rfl, rfl⟩
  refine gD (fun W Fs R lF z9 => ?_) ?_
  ·obtain ⟨e13, f13_1hr⟩ := z9 13 rfl
   have e14 : W 14 = (.tuple #[.agg #[((aggAt (tupAt (W 13) 0) 0))], .bool ((matchB ar ((rs.getD r ([], [])).1) ((sub ar t p))).isSome)] : Value) := z9 14 rfl
   rw [eS (l := [(13, (.tuple #[.agg #[((aggAt (tupAt (W 13) 0) 0))], .bool ((matchB ar ((rs.getD r ([], [])).1) ((sub ar t p))).isSome)])), (14, (.tuple #[.agg #[((aggAt (tupAt (W 13) 0) 0))], .bool ((matchB ar ((rs.getD r ([], [])).1) ((sub ar t p))).isSome)]))]) ⟨(e13).symm, e14, ⟨⟩⟩]
   refine qh (qT (.agg #[((aggAt (tupAt (W 13) 0) 0))]) rfl rfl ?_)
   exact ⟨rfl, rfl⟩
  refine gD (fun W Fs R lF z9 => ?_) ?_
  ·obtain ⟨e13, f13_1hr⟩ := z9 13 rfl
   have e14 : W 14 = (.tuple #[.agg #[((aggAt (tupAt (W 13) 0) 0))], .bool ((matchB ar ((rs.getD r ([], [])).1) ((sub ar t p))).isSome)] : Value) := z9 14 rfl
   rw [eS (l := [(13, (.tuple #[.agg #[((aggAt (tupAt (W 13) 0) 0))], .bool ((matchB ar ((rs.getD r ([], [])).1) ((sub ar t p))).isSome)])), (14, (.tuple #[.agg #[((aggAt (tupAt (W 13) 0) 0))], .bool ((matchB ar ((rs.getD r ([], [])).1) ((sub ar t p))).isSome)]))]) ⟨(e13).symm, e14, ⟨⟩⟩]
   refine qh (qT (.bool ((matchB ar ((rs.getD r ([], [])).1) ((sub ar t p))).isSome)) rfl rfl ?_)
   exact ⟨rfl, rfl⟩
  refine gD (fun W Fs R lF z9 => ?_) ?_
  ·replace har := har.mono lF
   replace hrs := hrs.mono lF
   replace ht := ht.mono lF
   replace ha2 := ha2.mono lF
   replace hr2 := Rd.monoA hr2 lF
   refine qh (jh [sN] jx rfl ?_)
   intro b3
   exact ⟨rfl, rfl⟩
  refine gD (fun W Fs R lF z9 => ?_) ?_
  ·obtain ⟨e13, f13_1hr⟩ := z9 13 rfl
   have e15 : W 15 = (.agg #[((aggAt (tupAt (W 13) 0) 0))] : Value) := z9 15 rfl
   have e17 : W 17 = ptr (blk (W 17)) 0 := z9 17 rfl
   replace har := har.mono lF
   replace hrs := hrs.mono lF
   replace ht := ht.mono lF
   replace ha2 := ha2.mono lF
   replace hr2 := Rd.monoA hr2 lF
   rw [eS (l := [(13, (.tuple #[.agg #[((aggAt (tupAt (W 13) 0) 0))], .bool ((matchB ar ((rs.getD r ([], [])).1) ((sub ar t p))).isSome)])), (15, (.agg #[((aggAt (tupAt (W 13) 0) 0))])), (17, ptr (blk (W 17)) 0)]) ⟨(e13).symm, e15, e17, ⟨⟩⟩]
   show XG _ _ _ _ _ (cellsH (blk (W 17)) [sN] 50 :: ([cellsH b1 [arv, rsv] 32] ++ R)) _
   refine qh (qR [] _ [((aggAt (tupAt (W 13) 0) 0))] ji rfl rfl rfl (qz (qM (RowsF.isSl f13_1hr)) qU) rfl rfl rfl ?_)
   exact ⟨trivial, rfl⟩
  exact stepsG.nil
 intro W F3 le3 hphi
 obtain ⟨e12, f12_1ha, f12_1hn⟩ := hphi 12 (by decide)
 obtain ⟨e13, f13_1hr⟩ := hphi 13 (by decide)
 have e14 : W 14 = (.tuple #[.agg #[((aggAt (tupAt (W 13) 0) 0))], .bool ((matchB ar ((rs.getD r ([], [])).1) ((sub ar t p))).isSome)] : Value) := hphi 14 (by decide)
 have e15 : W 15 = (.agg #[((aggAt (tupAt (W 13) 0) 0))] : Value) := hphi 15 (by decide)
 have e17 : W 17 = ptr (blk (W 17)) 0 := hphi 17 (by decide)
 generalize hu1 : ((W 12)) = u1 at e12 f12_1ha f12_1hn e13 f13_1hr e14 e15 e17
 generalize hu2 : ((aggAt (tupAt (W 13) 0) 0)) = u2 at e12 f12_1ha f12_1hn e13 f13_1hr e14 e15 e17
 generalize hu3 : blk (W 17) = b4 at e12 f12_1ha f12_1hn e13 f13_1hr e14 e15 e17
 rw [eS (l := [(13, (.tuple #[.agg #[u2], .bool ((matchB ar ((rs.getD r ([], [])).1) ((sub ar t p))).isSome)])), (16, _), (17, ptr b4 0)]) ⟨(e13).symm, (hphi 16 (by decide)), e17, ⟨⟩⟩]
 replace har := har.mono le3
 replace hrs := hrs.mono le3
 replace ht := ht.mono le3
 replace ha2 := ha2.mono le3
 replace hr2 := Rd.monoA hr2 le3
 show XL _ _ _ _ _ _ _ (cellsH b4 [u2] 50 :: cellsH b1 [arv, rsv] 32 :: L)
 refine qg (.bool ((matchB ar ((rs.getD r ([], [])).1) ((sub ar t p))).isSome)) rfl (qb (qc (qc (qa (qf (.bool ((matchB ar ((rs.getD r ([], [])).1) ((sub ar t p))).isSome)) rfl (cX (jt rfl (qb ?_))))))))
 refine jB (t := !((matchB ar ((rs.getD r ([], [])).1) ((sub ar t p))).isSome)) rfl (fun h1 => ?_) (fun h1 => ?_)
 ·have hms : (matchB ar (rs.getD r ([], [])).1 (sub ar t p)).isSome = false := by simpa using h1
  refine qc (qa (qg (sN) rfl (qg (.bool (false)) rfl (qb (qr (qi (qo (L' := L) [sN, .bool (false)] (.tuple #[sN, .bool (false)]) (.tmp rfl (.tmp rfl .nil)) rfl le3 rF (sD (sD sR)) ?_)))))))
  have hz := stepL_nomatch hms
  exact ⟨_, by rw [hz]; rfl, by rw [hz]; exact IntsF.nilV, fun h => (by rw [hz] at h; cases h), by rw [hz]; exact Fresh.ofNil _, rfl⟩
 have hms : (matchB ar (rs.getD r ([], [])).1 (sub ar t p)).isSome = true := by simpa using h1
 refine qx (qc ?_)
 refine X.drawG [cellsH b4 [u2] 50, cellsH b1 [arv, rsv] 32] L 12 [[], [], [], [], [], [], [], [], [7], [7], [], [7]] [[], [], [1], [], [2, 3], [4], [5], [0, 6], [7], [7, 8], [7, 8], [7, 9]] [] (phiG [pe (.agg #[u2]), pe (ptr b1 1), pe rsv, pe (ii ((r : Int)) : Value), pe (.pointer (some (elemA rsv (r * 2)))), pe (.pointer (some (elemA rsv (r * 2 + 1)))), pe a2, fun FF us v => (.tuple #[((tupAt v 0)), .bool ((fillL (matchP ar ((rs.getD r ([], [])).1) ((sub ar t p))) ((rs.getD r ([], [])).2)).isSome)] : Value) = v ∧ (IntsF FF ((tupAt v 0)) ((fillL (matchP ar ((rs.getD r ([], [])).1) ((sub ar t p))) ((rs.getD r ([], [])).2)).getD [])), fun FF us v => v = (.tuple #[((tupAt (us.getD 0 undef) 0)), .bool ((fillL (matchP ar ((rs.getD r ([], [])).1) ((sub ar t p))) ((rs.getD r ([], [])).2)).isSome)] : Value), fun FF us v => v = ((tupAt (us.getD 0 undef) 0)), pe (.bool ((fillL (matchP ar ((rs.getD r ([], [])).1) ((sub ar t p))) ((rs.getD r ([], [])).2)).isSome)), fun FF us v => v = ((tupAt (us.getD 0 undef) 0))]) (ownL []) mixed rfl rfl (by kernel_rfl) (by kernel_rfl) (MonoG.get (m1 (m1 (m1 (m1 (m1 (m1 (m1 (mC (fun le h => ⟨h.1, h.2.mono le⟩) (mC (fun le h => h) (mC (fun le h => h) (m1 (mC (fun le h => h) MonoG.nil))))))))))))) ?_ ?_
 ·refine gD (fun W Fs R lF z9 => ?_) ?_
  ·replace har := har.mono lF
   replace hrs := hrs.mono lF
   replace ht := ht.mono lF
   replace ha2 := ha2.mono lF
   replace f13_1hr := f13_1hr.mono lF
   replace hr2 := Rd.monoA hr2 lF
   refine qh (qq [u2] isAgg50 ji rfl rfl (Rd.ownN [] rfl rfl) ?_)
   exact ⟨rfl, rfl⟩
  refine gD (fun W Fs R lF z9 => ?_) ?_
  ·refine qh (qn (1) qJ rfl ju (by decide) rfl rfl ?_)
   exact ⟨rfl, rfl⟩
  refine gD (fun W Fs R lF z9 => ?_) ?_
  ·replace har := har.mono lF
   replace hrs := hrs.mono lF
   replace ht := ht.mono lF
   replace ha2 := ha2.mono lF
   replace f13_1hr := f13_1hr.mono lF
   replace hr2 := Rd.monoA hr2 lF
   rw [eS (l := [(1, _)]) ⟨z9 1 rfl, ⟨⟩⟩]
   refine qh (qj isAgg30 rfl (Rd.own [_] rfl rfl) ?_)
   exact ⟨rfl, rfl⟩
  refine gD (fun W Fs R lF z9 => ?_) ?_
  ·refine qh (qm (ii ((r : Int))) rfl ?_)
   exact ⟨rfl, rfl⟩
  refine gD (fun W Fs R lF z9 => ?_) ?_
  ·replace har := har.mono lF
   replace hrs := hrs.mono lF
   replace ht := ht.mono lF
   replace ha2 := ha2.mono lF
   replace f13_1hr := f13_1hr.mono lF
   replace hr2 := Rd.monoA hr2 lF
   rw [eS (l := [(2, _), (3, _)]) ⟨z9 2 rfl, z9 3 rfl, ⟨⟩⟩]
   refine qh (qB r jb jF rfl rfl rfl hrs.slv (by omega) rfl ?_)
   exact ⟨rfl, rfl⟩
  refine gD (fun W Fs R lF z9 => ?_) ?_
  ·rw [eS (l := [(4, _)]) ⟨z9 4 rfl, ⟨⟩⟩]
   refine qh (XOp.fieldE (r * 2 + 1) qO rfl qu (by decide) rfl rfl ?_)
   exact ⟨rfl, rfl⟩
  refine gD (fun W Fs R lF z9 => ?_) ?_
  ·replace har := har.mono lF
   replace ht := ht.mono lF
   replace ha2 := ha2.mono lF
   replace f13_1hr := f13_1hr.mono lF
   replace hr2 := Rd.monoA hr2 lF
   rw [eS (l := [(5, _)]) ⟨z9 5 rfl, ⟨⟩⟩]
   refine qh (qj qY rfl (hr2 _) ?_)
   exact ⟨rfl, rfl⟩
  refine gD (fun W Fs R lF z9 => ?_) ?_
  ·replace har := har.mono lF
   replace ht := ht.mono lF
   replace ha2 := ha2.mono lF
   replace f13_1hr := f13_1hr.mono lF
   rw [eS (l := [(0, _), (6, _)]) ⟨z9 0 rfl, z9 6 rfl, ⟨⟩⟩]
   refine qh (qp (args := [.agg #[u2], a2]) call74 rfl (fill_spec f13_1hr ha2 (hsl := (by first | assumption | rfl | omega | simp)) (hsb := (fun i => by have := hmp2 i; omega)) (htl := (by first | assumption | rfl | omega | simp)) (htg := (fun k hk => by have := hRg k hk; omega))) ?_)
   rintro _ F5 _ le5 ⟨x4, rfl, hr7, hr8, rfl⟩
   replace har := har.mono le5
   replace ht := ht.mono le5
   exact ⟨⟨rfl, hr7⟩, rfl⟩
  refine gD (fun W Fs R lF z9 => ?_) ?_
  ·obtain ⟨e7, f7_2hr⟩ := z9 7 rfl
   rw [eS (l := [(7, (.tuple #[((tupAt (W 7) 0)), .bool ((fillL (matchP ar ((rs.getD r ([], [])).1) ((sub ar t p))) ((rs.getD r ([], [])).2)).isSome)]))]) ⟨(e7).symm, ⟨⟩⟩]
   refine qh (qm (.tuple #[((tupAt (W 7) 0)), .bool ((fillL (matchP ar ((rs.getD r ([], [])).1) ((sub ar t p))) ((rs.getD r ([], [])).2)).isSome)]) rfl ?_)
   exact ⟨rfl, rfl⟩
  refine gD (fun W Fs R lF z9 => ?_) ?_
  ·obtain ⟨e7, f7_2hr⟩ := z9 7 rfl
   have e8 : W 8 = (.tuple #[((tupAt (W 7) 0)), .bool ((fillL (matchP ar ((rs.getD r ([], [])).1) ((sub ar t p))) ((rs.getD r ([], [])).2)).isSome)] : Value) := z9 8 rfl
   rw [eS (l := [(7, (.tuple #[((tupAt (W 7) 0)), .bool ((fillL (matchP ar ((rs.getD r ([], [])).1) ((sub ar t p))) ((rs.getD r ([], [])).2)).isSome)])), (8, (.tuple #[((tupAt (W 7) 0)), .bool ((fillL (matchP ar ((rs.getD r ([], [])).1) ((sub ar t p))) ((rs.getD r ([], [])).2)).isSome)]))]) ⟨(e7).symm, e8, ⟨⟩⟩]
   refine qh (qT (((tupAt (W 7) 0))) rfl rfl ?_)
   exact ⟨rfl, rfl⟩
  refine gD (fun W Fs R lF z9 => ?_) ?_
  ·obtain ⟨e7, f7_2hr⟩ := z9 7 rfl
   have e8 : W 8 = (.tuple #[((tupAt (W 7) 0)), .bool ((fillL (matchP ar ((rs.getD r ([], [])).1) ((sub ar t p))) ((rs.getD r ([], [])).2)).isSome)] : Value) := z9 8 rfl
   rw [eS (l := [(7, (.tuple #[((tupAt (W 7) 0)), .bool ((fillL (matchP ar ((rs.getD r ([], [])).1) ((sub ar t p))) ((rs.getD r ([], [])).2)).isSome)])), (8, (.tuple #[((tupAt (W 7) 0)), .bool ((fillL (matchP ar ((rs.getD r ([], [])).1) ((sub ar t p))) ((rs.getD r ([], [])).2)).isSome)]))]) ⟨(e7).symm, e8, ⟨⟩⟩]
   refine qh (qT (.bool ((fillL (matchP ar ((rs.getD r ([], [])).1) ((sub ar t p))) ((rs.getD r ([], [])).2)).isSome)) rfl rfl ?_)
   exact ⟨rfl, rfl⟩
  refine gD (fun W Fs R lF z9 => ?_) ?_
  ·obtain ⟨e7, f7_2hr⟩ := z9 7 rfl
   have e9 : W 9 = ((tupAt (W 7) 0)) := z9 9 rfl
   rw [eS (l := [(7, (.tuple #[((tupAt (W 7) 0)), .bool ((fillL (matchP ar ((rs.getD r ([], [])).1) ((sub ar t p))) ((rs.getD r ([], [])).2)).isSome)])), (9, ((tupAt (W 7) 0)))]) ⟨(e7).symm, e9, ⟨⟩⟩]
   refine qh (XOp.assign (((tupAt (W 7) 0))) rfl ?_)
   exact ⟨rfl, rfl⟩
  exact stepsG.nil
 intro W F6 le6 hphi
 obtain ⟨e7, f7_2hr⟩ := hphi 7 (by decide)
 have e8 : W 8 = (.tuple #[((tupAt (W 7) 0)), .bool ((fillL (matchP ar ((rs.getD r ([], [])).1) ((sub ar t p))) ((rs.getD r ([], [])).2)).isSome)] : Value) := hphi 8 (by decide)
 have e9 : W 9 = ((tupAt (W 7) 0)) := hphi 9 (by decide)
 have e11 : W 11 = ((tupAt (W 7) 0)) := hphi 11 (by decide)
 generalize hu4 : ((tupAt (W 7) 0)) = u3 at e7 f7_2hr e8 e9 e11
 rw [eS (l := [(7, (.tuple #[u3, .bool ((fillL (matchP ar ((rs.getD r ([], [])).1) ((sub ar t p))) ((rs.getD r ([], [])).2)).isSome)])), (10, _), (11, u3)]) ⟨(e7).symm, (hphi 10 (by decide)), e11, ⟨⟩⟩]
 replace har := har.mono le6
 replace ht := ht.mono le6
 show XL _ _ _ _ _ _ _ (cellsH b4 [u2] 50 :: cellsH b1 [arv, rsv] 32 :: L)
 refine qg (.bool ((fillL (matchP ar ((rs.getD r ([], [])).1) ((sub ar t p))) ((rs.getD r ([], [])).2)).isSome)) rfl (qb (qc (qc (qa (qf (.bool ((fillL (matchP ar ((rs.getD r ([], [])).1) ((sub ar t p))) ((rs.getD r ([], [])).2)).isSome)) rfl (cX (jt rfl (qb ?_))))))))
 refine jB (t := !((fillL (matchP ar ((rs.getD r ([], [])).1) ((sub ar t p))) ((rs.getD r ([], [])).2)).isSome)) rfl (fun h2 => ?_) (fun h2 => ?_)
 ·have hfs : (fillL (matchP ar (rs.getD r ([], [])).1 (sub ar t p)) (rs.getD r ([], [])).2).isSome = false := by simpa using h2
  refine qc (qa (qg (sN) rfl (qg (.bool (false)) rfl (qb (qr (qi (qo (L' := L) [sN, .bool (false)] (.tuple #[sN, .bool (false)]) (.tmp rfl (.tmp rfl .nil)) rfl (qk le3 le6) rF (sD (sD sR)) ?_)))))))
  have hz := stepL_nofill hms hfs
  exact ⟨_, by rw [hz]; rfl, by rw [hz]; exact IntsF.nilV, fun h => (by rw [hz] at h; cases h), by rw [hz]; exact Fresh.ofNil _, rfl⟩
 have hfs : (fillL (matchP ar (rs.getD r ([], [])).1 (sub ar t p)) (rs.getD r ([], [])).2).isSome = true := by simpa using h2
 have hfl := fill_getD_len hfs (by omega)
 refine qx (qc (qa (cX (qn (0) qJ rfl qP (by decide) rfl rfl (cX (qq [arv] jk qP rfl rfl (Rd.ownN [_] rfl rfl) (qf (tv) rfl (qf (ii ((p : Int))) rfl (qf (u3) rfl (cX (qp (args := [.agg #[arv], tv, ii (p : Int), u3]) call184 rfl (put_spec (p := p) har ht f7_2hr (ho := (by first | assumption | rfl | omega | simp)) (hp := (by first | assumption | rfl | omega | simp)) (hul := (by first | assumption | rfl | omega | simp))) ?_)))))))))))
 rintro _ F7 _ le7 ⟨x5, rfl, hr9, hr10, hr11, rfl⟩
 refine cX (qT (x5) rfl rfl (cX (qT (.bool ((putL ar t p ((fillL (matchP ar ((rs.getD r ([], [])).1) ((sub ar t p))) ((rs.getD r ([], [])).2)).getD [])).isSome)) rfl rfl (qg (x5) rfl (qg (.bool ((putL ar t p ((fillL (matchP ar ((rs.getD r ([], [])).1) ((sub ar t p))) ((rs.getD r ([], [])).2)).getD [])).isSome)) rfl (qb (qr (qo (L' := L) [x5, .bool ((putL ar t p ((fillL (matchP ar ((rs.getD r ([], [])).1) ((sub ar t p))) ((rs.getD r ([], [])).2)).getD [])).isSome)] (.tuple #[x5, .bool ((putL ar t p ((fillL (matchP ar ((rs.getD r ([], [])).1) ((sub ar t p))) ((rs.getD r ([], [])).2)).getD [])).isSome)]) (.tmp rfl (.tmp rfl .nil)) rfl (qk (qk le3 le6) le7) rF (sD (sD sR)) ?_))))))))
 have hz := stepL_put hms hfs
 exact ⟨_, by rw [hz], by rw [hz]; exact hr9, by rw [hz]; exact hr10, by rw [hz]; exact (hr11.base (qk le3 le6)), rfl⟩

/- spec.l2Gives -/
theorem l2Gives_spec {F : FH} {L : List HP} {sv : Value} {s : List (List Int)} (hs : RowsF F sv s) {i : Nat} (hsl : s.length ≤ 4000000) (hi : i ≤ 4000000) (hsb : (s.getD i []).length ≤ 4000000) :
    Does prog 145 [.agg #[sv], ii ((i : Int))] F (L) (fun v F' L' => F = F' ∧ IsSl v ∧ intsH 2 v (lk s (-1 - (i : Int))) :: L = L') := by
 refine qD func145 rfl rfl rfl (qc (qa (cX (qW [sv] rfl rfl ?_))))
 intro b1
 refine qg (sN) rfl (qb (qc (qc (qa (qf (ii ((i : Int))) rfl (cX (qn (0) qQ rfl jd (by decide) rfl rfl (cX (qj jO rfl (Rd.own [] rfl rfl) (cX (qC qy rfl hs.slv (cX (qZ rfl rfl (qf (.bool (decide ((i : Int) < (s.length : Int)))) rfl ?_))))))))))))))
 by_cases h1 : (i : Int) < (s.length : Int)
 ·refine qt (t := 10) rfl (vT h1) (qn (0) qQ rfl jd (by decide) rfl rfl (qt (t := 10) rfl (vT h1) (qj jO rfl (Rd.own [] rfl rfl) (qt (t := 10) rfl (vT h1) (qm (ii ((i : Int))) rfl (qt (t := 10) rfl (vT h1) (qB i qy qu rfl rfl rfl hs.slv (by omega) (Nat.mul_one _) ?_)))))))
  obtain ⟨a1, ha1, hr1⟩ := hs.rd (i := i) (by omega)
  refine qt (t := 10) rfl (vT h1) (qj qY rfl (hr1 _) (qt (t := 10) rfl (vT h1) (qC qd rfl ha1.slv (qt (t := 10) rfl (vT h1) (jA rfl rfl (cX (ja (.bool (decide ((((((s.getD i [])).length : Nat) : Int) : Int) > 0))) (vT h1) rfl (qb ?_))))))))
  refine qA (p := (((((s.getD i [])).length : Nat) : Int) : Int) > 0) rfl (fun h2 => ?_) (fun h2 => ?_)
  ·refine qc (qa (cX (qn (0) qQ rfl jd (by decide) rfl rfl (cX (qj jO rfl (Rd.own [] rfl rfl) (qf (ii ((i : Int))) rfl (cX (qB i qy qu rfl rfl rfl hs.slv (by omega) (Nat.mul_one _) (cX (qj qY rfl (hr1 _) (cX (qp (args := [a1]) call193 rfl (l1Copy_spec ha1 (hlt := (by first | assumption | rfl | omega | simp))) ?_))))))))))))
   rintro v1 _ _ _ ⟨rfl, hs1, rfl⟩
   refine qg (v1) rfl (qb (qr (qi (qo (L' := intsH 2 v1 ((((s.getD i [])))) :: L) [v1] (v1) (.tmp rfl .nil) rfl rF rF (sC (sD sR)) ?_))))
   refine ⟨rfl, hs1, ?_⟩
   have hxs : (lk s (-1 - (i : Int)) : List Int) = (((s.getD i []))) := lk_copy (by omega)
   exact congrArg (fun z => intsH 2 _ z :: L) hxs
  refine qx (qc (qa (qf (ii ((i : Int))) rfl (cX (jf ((-1) - ((i : Int))) rfl rfl (by omega) (by omega) (cX (ql (s := 1) [ii ((-1) - ((i : Int)))] [ii (0)] [(0, [ii ((-1) - ((i : Int)))])] qd qw qG rfl (by decide) rfl (.cons rfl CellsAre.nil) rfl ?_)))))))
  intro v2 hv1
  refine qg (v2) rfl (qb (qr (qo (L' := intsH 2 v2 ([(-1) - ((i : Int))]) :: L) [v2] (v2) (.tmp rfl .nil) rfl rF rF (sC (sD sR)) ?_)))
  refine ⟨rfl, (qS hv1), ?_⟩
  have hxs : (lk s (-1 - (i : Int)) : List Int) = [(-1) - ((i : Int))] := lk_self (by first | omega | (rw [getD_out (by omega)]; simp))
  exact congrArg (fun z => intsH 2 _ z :: L) hxs
 refine qs (t := 10) rfl (vF h1) (qs (t := 10) rfl (vF h1) (qs (t := 10) rfl (vF h1) (qs (t := 10) rfl (vF h1) (qs (t := 10) rfl (vF h1) (qs (t := 10) rfl (vF h1) (qs (t := 10) rfl (vF h1) (cX (qV (.bool (false)) (vF h1) rfl (qb (X.condF rfl ?_))))))))))
 refine qx (qc (qa (qf (ii ((i : Int))) rfl (cX (jf ((-1) - ((i : Int))) rfl rfl (by omega) (by omega) (cX (ql (s := 1) [ii ((-1) - ((i : Int)))] [ii (0)] [(0, [ii ((-1) - ((i : Int)))])] qd qw qG rfl (by decide) rfl (.cons rfl CellsAre.nil) rfl ?_)))))))
 intro v3 hv2
 refine qg (v3) rfl (qb (qr (qo (L' := intsH 2 v3 ([(-1) - ((i : Int))]) :: L) [v3] (v3) (.tmp rfl .nil) rfl rF rF (sC (sD sR)) ?_)))
 refine ⟨rfl, (qS hv2), ?_⟩
 have hxs : (lk s (-1 - (i : Int)) : List Int) = [(-1) - ((i : Int))] := lk_self (by first | omega | (rw [getD_out (by omega)]; simp))
 exact congrArg (fun z => intsH 2 _ z :: L) hxs

/- spec.l2Plain -/
theorem l2Plain_spec {F : FH} {L : List HP} {sv : Value} {s : List (List Int)} (hs : RowsF F sv s) (hsl : s.length ≤ 24) (hsb : ∀ i, (s.getD i []).length ≤ 4000000) :
    Does prog 186 [.agg #[sv]] F (L) (fun v F' L' => ∃ (a : Value), (.agg #[a] : Value) = v ∧ (RowsF F' a (plainL s)) ∧ L = L') := by
 refine qD func186 rfl rfl rfl (qc (qa (cX (qW [sv] rfl rfl ?_))))
 intro b1
 refine cX (jh [sN] jx rfl ?_)
 intro b2
 refine qb (qc (qa (cX (jc [sN] [sN] [(0, 1)] [] qQ jx rfl (.cons rfl jd PlacesAre.nil) rfl CellsAre.nil (cX (jh [sN] jx rfl ?_))))))
 intro b3
 refine cX (qR [] _ [sN] ji rfl rfl rfl (qz rfl qU) rfl rfl rfl (qb (qc (qc (qa (qg (ii (0)) rfl (qb (qI (jm (α := Nat × Value × RowL × FH) (fun xQ => [(1, ptr b1 0), (2, ptr b2 0), (3, ptr b3 0), (4, ii (((xQ.1 : Nat) : Int)))]) (fun xQ => rowsH 27 xQ.2.2.2 xQ.2.1 xQ.2.2.1 :: cellsH b3 [xQ.2.1] 50 :: cellsH b2 [sN] 50 :: cellsH b1 [sv] 50 :: L) (fun xQ F' => xQ.2.2.2 = F' ∧ F ≤ xQ.2.2.2 ∧ (IsSl xQ.2.1) ∧ (xQ.2.2.1 = (plainGo 0 s).take xQ.1) ∧ (xQ.1 ≤ s.length)) (fun xQ => s.length - xQ.1) (0, sN, [], F) ⟨rfl, rfl, rfl, rfl, ⟨⟩⟩ (coH.addNil none (sC (sC (sC sR)))) ⟨rfl, FLe.refl _, (⟨_, _, _, rfl⟩), (rfl), (by (try dsimp only) <;> omega)⟩ ?_)))))))))
 rintro ⟨k, ov, os, G1⟩ rE _ _ ⟨rfl, leG, hov, hos, hk⟩
 show X _ _ _ _ (envs [(1, ptr b1 0), (2, ptr b2 0), (3, ptr b3 0), (4, ii ((k : Int)))] rE) _ (rowsH 27 G1 ov os :: cellsH b3 [ov] 50 :: cellsH b2 [sN] 50 :: cellsH b1 [sv] 50 :: L)
 replace leG : F ≤ G1 := leG
 dsimp only at hov hos hk
 have hol : os.length ≤ k := by rw [hos, List.length_take]; omega
 have hsbk := hsb k
 have hlkb : (lk s (-1 - (k : Int))).length ≤ 4000000 := by rw [lk_var]; split <;> simp; exact hsbk
 have leG1 := leG
 replace hs := hs.mono leG1
 refine X.open [] rfl (fun cs1 hc1 => ?_)
 replace hc1 : RowsC G1 cs1 os := hc1
 refine qc (qc (qa (qf (ii ((k : Int))) rfl (cX (qn (0) qQ rfl jd (by decide) rfl rfl (cX (qj jO rfl (Rd.own [_, _, _] rfl rfl) (cX (qC qy rfl hs.slv (cX (qZ rfl rfl (qb ?_))))))))))))
 refine qA (p := (k : Int) < (s.length : Int)) rfl (fun h1 => ?_) (fun h1 => ?_)
 ·refine qx (qc (qI (qc (qa (cX (qq [sv] isAgg50 ji rfl rfl (Rd.ownN [_, _, _] rfl rfl) (qf (ii ((k : Int))) rfl (cX (jD <| qp (args := [.agg #[sv], ii (k : Int)]) call145 rfl (l2Gives_spec (i := k) hs (hsl := (by first | assumption | rfl | omega | simp)) (hi := (by first | assumption | rfl | omega | simp)) (hsb := (hsb k))) ?_)))))))))
  rintro v1 _ _ _ ⟨rfl, hs1, rfl⟩
  refine ⟨_, _, rfl, fun F1 le1 hz1 => ?_⟩
  replace hc1 := hc1.mono le1
  have hf1 : IntsF F1 v1 ((lk s (-1 - (k : Int)))) := intsH.fz (xs := (lk s (-1 - (k : Int)))) hz1.fz
  refine qg (v1) rfl (qb (qc (qc (qa (qf (v1) rfl (cX (qC qd rfl hf1.slv (cX (jq rfl rfl (qf (.bool (decide ((((((lk s (-1 - (k : Int)))).length : Nat) : Int) : Int) = 1))) rfl ?_))))))))))
  by_cases h2 : (((((lk s (-1 - (k : Int)))).length : Nat) : Int) : Int) = 1
  ·refine qt (t := 20) rfl (vT h2) (qm (v1) rfl (qt (t := 20) rfl (vT h2) (qB 0 qd qw rfl rfl rfl hf1.slv (by omega) (Nat.mul_one _) (qt (t := 20) rfl (vT h2) (qj jj rfl (hf1.rd (by omega)) (qt (t := 20) rfl (vT h2) (qm (ii ((k : Int))) rfl (qt (t := 20) rfl (vT h2) (jf ((-1) - ((k : Int))) rfl rfl (by omega) (by omega) (qt (t := 20) rfl (vT h2) (jq rfl rfl (cX (ja (.bool (decide ((((lk s (-1 - (k : Int)))).getD 0 0 : Int) = (-1) - ((k : Int))))) (vT h2) rfl (qb ?_))))))))))))))
   refine qA (p := (((lk s (-1 - (k : Int)))).getD 0 0 : Int) = (-1) - ((k : Int))) rfl (fun h3 => ?_) (fun h3 => ?_)
   ·refine qa (cX (ql (s := 1) [] [ii (0)] [] qd qw qG rfl (by decide) rfl CellsAre.nil rfl ?_))
    intro v2 hv1
    refine qg (v2) rfl (qb (qa (cX (qn (0) qQ rfl jd (by decide) rfl rfl (cX (qj jO rfl (Rd.own [_, _] rfl rfl) (qf (v2) rfl (cX (ql (s := 1) [v2] [sN] [(0, [v2])] qy qu jK rfl (by decide) rfl (.cons (cells_one (qS hv1)) CellsAre.nil) rfl ?_)))))))))
    intro v3 hv2
    show XL _ _ _ _ _ _ _ (slH 27 1 v3 1 [v2] :: intsH 2 v2 ([] : List Int) :: slH 27 1 ov ((os).length) cs1 :: cellsH b3 [ov] 50 :: cellsH b2 [sN] 50 :: cellsH b1 [sv] 50 :: L)
    refine jy [_] _ _ rfl (fun F2 le2 hz2 => ?_)
    replace hc1 := hc1.mono le2
    replace hf1 := hf1.mono le2
    have hf2 : IntsF F2 v2 ([]) := intsH.fz (xs := []) hz2.fz
    refine cX (jQ (m := 1) (bytes := 24) (cs := cs1) [_] _ [v2] qy typeInfo27 rfl rfl rfl rfl rfl rfl rfl (SlV.own [] rfl) rfl (Rd.lit [] rfl) (qz (qM (qE hf2)) qU) (by (try simp only [List.length_append, List.length_nil, List.length_cons, List.length_singleton]); omega) (by (try simp only [List.length_append, List.length_nil, List.length_cons, List.length_singleton]); omega) ?_)
    intro v4 hs2 hn1 hm1
    have hc2 := RowsC.snoc hc1 hf2
    refine cX (qn (0) qQ rfl jd (by decide) rfl rfl (cX (jz [_, _] _ [v4] jd rfl rfl (qM hs2) rfl rfl rfl (qb (qa (qf (ii ((k : Int))) rfl (cX (qK (((k + 1 : Nat) : Int)) rfl rfl (by omega) (by omega) (qg (ii (((k + 1 : Nat) : Int))) rfl (qb ?_))))))))))
    exact ⟨(k + 1, v4, os ++ [[]], F2), _, (qk (qk leG1 le1) le2), rF, ⟨rfl, rfl, rfl, rfl, ⟨⟩⟩, (sD (coH.close hc2 (by first | rfl | simp) (sC (sC (sC sR))))), ⟨rfl, (qk (qk leG1 le1) le2), (hs2), (by dsimp only; rw [hos, plainGo_take (by omega), plainGo_self (one_eq (by omega) (by omega))]), (by (try dsimp only) <;> omega)⟩, (by omega)⟩
   refine qx (qa (cX (qn (0) qQ rfl jd (by decide) rfl rfl (cX (qj jO rfl (Rd.own [_] rfl rfl) (qf (v1) rfl (cX (ql (s := 1) [v1] [sN] [(0, [v1])] qy qu jK rfl (by decide) rfl (.cons (cells_one (qE hf1)) CellsAre.nil) rfl ?_))))))))
   intro v5 hv3
   refine cX (jQ (m := 1) (bytes := 24) (cs := cs1) [_] _ [v1] qy typeInfo27 rfl rfl rfl rfl rfl rfl rfl (SlV.own [] rfl) rfl (Rd.lit [] rfl) (qz (qM (qE hf1)) qU) (by (try simp only [List.length_append, List.length_nil, List.length_cons, List.length_singleton]); omega) (by (try simp only [List.length_append, List.length_nil, List.length_cons, List.length_singleton]); omega) ?_)
   intro v6 hs3 hn2 hm2
   have hc3 := RowsC.snoc hc1 hf1
   refine cX (qn (0) qQ rfl jd (by decide) rfl rfl (cX (jz [_, _] _ [v6] jd rfl rfl (qM hs3) rfl rfl rfl (qb (qa (qf (ii ((k : Int))) rfl (cX (qK (((k + 1 : Nat) : Int)) rfl rfl (by omega) (by omega) (qg (ii (((k + 1 : Nat) : Int))) rfl (qb ?_))))))))))
   exact ⟨(k + 1, v6, os ++ [(lk s (-1 - (k : Int)))], F1), _, (qk leG1 le1), rF, ⟨rfl, rfl, rfl, rfl, ⟨⟩⟩, (sD (coH.close hc3 (by first | rfl | simp) (sC (sC (sC sR))))), ⟨rfl, (qk leG1 le1), (hs3), (by dsimp only; rw [hos, plainGo_take (by omega), plainGo_other (by intro e; have e1 := congrArg List.length e; have e2 := congrArg (fun l => l.getD 0 0) e; simp only [List.length_singleton, List.getD_cons_zero] at e1 e2; omega)]), (by (try dsimp only) <;> omega)⟩, (by omega)⟩
  refine qs (t := 20) rfl (vF h2) (qs (t := 20) rfl (vF h2) (qs (t := 20) rfl (vF h2) (qs (t := 20) rfl (vF h2) (qs (t := 20) rfl (vF h2) (qs (t := 20) rfl (vF h2) (cX (qV (.bool (false)) (vF h2) rfl (qb (X.condF rfl (qx (qa ?_)))))))))))
  refine cX (qn (0) qQ rfl jd (by decide) rfl rfl (cX (qj jO rfl (Rd.own [_] rfl rfl) (qf (v1) rfl (cX (ql (s := 1) [v1] [sN] [(0, [v1])] qy qu jK rfl (by decide) rfl (.cons (cells_one (qE hf1)) CellsAre.nil) rfl ?_))))))
  intro v7 hv4
  refine cX (jQ (m := 1) (bytes := 24) (cs := cs1) [_] _ [v1] qy typeInfo27 rfl rfl rfl rfl rfl rfl rfl (SlV.own [] rfl) rfl (Rd.lit [] rfl) (qz (qM (qE hf1)) qU) (by (try simp only [List.length_append, List.length_nil, List.length_cons, List.length_singleton]); omega) (by (try simp only [List.length_append, List.length_nil, List.length_cons, List.length_singleton]); omega) ?_)
  intro v8 hs4 hn3 hm3
  have hc4 := RowsC.snoc hc1 hf1
  refine cX (qn (0) qQ rfl jd (by decide) rfl rfl (cX (jz [_, _] _ [v8] jd rfl rfl (qM hs4) rfl rfl rfl (qb (qa (qf (ii ((k : Int))) rfl (cX (qK (((k + 1 : Nat) : Int)) rfl rfl (by omega) (by omega) (qg (ii (((k + 1 : Nat) : Int))) rfl (qb ?_))))))))))
  exact ⟨(k + 1, v8, os ++ [(lk s (-1 - (k : Int)))], F1), _, (qk leG1 le1), rF, ⟨rfl, rfl, rfl, rfl, ⟨⟩⟩, (sD (coH.close hc4 (by first | rfl | simp) (sC (sC (sC sR))))), ⟨rfl, (qk leG1 le1), (hs4), (by dsimp only; rw [hos, plainGo_take (by omega), plainGo_other (by intro e; have e1 := congrArg List.length e; have e2 := congrArg (fun l => l.getD 0 0) e; simp only [List.length_singleton, List.getD_cons_zero] at e1 e2; omega)]), (by (try dsimp only) <;> omega)⟩, (by omega)⟩
 refine je (qv (qv (qN (qc (qI (jm (α := Value × RowL × FH) (fun xQ => [(2, ptr b2 0), (3, ptr b3 0)]) (fun xQ => rowsH 27 xQ.2.2 xQ.1 xQ.2.1 :: cellsH b3 [xQ.1] 50 :: cellsH b2 [sN] 50 :: cellsH b1 [sv] 50 :: L) (fun xQ F' => xQ.2.2 = F' ∧ G1 ≤ xQ.2.2 ∧ (IsSl xQ.1) ∧ (trim xQ.2.1 = plainL s) ∧ (xQ.2.1.length ≤ 24)) (fun xQ => xQ.2.1.length) (ov, os, G1) ⟨rfl, rfl, ⟨⟩⟩ (coH.close hc1 (by first | rfl | simp) (sC (sC (sC sR)))) ⟨rfl, FLe.refl _, (hov), (by dsimp only; rw [hos, plainL, List.take_of_length_le (by rw [plainGo_length]; omega)]), (by dsimp only; rw [hos, List.length_take, plainGo_length]; omega)⟩ ?_))))))
 rintro ⟨ov2, os2, G2⟩ rE _ _ ⟨rfl, leG, hov2, hos2, hl2⟩
 show X _ _ _ _ (envs [(2, ptr b2 0), (3, ptr b3 0)] rE) _ (rowsH 27 G2 ov2 os2 :: cellsH b3 [ov2] 50 :: cellsH b2 [sN] 50 :: cellsH b1 [sv] 50 :: L)
 replace leG : G1 ≤ G2 := leG
 dsimp only at hov2 hos2 hl2
 have leG2 := leG
 refine X.open [] rfl (fun cs2 hc5 => ?_)
 replace hc5 : RowsC G2 cs2 os2 := hc5
 refine qc (qc (qa (cX (qn (0) qQ rfl jd (by decide) rfl rfl (cX (qj jO rfl (Rd.own [_] rfl rfl) (cX (qC qy rfl (SlV.own [] rfl) (cX (jA rfl rfl (qf (.bool (decide (((os2.length : Int) : Int) > 0))) rfl ?_)))))))))))
 by_cases h4 : ((os2.length : Int) : Int) > 0
 ·refine qt (t := 39) rfl (vT h4) (qn (0) qQ rfl jd (by decide) rfl rfl (qt (t := 39) rfl (vT h4) (qj jO rfl (Rd.own [_] rfl rfl) (qt (t := 39) rfl (vT h4) (qn (0) qQ rfl jd (by decide) rfl rfl (qt (t := 39) rfl (vT h4) (qj jO rfl (Rd.own [_] rfl rfl) (qt (t := 39) rfl (vT h4) (qC qy rfl (SlV.own [] rfl) (qt (t := 39) rfl (vT h4) (jf (((os2.length - 1 : Nat) : Int)) rfl rfl (by omega) (by omega) (qt (t := 39) rfl (vT h4) (qB (os2.length - 1) qy qu rfl rfl rfl (SlV.own [] rfl) (by omega) (Nat.mul_one _) ?_)))))))))))))
  obtain ⟨a1, ha1, he1⟩ := hc5.get (i := os2.length - 1) (by omega)
  refine qt (t := 39) rfl (vT h4) (qj qY rfl (Rd.sl [] rfl he1) (qt (t := 39) rfl (vT h4) (qC qd rfl ha1.slv (qt (t := 39) rfl (vT h4) (jq rfl rfl (cX (ja (.bool (decide ((((((os2.getD (os2.length - 1) [])).length : Nat) : Int) : Int) = 0))) (vT h4) rfl (qb ?_))))))))
  refine qA (p := (((((os2.getD (os2.length - 1) [])).length : Nat) : Int) : Int) = 0) rfl (fun h5 => ?_) (fun h5 => ?_)
  ·refine qx (qI (qa (cX (qn (0) qQ rfl jd (by decide) rfl rfl (cX (qj jO rfl (Rd.own [_] rfl rfl) (cX (qn (0) qQ rfl jd (by decide) rfl rfl (cX (qj jO rfl (Rd.own [_] rfl rfl) (cX (qC qy rfl (SlV.own [] rfl) (cX (jf (((os2.length - 1 : Nat) : Int)) rfl rfl (by omega) (by omega) (cX (XOp.sliceOwn (cs := cs2) [] _ (os2.length - 1) qy qu rfl rfl ⟨_, rfl⟩ (by omega) ?_))))))))))))))))
   intro v9 hs5
   have hc6 : RowsC G2 _ _ := CO.take hc5 (k := os2.length - 1) (by omega)
   refine cX (qn (0) qQ rfl jd (by decide) rfl rfl (cX (jz [_] _ [v9] jd rfl rfl (qM hs5) rfl rfl rfl (qb ?_))))
   exact ⟨(v9, (os2.take (os2.length - 1)), G2), _, leG2, rF, ⟨rfl, rfl, ⟨⟩⟩, (coH.close hc6 (by first | rfl | simp) (sC (sC (sC sR)))), ⟨rfl, leG2, (hs5), (by dsimp only; rw [trim_cut (by omega) (List.eq_nil_of_length_eq_zero (by omega))]; exact hos2), (by dsimp only; rw [List.length_take]; omega)⟩, (by dsimp only; rw [List.length_take]; omega)⟩
  refine je (qv (qv (qN (qc (qa (cX (qq [ov2] isAgg50 ji rfl rfl (Rd.ownN [_] rfl rfl) (cX (qR [_, _] _ [ov2] ji rfl rfl rfl (qz (qM hov2) qU) rfl rfl rfl (qb (qH [] _ _ rfl (fun F3 le3 hz3 => ?_))))))))))))
  replace hc5 := hc5.mono le3
  have hf3 : RowsF F3 ov2 os2 := CO.fz hc5 (by first | rfl | omega | (rw [List.length_set]; omega) | (simp; done)) hz3.fz
  refine qr (qo (L' := L) [.agg #[ov2]] (.agg #[ov2]) (.cell rfl (jC [ov2] isAgg50 ji rfl (Rd.ownN [_] rfl rfl)) .nil) rfl (qk (qk leG1 leG2) le3) rF (sD (sD (sD sR))) ?_)
  have e : os2 = plainL s := by rw [← hos2]; exact (trim_last (fun h0 e => by have := congrArg List.length e; simp only [List.length_nil] at this; omega)).symm
  exact ⟨_, rfl, by rw [← e]; exact hf3, rfl⟩
 refine qs (t := 39) rfl (vF h4) (qs (t := 39) rfl (vF h4) (qs (t := 39) rfl (vF h4) (qs (t := 39) rfl (vF h4) (qs (t := 39) rfl (vF h4) (qs (t := 39) rfl (vF h4) (qs (t := 39) rfl (vF h4) (qs (t := 39) rfl (vF h4) (qs (t := 39) rfl (vF h4) (qs (t := 39) rfl (vF h4) ?_)))))))))
 refine cX (qV (.bool (false)) (vF h4) rfl (qb (X.condF rfl (je (qv (qv (qN (qc (qa (cX (qq [ov2] isAgg50 ji rfl rfl (Rd.ownN [_] rfl rfl) (cX (qR [_, _] _ [ov2] ji rfl rfl rfl (qz (qM hov2) qU) rfl rfl rfl (qb (qH [] _ _ rfl (fun F4 le4 hz4 => ?_))))))))))))))))
 replace hc5 := hc5.mono le4
 have hf4 : RowsF F4 ov2 os2 := CO.fz hc5 (by first | rfl | omega | (rw [List.length_set]; omega) | (simp; done)) hz4.fz
 refine qr (qo (L' := L) [.agg #[ov2]] (.agg #[ov2]) (.cell rfl (jC [ov2] isAgg50 ji rfl (Rd.ownN [_] rfl rfl)) .nil) rfl (qk (qk leG1 leG2) le4) rF (sD (sD (sD sR))) ?_)
 have e : os2 = plainL s := by rw [← hos2]; exact (trim_last (fun h0 e => by have := congrArg List.length e; simp only [List.length_nil] at this; omega)).symm
 exact ⟨_, rfl, by rw [← e]; exact hf4, rfl⟩

/- spec.l4Match -/
theorem l4Match_spec {F : FH} {L : List HP} {arv : Value} {ar : List Int} (har : IntsF F arv ar) {pv : Value} {p : List Int} (hp : IntsF F pv p) {tv : Value} {t : List Int} (ht : IntsF F tv t) (ho : termOk ar t = true) (hpo : termOk ar p = true) :
    Does prog 120 [.agg #[arv], pv, tv] F (L) (fun v F' L' => ∃ (a : Value), (.tuple #[.agg #[a], .bool ((matchB ar p t).isSome)] : Value) = v ∧ (RowsF F' a (matchP ar p t)) ∧ L = L') := by
 refine qD func120 rfl rfl rfl ?_
 have hpl := termOk_len hpo
 have hpg := fun k (hk : k < p.length) => termOk_ge hpo hk
 have htl := termOk_len ho
 have hsl := sigOk_spec (termOk_sig ho)
 refine qc (qa (cX (qW [arv] rfl rfl ?_)))
 intro b1
 refine cX (jh [sN] jx rfl ?_)
 intro b2
 refine qg (.bool (false)) rfl (qb (qc (qa (cX (XOp.makeSlice (n := 24) (bytes := 24) [sN] qy qu typeInfo27 rfl jK rfl rfl rfl rfl (by omega) (by omega) ?_)))))
 intro v1 hv1
 rw [nils]
 have hc1 : RowsC F _ _ := RowsC.nils 24
 refine cX (jc [v1] [sN] [(0, 1)] [(0, [v1])] qQ jx rfl (.cons rfl jd PlacesAre.nil) rfl (.cons (cells_one (qS hv1)) CellsAre.nil) (cX (jh [sN] jx rfl ?_)))
 intro b3
 refine cX (qR [] _ [v1] ji rfl rfl rfl (qz (qM (qS hv1)) qU) rfl rfl rfl (qb (qc (qa (qg (ii (0)) rfl (qb (qc (qc (qa (qg (ii (0)) rfl (qb (qI (jm (α := Nat × Nat × RowL × FH) (fun xQ => [(1, pv), (2, tv), (3, ptr b1 0), (6, ptr b2 0), (8, ptr b3 0), (9, ii (((xQ.2.1 : Nat) : Int))), (10, ii (((xQ.1 : Nat) : Int)))]) (fun xQ => cellsH b3 [v1] 50 :: rowsH 27 xQ.2.2.2 v1 xQ.2.2.1 :: cellsH b2 [sN] 50 :: cellsH b1 [arv] 29 :: L) (fun xQ F' => xQ.2.2.2 = F' ∧ F ≤ xQ.2.2.2 ∧ (xQ.2.2.1.length = 24) ∧ (xQ.1 ≤ p.length) ∧ (xQ.2.1 ≤ t.length) ∧ (matchB ar p t = mGo ar t (p.drop xQ.1) xQ.2.1 xQ.2.2.1)) (fun xQ => p.length - xQ.1) (0, 0, (List.replicate 24 [] : List (List Int)), F) ⟨rfl, rfl, rfl, rfl, rfl, rfl, rfl, ⟨⟩⟩ (sC (coH.close hc1 (by first | rfl | simp) (sC (sC sR)))) ⟨rfl, FLe.refl _, (by simp), (by (try dsimp only) <;> omega), (by (try dsimp only) <;> omega), (rfl)⟩ ?_)))))))))))))
 rintro ⟨k, i, bl, G1⟩ rE _ _ ⟨rfl, leG, hbl, hk, hi, hm⟩
 show X _ _ _ _ (envs [(1, pv), (2, tv), (3, ptr b1 0), (6, ptr b2 0), (8, ptr b3 0), (9, ii ((i : Int))), (10, ii ((k : Int)))] rE) _ (cellsH b3 [v1] 50 :: rowsH 27 G1 v1 bl :: cellsH b2 [sN] 50 :: cellsH b1 [arv] 29 :: L)
 replace leG : F ≤ G1 := leG
 dsimp only at hbl hk hi hm
 have hpk := hpg k
 have hsl2 := fun h => sub_length (p := i) ho h
 have hee := fun h => endN_spec (p := i) ho h
 have leG1 := leG
 replace har := har.mono leG1
 replace hp := hp.mono leG1
 replace ht := ht.mono leG1
 refine X.open [_] rfl (fun cs1 hc2 => ?_)
 replace hc2 : RowsC G1 cs1 bl := hc2
 refine qc (qc (qa (qf (ii ((k : Int))) rfl (qf (pv) rfl (cX (qC qd rfl hp.slv (cX (qZ rfl rfl (qb ?_)))))))))
 refine qA (p := (k : Int) < (p.length : Int)) rfl (fun h1 => ?_) (fun h1 => ?_)
 ·refine qx (qc (qI (qc (qc (qa (qf (ii ((i : Int))) rfl (qf (tv) rfl (cX (qC qd rfl ht.slv (cX (XOp.geq rfl rfl (qb ?_))))))))))))
  refine qA (p := (i : Int) ≥ (t.length : Int)) rfl (fun h2 => ?_) (fun h2 => ?_)
  ·refine qc (qa (cX (jc [sN] [sN] [(0, 1)] [] qQ jx rfl (.cons rfl jd PlacesAre.nil) rfl CellsAre.nil (cX (qR [_, _] _ [sN] ji rfl rfl rfl (qz rfl qU) rfl rfl rfl (qg (.bool (false)) rfl (qb (qr (qi (qF (qi (qi (qF (qi (qo (L' := L) [.agg #[sN], .bool (false)] (.tuple #[.agg #[sN], .bool (false)]) (.cell rfl (jC [sN] isAgg50 ji rfl (Rd.ownN [_, _] rfl rfl)) (.tmp rfl .nil)) rfl leG1 rF (sD (sD (sD (sD sR)))) ?_)))))))))))))))
   have hz : matchB ar p t = none := hm.trans (mGo_short (by omega) (by omega))
   exact ⟨_, by rw [hz]; rfl, by rw [matchP, hz]; exact SlOf.nilV, rfl⟩
  refine qx (qc (qc (qa (qf (pv) rfl (qf (ii ((k : Int))) rfl (cX (qB k qd qw rfl rfl rfl hp.slv (by omega) (Nat.mul_one _) (cX (qj jj rfl (hp.rd (by omega)) (cX (XOp.geq rfl rfl (qb ?_))))))))))))
  refine qA (p := (p.getD k 0 : Int) ≥ 0) rfl (fun h3 => ?_) (fun h3 => ?_)
  ·refine qc (qc ?_)
   refine jM [cellsH b3 [v1] 50, slH 27 1 v1 ((bl).length) cs1, cellsH b2 [sN] 50, cellsH b1 [arv] 29] L 8 [] [[], [], [0, 1], [2], [], [], [4, 5], [6]] (phiL [qe pv, qe (ii ((k : Int)) : Value), qe (.pointer (some (elemA pv (k)))), qe (ii (p.getD k 0)), qe tv, qe (ii ((i : Int)) : Value), qe (.pointer (some (elemA tv (i)))), qe (ii (t.getD i 0))]) (ownL []) mixed rfl rfl (by kernel_rfl) ?_ ?_
   ·refine pD (fun W R z9 => ?_) ?_
    ·refine qh (qm (pv) rfl ?_)
     exact ⟨rfl, rfl, rfl⟩
    refine pD (fun W R z9 => ?_) ?_
    ·refine qh (qm (ii ((k : Int))) rfl ?_)
     exact ⟨rfl, rfl, rfl⟩
    refine pD (fun W R z9 => ?_) ?_
    ·rw [eS (l := [(0, _), (1, _)]) ⟨z9 0 rfl, z9 1 rfl, ⟨⟩⟩]
     refine qh (qB k qd qw rfl rfl rfl hp.slv (by omega) (Nat.mul_one _) ?_)
     exact ⟨rfl, rfl, rfl⟩
    refine pD (fun W R z9 => ?_) ?_
    ·rw [eS (l := [(2, _)]) ⟨z9 2 rfl, ⟨⟩⟩]
     refine qh (qj jj rfl (hp.rd (by omega)) ?_)
     exact ⟨rfl, rfl, rfl⟩
    refine pD (fun W R z9 => ?_) ?_
    ·refine qh (qm (tv) rfl ?_)
     exact ⟨rfl, rfl, rfl⟩
    refine pD (fun W R z9 => ?_) ?_
    ·refine qh (qm (ii ((i : Int))) rfl ?_)
     exact ⟨rfl, rfl, rfl⟩
    refine pD (fun W R z9 => ?_) ?_
    ·rw [eS (l := [(4, _), (5, _)]) ⟨z9 4 rfl, z9 5 rfl, ⟨⟩⟩]
     refine qh (qB i qd qw rfl rfl rfl ht.slv (by omega) (Nat.mul_one _) ?_)
     exact ⟨rfl, rfl, rfl⟩
    refine pD (fun W R z9 => ?_) ?_
    ·rw [eS (l := [(6, _)]) ⟨z9 6 rfl, ⟨⟩⟩]
     refine qh (qj jj rfl (ht.rd (by omega)) ?_)
     exact ⟨rfl, rfl, rfl⟩
    exact stepsP.nil
   intro W hphi
   rw [eS (l := [(3, _), (7, _)]) ⟨(hphi 3 (by decide)), (hphi 7 (by decide)), ⟨⟩⟩]
   show XL _ _ _ _ _ _ _ (cellsH b3 [v1] 50 :: slH 27 1 v1 ((bl).length) cs1 :: cellsH b2 [sN] 50 :: cellsH b1 [arv] 29 :: L)
   refine cX (XOp.neq rfl rfl (qb ?_))
   refine qA (p := (p.getD k 0 : Int) ≠ t.getD i 0) rfl (fun h4 => ?_) (fun h4 => ?_)
   ·refine qc (qa (cX (jc [sN] [sN] [(0, 1)] [] qQ jx rfl (.cons rfl jd PlacesAre.nil) rfl CellsAre.nil (cX (qR [_, _] _ [sN] ji rfl rfl rfl (qz rfl qU) rfl rfl rfl (qg (.bool (false)) rfl (qb (qr (qi (qi (qF (qi (qi (qF (qi (qo (L' := L) [.agg #[sN], .bool (false)] (.tuple #[.agg #[sN], .bool (false)]) (.cell rfl (jC [sN] isAgg50 ji rfl (Rd.ownN [_, _] rfl rfl)) (.tmp rfl .nil)) rfl leG1 rF (sD (sD (sD (sD sR)))) ?_))))))))))))))))
    have hz : matchB ar p t = none := hm.trans (mGo_ne (by omega) (by omega) (by omega) (by omega))
    exact ⟨_, by rw [hz]; rfl, by rw [matchP, hz]; exact SlOf.nilV, rfl⟩
   refine qx (qc (qa (qf (ii ((i : Int))) rfl (cX (qK (((i + 1 : Nat) : Int)) rfl rfl (by omega) (by omega) (qg (ii (((i + 1 : Nat) : Int))) rfl (qb (je (qv (qN (qa (qf (ii ((k : Int))) rfl (cX (qK (((k + 1 : Nat) : Int)) rfl rfl (by omega) (by omega) (qg (ii (((k + 1 : Nat) : Int))) rfl ?_)))))))))))))))
   refine qb ?_
   exact ⟨(k + 1, i + 1, bl, G1), _, leG1, rF, ⟨rfl, rfl, rfl, rfl, rfl, rfl, rfl, ⟨⟩⟩, (sC (coH.close hc2 (by first | rfl | simp) (sC (sC sR)))), ⟨rfl, leG1, (by (try dsimp only); (try simp only [List.length_set]) <;> omega), (by (try dsimp only) <;> omega), (by (try dsimp only) <;> omega), (hm.trans (mGo_sym (by omega) (by omega) (by omega) (by omega)))⟩, (by omega)⟩
  refine qx (qc (qa (cX (qq [arv] jk qP rfl rfl (Rd.ownN [_, _, _] rfl rfl) (qf (tv) rfl (qf (ii ((i : Int))) rfl (cX (jD <| qp (args := [.agg #[arv], tv, ii (i : Int)]) call174 rfl (l1Sub_spec (p := i) har ht (ho := (by first | assumption | rfl | omega | simp)) (hp := (by first | assumption | rfl | omega | simp))) ?_))))))))
  rintro v2 _ _ _ ⟨rfl, hs1, rfl⟩
  refine ⟨_, _, rfl, fun F1 le1 hz1 => ?_⟩
  replace hp := hp.mono le1
  replace hc2 := hc2.mono le1
  have hf1 : IntsF F1 v2 ((sub ar t i)) := intsH.fz (xs := (sub ar t i)) hz1.fz
  refine qg (v2) rfl (qb (qc ?_))
  refine jM [cellsH b3 [v1] 50, slH 27 1 v1 ((bl).length) cs1, cellsH b2 [sN] 50, cellsH b1 [arv] 29] L 7 [] [[], [0], [], [], [2, 3], [4], [5]] (phiL [qe (ptr b3 0), qe v1, qe pv, qe (ii ((k : Int)) : Value), qe (.pointer (some (elemA pv (k)))), qe (ii (p.getD k 0)), qe (ii ((-1) - (p.getD k 0)))]) (ownL []) mixed rfl rfl (by kernel_rfl) ?_ ?_
  ·refine pD (fun W R z9 => ?_) ?_
   ·refine qh (qn (0) qQ rfl jd (by decide) rfl rfl ?_)
    exact ⟨rfl, rfl, rfl⟩
   refine pD (fun W R z9 => ?_) ?_
   ·rw [eS (l := [(0, _)]) ⟨z9 0 rfl, ⟨⟩⟩]
    refine qh (qj jO rfl (Rd.own [] rfl rfl) ?_)
    exact ⟨rfl, rfl, rfl⟩
   refine pD (fun W R z9 => ?_) ?_
   ·refine qh (qm (pv) rfl ?_)
    exact ⟨rfl, rfl, rfl⟩
   refine pD (fun W R z9 => ?_) ?_
   ·refine qh (qm (ii ((k : Int))) rfl ?_)
    exact ⟨rfl, rfl, rfl⟩
   refine pD (fun W R z9 => ?_) ?_
   ·rw [eS (l := [(2, _), (3, _)]) ⟨z9 2 rfl, z9 3 rfl, ⟨⟩⟩]
    refine qh (qB k qd qw rfl rfl rfl hp.slv (by omega) (Nat.mul_one _) ?_)
    exact ⟨rfl, rfl, rfl⟩
   refine pD (fun W R z9 => ?_) ?_
   ·rw [eS (l := [(4, _)]) ⟨z9 4 rfl, ⟨⟩⟩]
    refine qh (qj jj rfl (hp.rd (by omega)) ?_)
    exact ⟨rfl, rfl, rfl⟩
   refine pD (fun W R z9 => ?_) ?_
   ·rw [eS (l := [(5, _)]) ⟨z9 5 rfl, ⟨⟩⟩]
    refine qh (jf ((-1) - (p.getD k 0)) rfl rfl (by omega) (by omega) ?_)
    exact ⟨rfl, rfl, rfl⟩
   exact stepsP.nil
  intro W hphi
  rw [eS (l := [(1, _), (6, _)]) ⟨(hphi 1 (by decide)), (hphi 6 (by decide)), ⟨⟩⟩]
  show XL _ _ _ _ _ _ _ (cellsH b3 [v1] 50 :: slH 27 1 v1 ((bl).length) cs1 :: cellsH b2 [sN] 50 :: cellsH b1 [arv] 29 :: L)
  refine cX (qB (((-1) - (p.getD k 0)).toNat) qy qu rfl rfl (by omega) (SlV.own [_] rfl) (by omega) (Nat.mul_one _) ?_)
  obtain ⟨a1, ha1, he1⟩ := hc2.get (i := ((-1) - (p.getD k 0)).toNat) (by omega)
  refine cX (qj qY rfl (Rd.sl [_] rfl he1) (qg (a1) rfl (qb (qc (qc (qa (qf (a1) rfl (cX (qC qd rfl ha1.slv (cX (jA rfl rfl (qf (.bool (decide ((((((bl.getD (((-1) - (p.getD k 0)).toNat) [])).length : Nat) : Int) : Int) > 0))) rfl ?_))))))))))))
  by_cases h5 : (((((bl.getD (((-1) - (p.getD k 0)).toNat) [])).length : Nat) : Int) : Int) > 0
  ·refine qt (t := 59) rfl (vT h5) (qm (a1) rfl (qt (t := 59) rfl (vT h5) (qm (v2) rfl (qt (t := 59) rfl (vT h5) (qp (args := [a1, v2]) call126 rfl (SameTerm_spec ha1 hf1 (hbd := (by first | assumption | rfl | omega | (left; simp; done) | (right; simp; done)))) ?_)))))
   rintro _ _ _ _ ⟨rfl, rfl, rfl⟩
   refine qt (t := 59) rfl (vT h5) (XOp.notD rfl (cX (ja (.bool (decide (¬(((bl.getD (((-1) - (p.getD k 0)).toNat) [])) = ((sub ar t i)))))) (vT h5) rfl (qb ?_))))
   refine qA (p := ¬(((bl.getD (((-1) - (p.getD k 0)).toNat) [])) = ((sub ar t i)))) rfl (fun h6 => ?_) (fun h6 => ?_)
   ·refine qc (qa (cX (jc [sN] [sN] [(0, 1)] [] qQ jx rfl (.cons rfl jd PlacesAre.nil) rfl CellsAre.nil (cX (qR [_, _] _ [sN] ji rfl rfl rfl (qz rfl qU) rfl rfl rfl (qg (.bool (false)) rfl (qb (qr (qi (qF (qi (qi (qF (qi (qo (L' := L) [.agg #[sN], .bool (false)] (.tuple #[.agg #[sN], .bool (false)]) (.cell rfl (jC [sN] isAgg50 ji rfl (Rd.ownN [_, _] rfl rfl)) (.tmp rfl .nil)) rfl (qk leG1 le1) rF (sD (sD (sD (sD sR)))) ?_)))))))))))))))
    have hz : matchB ar p t = none := hm.trans (mGo_clash (by omega) (by omega) (by omega) (by intro e; have := congrArg List.length (show bl.getD (-1 - p.getD k 0).toNat [] = [] from e); simp only [List.length_nil] at this; omega) (by assumption))
    exact ⟨_, by rw [hz]; rfl, by rw [matchP, hz]; exact SlOf.nilV, rfl⟩
   refine qx (qc ?_)
   refine jM [cellsH b3 [v1] 50, slH 27 1 v1 ((bl).length) cs1, cellsH b2 [sN] 50, cellsH b1 [arv] 29] L 8 [] [[], [0], [], [], [2, 3], [4], [5]] (phiL [qe (ptr b3 0), qe v1, qe pv, qe (ii ((k : Int)) : Value), qe (.pointer (some (elemA pv (k)))), qe (ii (p.getD k 0)), qe (ii ((-1) - (p.getD k 0))), qe v2]) (ownL []) mixed rfl rfl (by kernel_rfl) ?_ ?_
   ·refine pD (fun W R z9 => ?_) ?_
    ·refine qh (qn (0) qQ rfl jd (by decide) rfl rfl ?_)
     exact ⟨rfl, rfl, rfl⟩
    refine pD (fun W R z9 => ?_) ?_
    ·rw [eS (l := [(0, _)]) ⟨z9 0 rfl, ⟨⟩⟩]
     refine qh (qj jO rfl (Rd.own [] rfl rfl) ?_)
     exact ⟨rfl, rfl, rfl⟩
    refine pD (fun W R z9 => ?_) ?_
    ·refine qh (qm (pv) rfl ?_)
     exact ⟨rfl, rfl, rfl⟩
    refine pD (fun W R z9 => ?_) ?_
    ·refine qh (qm (ii ((k : Int))) rfl ?_)
     exact ⟨rfl, rfl, rfl⟩
    refine pD (fun W R z9 => ?_) ?_
    ·rw [eS (l := [(2, _), (3, _)]) ⟨z9 2 rfl, z9 3 rfl, ⟨⟩⟩]
     refine qh (qB k qd qw rfl rfl rfl hp.slv (by omega) (Nat.mul_one _) ?_)
     exact ⟨rfl, rfl, rfl⟩
    refine pD (fun W R z9 => ?_) ?_
    ·rw [eS (l := [(4, _)]) ⟨z9 4 rfl, ⟨⟩⟩]
     refine qh (qj jj rfl (hp.rd (by omega)) ?_)
     exact ⟨rfl, rfl, rfl⟩
    refine pD (fun W R z9 => ?_) ?_
    ·rw [eS (l := [(5, _)]) ⟨z9 5 rfl, ⟨⟩⟩]
     refine qh (jf ((-1) - (p.getD k 0)) rfl rfl (by omega) (by omega) ?_)
     exact ⟨rfl, rfl, rfl⟩
    refine pD (fun W R z9 => ?_) ?_
    ·refine qh (qm (v2) rfl ?_)
     exact ⟨rfl, rfl, rfl⟩
    exact stepsP.nil
   intro W hphi
   rw [eS (l := [(1, _), (6, _), (7, _)]) ⟨(hphi 1 (by decide)), (hphi 6 (by decide)), (hphi 7 (by decide)), ⟨⟩⟩]
   show XL _ _ _ _ _ _ _ (cellsH b3 [v1] 50 :: slH 27 1 v1 ((bl).length) cs1 :: cellsH b2 [sN] 50 :: cellsH b1 [arv] 29 :: L)
   refine cX (qB (((-1) - (p.getD k 0)).toNat) qy qu rfl rfl (by omega) (SlV.own [_] rfl) (by omega) (Nat.mul_one _) (cX (XOp.storeS (i := ((-1) - (p.getD k 0)).toNat) (cs := cs1) [_] _ qu rfl rfl (qM (qE hf1)) rfl (by have h9 := CO.len hc2; (try simp only [List.length_set, List.length_replicate] at h9 ⊢) <;> omega) ?_)))
   have hc3 := hc2.set (((-1) - (p.getD k 0)).toNat) hf1
   refine qb (qa (qf (ii ((i : Int))) rfl (qf (v2) rfl (cX (qC qd rfl hf1.slv (cX (qK (((i + (((sub ar t i)).length) : Nat) : Int)) rfl rfl (by omega) (by omega) (qg (ii (((i + (((sub ar t i)).length) : Nat) : Int))) rfl (qb (qa (qf (ii ((k : Int))) rfl (cX (qK (((k + 1 : Nat) : Int)) rfl rfl (by omega) (by omega) (qg (ii (((k + 1 : Nat) : Int))) rfl ?_))))))))))))))
   refine qb ?_
   exact ⟨(k + 1, i + (((sub ar t i)).length), (bl.set (((-1) - (p.getD k 0)).toNat) ((sub ar t i))), F1), _, (qk leG1 le1), rF, ⟨rfl, rfl, rfl, rfl, rfl, rfl, rfl, ⟨⟩⟩, (sC (coH.close hc3 (by first | rfl | simp) (sC (sC sR)))), ⟨rfl, (qk leG1 le1), (by (try dsimp only); (try simp only [List.length_set]) <;> omega), (by (try dsimp only) <;> omega), (by (try dsimp only) <;> omega), (hm.trans (m4_next (by omega) (by omega) (by omega) (by first | (left; exact List.eq_nil_of_length_eq_zero (show (bl.getD (-1 - p.getD k 0).toNat []).length = 0 by omega)) | (right; first | assumption | exact Classical.not_not.1 (by assumption)))))⟩, (by omega)⟩
  refine qs (t := 59) rfl (vF h5) (qs (t := 59) rfl (vF h5) (qs (t := 59) rfl (vF h5) (qs (t := 59) rfl (vF h5) (cX (qV (.bool (false)) (vF h5) rfl (qb (X.condF rfl (qx (qc ?_)))))))))
  refine jM [cellsH b3 [v1] 50, slH 27 1 v1 ((bl).length) cs1, cellsH b2 [sN] 50, cellsH b1 [arv] 29] L 8 [] [[], [0], [], [], [2, 3], [4], [5]] (phiL [qe (ptr b3 0), qe v1, qe pv, qe (ii ((k : Int)) : Value), qe (.pointer (some (elemA pv (k)))), qe (ii (p.getD k 0)), qe (ii ((-1) - (p.getD k 0))), qe v2]) (ownL []) mixed rfl rfl (by kernel_rfl) ?_ ?_
  ·refine pD (fun W R z9 => ?_) ?_
   ·refine qh (qn (0) qQ rfl jd (by decide) rfl rfl ?_)
    exact ⟨rfl, rfl, rfl⟩
   refine pD (fun W R z9 => ?_) ?_
   ·rw [eS (l := [(0, _)]) ⟨z9 0 rfl, ⟨⟩⟩]
    refine qh (qj jO rfl (Rd.own [] rfl rfl) ?_)
    exact ⟨rfl, rfl, rfl⟩
   refine pD (fun W R z9 => ?_) ?_
   ·refine qh (qm (pv) rfl ?_)
    exact ⟨rfl, rfl, rfl⟩
   refine pD (fun W R z9 => ?_) ?_
   ·refine qh (qm (ii ((k : Int))) rfl ?_)
    exact ⟨rfl, rfl, rfl⟩
   refine pD (fun W R z9 => ?_) ?_
   ·rw [eS (l := [(2, _), (3, _)]) ⟨z9 2 rfl, z9 3 rfl, ⟨⟩⟩]
    refine qh (qB k qd qw rfl rfl rfl hp.slv (by omega) (Nat.mul_one _) ?_)
    exact ⟨rfl, rfl, rfl⟩
   refine pD (fun W R z9 => ?_) ?_
   ·rw [eS (l := [(4, _)]) ⟨z9 4 rfl, ⟨⟩⟩]
    refine qh (qj jj rfl (hp.rd (by omega)) ?_)
    exact ⟨rfl, rfl, rfl⟩
   refine pD (fun W R z9 => ?_) ?_
   ·rw [eS (l := [(5, _)]) ⟨z9 5 rfl, ⟨⟩⟩]
    refine qh (jf ((-1) - (p.getD k 0)) rfl rfl (by omega) (by omega) ?_)
    exact ⟨rfl, rfl, rfl⟩
   refine pD (fun W R z9 => ?_) ?_
   ·refine qh (qm (v2) rfl ?_)
    exact ⟨rfl, rfl, rfl⟩
   exact stepsP.nil
  intro W hphi
  rw [eS (l := [(1, _), (6, _), (7, _)]) ⟨(hphi 1 (by decide)), (hphi 6 (by decide)), (hphi 7 (by decide)), ⟨⟩⟩]
  show XL _ _ _ _ _ _ _ (cellsH b3 [v1] 50 :: slH 27 1 v1 ((bl).length) cs1 :: cellsH b2 [sN] 50 :: cellsH b1 [arv] 29 :: L)
  refine cX (qB (((-1) - (p.getD k 0)).toNat) qy qu rfl rfl (by omega) (SlV.own [_] rfl) (by omega) (Nat.mul_one _) (cX (XOp.storeS (i := ((-1) - (p.getD k 0)).toNat) (cs := cs1) [_] _ qu rfl rfl (qM (qE hf1)) rfl (by have h9 := CO.len hc2; (try simp only [List.length_set, List.length_replicate] at h9 ⊢) <;> omega) ?_)))
  have hc4 := hc2.set (((-1) - (p.getD k 0)).toNat) hf1
  refine qb (qa (qf (ii ((i : Int))) rfl (qf (v2) rfl (cX (qC qd rfl hf1.slv (cX (qK (((i + (((sub ar t i)).length) : Nat) : Int)) rfl rfl (by omega) (by omega) (qg (ii (((i + (((sub ar t i)).length) : Nat) : Int))) rfl (qb (qa (qf (ii ((k : Int))) rfl (cX (qK (((k + 1 : Nat) : Int)) rfl rfl (by omega) (by omega) (qg (ii (((k + 1 : Nat) : Int))) rfl ?_))))))))))))))
  refine qb ?_
  exact ⟨(k + 1, i + (((sub ar t i)).length), (bl.set (((-1) - (p.getD k 0)).toNat) ((sub ar t i))), F1), _, (qk leG1 le1), rF, ⟨rfl, rfl, rfl, rfl, rfl, rfl, rfl, ⟨⟩⟩, (sC (coH.close hc4 (by first | rfl | simp) (sC (sC sR)))), ⟨rfl, (qk leG1 le1), (by (try dsimp only); (try simp only [List.length_set]) <;> omega), (by (try dsimp only) <;> omega), (by (try dsimp only) <;> omega), (hm.trans (m4_next (by omega) (by omega) (by omega) (by first | (left; exact List.eq_nil_of_length_eq_zero (show (bl.getD (-1 - p.getD k 0).toNat []).length = 0 by omega)) | (right; first | assumption | exact Classical.not_not.1 (by assumption)))))⟩, (by omega)⟩
 refine je (qv (qv (qN (qc (qa (cX (qq [v1] isAgg50 ji rfl rfl (Rd.ownN [] rfl rfl) ?_)))))))
 have hmb := (matchB_len (hm.trans (mGo_done (by omega)))).2
 refine jy [_] _ _ rfl (fun F2 le2 hz2 => ?_)
 replace hc2 := hc2.mono le2
 have hf2 : RowsF F2 v1 bl := CO.fz hc2 (by first | rfl | omega | (rw [List.length_set]; omega) | (simp; done)) hz2.fz
 refine cX (qp (args := [.agg #[v1]]) call186 rfl (l2Plain_spec hf2 (hsl := (by omega)) (hsb := (fun j => by have := hmb j; omega))) ?_)
 rintro _ F3 _ le3 ⟨x1, rfl, hr1, rfl⟩
 refine cX (qR [_] _ [x1] ji rfl rfl rfl (qz (qM (RowsF.isSl hr1)) qU) rfl rfl rfl (qg (.bool (true)) rfl (qb (qr (qo (L' := L) [.agg #[x1], .bool (true)] (.tuple #[.agg #[x1], .bool (true)]) (.cell rfl (jC [x1] isAgg50 ji rfl (Rd.ownN [_] rfl rfl)) (.tmp rfl .nil)) rfl (qk (qk leG1 le2) le3) rF (sD (sD (sD sR))) ?_)))))
 have hz : matchB ar p t = some bl := hm.trans (mGo_done (by omega))
 exact ⟨_, by rw [hz]; rfl, by rw [matchP, hz]; exact hr1, rfl⟩

/- spec.l7Right -/
theorem l7Right_spec {F : FH} {L : List HP} {arv : Value} {ar : List Int} (har : IntsF F arv ar) {rsv : Value} {rs : List (List Int × List Int)} (hrs : PairsF F rsv rs) {tv : Value} {t : List Int} (ht : IntsF F tv t) (hla : ar.length ≤ 4000000) (hlr : rs.length ≤ 4000000) (hrb : ∀ i, i < rs.length → (rs.getD i ([], [])).1.length ≤ 4000000 ∧ (rs.getD i ([], [])).2.length ≤ 4000000) (hlt : t.length ≤ 4000000) :
    Does prog 61 [.agg #[arv, rsv], tv] F (L) (fun v F' L' => (.bool (rightB ar rs t) : Value) = v ∧ F = F' ∧ L = L') := by
 refine qD func61 rfl rfl rfl (qc (qa (cX (qW [arv, rsv] rfl rfl ?_))))
 intro b1
 refine qg (.bool (false)) rfl (qb (qc (qa (cX (qq [arv, rsv] qX qL rfl rfl (Rd.ownN [] rfl rfl) (cX (qp (args := [.agg #[arv, rsv]]) call95 rfl (sSystemOk_spec har hrs (hla := (by first | assumption | rfl | omega | simp)) (hlr := (by first | assumption | rfl | omega | simp)) (hrb := (by first | assumption | rfl | omega | simp))) ?_)))))))
 rintro _ _ _ _ ⟨rfl, rfl, rfl⟩
 refine qf (.bool (sysOk ar rs)) rfl ?_
 by_cases h1 : (sysOk ar rs) = true
 ·refine qt (t := 7) rfl (vB h1) (qn (0) qJ rfl qP (by decide) rfl rfl (qt (t := 7) rfl (vB h1) (qq [arv] jk qP rfl rfl (Rd.ownN [] rfl rfl) (qt (t := 7) rfl (vB h1) (qm (tv) rfl (qt (t := 7) rfl (vB h1) (qp (args := [.agg #[arv], tv]) call81 rfl (sTermOk_spec har ht (hla := (by first | assumption | rfl | omega | simp)) (hlt := (by first | assumption | rfl | omega | simp))) ?_)))))))
  rintro _ _ _ _ ⟨rfl, rfl, rfl⟩
  refine cX (ja (.bool (termOk ar t)) (vB h1) rfl (qg (.bool (termOk ar t)) rfl (qb (qr (qo (L' := L) [.bool (termOk ar t)] (.bool (termOk ar t)) (.tmp rfl .nil) rfl rF rF (sD sR) ?_)))))
  exact ⟨(vB (by rw [rightB]; simp_all)), rfl, rfl⟩
 rw [Bool.not_eq_true] at h1
 refine qs (t := 7) rfl (vB h1) (qs (t := 7) rfl (vB h1) (qs (t := 7) rfl (vB h1) (qs (t := 7) rfl (vB h1) (cX (qV (.bool (false)) (vB h1) rfl (qg (.bool (false)) rfl (qb (qr (qo (L' := L) [.bool (false)] (.bool (false)) (.tmp rfl .nil) rfl rF rF (sD sR) ?_)))))))))
 exact ⟨(vB (by rw [rightB]; simp_all)), rfl, rfl⟩

/- spec.l8Redex -/
theorem l8Redex_spec {F : FH} {L : List HP} {arv : Value} {ar : List Int} (har : IntsF F arv ar) {rsv : Value} {rs : List (List Int × List Int)} (hrs : PairsF F rsv rs) {tv : Value} {t : List Int} (ht : IntsF F tv t) {p : Nat} (hsys : sysOk ar rs = true) (ho : termOk ar t = true) (hp : p < t.length) :
    Does prog 232 [.agg #[arv, rsv], tv, ii ((p : Int))] F (L) (fun v F' L' => (ii (ruleAtL ar rs t p) : Value) = v ∧ F = F' ∧ L = L') := by
 refine qD func232 rfl rfl rfl ?_
 have hnn := jv ht (by have := termOk_len ho; omega)
 have htl := termOk_len ho
 have hrl := (sysOk_iff.1 hsys).2.1
 have hsig := (sysOk_iff.1 hsys).1
 have hsl := sigOk_spec hsig
 have hso := sub_ok ho hp
 refine qc (qa (cX (qW [arv, rsv] rfl rfl ?_)))
 intro b1
 refine qg (ii (0)) rfl (qb (qc (qa (cX (qn (0) qJ rfl qP (by decide) rfl rfl (cX (qq [arv] jk qP rfl rfl (Rd.ownN [] rfl rfl) (qf (tv) rfl (qf (ii ((p : Int))) rfl (cX (jD <| qp (args := [.agg #[arv], tv, ii (p : Int)]) call174 rfl (l1Sub_spec (p := p) har ht (ho := (by first | assumption | rfl | omega | simp)) (hp := (by first | assumption | rfl | omega | simp))) ?_)))))))))))
 rintro v1 _ _ _ ⟨rfl, hs1, rfl⟩
 refine ⟨_, _, rfl, fun F1 le1 hz1 => ?_⟩
 replace har := har.mono le1
 replace hrs := hrs.mono le1
 have hf1 : IntsF F1 v1 ((sub ar t p)) := intsH.fz (xs := (sub ar t p)) hz1.fz
 refine qg (v1) rfl (qb (qc (qc (qa (qg (ii (0)) rfl (qb (qI (jm (α := Nat) (fun r => [(3, ptr b1 0), (7, v1), (8, ii ((r : Int)))]) (fun r => cellsH b1 [arv, rsv] 32 :: L) (fun r F' => F1 = F' ∧ (r ≤ rs.length) ∧ (ruleAtL ar rs t p = ruleAtGo ar rs t p (rs.length - r) r)) (fun r => rs.length - r) 0 ⟨rfl, rfl, rfl, ⟨⟩⟩ (sC sR) ⟨rfl, (by (try dsimp only) <;> omega), (rfl)⟩ ?_))))))))
 rintro r rE _ _ ⟨rfl, hr, hm⟩
 show X _ _ _ _ (envs [(3, ptr b1 0), (7, v1), (8, ii ((r : Int)))] rE) _ (cellsH b1 [arv, rsv] 32 :: L)
 refine qc (qc (qa (qf (ii ((r : Int))) rfl (cX (qn (1) qJ rfl ju (by decide) rfl rfl (cX (qj isAgg30 rfl (Rd.own [] rfl rfl) (cX (qC jb rfl hrs.slv (cX (qZ rfl rfl (qb ?_))))))))))))
 refine qA (p := (r : Int) < (rs.length : Int)) rfl (fun h1 => ?_) (fun h1 => ?_)
 ·refine qx (qc (qI (qc ?_)))
  obtain ⟨a1, a2, ha1, ha2, hr1, hr2⟩ := hrs.rd (i := r) (by omega)
  refine X.drawG [cellsH b1 [arv, rsv] 32] L 15 [[], [], [], [], [], [], [], [], [], [], [9], [9], [], [], [9, 13]] [[], [0], [], [2], [], [3, 4], [5], [6], [], [1, 7, 8], [9], [9, 10], [9, 10], [], [9, 11, 13]] [[], [], [], [], [], [], [], [], [], [], [], [], [], [], [13]] (phiG [pe (ptr b1 0), pe (.agg #[arv]), pe (ptr b1 1), pe rsv, pe (ii ((r : Int)) : Value), pe (.pointer (some (elemA rsv (r * 2)))), pe (.pointer (some (elemA rsv (r * 2)))), pe a1, pe v1, fun FF us v => (.tuple #[.agg #[((aggAt (tupAt v 0) 0))], .bool ((matchB ar ((rs.getD r ([], [])).1) ((sub ar t p))).isSome)] : Value) = v ∧ (RowsF FF ((aggAt (tupAt v 0) 0)) (matchP ar ((rs.getD r ([], [])).1) ((sub ar t p)))), fun FF us v => v = (.tuple #[.agg #[((aggAt (tupAt (us.getD 0 undef) 0) 0))], .bool ((matchB ar ((rs.getD r ([], [])).1) ((sub ar t p))).isSome)] : Value), fun FF us v => v = (.agg #[((aggAt (tupAt (us.getD 0 undef) 0) 0))] : Value), pe (.bool ((matchB ar ((rs.getD r ([], [])).1) ((sub ar t p))).isSome)), fun FF us v => v = ptr (blk v) 0, fun FF us v => True]) (ownL [o0, o0, o0, o0, o0, o0, o0, o0, o0, o0, o0, o0, o0, fun us v => [cellsH (blk v) [sN] 50], fun us v => [cellsH (blk (us.getD 1 undef)) [((aggAt (tupAt (us.getD 0 undef) 0) 0))] 50]]) mixed rfl rfl (by kernel_rfl) (by kernel_rfl) (MonoG.get (m1 (m1 (m1 (m1 (m1 (m1 (m1 (m1 (m1 (mC (fun le h => ⟨h.1, h.2.mono le⟩) (mC (fun le h => h) (mC (fun le h => h) (m1 (mC (fun le h => h) (mC (fun le h => h) MonoG.nil)))))))))))))))) ?_ ?_
  ·refine gD (fun W Fs R lF z9 => ?_) ?_
   ·refine qh (qn (0) qJ rfl qP (by decide) rfl rfl ?_)
    exact ⟨rfl, rfl⟩
   refine gD (fun W Fs R lF z9 => ?_) ?_
   ·replace har := har.mono lF
    replace hrs := hrs.mono lF
    replace hf1 := hf1.mono lF
    replace ha1 := ha1.mono lF
    replace hr1 := Rd.monoA hr1 lF
    rw [eS (l := [(0, _)]) ⟨z9 0 rfl, ⟨⟩⟩]
    refine qh (qq [arv] jk qP rfl rfl (Rd.ownN [] rfl rfl) ?_)
    exact ⟨rfl, rfl⟩
   refine gD (fun W Fs R lF z9 => ?_) ?_
   ·refine qh (qn (1) qJ rfl ju (by decide) rfl rfl ?_)
    exact ⟨rfl, rfl⟩
   refine gD (fun W Fs R lF z9 => ?_) ?_
   ·replace har := har.mono lF
    replace hrs := hrs.mono lF
    replace hf1 := hf1.mono lF
    replace ha1 := ha1.mono lF
    replace hr1 := Rd.monoA hr1 lF
    rw [eS (l := [(2, _)]) ⟨z9 2 rfl, ⟨⟩⟩]
    refine qh (qj isAgg30 rfl (Rd.own [] rfl rfl) ?_)
    exact ⟨rfl, rfl⟩
   refine gD (fun W Fs R lF z9 => ?_) ?_
   ·refine qh (qm (ii ((r : Int))) rfl ?_)
    exact ⟨rfl, rfl⟩
   refine gD (fun W Fs R lF z9 => ?_) ?_
   ·replace har := har.mono lF
    replace hrs := hrs.mono lF
    replace hf1 := hf1.mono lF
    replace ha1 := ha1.mono lF
    replace hr1 := Rd.monoA hr1 lF
    rw [eS (l := [(3, _), (4, _)]) ⟨z9 3 rfl, z9 4 rfl, ⟨⟩⟩]
    refine qh (qB r jb jF rfl rfl rfl hrs.slv (by omega) rfl ?_)
    exact ⟨rfl, rfl⟩
   refine gD (fun W Fs R lF z9 => ?_) ?_
   ·rw [eS (l := [(5, _)]) ⟨z9 5 rfl, ⟨⟩⟩]
    refine qh (XOp.fieldE (r * 2) qO rfl qu (by decide) rfl rfl ?_)
    exact ⟨rfl, rfl⟩
   refine gD (fun W Fs R lF z9 => ?_) ?_
   ·replace har := har.mono lF
    replace hf1 := hf1.mono lF
    replace ha1 := ha1.mono lF
    replace hr1 := Rd.monoA hr1 lF
    rw [eS (l := [(6, _)]) ⟨z9 6 rfl, ⟨⟩⟩]
    refine qh (qj qY rfl (hr1 _) ?_)
    exact ⟨rfl, rfl⟩
   refine gD (fun W Fs R lF z9 => ?_) ?_
   ·refine qh (qm (v1) rfl ?_)
    exact ⟨rfl, rfl⟩
   refine gD (fun W Fs R lF z9 => ?_) ?_
   ·replace har := har.mono lF
    replace hf1 := hf1.mono lF
    replace ha1 := ha1.mono lF
    rw [eS (l := [(1, _), (7, _), (8, _)]) ⟨z9 1 rfl, z9 7 rfl, z9 8 rfl, ⟨⟩⟩]
    refine qh (qp (args := [.agg #[arv], a1, v1]) call120 rfl (l4Match_spec har ha1 hf1 (ho := (by first | assumption | rfl | omega | simp)) (hpo := ((ruleOk_iff.1 ((sysOk_iff.1 hsys).2.2 r (by omega))).left))) ?_)
    rintro _ F3 _ le3 ⟨x2, rfl, hr4, rfl⟩
    replace har := har.mono le3
    exact ⟨⟨rfl, hr4⟩, rfl⟩
   refine gD (fun W Fs R lF z9 => ?_) ?_
   ·obtain ⟨e9, f9_1hr⟩ := z9 9 rfl
    rw [eS (l := [(9, (.tuple #[.agg #[((aggAt (tupAt (W 9) 0) 0))], .bool ((matchB ar ((rs.getD r ([], [])).1) ((sub ar t p))).isSome)]))]) ⟨(e9).symm, ⟨⟩⟩]
    refine qh (qm (.tuple #[.agg #[((aggAt (tupAt (W 9) 0) 0))], .bool ((matchB ar ((rs.getD r ([], [])).1) ((sub ar t p))).isSome)]) rfl ?_)
    exact ⟨rfl, rfl⟩
   refine gD (fun W Fs R lF z9 => ?_) ?_
   ·obtain ⟨e9, f9_1hr⟩ := z9 9 rfl
    have e10 : W 10 = (.tuple #[.agg #[((aggAt (tupAt (W 9) 0) 0))], .bool ((matchB ar ((rs.getD r ([], [])).1) ((sub ar t p))).isSome)] : Value) := z9 10 rfl
    rw [eS (l := [(9, (.tuple #[.agg #[((aggAt (tupAt (W 9) 0) 0))], .bool ((matchB ar ((rs.getD r ([], [])).1) ((sub ar t p))).isSome)])), (10, (.tuple #[.agg #[((aggAt (tupAt (W 9) 0) 0))], .bool ((matchB ar ((rs.getD r ([], [])).1) ((sub ar t p))).isSome)]))]) ⟨(e9).symm, e10, ⟨⟩⟩]
    refine qh (qT (.agg #[((aggAt (tupAt (W 9) 0) 0))]) rfl rfl ?_)
    exact ⟨rfl, rfl⟩
   refine gD (fun W Fs R lF z9 => ?_) ?_
   ·obtain ⟨e9, f9_1hr⟩ := z9 9 rfl
    have e10 : W 10 = (.tuple #[.agg #[((aggAt (tupAt (W 9) 0) 0))], .bool ((matchB ar ((rs.getD r ([], [])).1) ((sub ar t p))).isSome)] : Value) := z9 10 rfl
    rw [eS (l := [(9, (.tuple #[.agg #[((aggAt (tupAt (W 9) 0) 0))], .bool ((matchB ar ((rs.getD r ([], [])).1) ((sub ar t p))).isSome)])), (10, (.tuple #[.agg #[((aggAt (tupAt (W 9) 0) 0))], .bool ((matchB ar ((rs.getD r ([], [])).1) ((sub ar t p))).isSome)]))]) ⟨(e9).symm, e10, ⟨⟩⟩]
    refine qh (qT (.bool ((matchB ar ((rs.getD r ([], [])).1) ((sub ar t p))).isSome)) rfl rfl ?_)
    exact ⟨rfl, rfl⟩
   refine gD (fun W Fs R lF z9 => ?_) ?_
   ·replace har := har.mono lF
    refine qh (jh [sN] jx rfl ?_)
    intro b3
    exact ⟨rfl, rfl⟩
   refine gD (fun W Fs R lF z9 => ?_) ?_
   ·obtain ⟨e9, f9_1hr⟩ := z9 9 rfl
    have e11 : W 11 = (.agg #[((aggAt (tupAt (W 9) 0) 0))] : Value) := z9 11 rfl
    have e13 : W 13 = ptr (blk (W 13)) 0 := z9 13 rfl
    rw [eS (l := [(9, (.tuple #[.agg #[((aggAt (tupAt (W 9) 0) 0))], .bool ((matchB ar ((rs.getD r ([], [])).1) ((sub ar t p))).isSome)])), (11, (.agg #[((aggAt (tupAt (W 9) 0) 0))])), (13, ptr (blk (W 13)) 0)]) ⟨(e9).symm, e11, e13, ⟨⟩⟩]
    show XG _ _ _ _ _ (cellsH (blk (W 13)) [sN] 50 :: ([cellsH b1 [arv, rsv] 32] ++ R)) _
    refine qh (qR [] _ [((aggAt (tupAt (W 9) 0) 0))] ji rfl rfl rfl (qz (qM (RowsF.isSl f9_1hr)) qU) rfl rfl rfl ?_)
    exact ⟨trivial, rfl⟩
   exact stepsG.nil
  intro W F4 le4 hphi
  obtain ⟨e9, f9_1hr⟩ := hphi 9 (by decide)
  have e10 : W 10 = (.tuple #[.agg #[((aggAt (tupAt (W 9) 0) 0))], .bool ((matchB ar ((rs.getD r ([], [])).1) ((sub ar t p))).isSome)] : Value) := hphi 10 (by decide)
  have e11 : W 11 = (.agg #[((aggAt (tupAt (W 9) 0) 0))] : Value) := hphi 11 (by decide)
  have e13 : W 13 = ptr (blk (W 13)) 0 := hphi 13 (by decide)
  generalize hu1 : ((aggAt (tupAt (W 9) 0) 0)) = u1 at e9 f9_1hr e10 e11 e13
  generalize hu2 : blk (W 13) = b4 at e9 f9_1hr e10 e11 e13
  rw [eS (l := [(9, (.tuple #[.agg #[u1], .bool ((matchB ar ((rs.getD r ([], [])).1) ((sub ar t p))).isSome)])), (12, _), (13, ptr b4 0)]) ⟨(e9).symm, (hphi 12 (by decide)), e13, ⟨⟩⟩]
  show XL _ _ _ _ _ _ _ (cellsH b4 [u1] 50 :: cellsH b1 [arv, rsv] 32 :: L)
  refine qg (.bool ((matchB ar ((rs.getD r ([], [])).1) ((sub ar t p))).isSome)) rfl (qb (qc (qa (qf (.bool ((matchB ar ((rs.getD r ([], [])).1) ((sub ar t p))).isSome)) rfl (qb ?_)))))
  refine jB (t := (matchB ar ((rs.getD r ([], [])).1) ((sub ar t p))).isSome) rfl (fun h2 => ?_) (fun h2 => ?_)
  ·refine qc (qa (qf (ii ((r : Int))) rfl (qg (ii ((r : Int))) rfl (qb (qr (qF (qi (qi (qF (qi (qo (L' := L) [ii ((r : Int))] (ii ((r : Int))) (.tmp rfl .nil) rfl rF (qk le1 le4) (sD (sD sR)) ?_)))))))))))
   exact ⟨(vI (hm.trans (ruleAt_hit (by omega) (by unfold isRedex; assumption)))), rfl, rfl⟩
  refine qx (qa (qf (ii ((r : Int))) rfl (cX (qK (((r + 1 : Nat) : Int)) rfl rfl (by omega) (by omega) (qg (ii (((r + 1 : Nat) : Int))) rfl (qb ?_))))))
  exact ⟨r + 1, _, FLe.refl _, le4, ⟨rfl, rfl, rfl, ⟨⟩⟩, (sD (sC sR)), ⟨rfl, (by (try dsimp only) <;> omega), (hm.trans (ruleAt_miss (by omega) (by unfold isRedex; assumption)))⟩, (by omega)⟩
 refine je (qv (qv (qN (qc (qa (qg (ii (-1)) rfl (qb (qr (qo (L' := L) [ii (-1)] (ii (-1)) (.tmp rfl .nil) rfl rF le1 (sD sR) ?_)))))))))
 exact ⟨(vI (hm.trans (ruleAt_end (by omega)))), rfl, rfl⟩

/- spec.RedexesIn -/
theorem sRedexesIn_spec {F : FH} {L : List HP} {arv : Value} {ar : List Int} (har : IntsF F arv ar) {rsv : Value} {rs : List (List Int × List Int)} (hrs : PairsF F rsv rs) {tv : Value} {t : List Int} (ht : IntsF F tv t) (hla : ar.length ≤ 4000000) (hlr : rs.length ≤ 4000000) (hrb : ∀ i, i < rs.length → (rs.getD i ([], [])).1.length ≤ 4000000 ∧ (rs.getD i ([], [])).2.length ≤ 4000000) (hlt : t.length ≤ 4000000) :
    Does prog 247 [.agg #[arv, rsv], tv] F (L) (fun v F' L' => F = F' ∧ IsSl v ∧ intsH 2 v (redS ar rs t) :: L = L') := by
 refine qD func247 rfl rfl rfl (qc (qa (cX (qW [arv, rsv] rfl rfl ?_))))
 intro b1
 refine qg (sN) rfl (qb (qc (qa (cX (ql (s := 1) [] [ii (0)] [] qd qw qG rfl (by decide) rfl CellsAre.nil rfl ?_)))))
 intro v1 hv1
 refine qg (v1) rfl (qb (qc (qc (qa (qg (ii (0)) rfl (qb (qI (jm (α := Nat × Value × List Int) (fun xQ => [(1, tv), (2, ptr b1 0), (5, xQ.2.1), (6, ii (((xQ.1 : Nat) : Int)))]) (fun xQ => intsH 2 xQ.2.1 xQ.2.2 :: cellsH b1 [arv, rsv] 32 :: L) (fun xQ F' => F = F' ∧ (IsSl xQ.2.1) ∧ (xQ.1 ≤ t.length) ∧ (xQ.2.2 = if rightB ar rs t = true then redTo ar rs t xQ.1 else [])) (fun xQ => t.length - xQ.1) (0, v1, []) ⟨rfl, rfl, rfl, rfl, ⟨⟩⟩ (sC (sC sR)) ⟨rfl, ((qS hv1)), (by (try dsimp only) <;> omega), (by dsimp only; split <;> rfl)⟩ ?_))))))))
 rintro ⟨k, ov, os⟩ rE _ _ ⟨rfl, hov, hk, hos⟩
 show X _ _ _ _ (envs [(1, tv), (2, ptr b1 0), (5, ov), (6, ii ((k : Int)))] rE) _ (intsH 2 ov os :: cellsH b1 [arv, rsv] 32 :: L)
 dsimp only at hov hk hos
 have hol : os.length ≤ k := by rw [hos]; split; exact redTo_len; simp
 refine qc (qc (qa (qf (ii ((k : Int))) rfl (qf (tv) rfl (cX (qC qd rfl ht.slv (cX (qZ rfl rfl (qf (.bool (decide ((k : Int) < (t.length : Int)))) rfl ?_)))))))))
 by_cases h1 : (k : Int) < (t.length : Int)
 ·refine qt (t := 12) rfl (vT h1) (qq [arv, rsv] qX qL rfl rfl (Rd.ownN [_] rfl rfl) (qt (t := 12) rfl (vT h1) (qm (tv) rfl (qt (t := 12) rfl (vT h1) (qp (args := [.agg #[arv, rsv], tv]) call61 rfl (l7Right_spec har hrs ht (hla := (by first | assumption | rfl | omega | simp)) (hlr := (by first | assumption | rfl | omega | simp)) (hrb := (by first | assumption | rfl | omega | simp)) (hlt := (by first | assumption | rfl | omega | simp))) ?_)))))
  rintro _ _ _ _ ⟨rfl, rfl, rfl⟩
  refine cX (ja (.bool (rightB ar rs t)) (vT h1) rfl (qb ?_))
  refine jB (t := rightB ar rs t) rfl (fun h2 => ?_) (fun h2 => ?_)
  ·have hsys := (right_iff.1 h2).1
   have ho := (right_iff.1 h2).2
   refine qx (qc (qI (qc (qa (cX (qq [arv, rsv] qX qL rfl rfl (Rd.ownN [_] rfl rfl) (qf (tv) rfl (qf (ii ((k : Int))) rfl (cX (qp (args := [.agg #[arv, rsv], tv, ii (k : Int)]) call232 rfl (l8Redex_spec (p := k) har hrs ht (hsys := (by first | assumption | rfl | omega | simp)) (ho := (by first | assumption | rfl | omega | simp)) (hp := (by first | assumption | rfl | omega | simp))) ?_))))))))))
   rintro _ _ _ _ ⟨rfl, rfl, rfl⟩
   refine cX (XOp.geq rfl rfl (qb ?_))
   refine qA (p := (ruleAtL ar rs t k : Int) ≥ 0) rfl (fun h3 => ?_) (fun h3 => ?_)
   ·refine qa (qf (ov) rfl (qf (ii ((k : Int))) rfl (cX (ql (s := 1) [ii ((k : Int))] [ii (0)] [(0, [ii ((k : Int))])] qd qw qG rfl (by decide) rfl (.cons rfl CellsAre.nil) rfl ?_))))
    intro v2 hv2
    refine cX (XOp.append1 (u := (k : Int)) [_] _ qd typeInfo2 rfl rfl rfl rfl rfl rfl (SlV.own [] rfl) (Rd.sl [] rfl rfl) (by (try simp only [List.length_append, List.length_nil, List.length_cons, List.length_singleton, List.length_take, List.length_drop]); omega) ?_)
    intro v3 hs1 hn1
    refine qg (v3) rfl (qb (qa (qf (ii ((k : Int))) rfl (cX (qK (((k + 1 : Nat) : Int)) rfl rfl (by omega) (by omega) (qg (ii (((k + 1 : Nat) : Int))) rfl (qb ?_)))))))
    exact ⟨(k + 1, v3, os ++ [(k : Int)]), _, FLe.refl _, rF, ⟨rfl, rfl, rfl, rfl, ⟨⟩⟩, (sD (sC (sC sR))), ⟨rfl, (hs1), (by (try dsimp only) <;> omega), ((by dsimp only; rw [hos, if_pos (by assumption), if_pos (by assumption)]; first | exact (redTo_yes (by omega)).symm | exact (redTo_no (by omega)).symm))⟩, (by omega)⟩
   refine qx (qa (qf (ii ((k : Int))) rfl (cX (qK (((k + 1 : Nat) : Int)) rfl rfl (by omega) (by omega) (qg (ii (((k + 1 : Nat) : Int))) rfl (qb ?_))))))
   exact ⟨(k + 1, ov, os), _, FLe.refl _, rF, ⟨rfl, rfl, rfl, rfl, ⟨⟩⟩, (sC (sC sR)), ⟨rfl, (hov), (by (try dsimp only) <;> omega), ((by dsimp only; rw [hos, if_pos (by assumption), if_pos (by assumption)]; first | exact (redTo_yes (by omega)).symm | exact (redTo_no (by omega)).symm))⟩, (by omega)⟩
  refine je (qv (qv (qN (qc (qa (qf (ov) rfl (qg (ov) rfl (qb (qr (qo (L' := intsH 2 ov os :: L) [ov] (ov) (.tmp rfl .nil) rfl rF rF (sC (sD sR)) ?_))))))))))
  refine ⟨rfl, hov, ?_⟩
  have hxs : (redS ar rs t : List Int) = os := by rw [hos, redS]; split <;> first | rfl | (rw [redL, show k = t.length from by omega]) | simp_all
  exact congrArg (fun z => intsH 2 _ z :: L) hxs
 refine qs (t := 12) rfl (vF h1) (qs (t := 12) rfl (vF h1) (qs (t := 12) rfl (vF h1) (cX (qV (.bool (false)) (vF h1) rfl (qb (X.condF rfl (je (qv (qv (qN (qc (qa (qf (ov) rfl (qg (ov) rfl ?_))))))))))))))
 refine qb (qr (qo (L' := intsH 2 ov os :: L) [ov] (ov) (.tmp rfl .nil) rfl rF rF (sC (sD sR)) ?_))
 refine ⟨rfl, hov, ?_⟩
 have hxs : (redS ar rs t : List Int) = os := by rw [hos, redS]; split <;> first | rfl | (rw [redL, show k = t.length from by omega]) | simp_all
 exact congrArg (fun z => intsH 2 _ z :: L) hxs

/- spec.InmostIn -/
theorem sInmostIn_spec {F : FH} {L : List HP} {arv : Value} {ar : List Int} (har : IntsF F arv ar) {rsv : Value} {rs : List (List Int × List Int)} (hrs : PairsF F rsv rs) {tv : Value} {t : List Int} (ht : IntsF F tv t) (hla : ar.length ≤ 4000000) (hlr : rs.length ≤ 4000000) (hrb : ∀ i, i < rs.length → (rs.getD i ([], [])).1.length ≤ 4000000 ∧ (rs.getD i ([], [])).2.length ≤ 4000000) (hlt : t.length ≤ 4000000) :
    Does prog 246 [.agg #[arv, rsv], tv] F (L) (fun v F' L' => F = F' ∧ IsSl v ∧ intsH 2 v (inS ar rs t) :: L = L') := by
 refine qD func246 rfl rfl rfl ?_
 have hrS := redS_len (ar := ar) (rs := rs) hlt
 refine qc (qa (cX (qW [arv, rsv] rfl rfl ?_)))
 intro b1
 refine qg (sN) rfl (qb (qc (qa (cX (ql (s := 1) [] [ii (0)] [] qd qw qG rfl (by decide) rfl CellsAre.nil rfl ?_)))))
 intro v1 hv1
 refine qg (v1) rfl (qb (qc (qa (cX (qq [arv, rsv] qX qL rfl rfl (Rd.ownN [_] rfl rfl) (qf (tv) rfl (cX (jD <| qp (args := [.agg #[arv, rsv], tv]) call247 rfl (sRedexesIn_spec har hrs ht (hla := (by first | assumption | rfl | omega | simp)) (hlr := (by first | assumption | rfl | omega | simp)) (hrb := (by first | assumption | rfl | omega | simp)) (hlt := (by first | assumption | rfl | omega | simp))) ?_))))))))
 rintro v2 _ _ _ ⟨rfl, hs1, rfl⟩
 refine ⟨_, _, rfl, fun F1 le1 hz1 => ?_⟩
 replace har := har.mono le1
 replace ht := ht.mono le1
 have hf1 : IntsF F1 v2 ((redS ar rs t)) := intsH.fz (xs := (redS ar rs t)) hz1.fz
 refine qg (v2) rfl (qb (qc (qc (qa (qg (ii (0)) rfl (qb (qI (jm (α := Nat × Value × List Int) (fun xQ => [(1, tv), (2, ptr b1 0), (5, xQ.2.1), (6, v2), (7, ii (((xQ.1 : Nat) : Int)))]) (fun xQ => intsH 2 xQ.2.1 xQ.2.2 :: cellsH b1 [arv, rsv] 32 :: L) (fun xQ F' => F1 = F' ∧ (IsSl xQ.2.1) ∧ (xQ.1 ≤ (redS ar rs t).length) ∧ (xQ.2.2 = inTo ar t (redS ar rs t) xQ.1)) (fun xQ => (redS ar rs t).length - xQ.1) (0, v1, []) ⟨rfl, rfl, rfl, rfl, rfl, ⟨⟩⟩ (sC (sC sR)) ⟨rfl, ((qS hv1)), (by (try dsimp only) <;> omega), (rfl)⟩ ?_))))))))
 rintro ⟨k, ov, os⟩ rE _ _ ⟨rfl, hov, hk, hos⟩
 show X _ _ _ _ (envs [(1, tv), (2, ptr b1 0), (5, ov), (6, v2), (7, ii ((k : Int)))] rE) _ (intsH 2 ov os :: cellsH b1 [arv, rsv] 32 :: L)
 dsimp only at hov hk hos
 have hrf := fun (h : k < (redS ar rs t).length) => redS_facts h
 have hrS := redS_len (ar := ar) (rs := rs) hlt
 have hol : os.length ≤ k := by rw [hos]; exact inTo_len
 refine qc (qc (qa (qf (ii ((k : Int))) rfl (qf (v2) rfl (cX (qC qd rfl hf1.slv (cX (qZ rfl rfl (qb ?_)))))))))
 refine qA (p := (k : Int) < ((((redS ar rs t)).length : Nat) : Int)) rfl (fun h1 => ?_) (fun h1 => ?_)
 ·obtain ⟨hsys, ho, q, hq1, hq2, hq3⟩ := hrf (by omega)
  have htl := termOk_len ho
  have hle := endN_spec ho hq2
  refine qx (qc (qI (qc ?_)))
  refine jM [intsH 2 ov os, cellsH b1 [arv, rsv] 32] L 7 [] [[], [0], [], [], [], [3, 4], [5]] (phiL [qe (ptr b1 0), qe (.agg #[arv]), qe tv, qe v2, qe (ii ((k : Int)) : Value), qe (.pointer (some (elemA v2 (k)))), qe (ii (((redS ar rs t)).getD k 0))]) (ownL []) mixed rfl rfl (by kernel_rfl) ?_ ?_
  ·refine pD (fun W R z9 => ?_) ?_
   ·refine qh (qn (0) qJ rfl qP (by decide) rfl rfl ?_)
    exact ⟨rfl, rfl, rfl⟩
   refine pD (fun W R z9 => ?_) ?_
   ·rw [eS (l := [(0, _)]) ⟨z9 0 rfl, ⟨⟩⟩]
    refine qh (qq [arv] jk qP rfl rfl (Rd.ownN [_] rfl rfl) ?_)
    exact ⟨rfl, rfl, rfl⟩
   refine pD (fun W R z9 => ?_) ?_
   ·refine qh (qm (tv) rfl ?_)
    exact ⟨rfl, rfl, rfl⟩
   refine pD (fun W R z9 => ?_) ?_
   ·refine qh (qm (v2) rfl ?_)
    exact ⟨rfl, rfl, rfl⟩
   refine pD (fun W R z9 => ?_) ?_
   ·refine qh (qm (ii ((k : Int))) rfl ?_)
    exact ⟨rfl, rfl, rfl⟩
   refine pD (fun W R z9 => ?_) ?_
   ·rw [eS (l := [(3, _), (4, _)]) ⟨z9 3 rfl, z9 4 rfl, ⟨⟩⟩]
    refine qh (qB k qd qw rfl rfl rfl hf1.slv (by omega) (Nat.mul_one _) ?_)
    exact ⟨rfl, rfl, rfl⟩
   refine pD (fun W R z9 => ?_) ?_
   ·rw [eS (l := [(5, _)]) ⟨z9 5 rfl, ⟨⟩⟩]
    refine qh (qj jj rfl (hf1.rd (by omega)) ?_)
    exact ⟨rfl, rfl, rfl⟩
   exact stepsP.nil
  intro W hphi
  rw [eS (l := [(1, _), (2, _), (6, _)]) ⟨(hphi 1 (by decide)), (hphi 2 (by decide)), (hphi 6 (by decide)), ⟨⟩⟩]
  show XL _ _ _ _ _ _ _ (intsH 2 ov os :: cellsH b1 [arv, rsv] 32 :: L)
  refine cX (qp (args := [.agg #[arv], tv, ii (((((redS ar rs t)).getD k 0).toNat : Nat) : Int)]) call152 (by rw [show (((((redS ar rs t)).getD k 0).toNat : Nat) : Int) = ((redS ar rs t)).getD k 0 from by omega]; rfl) (l1End_ok (p := (((redS ar rs t)).getD k 0).toNat) har ht (ho := (by first | assumption | rfl | omega | (left; simp; done) | (right; simp; done))) (hp := (by first | assumption | rfl | omega | (left; simp; done) | (right; simp; done)))) ?_)
  rintro _ _ _ _ ⟨rfl, rfl, rfl⟩
  refine qg (ii (((endN ar t ((((redS ar rs t)).getD k 0).toNat) : Nat) : Int))) rfl (qb (qc (qa (qf (ii ((k : Int))) rfl (cX (qK (((k + 1 : Nat) : Int)) rfl rfl (by omega) (by omega) (qf (v2) rfl (cX (qC qd rfl hf1.slv (cX (jq rfl rfl (qf (.bool (decide ((((k + 1 : Nat) : Int) : Int) = ((((redS ar rs t)).length : Nat) : Int)))) rfl ?_))))))))))))
  by_cases h2 : (((k + 1 : Nat) : Int) : Int) = ((((redS ar rs t)).length : Nat) : Int)
  ·refine qs (t := 32) rfl (vT h2) (qs (t := 32) rfl (vT h2) (qs (t := 32) rfl (vT h2) (qs (t := 32) rfl (vT h2) (qs (t := 32) rfl (vT h2) (qs (t := 32) rfl (vT h2) (qs (t := 32) rfl (vT h2) (cX (ja (.bool (true)) (vT h2) rfl (qb (jN rfl ?_))))))))))
   refine qa (qf (ov) rfl (qf (v2) rfl (qf (ii ((k : Int))) rfl (cX (qB k qd qw rfl rfl rfl hf1.slv (by omega) (Nat.mul_one _) (cX (qj jj rfl (hf1.rd (by omega)) (cX (ql (s := 1) [ii (((redS ar rs t)).getD k 0)] [ii (0)] [(0, [ii (((redS ar rs t)).getD k 0)])] qd qw qG rfl (by decide) rfl (.cons rfl CellsAre.nil) rfl ?_)))))))))
   intro v3 hv2
   refine cX (XOp.append1 (u := ((redS ar rs t)).getD k 0) [_] _ qd typeInfo2 rfl rfl rfl rfl rfl rfl (SlV.own [] rfl) (Rd.sl [] rfl rfl) (by (try simp only [List.length_append, List.length_nil, List.length_cons, List.length_singleton, List.length_take, List.length_drop]); omega) ?_)
   intro v4 hs2 hn1
   refine qg (v4) rfl (qb (qa (qf (ii ((k : Int))) rfl (cX (qK (((k + 1 : Nat) : Int)) rfl rfl (by omega) (by omega) (qg (ii (((k + 1 : Nat) : Int))) rfl (qb ?_)))))))
   exact ⟨(k + 1, v4, os ++ [((redS ar rs t)).getD k 0]), _, FLe.refl _, rF, ⟨rfl, rfl, rfl, rfl, rfl, ⟨⟩⟩, (sD (sC (sC sR))), ⟨rfl, (hs2), (by (try dsimp only) <;> omega), ((by dsimp only; rw [hos]; first | exact (inTo_yes (by simp only [inOk, decide_eq_true_eq]; omega)).symm | exact (inTo_no (by simp only [inOk, decide_eq_false_iff_not]; omega)).symm))⟩, (by omega)⟩
  refine qt (t := 32) rfl (vF h2) (qm (v2) rfl (qt (t := 32) rfl (vF h2) (qm (ii ((k : Int))) rfl (qt (t := 32) rfl (vF h2) (qK (((k + 1 : Nat) : Int)) rfl rfl (by omega) (by omega) (qt (t := 32) rfl (vF h2) (qB (k + 1) qd qw rfl rfl rfl hf1.slv (by omega) (Nat.mul_one _) (qt (t := 32) rfl (vF h2) (qj jj rfl (hf1.rd (by omega)) (qt (t := 32) rfl (vF h2) (qm (ii (((endN ar t ((((redS ar rs t)).getD k 0).toNat) : Nat) : Int))) rfl (qt (t := 32) rfl (vF h2) (XOp.geq rfl rfl (cX (qV (.bool (decide ((((redS ar rs t)).getD (k + 1) 0 : Int) ≥ ((endN ar t ((((redS ar rs t)).getD k 0).toNat) : Nat) : Int)))) (vF h2) rfl (qb ?_))))))))))))))))
  refine qA (p := (((redS ar rs t)).getD (k + 1) 0 : Int) ≥ ((endN ar t ((((redS ar rs t)).getD k 0).toNat) : Nat) : Int)) rfl (fun h3 => ?_) (fun h3 => ?_)
  ·refine qa (qf (ov) rfl (qf (v2) rfl (qf (ii ((k : Int))) rfl (cX (qB k qd qw rfl rfl rfl hf1.slv (by omega) (Nat.mul_one _) (cX (qj jj rfl (hf1.rd (by omega)) (cX (ql (s := 1) [ii (((redS ar rs t)).getD k 0)] [ii (0)] [(0, [ii (((redS ar rs t)).getD k 0)])] qd qw qG rfl (by decide) rfl (.cons rfl CellsAre.nil) rfl ?_)))))))))
   intro v5 hv3
   refine cX (XOp.append1 (u := ((redS ar rs t)).getD k 0) [_] _ qd typeInfo2 rfl rfl rfl rfl rfl rfl (SlV.own [] rfl) (Rd.sl [] rfl rfl) (by (try simp only [List.length_append, List.length_nil, List.length_cons, List.length_singleton, List.length_take, List.length_drop]); omega) ?_)
   intro v6 hs3 hn2
   refine qg (v6) rfl (qb (qa (qf (ii ((k : Int))) rfl (cX (qK (((k + 1 : Nat) : Int)) rfl rfl (by omega) (by omega) (qg (ii (((k + 1 : Nat) : Int))) rfl (qb ?_)))))))
   exact ⟨(k + 1, v6, os ++ [((redS ar rs t)).getD k 0]), _, FLe.refl _, rF, ⟨rfl, rfl, rfl, rfl, rfl, ⟨⟩⟩, (sD (sC (sC sR))), ⟨rfl, (hs3), (by (try dsimp only) <;> omega), ((by dsimp only; rw [hos]; first | exact (inTo_yes (by simp only [inOk, decide_eq_true_eq]; omega)).symm | exact (inTo_no (by simp only [inOk, decide_eq_false_iff_not]; omega)).symm))⟩, (by omega)⟩
  refine qx (qa (qf (ii ((k : Int))) rfl (cX (qK (((k + 1 : Nat) : Int)) rfl rfl (by omega) (by omega) (qg (ii (((k + 1 : Nat) : Int))) rfl (qb ?_))))))
  exact ⟨(k + 1, ov, os), _, FLe.refl _, rF, ⟨rfl, rfl, rfl, rfl, rfl, ⟨⟩⟩, (sC (sC sR)), ⟨rfl, (hov), (by (try dsimp only) <;> omega), ((by dsimp only; rw [hos]; first | exact (inTo_yes (by simp only [inOk, decide_eq_true_eq]; omega)).symm | exact (inTo_no (by simp only [inOk, decide_eq_false_iff_not]; omega)).symm))⟩, (by omega)⟩
 refine je (qv (qv (qN (qc (qa (qf (ov) rfl (qg (ov) rfl (qb (qr (qo (L' := intsH 2 ov os :: L) [ov] (ov) (.tmp rfl .nil) rfl rF le1 (sC (sD sR)) ?_))))))))))
 refine ⟨rfl, hov, ?_⟩
 have hxs : (inS ar rs t : List Int) = os := by rw [hos, inS_eq, show k = (redS ar rs t).length from by omega]
 exact congrArg (fun z => intsH 2 _ z :: L) hxs

/- spec.l8Places -/
theorem l8Places_spec {F : FH} {L : List HP} {arv : Value} {ar : List Int} (har : IntsF F arv ar) {rsv : Value} {rs : List (List Int × List Int)} (hrs : PairsF F rsv rs) {tv : Value} {t : List Int} (ht : IntsF F tv t) {st : Int} (hla : ar.length ≤ 4000000) (hlr : rs.length ≤ 4000000) (hrb : ∀ i, i < rs.length → (rs.getD i ([], [])).1.length ≤ 4000000 ∧ (rs.getD i ([], [])).2.length ≤ 4000000) (hlt : t.length ≤ 4000000) :
    Does prog 231 [.agg #[arv, rsv], tv, ii (st)] F (L) (fun v F' L' => ∃ (a : Value), (a : Value) = v ∧ (IntsF F' a (placesL ar rs t st)) ∧ L = L') := by
 refine qD func231 rfl rfl rfl ?_
 have hrS := redS_len (ar := ar) (rs := rs) hlt
 refine qc (qa (cX (qW [arv, rsv] rfl rfl ?_)))
 intro b1
 refine qg (sN) rfl (qb (qc (qc (qa (qf (ii (st)) rfl (qb (qI (qc (qa (cX (jq rfl rfl (qg (.bool (decide ((st : Int) = 1))) rfl (qb ?_)))))))))))))
 refine qA (p := (st : Int) = 1) rfl (fun h1 => ?_) (fun h1 => ?_)
 ·refine qc (qa (cX (qq [arv, rsv] qX qL rfl rfl (Rd.ownN [] rfl rfl) (qf (tv) rfl (cX (jD <| qp (args := [.agg #[arv, rsv], tv]) call246 rfl (sInmostIn_spec har hrs ht (hla := (by first | assumption | rfl | omega | simp)) (hlr := (by first | assumption | rfl | omega | simp)) (hrb := (by first | assumption | rfl | omega | simp)) (hlt := (by first | assumption | rfl | omega | simp))) ?_))))))
  rintro v1 _ _ _ ⟨rfl, hs1, rfl⟩
  refine ⟨_, _, rfl, fun F1 le1 hz1 => ?_⟩
  replace har := har.mono le1
  replace hrs := hrs.mono le1
  replace ht := ht.mono le1
  have hf1 : IntsF F1 v1 ((inS ar rs t)) := intsH.fz (xs := (inS ar rs t)) hz1.fz
  refine qg (v1) rfl (qb (qr (qF (qi (qo (L' := L) [v1] (v1) (.tmp rfl .nil) rfl le1 rF (sD sR) ?_)))))
  exact ⟨_, rfl, by rw [placesL, if_pos (by assumption)]; exact hf1, rfl⟩
 refine qc (qa (cX (jq rfl rfl (qg (.bool (decide ((st : Int) = 2))) rfl (qb ?_)))))
 refine qA (p := (st : Int) = 2) rfl (fun h2 => ?_) (fun h2 => ?_)
 ·refine qc (qa (cX (qq [arv, rsv] qX qL rfl rfl (Rd.ownN [] rfl rfl) (qf (tv) rfl (cX (jD <| qp (args := [.agg #[arv, rsv], tv]) call247 rfl (sRedexesIn_spec har hrs ht (hla := (by first | assumption | rfl | omega | simp)) (hlr := (by first | assumption | rfl | omega | simp)) (hrb := (by first | assumption | rfl | omega | simp)) (hlt := (by first | assumption | rfl | omega | simp))) ?_))))))
  rintro v2 _ _ _ ⟨rfl, hs2, rfl⟩
  refine ⟨_, _, rfl, fun F2 le2 hz2 => ?_⟩
  replace har := har.mono le2
  replace hrs := hrs.mono le2
  replace ht := ht.mono le2
  have hf2 : IntsF F2 v2 ((redS ar rs t)) := intsH.fz (xs := (redS ar rs t)) hz2.fz
  refine qg (v2) rfl (qb (qr (qF (qi (qo (L' := L) [v2] (v2) (.tmp rfl .nil) rfl le2 rF (sD sR) ?_)))))
  exact ⟨_, rfl, by rw [placesL, if_neg (by assumption), if_pos (by assumption)]; exact hf2, rfl⟩
 refine qx (qc (qa (cX (qq [arv, rsv] qX qL rfl rfl (Rd.ownN [] rfl rfl) (qf (tv) rfl (cX (jD <| qp (args := [.agg #[arv, rsv], tv]) call247 rfl (sRedexesIn_spec har hrs ht (hla := (by first | assumption | rfl | omega | simp)) (hlr := (by first | assumption | rfl | omega | simp)) (hrb := (by first | assumption | rfl | omega | simp)) (hlt := (by first | assumption | rfl | omega | simp))) ?_)))))))
 rintro v3 _ _ _ ⟨rfl, hs3, rfl⟩
 refine ⟨_, _, rfl, fun F3 le3 hz3 => ?_⟩
 have hf3 : IntsF F3 v3 ((redS ar rs t)) := intsH.fz (xs := (redS ar rs t)) hz3.fz
 refine qg (v3) rfl (qb (qc (qc (qa (qf (v3) rfl (cX (qC qd rfl hf3.slv (cX (jA rfl rfl (qb ?_))))))))))
 refine qA (p := (((((redS ar rs t)).length : Nat) : Int) : Int) > 0) rfl (fun h3 => ?_) (fun h3 => ?_)
 ·refine qa (qf (v3) rfl (qf (v3) rfl (cX (qC qd rfl hf3.slv (cX (jf ((((((redS ar rs t)).length) - 1 : Nat) : Int)) rfl rfl (by omega) (by omega) (cX (XOp.sliceI ((((redS ar rs t)).length) - 1) (((redS ar rs t)).length) qd qw rfl hf3 ⟨_, rfl⟩ rfl (by omega) (by omega) ?_))))))))
  intro v4 hv1 hn1
  refine qg (v4) rfl (qb (qc (qa (qf (v4) rfl (qg (v4) rfl (qb (qr (qo (L' := L) [v4] (v4) (.tmp rfl .nil) rfl le3 rF (sD sR) ?_))))))))
  exact ⟨_, rfl, by rw [placesL, if_neg (by assumption), if_neg (by assumption)]; exact hv1, rfl⟩
 refine qx (qc (qa (qf (v3) rfl (qg (v3) rfl (qb (qr (qo (L' := L) [v3] (v3) (.tmp rfl .nil) rfl le3 rF (sD sR) ?_)))))))
 exact ⟨_, rfl, by rw [placesL, if_neg (by assumption), if_neg (by assumption)]; rw [lastL_nil (l := redS ar rs t) (by omega)]; exact hf3, rfl⟩

/- spec.l8Right -/
theorem l8Right_spec {F : FH} {L : List HP} {arv : Value} {ar : List Int} (har : IntsF F arv ar) {rsv : Value} {rs : List (List Int × List Int)} (hrs : PairsF F rsv rs) {tv : Value} {t : List Int} (ht : IntsF F tv t) {st : Int} (hla : ar.length ≤ 4000000) (hlr : rs.length ≤ 4000000) (hrb : ∀ i, i < rs.length → (rs.getD i ([], [])).1.length ≤ 4000000 ∧ (rs.getD i ([], [])).2.length ≤ 4000000) (hlt : t.length ≤ 4000000) :
    Does prog 192 [.agg #[arv, rsv], tv, ii (st)] F (L) (fun v F' L' => (.bool ((rightB ar rs t && decide (1 ≤ st ∧ st ≤ 3))) : Value) = v ∧ F = F' ∧ L = L') := by
 refine qD func192 rfl rfl rfl (qc (qa (cX (qW [arv, rsv] rfl rfl ?_))))
 intro b1
 refine qg (.bool (false)) rfl (qb (qc (qa (cX (qq [arv, rsv] qX qL rfl rfl (Rd.ownN [] rfl rfl) (qf (tv) rfl (cX (qp (args := [.agg #[arv, rsv], tv]) call61 rfl (l7Right_spec har hrs ht (hla := (by first | assumption | rfl | omega | simp)) (hlr := (by first | assumption | rfl | omega | simp)) (hrb := (by first | assumption | rfl | omega | simp)) (hlt := (by first | assumption | rfl | omega | simp))) ?_))))))))
 rintro _ _ _ _ ⟨rfl, rfl, rfl⟩
 refine qf (.bool (rightB ar rs t)) rfl ?_
 by_cases h1 : (rightB ar rs t) = true
 ·refine qt (t := 10) rfl (vB h1) (qm (ii (st)) rfl (qt (t := 10) rfl (vB h1) (qp (args := [ii (st), ii (1), ii (3)]) call112 rfl (l1In_spec (n := st) (a := 1) (b := 3)) ?_)))
  rintro _ _ _ _ ⟨rfl, rfl, rfl⟩
  refine cX (ja (.bool (decide (1 ≤ st ∧ st ≤ 3))) (vB h1) rfl (qg (.bool (decide (1 ≤ st ∧ st ≤ 3))) rfl (qb (qr (qo (L' := L) [.bool (decide (1 ≤ st ∧ st ≤ 3))] (.bool (decide (1 ≤ st ∧ st ≤ 3))) (.tmp rfl .nil) rfl rF rF (sD sR) ?_)))))
  exact ⟨(vB (by simp_all)), rfl, rfl⟩
 rw [Bool.not_eq_true] at h1
 refine qs (t := 10) rfl (vB h1) (qs (t := 10) rfl (vB h1) (cX (qV (.bool (false)) (vB h1) rfl (qg (.bool (false)) rfl (qb (qr (qo (L' := L) [.bool (false)] (.bool (false)) (.tmp rfl .nil) rfl rF rF (sD sR) ?_)))))))
 exact ⟨(vB (by simp_all)), rfl, rfl⟩

/- spec.PickBy -/
theorem sPickBy_spec {F : FH} {L : List HP} {arv : Value} {ar : List Int} (har : IntsF F arv ar) {rsv : Value} {rs : List (List Int × List Int)} (hrs : PairsF F rsv rs) {tv : Value} {t : List Int} (ht : IntsF F tv t) {st : Int} (hla : ar.length ≤ 4000000) (hlr : rs.length ≤ 4000000) (hrb : ∀ i, i < rs.length → (rs.getD i ([], [])).1.length ≤ 4000000 ∧ (rs.getD i ([], [])).2.length ≤ 4000000) (hlt : t.length ≤ 4000000) :
    Does prog 194 [.agg #[arv, rsv], tv, ii (st)] F (L) (fun v F' L' => (.tuple #[ii (pickAt ar rs t st), ii (pickRule ar rs t st), .bool (pickB ar rs t st)] : Value) = v ∧ F = F' ∧ L = L') := by
 refine qD func194 rfl rfl rfl (qc (qa (cX (qW [arv, rsv] rfl rfl ?_))))
 intro b1
 refine qg (ii (0)) rfl (qg (ii (0)) rfl (qg (.bool (false)) rfl (qb (qc (qc (qa (cX (qq [arv, rsv] qX qL rfl rfl (Rd.ownN [] rfl rfl) (qf (tv) rfl (qf (ii (st)) rfl (cX (qp (args := [.agg #[arv, rsv], tv, ii (st)]) call192 rfl (l8Right_spec (st := st) har hrs ht (hla := (by first | assumption | rfl | omega | simp)) (hlr := (by first | assumption | rfl | omega | simp)) (hrb := (by first | assumption | rfl | omega | simp)) (hlt := (by first | assumption | rfl | omega | simp))) ?_))))))))))))
 rintro _ _ _ _ ⟨rfl, rfl, rfl⟩
 refine cX (jt rfl (qb ?_))
 refine jB (t := !((rightB ar rs t && decide (1 ≤ st ∧ st ≤ 3)))) rfl (fun h1 => ?_) (fun h1 => ?_)
 ·refine qc (qa (qg (ii (0)) rfl (qg (ii (0)) rfl (qg (.bool (false)) rfl (qb (qr (qi (qo (L' := L) [ii (0), ii (0), .bool (false)] (.tuple #[ii (0), ii (0), .bool (false)]) (.tmp rfl (.tmp rfl (.tmp rfl .nil))) rfl rF rF (sD sR) ?_))))))))
  refine ⟨?_, rfl, rfl⟩
  have hz : pickB ar rs t st = false := pickB_no (by intro h; simp_all)
  rw [pickAt, pickRule, hz]; rfl
 have hri : rightB ar rs t = true ∧ (1 ≤ st ∧ st ≤ 3) := by simpa using h1
 have hsys := (right_iff.1 hri.1).1
 have ho := (right_iff.1 hri.1).2
 refine qx (qc (qa (cX (qq [arv, rsv] qX qL rfl rfl (Rd.ownN [] rfl rfl) (qf (tv) rfl (qf (ii (st)) rfl (cX (qp (args := [.agg #[arv, rsv], tv, ii (st)]) call231 rfl (l8Places_spec (st := st) har hrs ht (hla := (by first | assumption | rfl | omega | simp)) (hlr := (by first | assumption | rfl | omega | simp)) (hrb := (by first | assumption | rfl | omega | simp)) (hlt := (by first | assumption | rfl | omega | simp))) ?_))))))))
 rintro _ F1 _ le1 ⟨x1, rfl, hr1, rfl⟩
 replace har := har.mono le1
 replace hrs := hrs.mono le1
 replace ht := ht.mono le1
 refine qg (x1) rfl (qb (qc (qc (qa (qf (x1) rfl (cX (qC qd rfl hr1.slv (cX (jq rfl rfl (qb ?_))))))))))
 refine qA (p := ((((placesL ar rs t st).length : Nat) : Int) : Int) = 0) rfl (fun h2 => ?_) (fun h2 => ?_)
 ·refine qc (qa (qg (ii (0)) rfl (qg (ii (0)) rfl (qg (.bool (false)) rfl (qb (qr (qi (qo (L' := L) [ii (0), ii (0), .bool (false)] (.tuple #[ii (0), ii (0), .bool (false)]) (.tmp rfl (.tmp rfl (.tmp rfl .nil))) rfl rF le1 (sD sR) ?_))))))))
  refine ⟨?_, rfl, rfl⟩
  have hz : pickB ar rs t st = false := pickB_no (by intro h; exact h.2.2 ((places_nil st hri.1).1 (List.eq_nil_of_length_eq_zero (by omega))))
  rw [pickAt, pickRule, hz]; rfl
 have hne : redL ar rs t ≠ [] := fun e => by have := congrArg List.length ((places_nil st hri.1).2 e); simp only [List.length_nil] at this; omega
 have hpp := places_pick st hri.1 hne
 obtain ⟨q, hq1, hq2, hq3, _⟩ := (pick_spec (ar := ar) (rs := rs) (t := t) st).resolve_left (fun h => hne h.2)
 refine qx (qc ?_)
 refine jM [cellsH b1 [arv, rsv] 32] L 9 [] [[], [0], [1], [], [], [], [5], [6], [3, 4, 7]] (phiL [qe x1, qe (.pointer (some (elemA x1 (0)))), qe (ii ((placesL ar rs t st).getD 0 0)), qe (.agg #[arv, rsv]), qe tv, qe x1, qe (.pointer (some (elemA x1 (0)))), qe (ii ((placesL ar rs t st).getD 0 0)), qe (ii (ruleAtL ar rs t (((placesL ar rs t st).getD 0 0).toNat)))]) (ownL []) mixed rfl rfl (by kernel_rfl) ?_ ?_
 ·refine pD (fun W R z9 => ?_) ?_
  ·refine qh (qm (x1) rfl ?_)
   exact ⟨rfl, rfl, rfl⟩
  refine pD (fun W R z9 => ?_) ?_
  ·rw [eS (l := [(0, _)]) ⟨z9 0 rfl, ⟨⟩⟩]
   refine qh (qB 0 qd qw rfl rfl rfl hr1.slv (by omega) (Nat.mul_one _) ?_)
   exact ⟨rfl, rfl, rfl⟩
  refine pD (fun W R z9 => ?_) ?_
  ·rw [eS (l := [(1, _)]) ⟨z9 1 rfl, ⟨⟩⟩]
   refine qh (qj jj rfl (hr1.rd (by omega)) ?_)
   exact ⟨rfl, rfl, rfl⟩
  refine pD (fun W R z9 => ?_) ?_
  ·refine qh (qq [arv, rsv] qX qL rfl rfl (Rd.ownN [] rfl rfl) ?_)
   exact ⟨rfl, rfl, rfl⟩
  refine pD (fun W R z9 => ?_) ?_
  ·refine qh (qm (tv) rfl ?_)
   exact ⟨rfl, rfl, rfl⟩
  refine pD (fun W R z9 => ?_) ?_
  ·refine qh (qm (x1) rfl ?_)
   exact ⟨rfl, rfl, rfl⟩
  refine pD (fun W R z9 => ?_) ?_
  ·rw [eS (l := [(5, _)]) ⟨z9 5 rfl, ⟨⟩⟩]
   refine qh (qB 0 qd qw rfl rfl rfl hr1.slv (by omega) (Nat.mul_one _) ?_)
   exact ⟨rfl, rfl, rfl⟩
  refine pD (fun W R z9 => ?_) ?_
  ·rw [eS (l := [(6, _)]) ⟨z9 6 rfl, ⟨⟩⟩]
   refine qh (qj jj rfl (hr1.rd (by omega)) ?_)
   exact ⟨rfl, rfl, rfl⟩
  refine pD (fun W R z9 => ?_) ?_
  ·rw [eS (l := [(3, _), (4, _), (7, _)]) ⟨z9 3 rfl, z9 4 rfl, z9 7 rfl, ⟨⟩⟩]
   refine qh (qp (args := [.agg #[arv, rsv], tv, ii ((((placesL ar rs t st).getD 0 0).toNat : Nat) : Int)]) call232 (by rw [show ((((placesL ar rs t st).getD 0 0).toNat : Nat) : Int) = (placesL ar rs t st).getD 0 0 from by omega]; rfl) (l8Redex_spec (p := ((placesL ar rs t st).getD 0 0).toNat) har hrs ht (hsys := (by first | assumption | rfl | omega | simp)) (ho := (by first | assumption | rfl | omega | simp)) (hp := (by first | assumption | rfl | omega | simp))) ?_)
   rintro _ _ _ _ ⟨rfl, rfl, rfl⟩
   exact ⟨rfl, rfl, rfl⟩
  exact stepsP.nil
 intro W hphi
 rw [eS (l := [(2, _), (8, _)]) ⟨(hphi 2 (by decide)), (hphi 8 (by decide)), ⟨⟩⟩]
 show XL _ _ _ _ _ _ _ (cellsH b1 [arv, rsv] 32 :: L)
 refine qg (ii ((placesL ar rs t st).getD 0 0)) rfl (qg (ii (ruleAtL ar rs t (((placesL ar rs t st).getD 0 0).toNat))) rfl (qg (.bool (true)) rfl (qb (qr (qo (L' := L) [ii ((placesL ar rs t st).getD 0 0), ii (ruleAtL ar rs t (((placesL ar rs t st).getD 0 0).toNat)), .bool (true)] (.tuple #[ii ((placesL ar rs t st).getD 0 0), ii (ruleAtL ar rs t (((placesL ar rs t st).getD 0 0).toNat)), .bool (true)]) (.tmp rfl (.tmp rfl (.tmp rfl .nil))) rfl rF le1 (sD sR) ?_)))))
 refine ⟨?_, rfl, rfl⟩
 have hz : pickB ar rs t st = true := pickB_iff.2 ⟨hri.1, hri.2, hne⟩
 rw [pickAt, pickRule, hz, if_pos rfl, if_pos rfl, hpp]

/- spec.l2Filled -/
theorem l2Filled_spec {F : FH} {L : List HP} {sv : Value} {s : List (List Int)} (hs : RowsF F sv s) {tv : Value} {t : List Int} (ht : IntsF F tv t) (hsl : s.length ≤ 4000000) (hsb : ∀ i, (s.getD i []).length ≤ 4000000) (htl : t.length ≤ 4000000) (htg : ∀ k, k < t.length → -4000000 ≤ t.getD k 0) :
    Does prog 77 [.agg #[sv], tv] F (L) (fun v F' L' => ∃ (a : Value), (.tuple #[a, .bool ((fillL s t).isSome)] : Value) = v ∧ (IntsF F' a ((fillL s t).getD [])) ∧ L = L') := by
 refine qD func77 rfl rfl rfl (qc (qa (cX (qW [sv] rfl rfl ?_))))
 intro b1
 refine qg (sN) rfl (qg (.bool (false)) rfl (qb (qc (qa (cX (ql (s := 1) [] [ii (0)] [] qd qw qG rfl (by decide) rfl CellsAre.nil rfl ?_))))))
 intro v1 hv1
 refine qg (v1) rfl (qb (qc (qc (qa (qg (ii (0)) rfl (qb (qI (jm (α := Nat × Value × List Int) (fun xQ => [(1, tv), (2, ptr b1 0), (6, xQ.2.1), (7, ii (((xQ.1 : Nat) : Int)))]) (fun xQ => intsH 2 xQ.2.1 xQ.2.2 :: cellsH b1 [sv] 50 :: L) (fun xQ F' => F = F' ∧ (IsSl xQ.2.1) ∧ (xQ.1 ≤ t.length) ∧ (fillL s t = fillGo s (t.drop xQ.1) xQ.2.2) ∧ (xQ.2.2.length ≤ 60)) (fun xQ => t.length - xQ.1) (0, v1, []) ⟨rfl, rfl, rfl, rfl, ⟨⟩⟩ (sC (sC sR)) ⟨rfl, ((qS hv1)), (by (try dsimp only) <;> omega), (rfl), (by simp)⟩ ?_))))))))
 rintro ⟨k, ov, os⟩ rE _ _ ⟨rfl, hov, hk, hm, hol⟩
 show X _ _ _ _ (envs [(1, tv), (2, ptr b1 0), (6, ov), (7, ii ((k : Int)))] rE) _ (intsH 2 ov os :: cellsH b1 [sv] 50 :: L)
 dsimp only at hov hk hm hol
 have htk := htg k
 have hlk0 := lk_bound (N := 4000000) (by omega) hsb (-1 - (((-1 - t.getD k 0).toNat : Nat) : Int))
 refine qc (qc (qa (qf (ii ((k : Int))) rfl (qf (tv) rfl (cX (qC qd rfl ht.slv (cX (qZ rfl rfl (qb ?_)))))))))
 refine qA (p := (k : Int) < (t.length : Int)) rfl (fun h1 => ?_) (fun h1 => ?_)
 ·refine qx (qc (qI (qc (qc (qa (qf (tv) rfl (qf (ii ((k : Int))) rfl (cX (qB k qd qw rfl rfl rfl ht.slv (by omega) (Nat.mul_one _) (cX (qj jj rfl (ht.rd (by omega)) (cX (qZ rfl rfl (qb ?_))))))))))))))
  refine qA (p := (t.getD k 0 : Int) < 0) rfl (fun h2 => ?_) (fun h2 => ?_)
  ·refine X.drawG [intsH 2 ov os, cellsH b1 [sv] 50] L 8 [] [[], [], [], [], [2, 3], [4], [5], [1, 6]] [] (phiG [pe ov, pe (.agg #[sv]), pe tv, pe (ii ((k : Int)) : Value), pe (.pointer (some (elemA tv (k)))), pe (ii (t.getD k 0)), pe (ii ((-1) - (t.getD k 0))), fun FF us v => ((v) : Value) = v ∧ (IntsF FF (v) (lk s (-1 - ((((-1) - (t.getD k 0)).toNat) : Int))))]) (ownL []) mixed rfl rfl (by kernel_rfl) (by kernel_rfl) (MonoG.get (m1 (m1 (m1 (m1 (m1 (m1 (m1 (mC (fun le h => ⟨h.1, h.2.mono le⟩) MonoG.nil))))))))) ?_ ?_
   ·refine gD (fun W Fs R lF z9 => ?_) ?_
    ·refine qh (qm (ov) rfl ?_)
     exact ⟨rfl, rfl⟩
    refine gD (fun W Fs R lF z9 => ?_) ?_
    ·replace hs := hs.mono lF
     replace ht := ht.mono lF
     refine qh (qq [sv] isAgg50 ji rfl rfl (Rd.ownN [_] rfl rfl) ?_)
     exact ⟨rfl, rfl⟩
    refine gD (fun W Fs R lF z9 => ?_) ?_
    ·refine qh (qm (tv) rfl ?_)
     exact ⟨rfl, rfl⟩
    refine gD (fun W Fs R lF z9 => ?_) ?_
    ·refine qh (qm (ii ((k : Int))) rfl ?_)
     exact ⟨rfl, rfl⟩
    refine gD (fun W Fs R lF z9 => ?_) ?_
    ·replace hs := hs.mono lF
     replace ht := ht.mono lF
     rw [eS (l := [(2, _), (3, _)]) ⟨z9 2 rfl, z9 3 rfl, ⟨⟩⟩]
     refine qh (qB k qd qw rfl rfl rfl ht.slv (by omega) (Nat.mul_one _) ?_)
     exact ⟨rfl, rfl⟩
    refine gD (fun W Fs R lF z9 => ?_) ?_
    ·replace hs := hs.mono lF
     replace ht := ht.mono lF
     rw [eS (l := [(4, _)]) ⟨z9 4 rfl, ⟨⟩⟩]
     refine qh (qj jj rfl (ht.rd (by omega)) ?_)
     exact ⟨rfl, rfl⟩
    refine gD (fun W Fs R lF z9 => ?_) ?_
    ·rw [eS (l := [(5, _)]) ⟨z9 5 rfl, ⟨⟩⟩]
     refine qh (jf ((-1) - (t.getD k 0)) rfl rfl (by omega) (by omega) ?_)
     exact ⟨rfl, rfl⟩
    refine gD (fun W Fs R lF z9 => ?_) ?_
    ·replace hs := hs.mono lF
     replace ht := ht.mono lF
     rw [eS (l := [(1, _), (6, _)]) ⟨z9 1 rfl, z9 6 rfl, ⟨⟩⟩]
     refine qh (jD <| qp (args := [.agg #[sv], ii ((((-1) - (t.getD k 0)).toNat : Nat) : Int)]) call145 (by rw [show ((((-1) - (t.getD k 0)).toNat : Nat) : Int) = (-1) - (t.getD k 0) from by omega]; rfl) (l2Gives_spec (i := ((-1) - (t.getD k 0)).toNat) hs (hsl := (by first | assumption | rfl | omega | simp)) (hi := (by first | assumption | rfl | omega | simp)) (hsb := (hsb _))) ?_)
     rintro v3 _ _ _ ⟨rfl, hs2, rfl⟩
     refine ⟨_, _, rfl, fun F1 le1 hz1 => ?_⟩
     replace ht := ht.mono le1
     have hf1 : IntsF F1 v3 ((lk s (-1 - ((((-1) - (t.getD k 0)).toNat) : Int)))) := intsH.fz (xs := (lk s (-1 - ((((-1) - (t.getD k 0)).toNat) : Int)))) hz1.fz
     exact ⟨⟨rfl, hf1⟩, rfl⟩
    exact stepsG.nil
   intro W F2 le2 hphi
   obtain ⟨e7, f7_1ha⟩ := hphi 7 (by decide)
   generalize hu1 : ((W 7)) = u1 at e7 f7_1ha
   rw [eS (l := [(0, _), (7, u1)]) ⟨(hphi 0 (by decide)), hu1, ⟨⟩⟩]
   replace ht := ht.mono le2
   show XL _ _ _ _ _ _ _ (intsH 2 ov os :: cellsH b1 [sv] 50 :: L)
   refine cX (jP [] _ qd typeInfo2 rfl rfl rfl rfl rfl rfl f7_1ha (by (try simp only [List.length_append, List.length_nil, List.length_cons, List.length_singleton, List.length_take, List.length_drop]); omega) ?_)
   intro v4 hs3 hn1 hm1
   refine qg (v4) rfl (qb (qc (qa (qf (v4) rfl (cX (qC qd rfl (intsH.slv [] rfl) (cX (jA rfl rfl (qb ?_)))))))))
   refine qA (p := ((((os ++ ((lk s (-1 - ((((-1) - (t.getD k 0)).toNat) : Int))))).length : Nat) : Int) : Int) > 60) rfl (fun h3 => ?_) (fun h3 => ?_)
   ·refine qc (qa (cX (ql (s := 1) [] [ii (0)] [] qd qw qG rfl (by decide) rfl CellsAre.nil rfl ?_)))
    intro v5 hv2
    refine qg (v5) rfl (qg (.bool (false)) rfl (qb ?_))
    show X _ _ _ _ _ _ (intsH 2 v5 ([] : List Int) :: intsH 2 v4 (os ++ ((lk s (-1 - ((((-1) - (t.getD k 0)).toNat) : Int))))) :: cellsH b1 [sv] 50 :: L)
    refine qH [] _ _ rfl (fun F3 le3 hz2 => ?_)
    replace ht := ht.mono le3
    have hf2 : IntsF F3 v5 ([]) := intsH.fz (xs := []) hz2.fz
    refine qr (qF (qi (qi (qF (qi (qo (L' := L) [v5, .bool (false)] (.tuple #[v5, .bool (false)]) (.tmp rfl (.tmp rfl .nil)) rfl (qk le2 le3) rF (sD (sD sR)) ?_))))))
    have hz : fillL s t = none := hm.trans (fillGo_long (a := os ++ ((lk s (-1 - ((((-1) - (t.getD k 0)).toNat) : Int))))) (by omega) (by rw [show (-1 - (((-1 - t.getD k 0).toNat : Nat) : Int)) = t.getD k 0 from by omega]) (by omega))
    exact ⟨_, by rw [hz]; rfl, by rw [hz]; exact hf2, rfl⟩
   refine qx (qa (qf (ii ((k : Int))) rfl (cX (qK (((k + 1 : Nat) : Int)) rfl rfl (by omega) (by omega) (qg (ii (((k + 1 : Nat) : Int))) rfl (qb ?_))))))
   exact ⟨(k + 1, v4, os ++ ((lk s (-1 - ((((-1) - (t.getD k 0)).toNat) : Int))))), _, FLe.refl _, le2, ⟨rfl, rfl, rfl, rfl, ⟨⟩⟩, (sC (sC sR)), ⟨rfl, (hs3), (by (try dsimp only) <;> omega), (by dsimp only; exact hm.trans (fillGo_next (by omega) (by rw [show (-1 - (((-1 - t.getD k 0).toNat : Nat) : Int)) = t.getD k 0 from by omega]) (by omega))), (by dsimp only; omega)⟩, (by omega)⟩
  refine qa (qf (ov) rfl (qf (tv) rfl (qf (ii ((k : Int))) rfl (cX (qB k qd qw rfl rfl rfl ht.slv (by omega) (Nat.mul_one _) (cX (qj jj rfl (ht.rd (by omega)) (cX (ql (s := 1) [ii (t.getD k 0)] [ii (0)] [(0, [ii (t.getD k 0)])] qd qw qG rfl (by decide) rfl (.cons rfl CellsAre.nil) rfl ?_)))))))))
  intro v6 hv3
  refine cX (XOp.append1 (u := t.getD k 0) [_] _ qd typeInfo2 rfl rfl rfl rfl rfl rfl (SlV.own [] rfl) (Rd.sl [] rfl rfl) (by (try simp only [List.length_append, List.length_nil, List.length_cons, List.length_singleton, List.length_take, List.length_drop]); omega) ?_)
  intro v7 hs4 hn2
  refine qg (v7) rfl (qb (qc (qa (qf (v7) rfl (cX (qC qd rfl (intsH.slv [_] rfl) (cX (jA rfl rfl (qb ?_)))))))))
  refine qA (p := ((((os ++ [t.getD k 0]).length : Nat) : Int) : Int) > 60) rfl (fun h4 => ?_) (fun h4 => ?_)
  ·refine qc (qa (cX (ql (s := 1) [] [ii (0)] [] qd qw qG rfl (by decide) rfl CellsAre.nil rfl ?_)))
   intro v8 hv4
   refine qg (v8) rfl (qg (.bool (false)) rfl (qb ?_))
   show X _ _ _ _ _ _ (intsH 2 v8 ([] : List Int) :: slH 2 1 v6 1 [ii (t.getD k 0)] :: intsH 2 v7 (os ++ [t.getD k 0]) :: cellsH b1 [sv] 50 :: L)
   refine qH [] _ _ rfl (fun F4 le4 hz3 => ?_)
   have hf3 : IntsF F4 v8 ([]) := intsH.fz (xs := []) hz3.fz
   refine qr (qF (qi (qi (qF (qi (qo (L' := L) [v8, .bool (false)] (.tuple #[v8, .bool (false)]) (.tmp rfl (.tmp rfl .nil)) rfl le4 rF (sD (sD (sD sR))) ?_))))))
   have hz : fillL s t = none := hm.trans (fillGo_long (a := os ++ [t.getD k 0]) (by omega) (by rw [lk_sym (by omega)]) (by omega))
   exact ⟨_, by rw [hz]; rfl, by rw [hz]; exact hf3, rfl⟩
  refine qx (qa (qf (ii ((k : Int))) rfl (cX (qK (((k + 1 : Nat) : Int)) rfl rfl (by omega) (by omega) (qg (ii (((k + 1 : Nat) : Int))) rfl (qb ?_))))))
  exact ⟨(k + 1, v7, os ++ [t.getD k 0]), _, FLe.refl _, rF, ⟨rfl, rfl, rfl, rfl, ⟨⟩⟩, (sD (sC (sC sR))), ⟨rfl, (hs4), (by (try dsimp only) <;> omega), (by dsimp only; exact hm.trans (fillGo_next (by omega) (by rw [lk_sym (by omega)]) (by omega))), (by dsimp only; omega)⟩, (by omega)⟩
 refine je (qv (qv (qN (qc (qa (qf (ov) rfl (qg (ov) rfl (qg (.bool (true)) rfl (qb (qH [] _ _ rfl (fun F5 le5 hz4 => ?_)))))))))))
 have hf4 : IntsF F5 ov os := intsH.fz (xs := os) hz4.fz
 refine qr (qo (L' := L) [ov, .bool (true)] (.tuple #[ov, .bool (true)]) (.tmp rfl (.tmp rfl .nil)) rfl le5 rF (sD sR) ?_)
 have hz : fillL s t = some os := hm.trans (fillGo_done (by omega))
 exact ⟨_, by rw [hz]; rfl, by rw [hz]; exact hf4, rfl⟩

/- spec.l3Put -/
theorem l3Put_spec {F : FH} {L : List HP} {arv : Value} {ar : List Int} (har : IntsF F arv ar) {tv : Value} {t : List Int} (ht : IntsF F tv t) {p : Nat} {uv : Value} {u : List Int} (hu : IntsF F uv u) (ho : termOk ar t = true) (hp : p < t.length) (hul : u.length ≤ 4000000) :
    Does prog 175 [.agg #[arv], tv, ii ((p : Int)), uv] F (L) (fun v F' L' => ∃ (a : Value), (.tuple #[a, .bool ((putL ar t p u).isSome)] : Value) = v ∧ (IntsF F' a ((putL ar t p u).getD [])) ∧ L = L') := by
 refine qD func175 rfl rfl rfl ?_
 have hsig := termOk_sig ho
 have hsl := sigOk_spec hsig
 have htl := termOk_len ho
 have hee := endN_spec ho hp
 refine qc (qa (cX (qW [arv] rfl rfl ?_)))
 intro b1
 refine qg (sN) rfl (qg (.bool (false)) rfl (qb (qc (qa (qf (tv) rfl (qf (ii ((p : Int))) rfl (cX (XOp.sliceI 0 p qd qw rfl ht rfl ⟨_, rfl⟩ (by omega) (by omega) ?_))))))))
 intro v1 hv1 hn1
 refine cX (qp (args := [v1]) call193 rfl (l1Copy_spec hv1 (hlt := (by simp; omega))) ?_)
 rintro v2 _ _ _ ⟨rfl, hs1, rfl⟩
 refine qf (uv) rfl (cX (jP [] _ qd typeInfo2 rfl rfl rfl rfl rfl rfl hu (by (try simp only [List.length_append, List.length_nil, List.length_cons, List.length_singleton, List.length_take, List.length_drop]); omega) ?_))
 intro v3 hs2 hn2 hm1
 refine qg (v3) rfl (qb (qc (qa (qf (v3) rfl (qf (tv) rfl (cX (qq [arv] jk qP rfl rfl (Rd.ownN [_] rfl rfl) (qf (tv) rfl (qf (ii ((p : Int))) rfl (cX (qp (args := [.agg #[arv], tv, ii (p : Int)]) call152 rfl (l1End_ok (p := p) har ht (ho := (by first | assumption | rfl | omega | (left; simp; done) | (right; simp; done))) (hp := (by first | assumption | rfl | omega | (left; simp; done) | (right; simp; done)))) ?_)))))))))))
 rintro _ _ _ _ ⟨rfl, rfl, rfl⟩
 refine cX (XOp.sliceI (endN ar t p) ((t).length) qd qw rfl ht ⟨_, rfl⟩ rfl (by omega) (by omega) ?_)
 intro v4 hv2 hn3
 refine cX (jP [] _ qd typeInfo2 rfl rfl rfl rfl rfl rfl hv2 (by (try simp only [List.length_append, List.length_nil, List.length_cons, List.length_singleton, List.length_take, List.length_drop]); omega) ?_)
 intro v5 hs3 hn4 hm2
 refine qg (v5) rfl (qb (qc (qc (qa (qf (v5) rfl (cX (qC qd rfl (intsH.slv [] rfl) (cX (jA rfl rfl (qb ?_))))))))))
 refine qA (p := ((((((((((t.drop 0).take (p - 0))))) ++ u) ++ (((t.drop (endN ar t p)).take (((t).length) - (endN ar t p))))).length : Nat) : Int) : Int) > 60) rfl (fun h1 => ?_) (fun h1 => ?_)
 ·refine qc (qa (cX (ql (s := 1) [] [ii (0)] [] qd qw qG rfl (by decide) rfl CellsAre.nil rfl ?_)))
  intro v6 hv3
  refine qg (v6) rfl (qg (.bool (false)) rfl (qb ?_))
  show X _ _ _ _ _ _ (intsH 2 v6 ([] : List Int) :: intsH 2 v5 (((((((t.drop 0).take (p - 0))))) ++ u) ++ (((t.drop (endN ar t p)).take (((t).length) - (endN ar t p))))) :: cellsH b1 [arv] 29 :: L)
  refine qH [] _ _ rfl (fun F1 le1 hz1 => ?_)
  have hf1 : IntsF F1 v6 ([]) := intsH.fz (xs := []) hz1.fz
  refine qr (qi (qo (L' := L) [v6, .bool (false)] (.tuple #[v6, .bool (false)]) (.tmp rfl (.tmp rfl .nil)) rfl le1 rF (sD (sD sR)) ?_))
  have hz : putL ar t p u = none := putL_none put_three (by omega)
  exact ⟨_, by rw [hz]; rfl, by rw [hz]; exact hf1, rfl⟩
 refine qx (qc (qa (qf (v5) rfl (qg (v5) rfl (qg (.bool (true)) rfl (qb (qH [] _ _ rfl (fun F2 le2 hz2 => ?_))))))))
 have hf2 : IntsF F2 v5 (((((((t.drop 0).take (p - 0))))) ++ u) ++ (((t.drop (endN ar t p)).take (((t).length) - (endN ar t p))))) := intsH.fz (xs := ((((((t.drop 0).take (p - 0))))) ++ u) ++ (((t.drop (endN ar t p)).take (((t).length) - (endN ar t p))))) hz2.fz
 refine qr (qo (L' := L) [v5, .bool (true)] (.tuple #[v5, .bool (true)]) (.tmp rfl (.tmp rfl .nil)) rfl le2 rF (sD sR) ?_)
 have hz := putL_some (ar := ar) (t := t) (p := p) (u := u) put_three (by omega)
 exact ⟨_, by rw [hz]; rfl, by rw [hz]; exact hf2, rfl⟩

/- spec.l7Step -/
theorem l7Step_spec {F : FH} {L : List HP} {arv : Value} {ar : List Int} (har : IntsF F arv ar) {rsv : Value} {rs : List (List Int × List Int)} (hrs : PairsF F rsv rs) {tv : Value} {t : List Int} (ht : IntsF F tv t) {p : Nat} {r : Nat} (hsys : sysOk ar rs = true) (ho : termOk ar t = true) (hp : p < t.length) (hr : r < rs.length) :
    Does prog 113 [.agg #[arv, rsv], tv, ii ((p : Int)), ii ((r : Int))] F (L) (fun v F' L' => ∃ (a : Value), (.tuple #[a, .bool ((stepL ar rs t p r).isSome)] : Value) = v ∧ (IntsF F' a ((stepL ar rs t p r).getD [])) ∧ L = L') := by
 refine qD func113 rfl rfl rfl ?_
 have hnn := jv ht (by have := termOk_len ho; omega)
 have htl := termOk_len ho
 have hrl := (sysOk_iff.1 hsys).2.1
 have hsig := (sysOk_iff.1 hsys).1
 have hsl := sigOk_spec hsig
 have hR := ruleOk_iff.1 ((sysOk_iff.1 hsys).2.2 r hr)
 have hRl := hR.left
 have hRr := hR.right
 have hso := sub_ok ho hp
 have hsb := sub_length ho hp
 have hee := endN_spec ho hp
 have hRrl := termOk_len hRr
 have hRg := fun k (hk : k < (rs.getD r ([], [])).2.length) => termOk_ge hRr hk
 have hmp := matchP_len (ar := ar) (p := (rs.getD r ([], [])).1) (t := sub ar t p)
 have hmp2 := hmp.2
 have hmp3 := hmp.1
 refine qc (qa (cX (qW [arv, rsv] rfl rfl ?_)))
 intro b1
 refine qg (sN) rfl (qg (.bool (false)) rfl (qb (qc (qa (cX (qn (1) qJ rfl ju (by decide) rfl rfl (cX (qj isAgg30 rfl (Rd.own [] rfl rfl) (qf (ii ((r : Int))) rfl (cX (qB r jb jF rfl rfl rfl hrs.slv (by omega) rfl ?_)))))))))))
 obtain ⟨a1, a2, ha1, ha2, hr1, hr2⟩ := hrs.rd (i := r) (by omega)
 refine cX (qq [a1, a2] isAgg72 jF rfl rfl (Rd.two (hr1 _) (hr2 _)) (cX (jh [sN, sN] jg rfl ?_)))
 intro b2
 refine cX (qR [] _ [a1, a2] jF rfl rfl rfl (qz (qM (qE ha1)) (qz (qM (qE ha2)) qU)) rfl rfl rfl (qb (qc ?_)))
 refine X.drawG [cellsH b2 [a1, a2] 72, cellsH b1 [arv, rsv] 32] L 15 [[], [], [], [], [], [], [], [], [], [], [9], [9], [], [], [9, 13]] [[], [0], [], [2], [], [4], [], [], [5, 6, 7], [1, 3, 8], [9], [9, 10], [9, 10], [], [9, 11, 13]] [[], [], [], [], [], [], [], [], [], [], [], [], [], [], [13]] (phiG [pe (ptr b1 0), pe (.agg #[arv]), pe (ptr b2 0), pe a1, pe (ptr b1 0), pe (.agg #[arv]), pe tv, pe (ii ((p : Int)) : Value), fun FF us v => ((v) : Value) = v ∧ (IntsF FF (v) (sub ar t p)), fun FF us v => (.tuple #[.agg #[((aggAt (tupAt v 0) 0))], .bool ((matchB ar ((rs.getD r ([], [])).1) ((sub ar t p))).isSome)] : Value) = v ∧ (RowsF FF ((aggAt (tupAt v 0) 0)) (matchP ar ((rs.getD r ([], [])).1) ((sub ar t p)))), fun FF us v => v = (.tuple #[.agg #[((aggAt (tupAt (us.getD 0 undef) 0) 0))], .bool ((matchB ar ((rs.getD r ([], [])).1) ((sub ar t p))).isSome)] : Value), fun FF us v => v = (.agg #[((aggAt (tupAt (us.getD 0 undef) 0) 0))] : Value), pe (.bool ((matchB ar ((rs.getD r ([], [])).1) ((sub ar t p))).isSome)), fun FF us v => v = ptr (blk v) 0, fun FF us v => True]) (ownL [o0, o0, o0, o0, o0, o0, o0, o0, o0, o0, o0, o0, o0, fun us v => [cellsH (blk v) [sN] 50], fun us v => [cellsH (blk (us.getD 1 undef)) [((aggAt (tupAt (us.getD 0 undef) 0) 0))] 50]]) mixed rfl rfl (by kernel_rfl) (by kernel_rfl) (MonoG.get (m1 (m1 (m1 (m1 (m1 (m1 (m1 (m1 (mC (fun le h => ⟨h.1, h.2.mono le⟩) (mC (fun le h => ⟨h.1, h.2.mono le⟩) (mC (fun le h => h) (mC (fun le h => h) (m1 (mC (fun le h => h) (mC (fun le h => h) MonoG.nil)))))))))))))))) ?_ ?_
 ·refine gD (fun W Fs R lF z9 => ?_) ?_
  ·refine qh (qn (0) qJ rfl qP (by decide) rfl rfl ?_)
   exact ⟨rfl, rfl⟩
  refine gD (fun W Fs R lF z9 => ?_) ?_
  ·replace har := har.mono lF
   replace ht := ht.mono lF
   replace ha1 := ha1.mono lF
   replace ha2 := ha2.mono lF
   rw [eS (l := [(0, _)]) ⟨z9 0 rfl, ⟨⟩⟩]
   refine qh (qq [arv] jk qP rfl rfl (Rd.ownN [_] rfl rfl) ?_)
   exact ⟨rfl, rfl⟩
  refine gD (fun W Fs R lF z9 => ?_) ?_
  ·refine qh (qn (0) qO rfl qu (by decide) rfl rfl ?_)
   exact ⟨rfl, rfl⟩
  refine gD (fun W Fs R lF z9 => ?_) ?_
  ·replace har := har.mono lF
   replace ht := ht.mono lF
   replace ha1 := ha1.mono lF
   replace ha2 := ha2.mono lF
   rw [eS (l := [(2, _)]) ⟨z9 2 rfl, ⟨⟩⟩]
   refine qh (qj qY rfl (Rd.own [] rfl rfl) ?_)
   exact ⟨rfl, rfl⟩
  refine gD (fun W Fs R lF z9 => ?_) ?_
  ·refine qh (qn (0) qJ rfl qP (by decide) rfl rfl ?_)
   exact ⟨rfl, rfl⟩
  refine gD (fun W Fs R lF z9 => ?_) ?_
  ·replace har := har.mono lF
   replace ht := ht.mono lF
   replace ha1 := ha1.mono lF
   replace ha2 := ha2.mono lF
   rw [eS (l := [(4, _)]) ⟨z9 4 rfl, ⟨⟩⟩]
   refine qh (qq [arv] jk qP rfl rfl (Rd.ownN [_] rfl rfl) ?_)
   exact ⟨rfl, rfl⟩
  refine gD (fun W Fs R lF z9 => ?_) ?_
  ·refine qh (qm (tv) rfl ?_)
   exact ⟨rfl, rfl⟩
  refine gD (fun W Fs R lF z9 => ?_) ?_
  ·refine qh (qm (ii ((p : Int))) rfl ?_)
   exact ⟨rfl, rfl⟩
  refine gD (fun W Fs R lF z9 => ?_) ?_
  ·replace har := har.mono lF
   replace ht := ht.mono lF
   replace ha1 := ha1.mono lF
   replace ha2 := ha2.mono lF
   rw [eS (l := [(5, _), (6, _), (7, _)]) ⟨z9 5 rfl, z9 6 rfl, z9 7 rfl, ⟨⟩⟩]
   refine qh (jD <| qp (args := [.agg #[arv], tv, ii (p : Int)]) call174 rfl (l1Sub_spec (p := p) har ht (ho := (by first | assumption | rfl | omega | simp)) (hp := (by first | assumption | rfl | omega | simp))) ?_)
   rintro v2 _ _ _ ⟨rfl, hs2, rfl⟩
   refine ⟨_, _, rfl, fun F2 le2 hz1 => ?_⟩
   replace har := har.mono le2
   replace ht := ht.mono le2
   replace ha1 := ha1.mono le2
   replace ha2 := ha2.mono le2
   have hf1 : IntsF F2 v2 ((sub ar t p)) := intsH.fz (xs := (sub ar t p)) hz1.fz
   exact ⟨⟨rfl, hf1⟩, rfl⟩
  refine gD (fun W Fs R lF z9 => ?_) ?_
  ·obtain ⟨e8, f8_1ha⟩ := z9 8 rfl
   replace har := har.mono lF
   replace ht := ht.mono lF
   replace ha1 := ha1.mono lF
   replace ha2 := ha2.mono lF
   rw [eS (l := [(1, _), (3, _), (8, ((W 8)))]) ⟨z9 1 rfl, z9 3 rfl, (e8).symm, ⟨⟩⟩]
   refine qh (qp (args := [.agg #[arv], a1, ((W 8))]) call120 rfl (l4Match_spec har ha1 f8_1ha (ho := (by first | assumption | rfl | omega | simp)) (hpo := (by first | assumption | rfl | omega | simp))) ?_)
   rintro _ F3 _ le3 ⟨x2, rfl, hr4, rfl⟩
   replace har := har.mono le3
   replace ht := ht.mono le3
   replace ha2 := ha2.mono le3
   replace f8_1ha := f8_1ha.mono le3
   exact ⟨⟨rfl, hr4⟩, rfl⟩
  refine gD (fun W Fs R lF z9 => ?_) ?_
  ·obtain ⟨e9, f9_1hr⟩ := z9 9 rfl
   rw [eS (l := [(9, (.tuple #[.agg #[((aggAt (tupAt (W 9) 0) 0))], .bool ((matchB ar ((rs.getD r ([], [])).1) ((sub ar t p))).isSome)]))]) ⟨(e9).symm, ⟨⟩⟩]
   refine qh (qm (.tuple #[.agg #[((aggAt (tupAt (W 9) 0) 0))], .bool ((matchB ar ((rs.getD r ([], [])).1) ((sub ar t p))).isSome)]) rfl ?_)
   exact ⟨rfl, rfl⟩
  refine gD (fun W Fs R lF z9 => ?_) ?_
  ·obtain ⟨e9, f9_1hr⟩ := z9 9 rfl
   have e10 : W 10 = (.tuple #[.agg #[((aggAt (tupAt (W 9) 0) 0))], .bool ((matchB ar ((rs.getD r ([], [])).1) ((sub ar t p))).isSome)] : Value) := z9 10 rfl
   rw [eS (l := [(9, (.tuple #[.agg #[((aggAt (tupAt (W 9) 0) 0))], .bool ((matchB ar ((rs.getD r ([], [])).1) ((sub ar t p))).isSome)])), (10, (.tuple #[.agg #[((aggAt (tupAt (W 9) 0) 0))], .bool ((matchB ar ((rs.getD r ([], [])).1) ((sub ar t p))).isSome)]))]) ⟨(e9).symm, e10, ⟨⟩⟩]
   refine qh (qT (.agg #[((aggAt (tupAt (W 9) 0) 0))]) rfl rfl ?_)
   exact ⟨rfl, rfl⟩
  refine gD (fun W Fs R lF z9 => ?_) ?_
  ·obtain ⟨e9, f9_1hr⟩ := z9 9 rfl
   have e10 : W 10 = (.tuple #[.agg #[((aggAt (tupAt (W 9) 0) 0))], .bool ((matchB ar ((rs.getD r ([], [])).1) ((sub ar t p))).isSome)] : Value) := z9 10 rfl
   rw [eS (l := [(9, (.tuple #[.agg #[((aggAt (tupAt (W 9) 0) 0))], .bool ((matchB ar ((rs.getD r ([], [])).1) ((sub ar t p))).isSome)])), (10, (.tuple #[.agg #[((aggAt (tupAt (W 9) 0) 0))], .bool ((matchB ar ((rs.getD r ([], [])).1) ((sub ar t p))).isSome)]))]) ⟨(e9).symm, e10, ⟨⟩⟩]
   refine qh (qT (.bool ((matchB ar ((rs.getD r ([], [])).1) ((sub ar t p))).isSome)) rfl rfl ?_)
   exact ⟨rfl, rfl⟩
  refine gD (fun W Fs R lF z9 => ?_) ?_
  ·replace har := har.mono lF
   replace ht := ht.mono lF
   replace ha2 := ha2.mono lF
   refine qh (jh [sN] jx rfl ?_)
   intro b4
   exact ⟨rfl, rfl⟩
  refine gD (fun W Fs R lF z9 => ?_) ?_
  ·obtain ⟨e9, f9_1hr⟩ := z9 9 rfl
   have e11 : W 11 = (.agg #[((aggAt (tupAt (W 9) 0) 0))] : Value) := z9 11 rfl
   have e13 : W 13 = ptr (blk (W 13)) 0 := z9 13 rfl
   replace har := har.mono lF
   replace ht := ht.mono lF
   replace ha2 := ha2.mono lF
   rw [eS (l := [(9, (.tuple #[.agg #[((aggAt (tupAt (W 9) 0) 0))], .bool ((matchB ar ((rs.getD r ([], [])).1) ((sub ar t p))).isSome)])), (11, (.agg #[((aggAt (tupAt (W 9) 0) 0))])), (13, ptr (blk (W 13)) 0)]) ⟨(e9).symm, e11, e13, ⟨⟩⟩]
   show XG _ _ _ _ _ (cellsH (blk (W 13)) [sN] 50 :: ([cellsH b2 [a1, a2] 72, cellsH b1 [arv, rsv] 32] ++ R)) _
   refine qh (qR [] _ [((aggAt (tupAt (W 9) 0) 0))] ji rfl rfl rfl (qz (qM (RowsF.isSl f9_1hr)) qU) rfl rfl rfl ?_)
   exact ⟨trivial, rfl⟩
  exact stepsG.nil
 intro W F4 le4 hphi
 obtain ⟨e8, f8_1ha⟩ := hphi 8 (by decide)
 obtain ⟨e9, f9_1hr⟩ := hphi 9 (by decide)
 have e10 : W 10 = (.tuple #[.agg #[((aggAt (tupAt (W 9) 0) 0))], .bool ((matchB ar ((rs.getD r ([], [])).1) ((sub ar t p))).isSome)] : Value) := hphi 10 (by decide)
 have e11 : W 11 = (.agg #[((aggAt (tupAt (W 9) 0) 0))] : Value) := hphi 11 (by decide)
 have e13 : W 13 = ptr (blk (W 13)) 0 := hphi 13 (by decide)
 generalize hu1 : ((W 8)) = u1 at e8 f8_1ha e9 f9_1hr e10 e11 e13
 generalize hu2 : ((aggAt (tupAt (W 9) 0) 0)) = u2 at e8 f8_1ha e9 f9_1hr e10 e11 e13
 generalize hu3 : blk (W 13) = b5 at e8 f8_1ha e9 f9_1hr e10 e11 e13
 rw [eS (l := [(9, (.tuple #[.agg #[u2], .bool ((matchB ar ((rs.getD r ([], [])).1) ((sub ar t p))).isSome)])), (12, _), (13, ptr b5 0)]) ⟨(e9).symm, (hphi 12 (by decide)), e13, ⟨⟩⟩]
 replace har := har.mono le4
 replace ht := ht.mono le4
 replace ha2 := ha2.mono le4
 show XL _ _ _ _ _ _ _ (cellsH b5 [u2] 50 :: cellsH b2 [a1, a2] 72 :: cellsH b1 [arv, rsv] 32 :: L)
 refine qg (.bool ((matchB ar ((rs.getD r ([], [])).1) ((sub ar t p))).isSome)) rfl (qb (qc (qc (qa (qf (.bool ((matchB ar ((rs.getD r ([], [])).1) ((sub ar t p))).isSome)) rfl (cX (jt rfl (qb ?_))))))))
 refine jB (t := !((matchB ar ((rs.getD r ([], [])).1) ((sub ar t p))).isSome)) rfl (fun h1 => ?_) (fun h1 => ?_)
 ·have hms : (matchB ar (rs.getD r ([], [])).1 (sub ar t p)).isSome = false := by simpa using h1
  refine qc (qa (cX (ql (s := 1) [] [ii (0)] [] qd qw qG rfl (by decide) rfl CellsAre.nil rfl ?_)))
  intro v3 hv1
  refine qg (v3) rfl (qg (.bool (false)) rfl (qb ?_))
  show X _ _ _ _ _ _ (intsH 2 v3 ([] : List Int) :: cellsH b5 [u2] 50 :: cellsH b2 [a1, a2] 72 :: cellsH b1 [arv, rsv] 32 :: L)
  refine qH [] _ _ rfl (fun F5 le5 hz2 => ?_)
  replace har := har.mono le5
  replace ht := ht.mono le5
  replace ha2 := ha2.mono le5
  replace f9_1hr := f9_1hr.mono le5
  have hf2 : IntsF F5 v3 ([]) := intsH.fz (xs := []) hz2.fz
  refine qr (qi (qo (L' := L) [v3, .bool (false)] (.tuple #[v3, .bool (false)]) (.tmp rfl (.tmp rfl .nil)) rfl (qk le4 le5) rF (sD (sD (sD sR))) ?_))
  have hz := stepL_nomatch hms
  exact ⟨_, by rw [hz]; rfl, by rw [hz]; exact hf2, rfl⟩
 have hms : (matchB ar (rs.getD r ([], [])).1 (sub ar t p)).isSome = true := by simpa using h1
 refine qx (qc (qa (cX (qq [u2] isAgg50 ji rfl rfl (Rd.ownN [] rfl rfl) (cX (qn (1) qO rfl qu (by decide) rfl rfl (cX (qj qY rfl (Rd.own [_] rfl rfl) (cX (qp (args := [.agg #[u2], a2]) call77 rfl (l2Filled_spec f9_1hr ha2 (hsl := (by first | assumption | rfl | omega | simp)) (hsb := (fun i => by have := hmp2 i; omega)) (htl := (by first | assumption | rfl | omega | simp)) (htg := (fun k hk => by have := hRg k hk; omega))) ?_))))))))))
 rintro _ F6 _ le6 ⟨x3, rfl, hr5, rfl⟩
 replace har := har.mono le6
 replace ht := ht.mono le6
 refine qf (.tuple #[x3, .bool ((fillL (matchP ar ((rs.getD r ([], [])).1) ((sub ar t p))) ((rs.getD r ([], [])).2)).isSome)]) rfl (cX (qT (x3) rfl rfl (cX (qT (.bool ((fillL (matchP ar ((rs.getD r ([], [])).1) ((sub ar t p))) ((rs.getD r ([], [])).2)).isSome)) rfl rfl (qg (x3) rfl (qg (.bool ((fillL (matchP ar ((rs.getD r ([], [])).1) ((sub ar t p))) ((rs.getD r ([], [])).2)).isSome)) rfl (qb (qc (qc (qa (qf (.bool ((fillL (matchP ar ((rs.getD r ([], [])).1) ((sub ar t p))) ((rs.getD r ([], [])).2)).isSome)) rfl (cX (jt rfl (qb ?_))))))))))))))
 refine jB (t := !((fillL (matchP ar ((rs.getD r ([], [])).1) ((sub ar t p))) ((rs.getD r ([], [])).2)).isSome)) rfl (fun h2 => ?_) (fun h2 => ?_)
 ·have hfs : (fillL (matchP ar (rs.getD r ([], [])).1 (sub ar t p)) (rs.getD r ([], [])).2).isSome = false := by simpa using h2
  refine qc (qa (cX (ql (s := 1) [] [ii (0)] [] qd qw qG rfl (by decide) rfl CellsAre.nil rfl ?_)))
  intro v4 hv2
  refine qg (v4) rfl (qg (.bool (false)) rfl (qb ?_))
  show X _ _ _ _ _ _ (intsH 2 v4 ([] : List Int) :: cellsH b5 [u2] 50 :: cellsH b2 [a1, a2] 72 :: cellsH b1 [arv, rsv] 32 :: L)
  refine qH [] _ _ rfl (fun F7 le7 hz3 => ?_)
  replace har := har.mono le7
  replace ht := ht.mono le7
  replace hr5 := hr5.mono le7
  have hf3 : IntsF F7 v4 ([]) := intsH.fz (xs := []) hz3.fz
  refine qr (qi (qo (L' := L) [v4, .bool (false)] (.tuple #[v4, .bool (false)]) (.tmp rfl (.tmp rfl .nil)) rfl (qk (qk le4 le6) le7) rF (sD (sD (sD sR))) ?_))
  have hz := stepL_nofill hms hfs
  exact ⟨_, by rw [hz]; rfl, by rw [hz]; exact hf3, rfl⟩
 have hfs : (fillL (matchP ar (rs.getD r ([], [])).1 (sub ar t p)) (rs.getD r ([], [])).2).isSome = true := by simpa using h2
 have hfl := fill_getD_len hfs (by omega)
 refine qx (qc (qa (cX (qn (0) qJ rfl qP (by decide) rfl rfl (cX (qq [arv] jk qP rfl rfl (Rd.ownN [_, _] rfl rfl) (qf (tv) rfl (qf (ii ((p : Int))) rfl (qf (x3) rfl (cX (qp (args := [.agg #[arv], tv, ii (p : Int), x3]) call175 rfl (l3Put_spec (p := p) har ht hr5 (ho := (by first | assumption | rfl | omega | simp)) (hp := (by first | assumption | rfl | omega | simp)) (hul := (by first | assumption | rfl | omega | simp))) ?_)))))))))))
 rintro _ F8 _ le8 ⟨x4, rfl, hr6, rfl⟩
 refine cX (qT (x4) rfl rfl (cX (qT (.bool ((putL ar t p ((fillL (matchP ar ((rs.getD r ([], [])).1) ((sub ar t p))) ((rs.getD r ([], [])).2)).getD [])).isSome)) rfl rfl (qg (x4) rfl (qg (.bool ((putL ar t p ((fillL (matchP ar ((rs.getD r ([], [])).1) ((sub ar t p))) ((rs.getD r ([], [])).2)).getD [])).isSome)) rfl (qb (qr (qo (L' := L) [x4, .bool ((putL ar t p ((fillL (matchP ar ((rs.getD r ([], [])).1) ((sub ar t p))) ((rs.getD r ([], [])).2)).getD [])).isSome)] (.tuple #[x4, .bool ((putL ar t p ((fillL (matchP ar ((rs.getD r ([], [])).1) ((sub ar t p))) ((rs.getD r ([], [])).2)).getD [])).isSome)]) (.tmp rfl (.tmp rfl .nil)) rfl (qk (qk le4 le6) le8) rF (sD (sD (sD sR))) ?_))))))))
 have hz := stepL_put hms hfs
 exact ⟨_, by rw [hz], by rw [hz]; exact hr6, rfl⟩

/- impl.walkBy -/
theorem walkBy_spec {F : FH} {L : List HP} {arv : Value} {ar : List Int} (har : IntsF F arv ar) {rsv : Value} {rs : List (List Int × List Int)} (hrs : PairsF F rsv rs) {tv : Value} {t : List Int} (ht : IntsF F tv t) {st : Int} {n : Nat} (hsys : sysOk ar rs = true) (ho : termOk ar t = true) (hst : 1 ≤ st ∧ st ≤ 3) (hn : n ≤ 60) :
    Does prog 129 [.agg #[arv, rsv], tv, ii (st), ii ((n : Int))] F (L) (fun v F' L' => ∃ (a : Value), ∃ (b : Value), (.tuple #[.agg #[a, b], .bool ((walkGo ar rs st n t).2)] : Value) = v ∧ (IntsF F' a t) ∧ (StepsF F' b (walkGo ar rs st n t).1) ∧ (Fresh F F' (star [intsH 2 a t, stepsD 2 40 b (walkGo ar rs st n t).1])) ∧ L = L') := by
 refine qD func129 rfl rfl rfl ?_
 have hnn := jv ht (by have := termOk_len ho; omega)
 have htl := termOk_len ho
 have hrl := (sysOk_iff.1 hsys).2.1
 have hsig := (sysOk_iff.1 hsys).1
 have hsl := sigOk_spec hsig
 refine qc (qa (cX (qW [arv, rsv] rfl rfl ?_)))
 intro b1
 refine cX (jh [sN, sN] zeroValue132 rfl ?_)
 intro b2
 refine qg (.bool (false)) rfl (qb (qc (qa (qf (tv) rfl (cX (jD <| qp (args := [tv]) call188 rfl (Clone_spec ht (hlt := (by first | assumption | rfl | omega | simp))) ?_))))))
 rintro v1 _ _ _ ⟨rfl, hs1, rfl⟩
 refine ⟨_, _, rfl, fun F1 le1 hz1 => ?_⟩
 replace har := har.mono le1
 replace hrs := hrs.mono le1
 replace ht := ht.mono le1
 have hf1 : IntsF F1 v1 ((t)) := intsH.fz (xs := (t)) hz1.fz
 refine cX (jc [v1, sN] [sN, sN] [(0, 1), (1, 1)] [(0, [v1])] jo zeroValue132 rfl (.cons rfl qu (.cons rfl sizeOf37 PlacesAre.nil)) rfl (.cons (cells_one (qE hf1)) CellsAre.nil) (cX (jh [sN, sN] zeroValue132 rfl ?_)))
 intro b3
 refine cX (qR [] _ [v1, sN] js rfl rfl rfl (qz (qM (qE hf1)) (qz rfl qU)) rfl rfl rfl (qb (qI (jm (α := Value × List Int × Value × List StepT × List Value × List HP × Nat × FH) (fun xQ => [(1, xQ.1), (2, ii (st)), (3, ii ((n : Int))), (4, ptr b1 0), (8, ptr b2 0), (10, ptr b3 0)]) (fun xQ => slH 40 3 xQ.2.2.1 xQ.2.2.2.2.2.2.1 xQ.2.2.2.2.1 :: cellsH b3 [v1, xQ.2.2.1] 132 :: cellsH b2 [sN, sN] 132 :: cellsH b1 [arv, rsv] 32 :: L) (fun xQ F' => xQ.2.2.2.2.2.2.2 = F' ∧ F1 ≤ xQ.2.2.2.2.2.2.2 ∧ (IntsF xQ.2.2.2.2.2.2.2 xQ.1 xQ.2.1) ∧ (termOk ar xQ.2.1 = true) ∧ (IsSl xQ.2.2.1) ∧ (StepsC xQ.2.2.2.2.2.2.2 xQ.2.2.2.2.1 xQ.2.2.2.1) ∧ (xQ.2.2.2.2.2.2.1 = xQ.2.2.2.1.length) ∧ (DeepL 3 (StepO 2) xQ.2.2.2.2.1 xQ.2.2.2.1 xQ.2.2.2.2.2.1) ∧ (Fresh F1 xQ.2.2.2.2.2.2.2 (star xQ.2.2.2.2.2.1)) ∧ (xQ.2.2.2.1.length ≤ n) ∧ ((walkGo ar rs st n t).1 = xQ.2.2.2.1 ++ (walkGo ar rs st (n - xQ.2.2.2.1.length) xQ.2.1).1) ∧ ((walkGo ar rs st n t).2 = (walkGo ar rs st (n - xQ.2.2.2.1.length) xQ.2.1).2)) (fun xQ => n - xQ.2.2.2.2.2.2.1) (tv, t, sN, [], [], [], 0, F1) ⟨rfl, rfl, rfl, rfl, rfl, rfl, ⟨⟩⟩ (Sub.trans (Sub.addNil 40 3 _ _) (sC (sC (sC (sC sR))))) ⟨rfl, FLe.refl _, (ht), (ho), (⟨_, _, _, rfl⟩), (CO.nil), (rfl), (DeepL.nil), (Fresh.nilL), (by simp), (rfl), (rfl)⟩ ?_))))
 rintro ⟨cv, cur, sv, ss, cs, Ls, m, G1⟩ rE _ _ ⟨rfl, leG, hcv, hoc, hsv, hC, hm, hD, hZ, hln, hwa, hwb⟩
 show X _ _ _ _ (envs [(1, cv), (2, ii (st)), (3, ii ((n : Int))), (4, ptr b1 0), (8, ptr b2 0), (10, ptr b3 0)] rE) _ (slH 40 3 sv m cs :: cellsH b3 [v1, sv] 132 :: cellsH b2 [sN, sN] 132 :: cellsH b1 [arv, rsv] 32 :: L)
 replace leG : F1 ≤ G1 := leG
 dsimp only at hcv hoc hsv hC hm hD hZ hln hwa hwb
 have hcl := termOk_len hoc
 have leG1 := leG
 replace har := har.mono leG1
 replace hrs := hrs.mono leG1
 replace hf1 := hf1.mono leG1
 refine qI (qc (qa (cX (qq [arv, rsv] qX qL rfl rfl (Rd.ownN [_, _, _] rfl rfl) (qf (cv) rfl (qf (ii (st)) rfl (cX (qp (args := [.agg #[arv, rsv], cv, ii (st)]) call189 rfl (pick_all (st := st) har hrs hcv (by assumption) (by assumption) (by omega)) ?_))))))))
 rintro _ _ _ _ ⟨rfl, rfl, rfl⟩
 refine qg (ii (pickL ar rs cur st)) rfl (qb (qc (qc (qa (qf (ii (pickL ar rs cur st)) rfl (cX (qZ rfl rfl (qb ?_))))))))
 refine qA (p := (pickL ar rs cur st : Int) < 0) rfl (fun h1 => ?_) (fun h1 => ?_)
 ·have he := pick_neg (ar := ar) (rs := rs) (t := cur) (st := st) (by omega)
  refine qc (qa (cX (qq [v1, sv] isAgg132 js rfl rfl (Rd.ownN [_] rfl rfl) (cX (qR [_, _] _ [v1, sv] js rfl rfl rfl (qz (qM (qE hf1)) (qz (qM hsv) qU)) rfl rfl rfl (qg (.bool (true)) rfl (qb (qH [] _ _ rfl (fun F2 le2 hz2 => ?_)))))))))
  replace har := har.mono le2
  replace hrs := hrs.mono le2
  replace hf1 := hf1.mono le2
  replace hcv := hcv.mono le2
  replace hC := hC.mono le2
  have hf2 : StepsF F2 sv ss := CO.fz hC (by first | rfl | omega | (rw [List.length_set]; omega) | (simp; done)) hz2.fz
  refine qr (qi (qF (qi (qF (qo (L' := L) [.agg #[v1, sv], .bool (true)] (.tuple #[.agg #[v1, sv], .bool (true)]) (.cell rfl (jC [v1, sv] isAgg132 js rfl (Rd.ownN [_] rfl rfl)) (.tmp rfl .nil)) rfl (qk (qk le1 leG1) le2) rF (sD (sD (sD sR))) ?_)))))
  have hw := walk_nil (st := st) (m := n - ss.length) he
  have e1 : (walkGo ar rs st n t).1 = ss := by rw [hwa, hw]; simp
  have e2 : (walkGo ar rs st n t).2 = true := by rw [hwb, hw]
  exact ⟨_, _, by rw [e2], hf1, by rw [e1]; exact hf2, by rw [e1]; exact (Fresh.app (Fresh.one hz1) le1 (Fresh.one (Fresh.deep hD hZ leG1 hz2 (by omega) le2)) (qk leG1 le2)), rfl⟩
 obtain ⟨q, hq1, hq2, hq3, hne⟩ := (pick_spec (ar := ar) (rs := rs) (t := cur) st).resolve_left (fun h => by have := h.1; omega)
 have hpn : (pickL ar rs cur st).toNat = q := by omega
 have hrr : 0 ≤ ruleAtL ar rs cur (pickL ar rs cur st).toNat := by rw [hpn]; simpa [hasR] using hq3
 obtain ⟨k, hk1, hk2, _⟩ := (M.ruleAt_spec (ar := ar) (rs := rs) (t := cur) (p := (pickL ar rs cur st).toNat)).resolve_left (by omega)
 refine qx (qc (qc (qa (cX (qn (1) jo rfl sizeOf37 (by decide) rfl rfl (cX (qj isAgg37 rfl (Rd.own [_] rfl rfl) (cX (qC jp rfl (SlV.own [] rfl) (qf (ii ((n : Int))) rfl (cX (jq rfl rfl (qb ?_)))))))))))))
 refine qA (p := (m : Int) = (n : Int)) rfl (fun h2 => ?_) (fun h2 => ?_)
 ·refine qc (qa (cX (qq [v1, sv] isAgg132 js rfl rfl (Rd.ownN [_] rfl rfl) (cX (qR [_, _] _ [v1, sv] js rfl rfl rfl (qz (qM (qE hf1)) (qz (qM hsv) qU)) rfl rfl rfl (qg (.bool (false)) rfl (qb (qH [] _ _ rfl (fun F3 le3 hz3 => ?_)))))))))
  replace har := har.mono le3
  replace hrs := hrs.mono le3
  replace hf1 := hf1.mono le3
  replace hcv := hcv.mono le3
  replace hC := hC.mono le3
  have hf3 : StepsF F3 sv ss := CO.fz hC (by first | rfl | omega | (rw [List.length_set]; omega) | (simp; done)) hz3.fz
  refine qr (qi (qF (qi (qF (qo (L' := L) [.agg #[v1, sv], .bool (false)] (.tuple #[.agg #[v1, sv], .bool (false)]) (.cell rfl (jC [v1, sv] isAgg132 js rfl (Rd.ownN [_] rfl rfl)) (.tmp rfl .nil)) rfl (qk (qk le1 leG1) le3) rF (sD (sD (sD sR))) ?_)))))
  have hw := walk_zero (st := st) (m := n - ss.length) (by omega) hne
  have e1 : (walkGo ar rs st n t).1 = ss := by rw [hwa, hw]; simp
  have e2 : (walkGo ar rs st n t).2 = false := by rw [hwb, hw]
  exact ⟨_, _, by rw [e2], hf1, by rw [e1]; exact hf3, by rw [e1]; exact (Fresh.app (Fresh.one hz1) le1 (Fresh.one (Fresh.deep hD hZ leG1 hz3 (by omega) le3)) (qk leG1 le3)), rfl⟩
 refine qx (qc (qa (cX (qq [arv, rsv] qX qL rfl rfl (Rd.ownN [_, _, _] rfl rfl) (qf (cv) rfl (qf (ii (pickL ar rs cur st)) rfl (cX (qp (args := [.agg #[arv, rsv], cv, ii (((pickL ar rs cur st).toNat : Nat) : Int)]) call190 (by rw [show (((pickL ar rs cur st).toNat : Nat) : Int) = pickL ar rs cur st from by omega]; rfl) (ruleAt_spec (p := (pickL ar rs cur st).toNat) har hrs hcv (hsys := (by first | assumption | rfl | omega | simp)) (ho := (by first | assumption | rfl | omega | simp)) (hp := (by first | assumption | rfl | omega | simp))) ?_))))))))
 rintro _ _ _ _ ⟨rfl, rfl, rfl⟩
 refine qg (ii (ruleAtL ar rs cur ((pickL ar rs cur st).toNat))) rfl (qb (qc (qa (cX (qq [arv, rsv] qX qL rfl rfl (Rd.ownN [_, _, _] rfl rfl) (qf (cv) rfl (qf (ii (pickL ar rs cur st)) rfl (qf (ii (ruleAtL ar rs cur ((pickL ar rs cur st).toNat))) rfl (cX (qp (args := [.agg #[arv, rsv], cv, ii (((pickL ar rs cur st).toNat : Nat) : Int), ii (((ruleAtL ar rs cur ((pickL ar rs cur st).toNat)).toNat : Nat) : Int)]) call191 (by rw [show (((pickL ar rs cur st).toNat : Nat) : Int) = pickL ar rs cur st from by omega, show (((ruleAtL ar rs cur ((pickL ar rs cur st).toNat)).toNat : Nat) : Int) = ruleAtL ar rs cur ((pickL ar rs cur st).toNat) from by omega]; rfl) (step_spec (p := (pickL ar rs cur st).toNat) (r := (ruleAtL ar rs cur ((pickL ar rs cur st).toNat)).toNat) har hrs hcv (hsys := (by first | assumption | rfl | omega | simp)) (ho := (by first | assumption | rfl | omega | simp)) (hp := (by first | assumption | rfl | omega | simp)) (hr := (by first | assumption | rfl | omega | simp))) ?_))))))))))
 rintro _ F4 _ le4 ⟨x1, rfl, hr1, hr2, hr3, rfl⟩
 replace hf1 := hf1.mono le4
 replace hC := hC.mono le4
 refine qf (.tuple #[x1, .bool ((stepL ar rs cur ((pickL ar rs cur st).toNat) ((ruleAtL ar rs cur ((pickL ar rs cur st).toNat)).toNat)).isSome)]) rfl (cX (qT (x1) rfl rfl (cX (qT (.bool ((stepL ar rs cur ((pickL ar rs cur st).toNat) ((ruleAtL ar rs cur ((pickL ar rs cur st).toNat)).toNat)).isSome)) rfl rfl (qg (x1) rfl (qg (.bool ((stepL ar rs cur ((pickL ar rs cur st).toNat) ((ruleAtL ar rs cur ((pickL ar rs cur st).toNat)).toNat)).isSome)) rfl (qb (qc (qc (qa (qf (.bool ((stepL ar rs cur ((pickL ar rs cur st).toNat) ((ruleAtL ar rs cur ((pickL ar rs cur st).toNat)).toNat)).isSome)) rfl (cX (jt rfl (qb ?_))))))))))))))
 refine jB (t := !((stepL ar rs cur ((pickL ar rs cur st).toNat) ((ruleAtL ar rs cur ((pickL ar rs cur st).toNat)).toNat)).isSome)) rfl (fun h3 => ?_) (fun h3 => ?_)
 ·have hu : (stepL ar rs cur (pickL ar rs cur st).toNat (ruleAtL ar rs cur (pickL ar rs cur st).toNat).toNat).isSome = false := by simpa using h3
  refine qc (qa (cX (qq [v1, sv] isAgg132 js rfl rfl (Rd.ownN [_] rfl rfl) (cX (qR [_, _] _ [v1, sv] js rfl rfl rfl (qz (qM (qE hf1)) (qz (qM hsv) qU)) rfl rfl rfl (qg (.bool (false)) rfl (qb (qH [] _ _ rfl (fun F5 le5 hz4 => ?_)))))))))
  replace hf1 := hf1.mono le5
  replace hC := hC.mono le5
  replace hr1 := hr1.mono le5
  have hf4 : StepsF F5 sv ss := CO.fz hC (by first | rfl | omega | (rw [List.length_set]; omega) | (simp; done)) hz4.fz
  refine qr (qi (qF (qi (qF (qo (L' := L) [.agg #[v1, sv], .bool (false)] (.tuple #[.agg #[v1, sv], .bool (false)]) (.cell rfl (jC [v1, sv] isAgg132 js rfl (Rd.ownN [_] rfl rfl)) (.tmp rfl .nil)) rfl (qk (qk (qk le1 leG1) le4) le5) rF (sD (sD (sD sR))) ?_)))))
  have hw := walk_stuck (m := n - ss.length) (by omega) hne hu
  have e1 : (walkGo ar rs st n t).1 = ss := by rw [hwa, hw]; simp
  have e2 : (walkGo ar rs st n t).2 = false := by rw [hwb, hw]
  exact ⟨_, _, by rw [e2], hf1, by rw [e1]; exact hf4, by rw [e1]; exact (Fresh.app (Fresh.one hz1) le1 (Fresh.one (Fresh.deep hD (hZ.mono le4) (qk leG1 le4) hz4 (by omega) le5)) (qk (qk leG1 le4) le5)), rfl⟩
 obtain ⟨u, hu⟩ := Option.isSome_iff_exists.1 (show (stepL ar rs cur (pickL ar rs cur st).toNat (ruleAtL ar rs cur (pickL ar rs cur st).toNat).toNat).isSome = true from by simpa using h3)
 refine qx (qc (qa (cX (qn (1) jo rfl sizeOf37 (by decide) rfl rfl (cX (qj isAgg37 rfl (Rd.own [_] rfl rfl) (qf (ii (pickL ar rs cur st)) rfl (qf (ii (ruleAtL ar rs cur ((pickL ar rs cur st).toNat))) rfl (qf (x1) rfl (cX (jc [ii (pickL ar rs cur st), ii (ruleAtL ar rs cur ((pickL ar rs cur st).toNat)), x1] [ii (0), ii (0), sN] [(0, 1), (1, 1), (2, 1)] [(0, [ii (pickL ar rs cur st)]), (1, [ii (ruleAtL ar rs cur ((pickL ar rs cur st).toNat))]), (2, [x1])] runUnderlying40 zeroValue40 rfl (.cons rfl qw (.cons rfl qw (.cons rfl qu PlacesAre.nil))) rfl (.cons rfl (.cons rfl (.cons (cells_one (qE hr1)) CellsAre.nil))) (cX (ql (s := 3) [ii (pickL ar rs cur st), ii (ruleAtL ar rs cur ((pickL ar rs cur st).toNat)), x1] [ii (0), ii (0), sN] [(0, [ii (pickL ar rs cur st), ii (ruleAtL ar rs cur ((pickL ar rs cur st).toNat)), x1])] jp sizeOf40 zeroValue40 rfl (by decide) rfl (.cons rfl CellsAre.nil) rfl ?_)))))))))))))
 intro v2 hv1
 refine cX (jQ (m := 1) (bytes := 40) (cs := cs) [_] _ [ii (pickL ar rs cur st), ii (ruleAtL ar rs cur ((pickL ar rs cur st).toNat)), x1] jp typeInfo40 rfl rfl rfl rfl rfl rfl rfl (SlV.own [] rfl) rfl (Rd.lit [] rfl) (qz rfl (qz rfl (qz (qM (qE hr1)) qU))) (by (try simp only [List.length_append, List.length_nil, List.length_cons, List.length_singleton]); omega) (by (try simp only [List.length_append, List.length_nil, List.length_cons, List.length_singleton]); omega) ?_)
 intro v3 hs2 hn1 hm1
 have hc1 := StepsC.snoc hC (i := pickL ar rs cur st) (j := ruleAtL ar rs cur ((pickL ar rs cur st).toNat)) hr1
 refine cX (qn (1) jo rfl sizeOf37 (by decide) rfl rfl (cX (jz [_, _] _ [v1, v3] sizeOf37 rfl rfl (qM hs2) rfl rfl rfl (qb (qa (qf (x1) rfl (qg (x1) rfl (qb ?_))))))))
 exact ⟨(x1, (stepL ar rs cur ((pickL ar rs cur st).toNat) ((ruleAtL ar rs cur ((pickL ar rs cur st).toNat)).toNat)).getD [], v3, ss ++ [(pickL ar rs cur st, ruleAtL ar rs cur ((pickL ar rs cur st).toNat), (stepL ar rs cur ((pickL ar rs cur st).toNat) ((ruleAtL ar rs cur ((pickL ar rs cur st).toNat)).toNat)).getD [])], cs ++ [ii (pickL ar rs cur st), ii (ruleAtL ar rs cur ((pickL ar rs cur st).toNat)), x1], Ls ++ [intsH 2 x1 ((stepL ar rs cur ((pickL ar rs cur st).toNat) ((ruleAtL ar rs cur ((pickL ar rs cur st).toNat)).toNat)).getD [])], (m) + 1, F4), _, (qk leG1 le4), rF, ⟨rfl, rfl, rfl, rfl, rfl, rfl, ⟨⟩⟩, (sD (sC (sC (sC (sC sR))))), ⟨rfl, (qk leG1 le4), (hr1), (by dsimp only; rw [hu]; exact stepL_ok hsys hoc (by omega) (by omega) hu), (hs2), (hc1), (by (try dsimp only); rw [List.length_append]; simp only [List.length_singleton]; omega), (DeepL.snoc hD rfl ⟨_, rfl, rfl⟩), ((Fresh.app hZ leG1 (Fresh.one hr3) le4)), (by dsimp only; rw [List.length_append]; simp only [List.length_singleton]; omega), (by dsimp only; rw [hwa, walk_next (m := n - ss.length) (by omega) hne hu, hu]; simp only [Option.getD_some, List.length_append, List.length_singleton, List.append_assoc, List.singleton_append]; rw [show n - ss.length - 1 = n - (ss.length + 1) from by omega]), (by dsimp only; rw [hwb, walk_next (m := n - ss.length) (by omega) hne hu, hu]; simp only [Option.getD_some, List.length_append, List.length_singleton]; rw [show n - ss.length - 1 = n - (ss.length + 1) from by omega])⟩, (by dsimp only; omega)⟩

/- spec.l7Redexes -/
theorem l7Redexes_spec {F : FH} {L : List HP} {arv : Value} {ar : List Int} (har : IntsF F arv ar) {rsv : Value} {rs : List (List Int × List Int)} (hrs : PairsF F rsv rs) {tv : Value} {t : List Int} (ht : IntsF F tv t) (hsys : sysOk ar rs = true) (ho : termOk ar t = true) :
    Does prog 233 [.agg #[arv, rsv], tv] F (L) (fun v F' L' => (ii (((cntP ar rs t t.length : Nat) : Int)) : Value) = v ∧ F = F' ∧ L = L') := by
 refine qD func233 rfl rfl rfl ?_
 have hnn := jv ht (by have := termOk_len ho; omega)
 have htl := termOk_len ho
 have hrl := (sysOk_iff.1 hsys).2.1
 have hsig := (sysOk_iff.1 hsys).1
 have hsl := sigOk_spec hsig
 refine qc (qa (cX (qW [arv, rsv] rfl rfl ?_)))
 intro b1
 refine qg (ii (0)) rfl (qb (qc (qa (qg (ii (0)) rfl (qb (qc (qc (qa (qg (ii (0)) rfl (qb (qI (jm (α := Nat) (fun k => [(1, tv), (2, ptr b1 0), (5, ii (((cntP ar rs t k : Nat) : Int))), (6, ii ((k : Int)))]) (fun k => cellsH b1 [arv, rsv] 32 :: L) (fun k F' => F = F' ∧ (k ≤ t.length)) (fun k => t.length - k) 0 ⟨rfl, rfl, rfl, rfl, ⟨⟩⟩ (sC sR) ⟨rfl, (by (try dsimp only) <;> omega)⟩ ?_))))))))))))
 rintro k rE _ _ ⟨rfl, hk⟩
 show X _ _ _ _ (envs [(1, tv), (2, ptr b1 0), (5, ii (((cntP ar rs t k : Nat) : Int))), (6, ii ((k : Int)))] rE) _ (cellsH b1 [arv, rsv] 32 :: L)
 have hcp := cntP_le (ar := ar) (rs := rs) (t := t) hrl k
 refine qc (qc (qa (qf (ii ((k : Int))) rfl (qf (tv) rfl (cX (qC qd rfl ht.slv (cX (qZ rfl rfl (qb ?_)))))))))
 refine qA (p := (k : Int) < (t.length : Int)) rfl (fun h1 => ?_) (fun h1 => ?_)
 ·refine qx (qc (qI (qc (qa (qg (ii (0)) rfl (qb (qI (jm (α := Nat) (fun j => [(1, tv), (2, ptr b1 0), (5, ii (((cntP ar rs t k + cntR ar rs t k j : Nat) : Int))), (6, ii ((k : Int))), (7, ii ((j : Int)))]) (fun j => cellsH b1 [arv, rsv] 32 :: L) (fun j F' => F = F' ∧ (j ≤ rs.length)) (fun j => rs.length - j) 0 ⟨rfl, rfl, rfl, rfl, rfl, ⟨⟩⟩ (sC sR) ⟨rfl, (by (try dsimp only) <;> omega)⟩ ?_))))))))
  rintro j rE _ _ ⟨rfl, hj⟩
  show X _ _ _ _ (envs [(1, tv), (2, ptr b1 0), (5, ii (((cntP ar rs t k + cntR ar rs t k j : Nat) : Int))), (6, ii ((k : Int))), (7, ii ((j : Int)))] rE) _ (cellsH b1 [arv, rsv] 32 :: L)
  have hcr := cntR_le (ar := ar) (rs := rs) (t := t) (p := k) (k := j)
  refine qc (qc (qa (qf (ii ((j : Int))) rfl (cX (qn (1) qJ rfl ju (by decide) rfl rfl (cX (qj isAgg30 rfl (Rd.own [] rfl rfl) (cX (qC jb rfl hrs.slv (cX (qZ rfl rfl (qb ?_))))))))))))
  refine qA (p := (j : Int) < (rs.length : Int)) rfl (fun h2 => ?_) (fun h2 => ?_)
  ·refine qx (qc (qI (qc ?_)))
   obtain ⟨a1, a2, ha1, ha2, hr1, hr2⟩ := hrs.rd (i := j) (by omega)
   refine X.drawG [cellsH b1 [arv, rsv] 32] L 19 [[], [], [], [], [], [], [], [], [], [], [], [], [], [], [13], [13], [], [], [13, 17]] [[], [0], [], [2], [], [3, 4], [5], [6], [], [8], [], [], [9, 10, 11], [1, 7, 12], [13], [13, 14], [13, 14], [], [13, 15, 17]] [[], [], [], [], [], [], [], [], [], [], [], [], [], [], [], [], [], [], [17]] (phiG [pe (ptr b1 0), pe (.agg #[arv]), pe (ptr b1 1), pe rsv, pe (ii ((j : Int)) : Value), pe (.pointer (some (elemA rsv (j * 2)))), pe (.pointer (some (elemA rsv (j * 2)))), pe a1, pe (ptr b1 0), pe (.agg #[arv]), pe tv, pe (ii ((k : Int)) : Value), fun FF us v => ((v) : Value) = v ∧ (IntsF FF (v) (sub ar t k)), fun FF us v => (.tuple #[.agg #[((aggAt (tupAt v 0) 0))], .bool ((matchB ar ((rs.getD j ([], [])).1) ((sub ar t k))).isSome)] : Value) = v ∧ (RowsF FF ((aggAt (tupAt v 0) 0)) (matchP ar ((rs.getD j ([], [])).1) ((sub ar t k)))), fun FF us v => v = (.tuple #[.agg #[((aggAt (tupAt (us.getD 0 undef) 0) 0))], .bool ((matchB ar ((rs.getD j ([], [])).1) ((sub ar t k))).isSome)] : Value), fun FF us v => v = (.agg #[((aggAt (tupAt (us.getD 0 undef) 0) 0))] : Value), pe (.bool ((matchB ar ((rs.getD j ([], [])).1) ((sub ar t k))).isSome)), fun FF us v => v = ptr (blk v) 0, fun FF us v => True]) (ownL [o0, o0, o0, o0, o0, o0, o0, o0, o0, o0, o0, o0, o0, o0, o0, o0, o0, fun us v => [cellsH (blk v) [sN] 50], fun us v => [cellsH (blk (us.getD 1 undef)) [((aggAt (tupAt (us.getD 0 undef) 0) 0))] 50]]) mixed rfl rfl (by kernel_rfl) (by kernel_rfl) (MonoG.get (m1 (m1 (m1 (m1 (m1 (m1 (m1 (m1 (m1 (m1 (m1 (m1 (mC (fun le h => ⟨h.1, h.2.mono le⟩) (mC (fun le h => ⟨h.1, h.2.mono le⟩) (mC (fun le h => h) (mC (fun le h => h) (m1 (mC (fun le h => h) (mC (fun le h => h) MonoG.nil)))))))))))))))))))) ?_ ?_
   ·refine gD (fun W Fs R lF z9 => ?_) ?_
    ·refine qh (qn (0) qJ rfl qP (by decide) rfl rfl ?_)
     exact ⟨rfl, rfl⟩
    refine gD (fun W Fs R lF z9 => ?_) ?_
    ·replace har := har.mono lF
     replace hrs := hrs.mono lF
     replace ht := ht.mono lF
     replace ha1 := ha1.mono lF
     replace hr1 := Rd.monoA hr1 lF
     rw [eS (l := [(0, _)]) ⟨z9 0 rfl, ⟨⟩⟩]
     refine qh (qq [arv] jk qP rfl rfl (Rd.ownN [] rfl rfl) ?_)
     exact ⟨rfl, rfl⟩
    refine gD (fun W Fs R lF z9 => ?_) ?_
    ·refine qh (qn (1) qJ rfl ju (by decide) rfl rfl ?_)
     exact ⟨rfl, rfl⟩
    refine gD (fun W Fs R lF z9 => ?_) ?_
    ·replace har := har.mono lF
     replace hrs := hrs.mono lF
     replace ht := ht.mono lF
     replace ha1 := ha1.mono lF
     replace hr1 := Rd.monoA hr1 lF
     rw [eS (l := [(2, _)]) ⟨z9 2 rfl, ⟨⟩⟩]
     refine qh (qj isAgg30 rfl (Rd.own [] rfl rfl) ?_)
     exact ⟨rfl, rfl⟩
    refine gD (fun W Fs R lF z9 => ?_) ?_
    ·refine qh (qm (ii ((j : Int))) rfl ?_)
     exact ⟨rfl, rfl⟩
    refine gD (fun W Fs R lF z9 => ?_) ?_
    ·replace har := har.mono lF
     replace hrs := hrs.mono lF
     replace ht := ht.mono lF
     replace ha1 := ha1.mono lF
     replace hr1 := Rd.monoA hr1 lF
     rw [eS (l := [(3, _), (4, _)]) ⟨z9 3 rfl, z9 4 rfl, ⟨⟩⟩]
     refine qh (qB j jb jF rfl rfl rfl hrs.slv (by omega) rfl ?_)
     exact ⟨rfl, rfl⟩
    refine gD (fun W Fs R lF z9 => ?_) ?_
    ·rw [eS (l := [(5, _)]) ⟨z9 5 rfl, ⟨⟩⟩]
     refine qh (XOp.fieldE (j * 2) qO rfl qu (by decide) rfl rfl ?_)
     exact ⟨rfl, rfl⟩
    refine gD (fun W Fs R lF z9 => ?_) ?_
    ·replace har := har.mono lF
     replace ht := ht.mono lF
     replace ha1 := ha1.mono lF
     replace hr1 := Rd.monoA hr1 lF
     rw [eS (l := [(6, _)]) ⟨z9 6 rfl, ⟨⟩⟩]
     refine qh (qj qY rfl (hr1 _) ?_)
     exact ⟨rfl, rfl⟩
    refine gD (fun W Fs R lF z9 => ?_) ?_
    ·refine qh (qn (0) qJ rfl qP (by decide) rfl rfl ?_)
     exact ⟨rfl, rfl⟩
    refine gD (fun W Fs R lF z9 => ?_) ?_
    ·replace har := har.mono lF
     replace ht := ht.mono lF
     replace ha1 := ha1.mono lF
     rw [eS (l := [(8, _)]) ⟨z9 8 rfl, ⟨⟩⟩]
     refine qh (qq [arv] jk qP rfl rfl (Rd.ownN [] rfl rfl) ?_)
     exact ⟨rfl, rfl⟩
    refine gD (fun W Fs R lF z9 => ?_) ?_
    ·refine qh (qm (tv) rfl ?_)
     exact ⟨rfl, rfl⟩
    refine gD (fun W Fs R lF z9 => ?_) ?_
    ·refine qh (qm (ii ((k : Int))) rfl ?_)
     exact ⟨rfl, rfl⟩
    refine gD (fun W Fs R lF z9 => ?_) ?_
    ·replace har := har.mono lF
     replace ht := ht.mono lF
     replace ha1 := ha1.mono lF
     rw [eS (l := [(9, _), (10, _), (11, _)]) ⟨z9 9 rfl, z9 10 rfl, z9 11 rfl, ⟨⟩⟩]
     refine qh (jD <| qp (args := [.agg #[arv], tv, ii (k : Int)]) call174 rfl (l1Sub_spec (p := k) har ht (ho := (by first | assumption | rfl | omega | simp)) (hp := (by first | assumption | rfl | omega | simp))) ?_)
     rintro v2 _ _ _ ⟨rfl, hs2, rfl⟩
     refine ⟨_, _, rfl, fun F2 le2 hz1 => ?_⟩
     replace har := har.mono le2
     replace ha1 := ha1.mono le2
     have hf1 : IntsF F2 v2 ((sub ar t k)) := intsH.fz (xs := (sub ar t k)) hz1.fz
     exact ⟨⟨rfl, hf1⟩, rfl⟩
    refine gD (fun W Fs R lF z9 => ?_) ?_
    ·obtain ⟨e12, f12_1ha⟩ := z9 12 rfl
     replace har := har.mono lF
     replace ha1 := ha1.mono lF
     rw [eS (l := [(1, _), (7, _), (12, ((W 12)))]) ⟨z9 1 rfl, z9 7 rfl, (e12).symm, ⟨⟩⟩]
     refine qh (qp (args := [.agg #[arv], a1, ((W 12))]) call120 rfl (l4Match_spec har ha1 f12_1ha (ho := (sub_ok ho (by omega))) (hpo := ((ruleOk_iff.1 ((sysOk_iff.1 hsys).2.2 j (by omega))).left))) ?_)
     rintro _ F3 _ le3 ⟨x2, rfl, hr4, rfl⟩
     replace har := har.mono le3
     replace f12_1ha := f12_1ha.mono le3
     exact ⟨⟨rfl, hr4⟩, rfl⟩
    refine gD (fun W Fs R lF z9 => ?_) ?_
    ·obtain ⟨e13, f13_1hr⟩ := z9 13 rfl
     rw [eS (l := [(13, (.tuple #[.agg #[((aggAt (tupAt (W 13) 0) 0))], .bool ((matchB ar ((rs.getD j ([], [])).1) ((sub ar t k))).isSome)]))]) ⟨(e13).symm, ⟨⟩⟩]
     refine qh (qm (.tuple #[.agg #[((aggAt (tupAt (W 13) 0) 0))], .bool ((matchB ar ((rs.getD j ([], [])).1) ((sub ar t k))).isSome)]) rfl ?_)
     exact ⟨rfl, rfl⟩
    refine gD (fun W Fs R lF z9 => ?_) ?_
    ·obtain ⟨e13, f13_1hr⟩ := z9 13 rfl
     have e14 : W 14 = (.tuple #[.agg #[((aggAt (tupAt (W 13) 0) 0))], .bool ((matchB ar ((rs.getD j ([], [])).1) ((sub ar t k))).isSome)] : Value) := z9 14 rfl
     rw [eS (l := [(13, (.tuple #[.agg #[((aggAt (tupAt (W 13) 0) 0))], .bool ((matchB ar ((rs.getD j ([], [])).1) ((sub ar t k))).isSome)])), (14, (.tuple #[.agg #[((aggAt (tupAt (W 13) 0) 0))], .bool ((matchB ar ((rs.getD j ([], [])).1) ((sub ar t k))).isSome)]))]) ⟨(e13).symm, e14, ⟨⟩⟩]
     refine qh (qT (.agg #[((aggAt (tupAt (W 13) 0) 0))]) rfl rfl ?_)
     exact ⟨rfl, rfl⟩
    refine gD (fun W Fs R lF z9 => ?_) ?_
    ·obtain ⟨e13, f13_1hr⟩ := z9 13 rfl
     have e14 : W 14 = (.tuple #[.agg #[((aggAt (tupAt (W 13) 0) 0))], .bool ((matchB ar ((rs.getD j ([], [])).1) ((sub ar t k))).isSome)] : Value) := z9 14 rfl
     rw [eS (l := [(13, (.tuple #[.agg #[((aggAt (tupAt (W 13) 0) 0))], .bool ((matchB ar ((rs.getD j ([], [])).1) ((sub ar t k))).isSome)])), (14, (.tuple #[.agg #[((aggAt (tupAt (W 13) 0) 0))], .bool ((matchB ar ((rs.getD j ([], [])).1) ((sub ar t k))).isSome)]))]) ⟨(e13).symm, e14, ⟨⟩⟩]
     refine qh (qT (.bool ((matchB ar ((rs.getD j ([], [])).1) ((sub ar t k))).isSome)) rfl rfl ?_)
     exact ⟨rfl, rfl⟩
    refine gD (fun W Fs R lF z9 => ?_) ?_
    ·replace har := har.mono lF
     refine qh (jh [sN] jx rfl ?_)
     intro b3
     exact ⟨rfl, rfl⟩
    refine gD (fun W Fs R lF z9 => ?_) ?_
    ·obtain ⟨e13, f13_1hr⟩ := z9 13 rfl
     have e15 : W 15 = (.agg #[((aggAt (tupAt (W 13) 0) 0))] : Value) := z9 15 rfl
     have e17 : W 17 = ptr (blk (W 17)) 0 := z9 17 rfl
     rw [eS (l := [(13, (.tuple #[.agg #[((aggAt (tupAt (W 13) 0) 0))], .bool ((matchB ar ((rs.getD j ([], [])).1) ((sub ar t k))).isSome)])), (15, (.agg #[((aggAt (tupAt (W 13) 0) 0))])), (17, ptr (blk (W 17)) 0)]) ⟨(e13).symm, e15, e17, ⟨⟩⟩]
     show XG _ _ _ _ _ (cellsH (blk (W 17)) [sN] 50 :: ([cellsH b1 [arv, rsv] 32] ++ R)) _
     refine qh (qR [] _ [((aggAt (tupAt (W 13) 0) 0))] ji rfl rfl rfl (qz (qM (RowsF.isSl f13_1hr)) qU) rfl rfl rfl ?_)
     exact ⟨trivial, rfl⟩
    exact stepsG.nil
   intro W F4 le4 hphi
   obtain ⟨e12, f12_1ha⟩ := hphi 12 (by decide)
   obtain ⟨e13, f13_1hr⟩ := hphi 13 (by decide)
   have e14 : W 14 = (.tuple #[.agg #[((aggAt (tupAt (W 13) 0) 0))], .bool ((matchB ar ((rs.getD j ([], [])).1) ((sub ar t k))).isSome)] : Value) := hphi 14 (by decide)
   have e15 : W 15 = (.agg #[((aggAt (tupAt (W 13) 0) 0))] : Value) := hphi 15 (by decide)
   have e17 : W 17 = ptr (blk (W 17)) 0 := hphi 17 (by decide)
   generalize hu1 : ((W 12)) = u1 at e12 f12_1ha e13 f13_1hr e14 e15 e17
   generalize hu2 : ((aggAt (tupAt (W 13) 0) 0)) = u2 at e12 f12_1ha e13 f13_1hr e14 e15 e17
   generalize hu3 : blk (W 17) = b4 at e12 f12_1ha e13 f13_1hr e14 e15 e17
   rw [eS (l := [(13, (.tuple #[.agg #[u2], .bool ((matchB ar ((rs.getD j ([], [])).1) ((sub ar t k))).isSome)])), (16, _), (17, ptr b4 0)]) ⟨(e13).symm, (hphi 16 (by decide)), e17, ⟨⟩⟩]
   show XL _ _ _ _ _ _ _ (cellsH b4 [u2] 50 :: cellsH b1 [arv, rsv] 32 :: L)
   refine qg (.bool ((matchB ar ((rs.getD j ([], [])).1) ((sub ar t k))).isSome)) rfl (qb (qc (qa (qf (.bool ((matchB ar ((rs.getD j ([], [])).1) ((sub ar t k))).isSome)) rfl (qb ?_)))))
   refine jB (t := (matchB ar ((rs.getD j ([], [])).1) ((sub ar t k))).isSome) rfl (fun h3 => ?_) (fun h3 => ?_)
   ·refine qa (qf (ii (((cntP ar rs t k + cntR ar rs t k j : Nat) : Int))) rfl (cX (qK ((((cntP ar rs t k + cntR ar rs t k j) + 1 : Nat) : Int)) rfl rfl (by omega) (by omega) (qg (ii ((((cntP ar rs t k + cntR ar rs t k j) + 1 : Nat) : Int))) rfl (qb (qa (qf (ii ((j : Int))) rfl (cX (qK (((j + 1 : Nat) : Int)) rfl rfl (by omega) (by omega) (qg (ii (((j + 1 : Nat) : Int))) rfl (qb ?_)))))))))))
    exact ⟨j + 1, _, FLe.refl _, le4, ⟨rfl, rfl, (congrArg (fun z : Nat => Value.int .i64 (z : Int)) (by first | exact cntR_yes (by unfold isRedex; assumption) | exact cntR_no (by unfold isRedex; assumption))), rfl, rfl, ⟨⟩⟩, (sD (sC sR)), ⟨rfl, (by omega)⟩, (by omega)⟩
   refine qx (qa (qf (ii ((j : Int))) rfl (cX (qK (((j + 1 : Nat) : Int)) rfl rfl (by omega) (by omega) (qg (ii (((j + 1 : Nat) : Int))) rfl (qb ?_))))))
   exact ⟨j + 1, _, FLe.refl _, le4, ⟨rfl, rfl, (congrArg (fun z : Nat => Value.int .i64 (z : Int)) (by first | exact cntR_yes (by unfold isRedex; assumption) | exact cntR_no (by unfold isRedex; assumption))), rfl, rfl, ⟨⟩⟩, (sD (sC sR)), ⟨rfl, (by omega)⟩, (by omega)⟩
  refine je (qv (qv (qN (qa (qf (ii ((k : Int))) rfl (cX (qK (((k + 1 : Nat) : Int)) rfl rfl (by omega) (by omega) (qg (ii (((k + 1 : Nat) : Int))) rfl (qb ?_)))))))))
  exact ⟨k + 1, _, FLe.refl _, rF, ⟨rfl, rfl, (congrArg (fun z : Nat => Value.int .i64 (z : Int)) (cntP_succ (by omega))), rfl, ⟨⟩⟩, (sC sR), ⟨rfl, (by omega)⟩, (by omega)⟩
 refine je (qv (qv (qN (qc (qa (qf (ii (((cntP ar rs t k : Nat) : Int))) rfl (qg (ii (((cntP ar rs t k : Nat) : Int))) rfl (qb (qr (qo (L' := L) [ii (((cntP ar rs t k : Nat) : Int))] (ii (((cntP ar rs t k : Nat) : Int))) (.tmp rfl .nil) rfl rF rF (sD sR) ?_))))))))))
 exact ⟨(vI (by rw [show k = t.length from by omega])), rfl, rfl⟩

/- spec.NormalIn -/
theorem sNormalIn_spec {F : FH} {L : List HP} {arv : Value} {ar : List Int} (har : IntsF F arv ar) {rsv : Value} {rs : List (List Int × List Int)} (hrs : PairsF F rsv rs) {tv : Value} {t : List Int} (ht : IntsF F tv t) (hla : ar.length ≤ 4000000) (hlr : rs.length ≤ 4000000) (hrb : ∀ i, i < rs.length → (rs.getD i ([], [])).1.length ≤ 4000000 ∧ (rs.getD i ([], [])).2.length ≤ 4000000) (hlt : t.length ≤ 4000000) :
    Does prog 195 [.agg #[arv, rsv], tv] F (L) (fun v F' L' => (.bool ((rightB ar rs t && normalL ar rs t)) : Value) = v ∧ F = F' ∧ L = L') := by
 refine qD func195 rfl rfl rfl (qc (qa (cX (qW [arv, rsv] rfl rfl ?_))))
 intro b1
 refine qg (.bool (false)) rfl (qb (qc (qa (cX (qq [arv, rsv] qX qL rfl rfl (Rd.ownN [] rfl rfl) (qf (tv) rfl (cX (qp (args := [.agg #[arv, rsv], tv]) call61 rfl (l7Right_spec har hrs ht (hla := (by first | assumption | rfl | omega | simp)) (hlr := (by first | assumption | rfl | omega | simp)) (hrb := (by first | assumption | rfl | omega | simp)) (hlt := (by first | assumption | rfl | omega | simp))) ?_))))))))
 rintro _ _ _ _ ⟨rfl, rfl, rfl⟩
 refine qf (.bool (rightB ar rs t)) rfl ?_
 by_cases h1 : (rightB ar rs t) = true
 ·have hsys := (right_iff.1 h1).1
  have ho := (right_iff.1 h1).2
  refine qt (t := 8) rfl (vB h1) (qq [arv, rsv] qX qL rfl rfl (Rd.ownN [] rfl rfl) (qt (t := 8) rfl (vB h1) (qm (tv) rfl (qt (t := 8) rfl (vB h1) (qp (args := [.agg #[arv, rsv], tv]) call233 rfl (l7Redexes_spec har hrs ht (hsys := (by first | assumption | rfl | omega | simp)) (ho := (by first | assumption | rfl | omega | simp))) ?_)))))
  rintro _ _ _ _ ⟨rfl, rfl, rfl⟩
  refine qt (t := 8) rfl (vB h1) (jq rfl rfl (cX (ja (.bool (decide ((((cntP ar rs t t.length : Nat) : Int) : Int) = 0))) (vB h1) rfl (qg (.bool (decide ((((cntP ar rs t t.length : Nat) : Int) : Int) = 0))) rfl (qb (qr (qo (L' := L) [.bool (decide ((((cntP ar rs t t.length : Nat) : Int) : Int) = 0))] (.bool (decide ((((cntP ar rs t t.length : Nat) : Int) : Int) = 0))) (.tmp rfl .nil) rfl rF rF (sD sR) ?_)))))))
  exact ⟨(vB (by rw [normal_cnt]; simp_all)), rfl, rfl⟩
 rw [Bool.not_eq_true] at h1
 refine qs (t := 8) rfl (vB h1) (qs (t := 8) rfl (vB h1) (qs (t := 8) rfl (vB h1) (qs (t := 8) rfl (vB h1) (cX (qV (.bool (false)) (vB h1) rfl (qg (.bool (false)) rfl (qb (qr (qo (L' := L) [.bool (false)] (.bool (false)) (.tmp rfl .nil) rfl rF rF (sD sR) ?_)))))))))
 exact ⟨(vB (by simp_all)), rfl, rfl⟩

/- spec.WalkBy -/
theorem sWalkBy_spec {F : FH} {L : List HP} {arv : Value} {ar : List Int} (har : IntsF F arv ar) {rsv : Value} {rs : List (List Int × List Int)} (hrs : PairsF F rsv rs) {tv : Value} {t : List Int} (ht : IntsF F tv t) {st : Int} {n : Int} (hla : ar.length ≤ 4000000) (hlr : rs.length ≤ 4000000) (hrb : ∀ i, i < rs.length → (rs.getD i ([], [])).1.length ≤ 4000000 ∧ (rs.getD i ([], [])).2.length ≤ 4000000) (hlt : t.length ≤ 4000000) :
    Does prog 131 [.agg #[arv, rsv], tv, ii (st), ii (n)] F (L) (fun v F' L' => ∃ (a : Value), ∃ (b : Value), (.tuple #[.agg #[a, b], .bool ((walkB ar rs t st n).2.2)] : Value) = v ∧ (IntsF F' a (walkB ar rs t st n).1) ∧ (StepsF F' b (walkB ar rs t st n).2.1) ∧ L = L') := by
 refine qD func131 rfl rfl rfl (qc (qa (cX (qW [arv, rsv] rfl rfl ?_))))
 intro b1
 refine cX (jh [sN, sN] zeroValue132 rfl ?_)
 intro b2
 refine qg (.bool (false)) rfl (qb (qc (qc (qa (cX (qq [arv, rsv] qX qL rfl rfl (Rd.ownN [_] rfl rfl) (qf (tv) rfl (qf (ii (st)) rfl (cX (qp (args := [.agg #[arv, rsv], tv, ii (st)]) call192 rfl (l8Right_spec (st := st) har hrs ht (hla := (by first | assumption | rfl | omega | simp)) (hlr := (by first | assumption | rfl | omega | simp)) (hrb := (by first | assumption | rfl | omega | simp)) (hlt := (by first | assumption | rfl | omega | simp))) ?_))))))))))
 rintro _ _ _ _ ⟨rfl, rfl, rfl⟩
 refine cX (jt rfl (qf (.bool (!((rightB ar rs t && decide (1 ≤ st ∧ st ≤ 3))))) rfl ?_))
 by_cases h1 : (!((rightB ar rs t && decide (1 ≤ st ∧ st ≤ 3)))) = true
 ·refine qs (t := 22) rfl (vB h1) (qs (t := 22) rfl (vB h1) (qs (t := 22) rfl (vB h1) (cX (ja (.bool (true)) (vB h1) rfl (qb (jN rfl (qc (qa (cX (jc [sN, sN] [sN, sN] [(0, 1), (1, 1)] [] jo zeroValue132 rfl (.cons rfl qu (.cons rfl sizeOf37 PlacesAre.nil)) rfl CellsAre.nil (cX (qR [] _ [sN, sN] js rfl rfl rfl (qz rfl (qz rfl qU)) rfl rfl rfl (qg (.bool (false)) rfl ?_)))))))))))))
  refine qb (qr (qi (qo (L' := L) [.agg #[sN, sN], .bool (false)] (.tuple #[.agg #[sN, sN], .bool (false)]) (.cell rfl (jC [sN, sN] isAgg132 js rfl (Rd.ownN [] rfl rfl)) (.tmp rfl .nil)) rfl rF rF (sD (sD sR)) ?_)))
  have hw : walkB ar rs t st n = ([], [], false) := walkB_no (by rw [wOk]; cases hx : (rightB ar rs t && decide (1 ≤ st ∧ st ≤ 3)) <;> simp_all <;> (intros; omega))
  exact ⟨_, _, by rw [hw], by rw [hw]; exact IntsF.nilV, by rw [hw]; exact SlOf.nilV, rfl⟩
 rw [Bool.not_eq_true] at h1
 have hri : rightB ar rs t = true ∧ (1 ≤ st ∧ st ≤ 3) := by simpa using h1
 have hsys := (right_iff.1 hri.1).1
 have ho := (right_iff.1 hri.1).2
 have htl := termOk_len ho
 refine qt (t := 22) rfl (vB h1) (qm (ii (n)) rfl (qt (t := 22) rfl (vB h1) (qp (args := [ii (n), ii (0), ii (60)]) call112 rfl (l1In_spec (n := n) (a := 0) (b := 60)) ?_)))
 rintro _ _ _ _ ⟨rfl, rfl, rfl⟩
 refine qt (t := 22) rfl (vB h1) (XOp.notD rfl (cX (qV (.bool (decide (¬(0 ≤ n ∧ n ≤ 60)))) (vB h1) rfl (qb ?_))))
 refine qA (p := ¬(0 ≤ n ∧ n ≤ 60)) rfl (fun h2 => ?_) (fun h2 => ?_)
 ·refine qc (qa (cX (jc [sN, sN] [sN, sN] [(0, 1), (1, 1)] [] jo zeroValue132 rfl (.cons rfl qu (.cons rfl sizeOf37 PlacesAre.nil)) rfl CellsAre.nil (cX (qR [] _ [sN, sN] js rfl rfl rfl (qz rfl (qz rfl qU)) rfl rfl rfl (qg (.bool (false)) rfl (qb (qr (qi (qo (L' := L) [.agg #[sN, sN], .bool (false)] (.tuple #[.agg #[sN, sN], .bool (false)]) (.cell rfl (jC [sN, sN] isAgg132 js rfl (Rd.ownN [] rfl rfl)) (.tmp rfl .nil)) rfl rF rF (sD (sD sR)) ?_))))))))))
  have hw : walkB ar rs t st n = ([], [], false) := walkB_no (by rw [wOk]; cases hx : (rightB ar rs t && decide (1 ≤ st ∧ st ≤ 3)) <;> simp_all <;> (intros; omega))
  exact ⟨_, _, by rw [hw], by rw [hw]; exact IntsF.nilV, by rw [hw]; exact SlOf.nilV, rfl⟩
 refine qx (qc (qa (qf (tv) rfl (cX (jD <| qp (args := [tv]) call193 rfl (l1Copy_spec ht (hlt := (by first | omega | (rw [hu2]; have := termOk_len (stepL_ok hsys hoc (by omega) (by omega) hu); simp only [Option.getD_some]; omega)))) ?_)))))
 rintro v1 _ _ _ ⟨rfl, hs1, rfl⟩
 refine ⟨_, _, rfl, fun F1 le1 hz1 => ?_⟩
 replace har := har.mono le1
 replace hrs := hrs.mono le1
 replace ht := ht.mono le1
 have hf1 : IntsF F1 v1 ((t)) := intsH.fz (xs := (t)) hz1.fz
 refine cX (jc [v1, sN] [sN, sN] [(0, 1), (1, 1)] [(0, [v1])] jo zeroValue132 rfl (.cons rfl qu (.cons rfl sizeOf37 PlacesAre.nil)) rfl (.cons (cells_one (qE hf1)) CellsAre.nil) (cX (jh [sN, sN] zeroValue132 rfl ?_)))
 intro b3
 refine cX (qR [] _ [v1, sN] js rfl rfl rfl (qz (qM (qE hf1)) (qz rfl qU)) rfl rfl rfl (qb (qc (qa (qf (tv) rfl (cX (jD <| qp (args := [tv]) call193 rfl (l1Copy_spec ht (hlt := (by first | omega | (rw [hu2]; have := termOk_len (stepL_ok hsys hoc (by omega) (by omega) hu); simp only [Option.getD_some]; omega)))) ?_)))))))
 rintro v2 _ _ _ ⟨rfl, hs2, rfl⟩
 refine ⟨_, _, rfl, fun F2 le2 hz2 => ?_⟩
 replace har := har.mono le2
 replace hrs := hrs.mono le2
 replace hf1 := hf1.mono le2
 have hf2 : IntsF F2 v2 ((t)) := intsH.fz (xs := (t)) hz2.fz
 refine qg (v2) rfl (qb (qc (qI (jm (α := Value × List Int × Value × List StepT × FH) (fun xQ => [(2, ii (st)), (3, ii (n)), (4, ptr b1 0), (8, ptr b2 0), (10, ptr b3 0), (11, xQ.1)]) (fun xQ => stepsH 40 xQ.2.2.2.2 xQ.2.2.1 xQ.2.2.2.1 :: cellsH b3 [v1, xQ.2.2.1] 132 :: cellsH b2 [sN, sN] 132 :: cellsH b1 [arv, rsv] 32 :: L) (fun xQ F' => xQ.2.2.2.2 = F' ∧ F2 ≤ xQ.2.2.2.2 ∧ (IntsF xQ.2.2.2.2 xQ.1 xQ.2.1) ∧ (termOk ar xQ.2.1 = true) ∧ (IsSl xQ.2.2.1) ∧ (xQ.2.2.2.1.length ≤ n.toNat) ∧ ((walkGo ar rs st n.toNat t).1 = xQ.2.2.2.1 ++ (walkGo ar rs st (n.toNat - xQ.2.2.2.1.length) xQ.2.1).1) ∧ ((walkGo ar rs st n.toNat t).2 = (walkGo ar rs st (n.toNat - xQ.2.2.2.1.length) xQ.2.1).2)) (fun xQ => n.toNat - xQ.2.2.2.1.length) (v2, t, sN, [], F2) ⟨rfl, rfl, rfl, rfl, rfl, rfl, ⟨⟩⟩ (coH.addNil none (sC (sC (sC sR)))) ⟨rfl, FLe.refl _, (hf2), (ho), (⟨_, _, _, rfl⟩), (by simp), (rfl), (rfl)⟩ ?_))))
 rintro ⟨cv, cur, sv, ss, G1⟩ rE _ _ ⟨rfl, leG, hcv, hoc, hsv, hln, hwa, hwb⟩
 show X _ _ _ _ (envs [(2, ii (st)), (3, ii (n)), (4, ptr b1 0), (8, ptr b2 0), (10, ptr b3 0), (11, cv)] rE) _ (stepsH 40 G1 sv ss :: cellsH b3 [v1, sv] 132 :: cellsH b2 [sN, sN] 132 :: cellsH b1 [arv, rsv] 32 :: L)
 replace leG : F2 ≤ G1 := leG
 dsimp only at hcv hoc hsv hln hwa hwb
 have hcl := termOk_len hoc
 have leG1 := leG
 replace har := har.mono leG1
 replace hrs := hrs.mono leG1
 replace hf1 := hf1.mono leG1
 refine X.open [] rfl (fun cs1 hc1 => ?_)
 replace hc1 : StepsC G1 cs1 ss := hc1
 refine qc (qc (qa (cX (qn (1) jo rfl sizeOf37 (by decide) rfl rfl (cX (qj isAgg37 rfl (Rd.own [_] rfl rfl) (cX (qC jp rfl (SlV.own [] rfl) (qf (ii (n)) rfl (cX (qZ rfl rfl (qb ?_))))))))))))
 refine qA (p := ((ss.length : Int) : Int) < n) rfl (fun h3 => ?_) (fun h3 => ?_)
 ·refine qx (qI (qc (qa (cX (qq [arv, rsv] qX qL rfl rfl (Rd.ownN [_, _, _] rfl rfl) (qf (cv) rfl (qf (ii (st)) rfl (cX (qp (args := [.agg #[arv, rsv], cv, ii (st)]) call194 rfl (sPickBy_spec (st := st) har hrs hcv (hla := (by first | assumption | rfl | omega | simp)) (hlr := (by first | assumption | rfl | omega | simp)) (hrb := (by first | assumption | rfl | omega | simp)) (hlt := (by first | assumption | rfl | omega | simp))) ?_)))))))))
  rintro _ _ _ _ ⟨rfl, rfl, rfl⟩
  refine qf (.tuple #[ii (pickAt ar rs cur st), ii (pickRule ar rs cur st), .bool (pickB ar rs cur st)]) rfl (cX (qT (ii (pickAt ar rs cur st)) rfl rfl (cX (qT (ii (pickRule ar rs cur st)) rfl rfl (cX (qT (.bool (pickB ar rs cur st)) rfl rfl (qg (ii (pickAt ar rs cur st)) rfl (qg (ii (pickRule ar rs cur st)) rfl (qg (.bool (pickB ar rs cur st)) rfl (qb (qc (qc (qa (qf (.bool (pickB ar rs cur st)) rfl (cX (jt rfl ?_))))))))))))))))
  refine qb ?_
  refine jB (t := !(pickB ar rs cur st)) rfl (fun h4 => ?_) (fun h4 => ?_)
  ·have hpb : pickB ar rs cur st = false := by simpa using h4
   have he : redL ar rs cur = [] := Classical.byContradiction (fun hne => by rw [pickB_iff.2 ⟨right_iff.2 ⟨hsys, hoc⟩, hri.2, hne⟩] at hpb; cases hpb)
   have hend : walkGo ar rs st (n.toNat - ss.length) cur = ([], normalL ar rs cur) := by rw [walk_nil he, normalL, decide_eq_true he]
   refine je (qv (blockQ_other (by decide) (qv (qN (qc ?_)))))
   refine jM [slH 40 3 sv ((ss).length) cs1, cellsH b3 [v1, sv] 132, cellsH b2 [sN, sN] 132, cellsH b1 [arv, rsv] 32] L 4 [] [[], [], [], [1, 2]] (phiL [qe (.agg #[v1, sv]), qe (.agg #[arv, rsv]), qe cv, qe (.bool ((rightB ar rs cur && normalL ar rs cur)))]) (ownL []) mixed rfl rfl (by kernel_rfl) ?_ ?_
   ·refine pD (fun W R z9 => ?_) ?_
    ·refine qh (qq [v1, sv] isAgg132 js rfl rfl (Rd.ownN [_] rfl rfl) ?_)
     exact ⟨rfl, rfl, rfl⟩
    refine pD (fun W R z9 => ?_) ?_
    ·refine qh (qq [arv, rsv] qX qL rfl rfl (Rd.ownN [_, _, _] rfl rfl) ?_)
     exact ⟨rfl, rfl, rfl⟩
    refine pD (fun W R z9 => ?_) ?_
    ·refine qh (qm (cv) rfl ?_)
     exact ⟨rfl, rfl, rfl⟩
    refine pD (fun W R z9 => ?_) ?_
    ·rw [eS (l := [(1, _), (2, _)]) ⟨z9 1 rfl, z9 2 rfl, ⟨⟩⟩]
     refine qh (qp (args := [.agg #[arv, rsv], cv]) call195 rfl (sNormalIn_spec har hrs hcv (hla := (by first | assumption | rfl | omega | simp)) (hlr := (by first | assumption | rfl | omega | simp)) (hrb := (by first | assumption | rfl | omega | simp)) (hlt := (by first | assumption | rfl | omega | simp))) ?_)
     rintro _ _ _ _ ⟨rfl, rfl, rfl⟩
     exact ⟨rfl, rfl, rfl⟩
    exact stepsP.nil
   intro W hphi
   rw [eS (l := [(0, _), (3, _)]) ⟨(hphi 0 (by decide)), (hphi 3 (by decide)), ⟨⟩⟩]
   show XL _ _ _ _ _ _ _ (slH 40 3 sv ((ss).length) cs1 :: cellsH b3 [v1, sv] 132 :: cellsH b2 [sN, sN] 132 :: cellsH b1 [arv, rsv] 32 :: L)
   refine cX (qR [_, _] _ [v1, sv] js rfl rfl rfl (qz (qM (qE hf1)) (qz (qM hsv) qU)) rfl rfl rfl (qg (.bool ((rightB ar rs cur && normalL ar rs cur))) rfl (qb (qH [] _ _ rfl (fun F3 le3 hz3 => ?_)))))
   replace har := har.mono le3
   replace hrs := hrs.mono le3
   replace hf1 := hf1.mono le3
   replace hcv := hcv.mono le3
   replace hc1 := hc1.mono le3
   have hf3 : StepsF F3 sv ss := CO.fz hc1 (by first | rfl | omega | (rw [List.length_set]; omega) | (simp; done)) hz3.fz
   refine qr (qo (L' := L) [.agg #[v1, sv], .bool ((rightB ar rs cur && normalL ar rs cur))] (.tuple #[.agg #[v1, sv], .bool ((rightB ar rs cur && normalL ar rs cur))]) (.cell rfl (jC [v1, sv] isAgg132 js rfl (Rd.ownN [_] rfl rfl)) (.tmp rfl .nil)) rfl (qk (qk (qk le1 le2) leG1) le3) rF (sD (sD (sD sR))) ?_)
   have hw := walkB_yes (ar := ar) (rs := rs) (t := t) (st := st) (n := n) (by rw [wOk]; simp [hri, hri.2]; omega)
   have e : walkGo ar rs st n.toNat t = (ss, normalL ar rs cur) := Prod.ext (by rw [hwa, hend]; simp) (by rw [hwb, hend])
   have hrc : rightB ar rs cur = true := right_iff.2 ⟨hsys, hoc⟩
   exact ⟨_, _, by rw [hw, e, hrc, Bool.true_and], by rw [hw]; exact hf1, by rw [hw, e]; exact hf3, rfl⟩
  have hpb : pickB ar rs cur st = true := by simpa using h4
  have hne := (pickB_iff.1 hpb).2.2
  have hpa : pickAt ar rs cur st = pickL ar rs cur st := by rw [pickAt, if_pos hpb]
  have hpr : pickRule ar rs cur st = ruleAtL ar rs cur (pickL ar rs cur st).toNat := by rw [pickRule, if_pos hpb]
  obtain ⟨q, hq1, hq2, hq3, _⟩ := (pick_spec (ar := ar) (rs := rs) (t := cur) st).resolve_left (fun h => hne h.2)
  have hpn : (pickL ar rs cur st).toNat = q := by omega
  have hrr : 0 ≤ ruleAtL ar rs cur (pickL ar rs cur st).toNat := by rw [hpn]; simpa [hasR] using hq3
  obtain ⟨k, hk1, hk2, _⟩ := (M.ruleAt_spec (ar := ar) (rs := rs) (t := cur) (p := (pickL ar rs cur st).toNat)).resolve_left (by omega)
  refine qx (qc (qa (cX (qq [arv, rsv] qX qL rfl rfl (Rd.ownN [_, _, _] rfl rfl) (qf (cv) rfl (qf (ii (pickAt ar rs cur st)) rfl (qf (ii (pickRule ar rs cur st)) rfl (cX (qp (args := [.agg #[arv, rsv], cv, ii (((pickAt ar rs cur st).toNat : Nat) : Int), ii (((pickRule ar rs cur st).toNat : Nat) : Int)]) call113 (by rw [show (((pickAt ar rs cur st).toNat : Nat) : Int) = pickAt ar rs cur st from by omega, show (((pickRule ar rs cur st).toNat : Nat) : Int) = pickRule ar rs cur st from by omega]; rfl) (l7Step_spec (p := (pickAt ar rs cur st).toNat) (r := (pickRule ar rs cur st).toNat) har hrs hcv (hsys := (by first | assumption | rfl | omega | simp)) (ho := (by first | assumption | rfl | omega | simp)) (hp := (by first | assumption | rfl | omega | simp)) (hr := (by first | assumption | rfl | omega | simp))) ?_)))))))))
  rintro _ F4 _ le4 ⟨x1, rfl, hr1, rfl⟩
  replace har := har.mono le4
  replace hrs := hrs.mono le4
  replace hf1 := hf1.mono le4
  replace hcv := hcv.mono le4
  replace hc1 := hc1.mono le4
  refine qf (.tuple #[x1, .bool ((stepL ar rs cur ((pickAt ar rs cur st).toNat) ((pickRule ar rs cur st).toNat)).isSome)]) rfl (cX (qT (x1) rfl rfl (cX (qT (.bool ((stepL ar rs cur ((pickAt ar rs cur st).toNat) ((pickRule ar rs cur st).toNat)).isSome)) rfl rfl (qg (x1) rfl (qg (.bool ((stepL ar rs cur ((pickAt ar rs cur st).toNat) ((pickRule ar rs cur st).toNat)).isSome)) rfl (qb (qc (qc (qa (qf (.bool ((stepL ar rs cur ((pickAt ar rs cur st).toNat) ((pickRule ar rs cur st).toNat)).isSome)) rfl (cX (jt rfl (qb ?_))))))))))))))
  refine jB (t := !((stepL ar rs cur ((pickAt ar rs cur st).toNat) ((pickRule ar rs cur st).toNat)).isSome)) rfl (fun h5 => ?_) (fun h5 => ?_)
  ·have hu : (stepL ar rs cur (pickL ar rs cur st).toNat (ruleAtL ar rs cur (pickL ar rs cur st).toNat).toNat).isSome = false := by rw [← hpr, ← hpa]; simpa using h5
   have hend : walkGo ar rs st (n.toNat - ss.length) cur = ([], normalL ar rs cur) := by rw [walk_stuck (by omega) hne hu, normalL, decide_eq_false hne]
   refine je (qv (blockQ_other (by decide) (qv (qN (qc ?_)))))
   refine jM [slH 40 3 sv ((ss).length) cs1, cellsH b3 [v1, sv] 132, cellsH b2 [sN, sN] 132, cellsH b1 [arv, rsv] 32] L 4 [] [[], [], [], [1, 2]] (phiL [qe (.agg #[v1, sv]), qe (.agg #[arv, rsv]), qe cv, qe (.bool ((rightB ar rs cur && normalL ar rs cur)))]) (ownL []) mixed rfl rfl (by kernel_rfl) ?_ ?_
   ·refine pD (fun W R z9 => ?_) ?_
    ·refine qh (qq [v1, sv] isAgg132 js rfl rfl (Rd.ownN [_] rfl rfl) ?_)
     exact ⟨rfl, rfl, rfl⟩
    refine pD (fun W R z9 => ?_) ?_
    ·refine qh (qq [arv, rsv] qX qL rfl rfl (Rd.ownN [_, _, _] rfl rfl) ?_)
     exact ⟨rfl, rfl, rfl⟩
    refine pD (fun W R z9 => ?_) ?_
    ·refine qh (qm (cv) rfl ?_)
     exact ⟨rfl, rfl, rfl⟩
    refine pD (fun W R z9 => ?_) ?_
    ·rw [eS (l := [(1, _), (2, _)]) ⟨z9 1 rfl, z9 2 rfl, ⟨⟩⟩]
     refine qh (qp (args := [.agg #[arv, rsv], cv]) call195 rfl (sNormalIn_spec har hrs hcv (hla := (by first | assumption | rfl | omega | simp)) (hlr := (by first | assumption | rfl | omega | simp)) (hrb := (by first | assumption | rfl | omega | simp)) (hlt := (by first | assumption | rfl | omega | simp))) ?_)
     rintro _ _ _ _ ⟨rfl, rfl, rfl⟩
     exact ⟨rfl, rfl, rfl⟩
    exact stepsP.nil
   intro W hphi
   rw [eS (l := [(0, _), (3, _)]) ⟨(hphi 0 (by decide)), (hphi 3 (by decide)), ⟨⟩⟩]
   show XL _ _ _ _ _ _ _ (slH 40 3 sv ((ss).length) cs1 :: cellsH b3 [v1, sv] 132 :: cellsH b2 [sN, sN] 132 :: cellsH b1 [arv, rsv] 32 :: L)
   refine cX (qR [_, _] _ [v1, sv] js rfl rfl rfl (qz (qM (qE hf1)) (qz (qM hsv) qU)) rfl rfl rfl (qg (.bool ((rightB ar rs cur && normalL ar rs cur))) rfl (qb (qH [] _ _ rfl (fun F5 le5 hz4 => ?_)))))
   replace har := har.mono le5
   replace hrs := hrs.mono le5
   replace hf1 := hf1.mono le5
   replace hcv := hcv.mono le5
   replace hc1 := hc1.mono le5
   replace hr1 := hr1.mono le5
   have hf4 : StepsF F5 sv ss := CO.fz hc1 (by first | rfl | omega | (rw [List.length_set]; omega) | (simp; done)) hz4.fz
   refine qr (qo (L' := L) [.agg #[v1, sv], .bool ((rightB ar rs cur && normalL ar rs cur))] (.tuple #[.agg #[v1, sv], .bool ((rightB ar rs cur && normalL ar rs cur))]) (.cell rfl (jC [v1, sv] isAgg132 js rfl (Rd.ownN [_] rfl rfl)) (.tmp rfl .nil)) rfl (qk (qk (qk (qk le1 le2) leG1) le4) le5) rF (sD (sD (sD sR))) ?_)
   have hw := walkB_yes (ar := ar) (rs := rs) (t := t) (st := st) (n := n) (by rw [wOk]; simp [hri, hri.2]; omega)
   have e : walkGo ar rs st n.toNat t = (ss, normalL ar rs cur) := Prod.ext (by rw [hwa, hend]; simp) (by rw [hwb, hend])
   have hrc : rightB ar rs cur = true := right_iff.2 ⟨hsys, hoc⟩
   exact ⟨_, _, by rw [hw, e, hrc, Bool.true_and], by rw [hw]; exact hf1, by rw [hw, e]; exact hf4, rfl⟩
  obtain ⟨u, hu⟩ := Option.isSome_iff_exists.1 (show (stepL ar rs cur (pickL ar rs cur st).toNat (ruleAtL ar rs cur (pickL ar rs cur st).toNat).toNat).isSome = true from by rw [← hpr, ← hpa]; simpa using h5)
  have hu2 : stepL ar rs cur (pickAt ar rs cur st).toNat (pickRule ar rs cur st).toNat = some u := by rw [hpa, hpr]; exact hu
  refine qx (qc (qa (cX (qn (1) jo rfl sizeOf37 (by decide) rfl rfl (cX (qj isAgg37 rfl (Rd.own [_] rfl rfl) (qf (ii (pickAt ar rs cur st)) rfl (qf (ii (pickRule ar rs cur st)) rfl (qf (x1) rfl (cX (jc [ii (pickAt ar rs cur st), ii (pickRule ar rs cur st), x1] [ii (0), ii (0), sN] [(0, 1), (1, 1), (2, 1)] [(0, [ii (pickAt ar rs cur st)]), (1, [ii (pickRule ar rs cur st)]), (2, [x1])] runUnderlying40 zeroValue40 rfl (.cons rfl qw (.cons rfl qw (.cons rfl qu PlacesAre.nil))) rfl (.cons rfl (.cons rfl (.cons (cells_one (qE hr1)) CellsAre.nil))) (cX (ql (s := 3) [ii (pickAt ar rs cur st), ii (pickRule ar rs cur st), x1] [ii (0), ii (0), sN] [(0, [ii (pickAt ar rs cur st), ii (pickRule ar rs cur st), x1])] jp sizeOf40 zeroValue40 rfl (by decide) rfl (.cons rfl CellsAre.nil) rfl ?_)))))))))))))
  intro v3 hv1
  refine cX (jQ (m := 1) (bytes := 40) (cs := cs1) [_] _ [ii (pickAt ar rs cur st), ii (pickRule ar rs cur st), x1] jp typeInfo40 rfl rfl rfl rfl rfl rfl rfl (SlV.own [] rfl) rfl (Rd.lit [] rfl) (qz rfl (qz rfl (qz (qM (qE hr1)) qU))) (by (try simp only [List.length_append, List.length_nil, List.length_cons, List.length_singleton]); omega) (by (try simp only [List.length_append, List.length_nil, List.length_cons, List.length_singleton]); omega) ?_)
  intro v4 hs3 hn1 hm1
  have hc2 := StepsC.snoc hc1 (i := pickAt ar rs cur st) (j := pickRule ar rs cur st) hr1
  refine cX (qn (1) jo rfl sizeOf37 (by decide) rfl rfl (cX (jz [_, _] _ [v1, v4] sizeOf37 rfl rfl (qM hs3) rfl rfl rfl (qb (qa (qf (x1) rfl (cX (jD <| qp (args := [x1]) call193 rfl (l1Copy_spec hr1 (hlt := (by first | omega | (rw [hu2]; have := termOk_len (stepL_ok hsys hoc (by omega) (by omega) hu); simp only [Option.getD_some]; omega)))) ?_))))))))
  rintro v5 _ _ _ ⟨rfl, hs4, rfl⟩
  refine ⟨_, _, rfl, fun F6 le6 hz5 => ?_⟩
  replace har := har.mono le6
  replace hrs := hrs.mono le6
  replace hf1 := hf1.mono le6
  replace hcv := hcv.mono le6
  replace hc1 := hc1.mono le6
  replace hc2 := hc2.mono le6
  have hf5 : IntsF F6 v5 ((((stepL ar rs cur ((pickAt ar rs cur st).toNat) ((pickRule ar rs cur st).toNat)).getD []))) := intsH.fz (xs := (((stepL ar rs cur ((pickAt ar rs cur st).toNat) ((pickRule ar rs cur st).toNat)).getD []))) hz5.fz
  refine qg (v5) rfl (qb ?_)
  exact ⟨(v5, (((stepL ar rs cur ((pickAt ar rs cur st).toNat) ((pickRule ar rs cur st).toNat)).getD [])), v4, ss ++ [(pickAt ar rs cur st, pickRule ar rs cur st, (stepL ar rs cur ((pickAt ar rs cur st).toNat) ((pickRule ar rs cur st).toNat)).getD [])], F6), _, (qk (qk leG1 le4) le6), rF, ⟨rfl, rfl, rfl, rfl, rfl, rfl, ⟨⟩⟩, (sD (coH.close hc2 (by first | rfl | simp) (sC (sC (sC sR))))), ⟨rfl, (qk (qk leG1 le4) le6), (hf5), (by dsimp only; rw [hu2]; exact stepL_ok hsys hoc (by omega) (by omega) hu), (hs3), (by dsimp only; rw [List.length_append]; simp only [List.length_singleton]; omega), (by dsimp only; rw [hwa, walk_next (m := n.toNat - ss.length) (by omega) hne hu, hu2, hpa, hpr]; simp only [Option.getD_some, List.length_append, List.length_singleton, List.append_assoc, List.singleton_append]; rw [show n.toNat - ss.length - 1 = n.toNat - (ss.length + 1) from by omega]), (by dsimp only; rw [hwb, walk_next (m := n.toNat - ss.length) (by omega) hne hu, hu2]; simp only [Option.getD_some, List.length_append, List.length_singleton]; rw [show n.toNat - ss.length - 1 = n.toNat - (ss.length + 1) from by omega])⟩, (by dsimp only; rw [List.length_append]; simp only [List.length_singleton]; omega)⟩
 have hend : walkGo ar rs st (n.toNat - ss.length) cur = ([], normalL ar rs cur) := by rw [show n.toNat - ss.length = 0 from by omega]; rfl
 refine je (qv (qv (qN (qc ?_))))
 refine jM [slH 40 3 sv ((ss).length) cs1, cellsH b3 [v1, sv] 132, cellsH b2 [sN, sN] 132, cellsH b1 [arv, rsv] 32] L 4 [] [[], [], [], [1, 2]] (phiL [qe (.agg #[v1, sv]), qe (.agg #[arv, rsv]), qe cv, qe (.bool ((rightB ar rs cur && normalL ar rs cur)))]) (ownL []) mixed rfl rfl (by kernel_rfl) ?_ ?_
 ·refine pD (fun W R z9 => ?_) ?_
  ·refine qh (qq [v1, sv] isAgg132 js rfl rfl (Rd.ownN [_] rfl rfl) ?_)
   exact ⟨rfl, rfl, rfl⟩
  refine pD (fun W R z9 => ?_) ?_
  ·refine qh (qq [arv, rsv] qX qL rfl rfl (Rd.ownN [_, _, _] rfl rfl) ?_)
   exact ⟨rfl, rfl, rfl⟩
  refine pD (fun W R z9 => ?_) ?_
  ·refine qh (qm (cv) rfl ?_)
   exact ⟨rfl, rfl, rfl⟩
  refine pD (fun W R z9 => ?_) ?_
  ·rw [eS (l := [(1, _), (2, _)]) ⟨z9 1 rfl, z9 2 rfl, ⟨⟩⟩]
   refine qh (qp (args := [.agg #[arv, rsv], cv]) call195 rfl (sNormalIn_spec har hrs hcv (hla := (by first | assumption | rfl | omega | simp)) (hlr := (by first | assumption | rfl | omega | simp)) (hrb := (by first | assumption | rfl | omega | simp)) (hlt := (by first | assumption | rfl | omega | simp))) ?_)
   rintro _ _ _ _ ⟨rfl, rfl, rfl⟩
   exact ⟨rfl, rfl, rfl⟩
  exact stepsP.nil
 intro W hphi
 rw [eS (l := [(0, _), (3, _)]) ⟨(hphi 0 (by decide)), (hphi 3 (by decide)), ⟨⟩⟩]
 show XL _ _ _ _ _ _ _ (slH 40 3 sv ((ss).length) cs1 :: cellsH b3 [v1, sv] 132 :: cellsH b2 [sN, sN] 132 :: cellsH b1 [arv, rsv] 32 :: L)
 refine cX (qR [_, _] _ [v1, sv] js rfl rfl rfl (qz (qM (qE hf1)) (qz (qM hsv) qU)) rfl rfl rfl (qg (.bool ((rightB ar rs cur && normalL ar rs cur))) rfl (qb (qH [] _ _ rfl (fun F7 le7 hz6 => ?_)))))
 replace hf1 := hf1.mono le7
 replace hc1 := hc1.mono le7
 have hf6 : StepsF F7 sv ss := CO.fz hc1 (by first | rfl | omega | (rw [List.length_set]; omega) | (simp; done)) hz6.fz
 refine qr (qo (L' := L) [.agg #[v1, sv], .bool ((rightB ar rs cur && normalL ar rs cur))] (.tuple #[.agg #[v1, sv], .bool ((rightB ar rs cur && normalL ar rs cur))]) (.cell rfl (jC [v1, sv] isAgg132 js rfl (Rd.ownN [_] rfl rfl)) (.tmp rfl .nil)) rfl (qk (qk (qk le1 le2) leG1) le7) rF (sD (sD (sD sR))) ?_)
 have hw := walkB_yes (ar := ar) (rs := rs) (t := t) (st := st) (n := n) (by rw [wOk]; simp [hri, hri.2]; omega)
 have e : walkGo ar rs st n.toNat t = (ss, normalL ar rs cur) := Prod.ext (by rw [hwa, hend]; simp) (by rw [hwb, hend])
 have hrc : rightB ar rs cur = true := right_iff.2 ⟨hsys, hoc⟩
 exact ⟨_, _, by rw [hw, e, hrc, Bool.true_and], by rw [hw]; exact hf1, by rw [hw, e]; exact hf6, rfl⟩

/- (impl.Walk).end -/
theorem walkEnd_spec {F : FH} {L : List HP} {fv : Value} {f : List Int} (hf : IntsF F fv f) {ssv : Value} {ss : List StepT} (hss : StepsF F ssv ss) (hlss : ss.length ≤ 4000000) :
    Does prog 130 [.agg #[fv, ssv]] F (L) (fun v F' L' => F = F' ∧ ∃ (a : Value), (a : Value) = v ∧ (IntsF F' a (endL f ss)) ∧ L = L') := by
 refine qD func130 rfl rfl rfl (qc (qa (cX (qW [fv, ssv] rfl rfl ?_))))
 intro b1
 refine qg (sN) rfl (qb (qc (qc (qa (cX (qn (1) jo rfl sizeOf37 (by decide) rfl rfl (cX (qj isAgg37 rfl (Rd.own [] rfl rfl) (cX (qC jp rfl hss.slv (qg (ii ((ss.length : Int))) rfl (qb (qc (qa (qf (ii ((ss.length : Int))) rfl (cX (jA rfl rfl (qb ?_))))))))))))))))))
 refine qA (p := ((ss.length : Int) : Int) > 0) rfl (fun h1 => ?_) (fun h1 => ?_)
 ·refine qc (qa (cX (qn (1) jo rfl sizeOf37 (by decide) rfl rfl (cX (qj isAgg37 rfl (Rd.own [] rfl rfl) (qf (ii ((ss.length : Int))) rfl (cX (jf (((((ss).length) - 1 : Nat) : Int)) rfl rfl (by omega) (by omega) (cX (qB (((ss).length) - 1) jp sizeOf40 rfl rfl rfl hss.slv (by omega) rfl (cX (XOp.fieldE ((((ss).length) - 1) * 3 + 2) runUnderlying40 rfl qu (by decide) rfl rfl ?_))))))))))))
  obtain ⟨a1, ha1, hr1, hr2, hr3⟩ := hss.rd (i := ((ss).length) - 1) (by omega)
  refine cX (qj qY rfl (hr3 _) (qg (a1) rfl (qb (qr (qi (qo (L' := L) [a1] (a1) (.tmp rfl .nil) rfl rF rF (sD sR) ?_))))))
  exact ⟨rfl, _, rfl, by rw [endL, if_neg (by omega)]; exact ha1, rfl⟩
 refine qx (qc (qa (cX (qn (0) jo rfl qu (by decide) rfl rfl (cX (qj qY rfl (Rd.own [] rfl rfl) (qg (fv) rfl (qb (qr (qo (L' := L) [fv] (fv) (.tmp rfl .nil) rfl rF rF (sD sR) ?_))))))))))
 exact ⟨rfl, _, rfl, by rw [endL, if_pos (by omega)]; exact hf, rfl⟩

/- spec.l7End -/
theorem l7End_spec {F : FH} {L : List HP} {fv : Value} {f : List Int} (hf : IntsF F fv f) {ssv : Value} {ss : List StepT} (hss : StepsF F ssv ss) (hlf : f.length ≤ 4000000) (hlss : ss.length ≤ 4000000) (hsb : ∀ i, i < ss.length → (ss.getD i (0, 0, [])).2.2.length ≤ 4000000) :
    Does prog 132 [.agg #[fv, ssv]] F (L) (fun v F' L' => F = F' ∧ IsSl v ∧ intsH 2 v (endL f ss) :: L = L') := by
 refine qD func132 rfl rfl rfl ?_
 have hsb1 := hsb (ss.length - 1)
 refine qc (qa (cX (qW [fv, ssv] rfl rfl ?_)))
 intro b1
 refine qg (sN) rfl (qb (qc (qc (qa (cX (qn (1) jo rfl sizeOf37 (by decide) rfl rfl (cX (qj isAgg37 rfl (Rd.own [] rfl rfl) (cX (qC jp rfl hss.slv (cX (jq rfl rfl (qb ?_)))))))))))))
 refine qA (p := ((ss.length : Int) : Int) = 0) rfl (fun h1 => ?_) (fun h1 => ?_)
 ·refine qc (qa (cX (qn (0) jo rfl qu (by decide) rfl rfl (cX (qj qY rfl (Rd.own [] rfl rfl) (cX (qp (args := [fv]) call193 rfl (l1Copy_spec hf (hlt := (by first | assumption | rfl | omega | simp))) ?_)))))))
  rintro v1 _ _ _ ⟨rfl, hs1, rfl⟩
  refine qg (v1) rfl (qb (qr (qi (qo (L' := intsH 2 v1 ((f)) :: L) [v1] (v1) (.tmp rfl .nil) rfl rF rF (sC (sD sR)) ?_))))
  refine ⟨rfl, hs1, ?_⟩
  have hxs : (endL f ss : List Int) = (f) := by rw [endL, if_pos (by omega)]
  exact congrArg (fun z => intsH 2 _ z :: L) hxs
 refine qx (qc (qa (cX (qn (1) jo rfl sizeOf37 (by decide) rfl rfl (cX (qj isAgg37 rfl (Rd.own [] rfl rfl) (cX (qn (1) jo rfl sizeOf37 (by decide) rfl rfl (cX (qj isAgg37 rfl (Rd.own [] rfl rfl) (cX (qC jp rfl hss.slv (cX (jf (((((ss).length) - 1 : Nat) : Int)) rfl rfl (by omega) (by omega) (cX (qB (((ss).length) - 1) jp sizeOf40 rfl rfl rfl hss.slv (by omega) rfl (cX (XOp.fieldE ((((ss).length) - 1) * 3 + 2) runUnderlying40 rfl qu (by decide) rfl rfl ?_))))))))))))))))))
 obtain ⟨a1, ha1, hr1, hr2, hr3⟩ := hss.rd (i := ((ss).length) - 1) (by omega)
 refine cX (qj qY rfl (hr3 _) (cX (qp (args := [a1]) call193 rfl (l1Copy_spec ha1 (hlt := (by first | assumption | rfl | omega | simp))) ?_)))
 rintro v2 _ _ _ ⟨rfl, hs2, rfl⟩
 refine qg (v2) rfl (qb (qr (qo (L' := intsH 2 v2 ((((ss.getD (((ss).length) - 1) (0, 0, [])).2.2))) :: L) [v2] (v2) (.tmp rfl .nil) rfl rF rF (sC (sD sR)) ?_)))
 refine ⟨rfl, hs2, ?_⟩
 have hxs : (endL f ss : List Int) = (((ss.getD (((ss).length) - 1) (0, 0, [])).2.2)) := by rw [endL, if_neg (by omega)]
 exact congrArg (fun z => intsH 2 _ z :: L) hxs

/- spec.NormalBy -/
theorem sNormalBy_spec {F : FH} {L : List HP} {arv : Value} {ar : List Int} (har : IntsF F arv ar) {rsv : Value} {rs : List (List Int × List Int)} (hrs : PairsF F rsv rs) {tv : Value} {t : List Int} (ht : IntsF F tv t) {st : Int} {n : Int} (hla : ar.length ≤ 4000000) (hlr : rs.length ≤ 4000000) (hrb : ∀ i, i < rs.length → (rs.getD i ([], [])).1.length ≤ 4000000 ∧ (rs.getD i ([], [])).2.length ≤ 4000000) (hlt : t.length ≤ 4000000) :
    Does prog 69 [.agg #[arv, rsv], tv, ii (st), ii (n)] F (L) (fun v F' L' => ∃ (a : Value), (.tuple #[a, .bool ((normB ar rs t st n).2)] : Value) = v ∧ (IntsF F' a (normB ar rs t st n).1) ∧ L = L') := by
 refine qD func69 rfl rfl rfl (qc (qa (cX (qW [arv, rsv] rfl rfl ?_))))
 intro b1
 refine qg (sN) rfl (qg (.bool (false)) rfl (qb (qc (qa (cX (qq [arv, rsv] qX qL rfl rfl (Rd.ownN [] rfl rfl) (qf (tv) rfl (qf (ii (st)) rfl (qf (ii (n)) rfl (cX (qp (args := [.agg #[arv, rsv], tv, ii (st), ii (n)]) call131 rfl (sWalkBy_spec (st := st) (n := n) har hrs ht (hla := (by first | assumption | rfl | omega | simp)) (hlr := (by first | assumption | rfl | omega | simp)) (hrb := (by first | assumption | rfl | omega | simp)) (hlt := (by first | assumption | rfl | omega | simp))) ?_)))))))))))
 rintro _ F1 _ le1 ⟨x1, x2, rfl, hr1, hr2, rfl⟩
 refine qf (.tuple #[.agg #[x1, x2], .bool ((walkB ar rs t st n).2.2)]) rfl (cX (qT (.agg #[x1, x2]) rfl rfl (cX (qT (.bool ((walkB ar rs t st n).2.2)) rfl rfl (cX (jh [sN, sN] zeroValue132 rfl ?_))))))
 intro b2
 refine cX (qR [] _ [x1, x2] js rfl rfl rfl (qz (qM (qE hr1)) (qz (qM (StepsF.isSl hr2)) qU)) rfl rfl rfl (qg (.bool ((walkB ar rs t st n).2.2)) rfl (qb (qc (qc (qa (qf (.bool ((walkB ar rs t st n).2.2)) rfl (cX (jt rfl (qb ?_))))))))))
 refine jB (t := !((walkB ar rs t st n).2.2)) rfl (fun h1 => ?_) (fun h1 => ?_)
 ·have hw2 : (walkB ar rs t st n).2.2 = false := by simpa using h1
  refine qc (qa (cX (ql (s := 1) [] [ii (0)] [] qd qw qG rfl (by decide) rfl CellsAre.nil rfl ?_)))
  intro v1 hv1
  refine qg (v1) rfl (qg (.bool (false)) rfl (qb ?_))
  show X _ _ _ _ _ _ (intsH 2 v1 ([] : List Int) :: cellsH b2 [x1, x2] 132 :: cellsH b1 [arv, rsv] 32 :: L)
  refine qH [] _ _ rfl (fun F2 le2 hz1 => ?_)
  replace hr1 := hr1.mono le2
  replace hr2 := hr2.mono le2
  have hf1 : IntsF F2 v1 ([]) := intsH.fz (xs := []) hz1.fz
  refine qr (qi (qo (L' := L) [v1, .bool (false)] (.tuple #[v1, .bool (false)]) (.tmp rfl (.tmp rfl .nil)) rfl (qk le1 le2) rF (sD (sD sR)) ?_))
  have e : normB ar rs t st n = ([], false) := by rw [normB, if_neg (by rw [hw2]; simp)]
  exact ⟨_, by rw [e], by rw [e]; exact hf1, rfl⟩
 have hw2 : (walkB ar rs t st n).2.2 = true := by simpa using h1
 obtain ⟨hw3, hw4, hw5, hw6⟩ := walkB_ok hw2
 have hel : 1 ≤ (endL (walkB ar rs t st n).1 (walkB ar rs t st n).2.1).length ∧ (endL (walkB ar rs t st n).1 (walkB ar rs t st n).2.1).length ≤ 60 := by rw [hw4]; exact termOk_len hw6
 have hwl := walkB_len (ar := ar) (rs := rs) (t := t) (st := st) (n := n)
 refine qx (qc (qa (cX (qq [x1, x2] isAgg132 js rfl rfl (Rd.ownN [] rfl rfl) (cX (jD <| qp (args := [.agg #[x1, x2]]) call132 rfl (l7End_spec hr1 hr2 (hlf := (by rw [hw4]; exact hlt)) (hlss := (by first | assumption | rfl | omega | simp)) (hsb := (fun i hi => by have := termOk_len (walkOk_to hw5 hi); omega))) ?_))))))
 rintro v2 _ _ _ ⟨rfl, hs1, rfl⟩
 refine ⟨_, _, rfl, fun F3 le3 hz2 => ?_⟩
 have hf2 : IntsF F3 v2 ((endL ((walkB ar rs t st n).1) ((walkB ar rs t st n).2.1))) := intsH.fz (xs := (endL ((walkB ar rs t st n).1) ((walkB ar rs t st n).2.1))) hz2.fz
 refine qg (v2) rfl (qg (.bool (true)) rfl (qb (qr (qo (L' := L) [v2, .bool (true)] (.tuple #[v2, .bool (true)]) (.tmp rfl (.tmp rfl .nil)) rfl (qk le1 le3) rF (sD (sD sR)) ?_))))
 have e : normB ar rs t st n = (endL (walkB ar rs t st n).1 (walkB ar rs t st n).2.1, true) := by rw [normB, if_pos hw2]
 exact ⟨_, by rw [e], by rw [e]; exact hf2, rfl⟩
end Go.Proofs.Ytcdjpapjjoldeaa
