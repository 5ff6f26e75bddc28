/-
  Walks, one after the other (part 5).
-/
import Derived.Test.YtenomejgjcpbdaaGreatQKL1
import Derived.Test.YtenomejgjcpbdaaGreatQKB1
import Derived.Test.YtenomejgjcpbdaaGreatQKB2
import Derived.Test.YtenomejgjcpbdaaGreatQKB3
set_option linter.unusedSimpArgs false
set_option linter.unusedVariables false
namespace Go.Proofs.YtenomejgjcpbdaaGreat
open Go X M Tryz

/- laws.big -/
theorem big_spec {F : FH} {L : List HP} {bsv : Value} {bs : List Int} (hbs : BytesF F bsv bs) :
    Does prog 26 [bsv] F (L) (fun v F' L' => (.bool (decide ((bs.length : Int) > 4096)) : Value) = v ∧ F = F' ∧ L = L') := by
 refine qH func26 rfl rfl rfl (qf (qc (qi (.bool (false)) rfl (qd (qf (qc (qh (bsv) rfl (cX (qE runUnderlying60 rfl hbs.slv (cX (jH rfl rfl (qi (.bool (decide (((bs.length : Int) : Int) > 4096))) rfl (qd (qu (qs (L' := L) [.bool (decide (((bs.length : Int) : Int) > 4096))] (.bool (decide (((bs.length : Int) : Int) > 4096))) (.tmp rfl .nil) rfl rF rF sR ?_)))))))))))))))
 exact ⟨rfl, rfl, rfl⟩

/- spec.ArgsAt -/
theorem ArgsAt_spec {F : FH} {L : List HP} {arv : Value} {ar : List Int} (har : IntsF F arv ar) {tv : Value} {t : List Int} (ht : IntsF F tv t) {p : Nat} (ho : termOk ar t = true) (hp : p < t.length) :
    Does prog 300 [.agg #[arv], tv, ii ((p : Int))] F (L) (fun v F' L' => F = F' ∧ IsSl v ∧ intsH 2 v (argsL ar t p) :: L = L') := by
 refine qH func300 rfl rfl rfl ?_
 have hsl := sigOk_spec (termOk_sig ho)
 have htl := termOk_len ho
 refine qf (qc (cX (qZ [arv] rfl rfl ?_)))
 intro b1
 refine qi (sN) rfl (qd (qf (qf (qc (cX (qq [arv] qI qw rfl rfl (Rd.ownN [] rfl rfl) (qh (tv) rfl (cX (qm (args := [.agg #[arv], tv]) call136 rfl (sTermOk_spec har ht (hla := (by first | assumption | rfl | omega | simp)) (hlt := (by first | assumption | rfl | omega | simp))) ?_)))))))))
 rintro _ _ _ _ ⟨rfl, rfl, rfl⟩
 refine cX (jf rfl (qh (.bool (!(termOk ar t))) rfl ?_))
 by_cases h1 : (!(termOk ar t)) = true
 ·exact absurd h1 (by rw [ho]; simp)
 rw [Bool.not_eq_true] at h1
 refine qr (t := 11) rfl (vB h1) (qt (tv) rfl (qr (t := 11) rfl (vB h1) (qt (ii ((p : Int))) rfl (qr (t := 11) rfl (vB h1) (qm (args := [tv, ii ((p : Int))]) call109 rfl (l1There_spec (n := (p : Int)) ht (hbd := (by first | assumption | rfl | omega | simp))) ?_)))))
 rintro _ _ _ _ ⟨rfl, rfl, rfl⟩
 refine qr (t := 11) rfl (vB h1) (jQ rfl (cX (qN (.bool (decide (¬(0 ≤ ((p : Int)) ∧ ((p : Int)) < (t.length : Int))))) (vB h1) rfl (qd ?_))))
 refine qC (p := ¬(0 ≤ ((p : Int)) ∧ ((p : Int)) < (t.length : Int))) rfl (fun h2 => ?_) (fun h2 => ?_)
 ·exact absurd h2 (by simp; omega)
 refine qA (qf (qc (cX (qq [arv] qI qw rfl rfl (Rd.ownN [] rfl rfl) (qh (tv) rfl (qh (ii ((p : Int))) rfl (cX (qm (args := [.agg #[arv], tv, ii (p : Int)]) call327 rfl (l1Args_spec (p := p) har ht (ho := (by first | assumption | rfl | omega | simp)) (hp := (by first | assumption | rfl | omega | simp))) ?_))))))))
 rintro v1 _ _ _ ⟨rfl, hs1, rfl⟩
 refine qi (v1) rfl (qd (qu (qs (L' := intsH 2 v1 ((argsL ar t p)) :: L) [v1] (v1) (.tmp rfl .nil) rfl rF rF (sC (sD sR)) ?_)))
 refine ⟨rfl, hs1, ?_⟩
 have hxs : (argsL ar t p : List Int) = (argsL ar t p) := rfl
 exact congrArg (fun z => intsH 2 _ z :: L) hxs

/- spec.SubAt -/
theorem sSubAtO_spec {F : FH} {L : List HP} {arv : Value} {ar : List Int} (har : IntsF F arv ar) {tv : Value} {t : List Int} (ht : IntsF F tv t) {p : Nat} (ho : termOk ar t = true) (hp : p < t.length) :
    Does prog 149 [.agg #[arv], tv, ii ((p : Int))] F (L) (fun v F' L' => ∃ (a : Value), (a : Value) = v ∧ (IntsF F' a (sub ar t p)) ∧ L = L') := by
 refine qH func149 rfl rfl rfl ?_
 have hsl := sigOk_spec (termOk_sig ho)
 have htl := termOk_len ho
 refine qf (qc (cX (qZ [arv] rfl rfl ?_)))
 intro b1
 refine qi (sN) rfl (qd (qf (qf (qc (cX (qq [arv] qI qw rfl rfl (Rd.ownN [] rfl rfl) (qh (tv) rfl (cX (qm (args := [.agg #[arv], tv]) call136 rfl (sTermOk_spec har ht (hla := (by first | assumption | rfl | omega | simp)) (hlt := (by first | assumption | rfl | omega | simp))) ?_)))))))))
 rintro _ _ _ _ ⟨rfl, rfl, rfl⟩
 refine cX (jf rfl (qh (.bool (!(termOk ar t))) rfl ?_))
 by_cases h1 : (!(termOk ar t)) = true
 ·exact absurd h1 (by rw [ho]; simp)
 rw [Bool.not_eq_true] at h1
 refine qr (t := 11) rfl (vB h1) (qt (tv) rfl (qr (t := 11) rfl (vB h1) (qt (ii ((p : Int))) rfl (qr (t := 11) rfl (vB h1) (qm (args := [tv, ii ((p : Int))]) call109 rfl (l1There_spec (n := (p : Int)) ht (hbd := (by first | assumption | rfl | omega | simp))) ?_)))))
 rintro _ _ _ _ ⟨rfl, rfl, rfl⟩
 refine qr (t := 11) rfl (vB h1) (jQ rfl (cX (qN (.bool (decide (¬(0 ≤ ((p : Int)) ∧ ((p : Int)) < (t.length : Int))))) (vB h1) rfl (qd ?_))))
 refine qC (p := ¬(0 ≤ ((p : Int)) ∧ ((p : Int)) < (t.length : Int))) rfl (fun h2 => ?_) (fun h2 => ?_)
 ·exact absurd h2 (by simp; omega)
 refine qA (qf (qc (cX (qq [arv] qI qw rfl rfl (Rd.ownN [] rfl rfl) (qh (tv) rfl (qh (ii ((p : Int))) rfl (cX (jG <| qm (args := [.agg #[arv], tv, ii (p : Int)]) call209 rfl (l1Sub_spec (p := p) har ht (ho := (by first | assumption | rfl | omega | simp)) (hp := (by first | assumption | rfl | omega | simp))) ?_))))))))
 rintro v1 _ _ _ ⟨rfl, hs1, rfl⟩
 refine ⟨_, _, rfl, fun F1 le1 hz1 => ?_⟩
 have hf1 : IntsF F1 v1 ((sub ar t p)) := intsH.fz (xs := (sub ar t p)) hz1.fz
 refine qi (v1) rfl (qd (qu (qs (L' := L) [v1] (v1) (.tmp rfl .nil) rfl le1 rF (sD sR) ?_)))
 exact ⟨_, rfl, hf1, rfl⟩

/- spec.l3Put -/
theorem l3PutH_spec {F : FH} {L : List HP} {arv : Value} {ar : List Int} (har : IntsF F arv ar) {tv : Value} {t : List Int} (ht : IntsF F tv t) {p : Nat} {uv : Value} {u : List Int} (hu : IntsF F uv u) (ho : termOk ar t = true) (hp : p < t.length) (hul : u.length ≤ 4000000) :
    Does prog 211 [.agg #[arv], tv, ii ((p : Int)), uv] F (L) (fun v F' L' => ∃ (a : Value), (.tuple #[a, .bool ((putL ar t p u).isSome)] : Value) = v ∧ (IntsF F' a ((putL ar t p u).getD [])) ∧ (Fresh F F' (intsH 2 a ((putL ar t p u).getD []))) ∧ L = L') := by
 refine qH func211 rfl rfl rfl ?_
 have hsig := termOk_sig ho
 have hsl := sigOk_spec hsig
 have htl := termOk_len ho
 have hee := endN_spec ho hp
 refine qf (qc (cX (qZ [arv] rfl rfl ?_)))
 intro b1
 refine qi (sN) rfl (qi (.bool (false)) rfl (qd (qf (qc (qh (tv) rfl (qh (ii ((p : Int))) rfl (cX (XOp.sliceI 0 p qg qy rfl ht rfl ⟨_, rfl⟩ (by omega) (by omega) ?_))))))))
 intro v1 hv1 hn1
 refine cX (qm (args := [v1]) call106 rfl (l1Copy_spec hv1 (hlt := (by simp; omega))) ?_)
 rintro v2 _ _ _ ⟨rfl, hs1, rfl⟩
 refine qh (uv) rfl (cX (XOp.appendI [] _ qg typeInfo2 rfl rfl rfl rfl rfl rfl hu (by (try simp only [List.length_append, List.length_nil, List.length_cons, List.length_singleton, List.length_take, List.length_drop]); omega) ?_))
 intro v3 hs2 hn2 hm1
 refine qi (v3) rfl (qd (qf (qc (qh (v3) rfl (qh (tv) rfl (cX (qq [arv] qI qw rfl rfl (Rd.ownN [_] rfl rfl) (qh (tv) rfl (qh (ii ((p : Int))) rfl (cX (qm (args := [.agg #[arv], tv, ii (p : Int)]) call196 rfl (l1End_ok (p := p) har ht (ho := (by first | assumption | rfl | omega | (left; simp; done) | (right; simp; done))) (hp := (by first | assumption | rfl | omega | (left; simp; done) | (right; simp; done)))) ?_)))))))))))
 rintro _ _ _ _ ⟨rfl, rfl, rfl⟩
 refine cX (XOp.sliceI (endN ar t p) ((t).length) qg qy rfl ht ⟨_, rfl⟩ rfl (by omega) (by omega) ?_)
 intro v4 hv2 hn3
 refine cX (XOp.appendI [] _ qg typeInfo2 rfl rfl rfl rfl rfl rfl hv2 (by (try simp only [List.length_append, List.length_nil, List.length_cons, List.length_singleton, List.length_take, List.length_drop]); omega) ?_)
 intro v5 hs3 hn4 hm2
 refine qi (v5) rfl (qd (qf (qf (qc (qh (v5) rfl (cX (qE qg rfl (intsH.slv [] rfl) (cX (jH rfl rfl (qd ?_))))))))))
 refine qC (p := ((((((((((t.drop 0).take (p - 0))))) ++ u) ++ (((t.drop (endN ar t p)).take (((t).length) - (endN ar t p))))).length : Nat) : Int) : Int) > 60) rfl (fun h1 => ?_) (fun h1 => ?_)
 ·refine qf (qc (cX (qz (s := 1) [] [ii (0)] [] qg qy qO rfl (by decide) rfl CellsAre.nil rfl ?_)))
  intro v6 hv3
  refine qi (v6) rfl (qi (.bool (false)) rfl (qd ?_))
  show X _ _ _ _ _ _ (intsH 2 v6 ([] : List Int) :: intsH 2 v5 (((((((t.drop 0).take (p - 0))))) ++ u) ++ (((t.drop (endN ar t p)).take (((t).length) - (endN ar t p))))) :: cellsH b1 [arv] 36 :: L)
  refine qT [] _ _ rfl (fun F1 le1 hz1 => ?_)
  have hf1 : IntsF F1 v6 ([]) := intsH.fz (xs := []) hz1.fz
  refine qu (qo (qs (L' := L) [v6, .bool (false)] (.tuple #[v6, .bool (false)]) (.tmp rfl (.tmp rfl .nil)) rfl le1 rF (sD (sD sR)) ?_))
  have hz : putL ar t p u = none := putL_none put_three (by omega)
  exact ⟨_, by rw [hz]; rfl, by rw [hz]; exact hf1, by rw [hz]; exact hz1, rfl⟩
 refine qA (qf (qc (qh (v5) rfl (qi (v5) rfl (qi (.bool (true)) rfl (qd (qT [] _ _ rfl (fun F2 le2 hz2 => ?_))))))))
 have hf2 : IntsF F2 v5 (((((((t.drop 0).take (p - 0))))) ++ u) ++ (((t.drop (endN ar t p)).take (((t).length) - (endN ar t p))))) := intsH.fz (xs := ((((((t.drop 0).take (p - 0))))) ++ u) ++ (((t.drop (endN ar t p)).take (((t).length) - (endN ar t p))))) hz2.fz
 refine qu (qs (L' := L) [v5, .bool (true)] (.tuple #[v5, .bool (true)]) (.tmp rfl (.tmp rfl .nil)) rfl le2 rF (sD sR) ?_)
 have hz := putL_some (ar := ar) (t := t) (p := p) (u := u) put_three (by omega)
 exact ⟨_, by rw [hz]; rfl, by rw [hz]; exact hf2, by rw [hz]; exact hz2, rfl⟩

/- spec.l7Step -/
theorem l7StepH_spec {F : FH} {L : List HP} {arv : Value} {ar : List Int} (har : IntsF F arv ar) {rsv : Value} {rs : List (List Int × List Int)} (hrs : PairsF F rsv rs) {tv : Value} {t : List Int} (ht : IntsF F tv t) {p : Nat} {r : Nat} (hsys : sysOk ar rs = true) (ho : termOk ar t = true) (hp : p < t.length) (hr : r < rs.length) :
    Does prog 111 [.agg #[arv, rsv], tv, ii ((p : Int)), ii ((r : Int))] F (L) (fun v F' L' => ∃ (a : Value), (.tuple #[a, .bool ((stepL ar rs t p r).isSome)] : Value) = v ∧ (IntsF F' a ((stepL ar rs t p r).getD [])) ∧ (Fresh F F' (intsH 2 a ((stepL ar rs t p r).getD []))) ∧ L = L') := by
 refine qH func111 rfl rfl rfl ?_
 have hnn := jO ht (by have := termOk_len ho; omega)
 have htl := termOk_len ho
 have hrl := (sysOk_iff.1 hsys).2.1
 have hsig := (sysOk_iff.1 hsys).1
 have hsl := sigOk_spec hsig
 have hR := ruleOk_iff.1 ((sysOk_iff.1 hsys).2.2 r hr)
 have hRl := hR.left
 have hRr := hR.right
 have hso := sub_ok ho hp
 have hsb := sub_length ho hp
 have hee := endN_spec ho hp
 have hRrl := termOk_len hRr
 have hRg := fun k (hk : k < (rs.getD r ([], [])).2.length) => termOk_ge hRr hk
 have hmp := matchP_len (ar := ar) (p := (rs.getD r ([], [])).1) (t := sub ar t p)
 have hmp2 := hmp.2
 have hmp3 := hmp.1
 refine qf (qc (cX (qZ [arv, rsv] rfl rfl ?_)))
 intro b1
 refine qi (sN) rfl (qi (.bool (false)) rfl (qd (qf (qc (cX (ql (1) qF rfl jz (by decide) rfl rfl (cX (qk ya rfl (Rd.own [] rfl rfl) (qh (ii ((r : Int))) rfl (cX (qD r jd jv rfl rfl rfl hrs.slv (by omega) rfl ?_)))))))))))
 obtain ⟨a1, a2, ha1, ha2, hr1, hr2⟩ := hrs.rd (i := r) (by omega)
 refine cX (qq [a1, a2] isAgg76 jv rfl rfl (Rd.two (hr1 _) (hr2 _)) (cX (ji [sN, sN] jn rfl ?_)))
 intro b2
 refine cX (qK [] _ [a1, a2] jv rfl rfl rfl (qx (qJ (qG ha1)) (qx (qJ (qG ha2)) qQ)) rfl rfl rfl (qd (qf ?_)))
 refine jM [cellsH b2 [a1, a2] 76, cellsH b1 [arv, rsv] 39] L 15 [[], [], [], [], [], [], [], [], [], [], [9], [9], [], [], [9, 13]] [[], [0], [], [2], [], [4], [], [], [5, 6, 7], [1, 3, 8], [9], [9, 10], [9, 10], [], [9, 11, 13]] [[], [], [], [], [], [], [], [], [], [], [], [], [], [], [13]] (phiG [pe (ptr b1 0), pe (.agg #[arv]), pe (ptr b2 0), pe a1, pe (ptr b1 0), pe (.agg #[arv]), pe tv, pe (ii ((p : Int)) : Value), fun FF us v => ((v) : Value) = v ∧ (IntsF FF (v) (sub ar t p)), fun FF us v => (.tuple #[.agg #[((aggAt (tupAt v 0) 0))], .bool ((matchB ar ((rs.getD r ([], [])).1) ((sub ar t p))).isSome)] : Value) = v ∧ (RowsF FF ((aggAt (tupAt v 0) 0)) (matchP ar ((rs.getD r ([], [])).1) ((sub ar t p)))), fun FF us v => v = (.tuple #[.agg #[((aggAt (tupAt (us.getD 0 undef) 0) 0))], .bool ((matchB ar ((rs.getD r ([], [])).1) ((sub ar t p))).isSome)] : Value), fun FF us v => v = (.agg #[((aggAt (tupAt (us.getD 0 undef) 0) 0))] : Value), pe (.bool ((matchB ar ((rs.getD r ([], [])).1) ((sub ar t p))).isSome)), fun FF us v => v = ptr (blk v) 0, fun FF us v => True]) (ownL [o0, o0, o0, o0, o0, o0, o0, o0, o0, o0, o0, o0, o0, fun us v => [cellsH (blk v) [sN] 115], fun us v => [cellsH (blk (us.getD 1 undef)) [((aggAt (tupAt (us.getD 0 undef) 0) 0))] 115]]) mixed rfl rfl (by kernel_rfl) (by kernel_rfl) (MonoG.get (m1 (m1 (m1 (m1 (m1 (m1 (m1 (m1 (mC (fun le h => ⟨h.1, h.2.mono le⟩) (mC (fun le h => ⟨h.1, h.2.mono le⟩) (mC (fun le h => h) (mC (fun le h => h) (m1 (mC (fun le h => h) (mC (fun le h => h) MonoG.nil)))))))))))))))) ?_ ?_
 ·refine gD (fun W Fs R lF z9 => ?_) ?_
  ·refine qj (ql (0) qF rfl qw (by decide) rfl rfl ?_)
   exact ⟨rfl, rfl⟩
  refine gD (fun W Fs R lF z9 => ?_) ?_
  ·replace har := har.mono lF
   replace ht := ht.mono lF
   replace ha1 := ha1.mono lF
   replace ha2 := ha2.mono lF
   rw [eS (l := [(0, _)]) ⟨z9 0 rfl, ⟨⟩⟩]
   refine qj (qq [arv] qI qw rfl rfl (Rd.ownN [_] rfl rfl) ?_)
   exact ⟨rfl, rfl⟩
  refine gD (fun W Fs R lF z9 => ?_) ?_
  ·refine qj (ql (0) ja rfl qv (by decide) rfl rfl ?_)
   exact ⟨rfl, rfl⟩
  refine gD (fun W Fs R lF z9 => ?_) ?_
  ·replace har := har.mono lF
   replace ht := ht.mono lF
   replace ha1 := ha1.mono lF
   replace ha2 := ha2.mono lF
   rw [eS (l := [(2, _)]) ⟨z9 2 rfl, ⟨⟩⟩]
   refine qj (qk qS rfl (Rd.own [] rfl rfl) ?_)
   exact ⟨rfl, rfl⟩
  refine gD (fun W Fs R lF z9 => ?_) ?_
  ·refine qj (ql (0) qF rfl qw (by decide) rfl rfl ?_)
   exact ⟨rfl, rfl⟩
  refine gD (fun W Fs R lF z9 => ?_) ?_
  ·replace har := har.mono lF
   replace ht := ht.mono lF
   replace ha1 := ha1.mono lF
   replace ha2 := ha2.mono lF
   rw [eS (l := [(4, _)]) ⟨z9 4 rfl, ⟨⟩⟩]
   refine qj (qq [arv] qI qw rfl rfl (Rd.ownN [_] rfl rfl) ?_)
   exact ⟨rfl, rfl⟩
  refine gD (fun W Fs R lF z9 => ?_) ?_
  ·refine qj (qt (tv) rfl ?_)
   exact ⟨rfl, rfl⟩
  refine gD (fun W Fs R lF z9 => ?_) ?_
  ·refine qj (qt (ii ((p : Int))) rfl ?_)
   exact ⟨rfl, rfl⟩
  refine gD (fun W Fs R lF z9 => ?_) ?_
  ·replace har := har.mono lF
   replace ht := ht.mono lF
   replace ha1 := ha1.mono lF
   replace ha2 := ha2.mono lF
   rw [eS (l := [(5, _), (6, _), (7, _)]) ⟨z9 5 rfl, z9 6 rfl, z9 7 rfl, ⟨⟩⟩]
   refine qj (jG <| qm (args := [.agg #[arv], tv, ii (p : Int)]) call209 rfl (l1Sub_spec (p := p) har ht (ho := (by first | assumption | rfl | omega | simp)) (hp := (by first | assumption | rfl | omega | simp))) ?_)
   rintro v2 _ _ _ ⟨rfl, hs2, rfl⟩
   refine ⟨_, _, rfl, fun F2 le2 hz1 => ?_⟩
   replace har := har.mono le2
   replace ht := ht.mono le2
   replace ha1 := ha1.mono le2
   replace ha2 := ha2.mono le2
   have hf1 : IntsF F2 v2 ((sub ar t p)) := intsH.fz (xs := (sub ar t p)) hz1.fz
   exact ⟨⟨rfl, hf1⟩, rfl⟩
  refine gD (fun W Fs R lF z9 => ?_) ?_
  ·obtain ⟨e8, f8_1ha⟩ := z9 8 rfl
   replace har := har.mono lF
   replace ht := ht.mono lF
   replace ha1 := ha1.mono lF
   replace ha2 := ha2.mono lF
   rw [eS (l := [(1, _), (3, _), (8, ((W 8)))]) ⟨z9 1 rfl, z9 3 rfl, (e8).symm, ⟨⟩⟩]
   refine qj (qm (args := [.agg #[arv], a1, ((W 8))]) call208 rfl (l4Match_spec har ha1 f8_1ha (ho := (by first | assumption | rfl | omega | simp)) (hpo := (by first | assumption | rfl | omega | simp))) ?_)
   rintro _ F3 _ le3 ⟨x2, rfl, hr4, rfl⟩
   replace har := har.mono le3
   replace ht := ht.mono le3
   replace ha2 := ha2.mono le3
   replace f8_1ha := f8_1ha.mono le3
   exact ⟨⟨rfl, hr4⟩, rfl⟩
  refine gD (fun W Fs R lF z9 => ?_) ?_
  ·obtain ⟨e9, f9_1hr⟩ := z9 9 rfl
   rw [eS (l := [(9, (.tuple #[.agg #[((aggAt (tupAt (W 9) 0) 0))], .bool ((matchB ar ((rs.getD r ([], [])).1) ((sub ar t p))).isSome)]))]) ⟨(e9).symm, ⟨⟩⟩]
   refine qj (qt (.tuple #[.agg #[((aggAt (tupAt (W 9) 0) 0))], .bool ((matchB ar ((rs.getD r ([], [])).1) ((sub ar t p))).isSome)]) rfl ?_)
   exact ⟨rfl, rfl⟩
  refine gD (fun W Fs R lF z9 => ?_) ?_
  ·obtain ⟨e9, f9_1hr⟩ := z9 9 rfl
   have e10 : W 10 = (.tuple #[.agg #[((aggAt (tupAt (W 9) 0) 0))], .bool ((matchB ar ((rs.getD r ([], [])).1) ((sub ar t p))).isSome)] : Value) := z9 10 rfl
   rw [eS (l := [(9, (.tuple #[.agg #[((aggAt (tupAt (W 9) 0) 0))], .bool ((matchB ar ((rs.getD r ([], [])).1) ((sub ar t p))).isSome)])), (10, (.tuple #[.agg #[((aggAt (tupAt (W 9) 0) 0))], .bool ((matchB ar ((rs.getD r ([], [])).1) ((sub ar t p))).isSome)]))]) ⟨(e9).symm, e10, ⟨⟩⟩]
   refine qj (qM (.agg #[((aggAt (tupAt (W 9) 0) 0))]) rfl rfl ?_)
   exact ⟨rfl, rfl⟩
  refine gD (fun W Fs R lF z9 => ?_) ?_
  ·obtain ⟨e9, f9_1hr⟩ := z9 9 rfl
   have e10 : W 10 = (.tuple #[.agg #[((aggAt (tupAt (W 9) 0) 0))], .bool ((matchB ar ((rs.getD r ([], [])).1) ((sub ar t p))).isSome)] : Value) := z9 10 rfl
   rw [eS (l := [(9, (.tuple #[.agg #[((aggAt (tupAt (W 9) 0) 0))], .bool ((matchB ar ((rs.getD r ([], [])).1) ((sub ar t p))).isSome)])), (10, (.tuple #[.agg #[((aggAt (tupAt (W 9) 0) 0))], .bool ((matchB ar ((rs.getD r ([], [])).1) ((sub ar t p))).isSome)]))]) ⟨(e9).symm, e10, ⟨⟩⟩]
   refine qj (qM (.bool ((matchB ar ((rs.getD r ([], [])).1) ((sub ar t p))).isSome)) rfl rfl ?_)
   exact ⟨rfl, rfl⟩
  refine gD (fun W Fs R lF z9 => ?_) ?_
  ·replace har := har.mono lF
   replace ht := ht.mono lF
   replace ha2 := ha2.mono lF
   refine qj (ji [sN] jF rfl ?_)
   intro b4
   exact ⟨rfl, rfl⟩
  refine gD (fun W Fs R lF z9 => ?_) ?_
  ·obtain ⟨e9, f9_1hr⟩ := z9 9 rfl
   have e11 : W 11 = (.agg #[((aggAt (tupAt (W 9) 0) 0))] : Value) := z9 11 rfl
   have e13 : W 13 = ptr (blk (W 13)) 0 := z9 13 rfl
   replace har := har.mono lF
   replace ht := ht.mono lF
   replace ha2 := ha2.mono lF
   rw [eS (l := [(9, (.tuple #[.agg #[((aggAt (tupAt (W 9) 0) 0))], .bool ((matchB ar ((rs.getD r ([], [])).1) ((sub ar t p))).isSome)])), (11, (.agg #[((aggAt (tupAt (W 9) 0) 0))])), (13, ptr (blk (W 13)) 0)]) ⟨(e9).symm, e11, e13, ⟨⟩⟩]
   show XG _ _ _ _ _ (cellsH (blk (W 13)) [sN] 115 :: ([cellsH b2 [a1, a2] 76, cellsH b1 [arv, rsv] 39] ++ R)) _
   refine qj (qK [] _ [((aggAt (tupAt (W 9) 0) 0))] js rfl rfl rfl (qx (qJ (RowsF.isSl f9_1hr)) qQ) rfl rfl rfl ?_)
   exact ⟨trivial, rfl⟩
  exact stepsG.nil
 intro W F4 le4 hphi
 obtain ⟨e8, f8_1ha⟩ := hphi 8 (by decide)
 obtain ⟨e9, f9_1hr⟩ := hphi 9 (by decide)
 have e10 : W 10 = (.tuple #[.agg #[((aggAt (tupAt (W 9) 0) 0))], .bool ((matchB ar ((rs.getD r ([], [])).1) ((sub ar t p))).isSome)] : Value) := hphi 10 (by decide)
 have e11 : W 11 = (.agg #[((aggAt (tupAt (W 9) 0) 0))] : Value) := hphi 11 (by decide)
 have e13 : W 13 = ptr (blk (W 13)) 0 := hphi 13 (by decide)
 generalize hu1 : ((W 8)) = u1 at e8 f8_1ha e9 f9_1hr e10 e11 e13
 generalize hu2 : ((aggAt (tupAt (W 9) 0) 0)) = u2 at e8 f8_1ha e9 f9_1hr e10 e11 e13
 generalize hu3 : blk (W 13) = b5 at e8 f8_1ha e9 f9_1hr e10 e11 e13
 rw [eS (l := [(9, (.tuple #[.agg #[u2], .bool ((matchB ar ((rs.getD r ([], [])).1) ((sub ar t p))).isSome)])), (12, _), (13, ptr b5 0)]) ⟨(e9).symm, (hphi 12 (by decide)), e13, ⟨⟩⟩]
 replace har := har.mono le4
 replace ht := ht.mono le4
 replace ha2 := ha2.mono le4
 show XL _ _ _ _ _ _ _ (cellsH b5 [u2] 115 :: cellsH b2 [a1, a2] 76 :: cellsH b1 [arv, rsv] 39 :: L)
 refine qi (.bool ((matchB ar ((rs.getD r ([], [])).1) ((sub ar t p))).isSome)) rfl (qd (qf (qf (qc (qh (.bool ((matchB ar ((rs.getD r ([], [])).1) ((sub ar t p))).isSome)) rfl (cX (jf rfl (qd ?_))))))))
 refine jw (t := !((matchB ar ((rs.getD r ([], [])).1) ((sub ar t p))).isSome)) rfl (fun h1 => ?_) (fun h1 => ?_)
 ·have hms : (matchB ar (rs.getD r ([], [])).1 (sub ar t p)).isSome = false := by simpa using h1
  refine qf (qc (cX (qz (s := 1) [] [ii (0)] [] qg qy qO rfl (by decide) rfl CellsAre.nil rfl ?_)))
  intro v3 hv1
  refine qi (v3) rfl (qi (.bool (false)) rfl (qd ?_))
  show X _ _ _ _ _ _ (intsH 2 v3 ([] : List Int) :: cellsH b5 [u2] 115 :: cellsH b2 [a1, a2] 76 :: cellsH b1 [arv, rsv] 39 :: L)
  refine qT [] _ _ rfl (fun F5 le5 hz2 => ?_)
  replace har := har.mono le5
  replace ht := ht.mono le5
  replace ha2 := ha2.mono le5
  replace f9_1hr := f9_1hr.mono le5
  have hf2 : IntsF F5 v3 ([]) := intsH.fz (xs := []) hz2.fz
  refine qu (qo (qs (L' := L) [v3, .bool (false)] (.tuple #[v3, .bool (false)]) (.tmp rfl (.tmp rfl .nil)) rfl (qn le4 le5) rF (sD (sD (sD sR))) ?_))
  have hz := stepL_nomatch hms
  exact ⟨_, by rw [hz]; rfl, by rw [hz]; exact hf2, by rw [hz]; exact (hz2.base le4), rfl⟩
 have hms : (matchB ar (rs.getD r ([], [])).1 (sub ar t p)).isSome = true := by simpa using h1
 refine qA (qf (qc (cX (qq [u2] jR js rfl rfl (Rd.ownN [] rfl rfl) (cX (ql (1) ja rfl qv (by decide) rfl rfl (cX (qk qS rfl (Rd.own [_] rfl rfl) (cX (qm (args := [.agg #[u2], a2]) call210 rfl (l2Filled_spec f9_1hr ha2 (hsl := (by first | assumption | rfl | omega | simp)) (hsb := (fun i => by have := hmp2 i; omega)) (htl := (by first | assumption | rfl | omega | simp)) (htg := (fun k hk => by have := hRg k hk; omega))) ?_))))))))))
 rintro _ F6 _ le6 ⟨x3, rfl, hr5, rfl⟩
 replace har := har.mono le6
 replace ht := ht.mono le6
 refine qh (.tuple #[x3, .bool ((fillL (matchP ar ((rs.getD r ([], [])).1) ((sub ar t p))) ((rs.getD r ([], [])).2)).isSome)]) rfl (cX (qM (x3) rfl rfl (cX (qM (.bool ((fillL (matchP ar ((rs.getD r ([], [])).1) ((sub ar t p))) ((rs.getD r ([], [])).2)).isSome)) rfl rfl (qi (x3) rfl (qi (.bool ((fillL (matchP ar ((rs.getD r ([], [])).1) ((sub ar t p))) ((rs.getD r ([], [])).2)).isSome)) rfl (qd (qf (qf (qc (qh (.bool ((fillL (matchP ar ((rs.getD r ([], [])).1) ((sub ar t p))) ((rs.getD r ([], [])).2)).isSome)) rfl (cX (jf rfl (qd ?_))))))))))))))
 refine jw (t := !((fillL (matchP ar ((rs.getD r ([], [])).1) ((sub ar t p))) ((rs.getD r ([], [])).2)).isSome)) rfl (fun h2 => ?_) (fun h2 => ?_)
 ·have hfs : (fillL (matchP ar (rs.getD r ([], [])).1 (sub ar t p)) (rs.getD r ([], [])).2).isSome = false := by simpa using h2
  refine qf (qc (cX (qz (s := 1) [] [ii (0)] [] qg qy qO rfl (by decide) rfl CellsAre.nil rfl ?_)))
  intro v4 hv2
  refine qi (v4) rfl (qi (.bool (false)) rfl (qd ?_))
  show X _ _ _ _ _ _ (intsH 2 v4 ([] : List Int) :: cellsH b5 [u2] 115 :: cellsH b2 [a1, a2] 76 :: cellsH b1 [arv, rsv] 39 :: L)
  refine qT [] _ _ rfl (fun F7 le7 hz3 => ?_)
  replace har := har.mono le7
  replace ht := ht.mono le7
  replace hr5 := hr5.mono le7
  have hf3 : IntsF F7 v4 ([]) := intsH.fz (xs := []) hz3.fz
  refine qu (qo (qs (L' := L) [v4, .bool (false)] (.tuple #[v4, .bool (false)]) (.tmp rfl (.tmp rfl .nil)) rfl (qn (qn le4 le6) le7) rF (sD (sD (sD sR))) ?_))
  have hz := stepL_nofill hms hfs
  exact ⟨_, by rw [hz]; rfl, by rw [hz]; exact hf3, by rw [hz]; exact (hz3.base (qn le4 le6)), rfl⟩
 have hfs : (fillL (matchP ar (rs.getD r ([], [])).1 (sub ar t p)) (rs.getD r ([], [])).2).isSome = true := by simpa using h2
 have hfl := fill_getD_len hfs (by omega)
 refine qA (qf (qc (cX (ql (0) qF rfl qw (by decide) rfl rfl (cX (qq [arv] qI qw rfl rfl (Rd.ownN [_, _] rfl rfl) (qh (tv) rfl (qh (ii ((p : Int))) rfl (qh (x3) rfl (cX (qm (args := [.agg #[arv], tv, ii (p : Int), x3]) call211 rfl (l3PutH_spec (p := p) har ht hr5 (ho := (by first | assumption | rfl | omega | simp)) (hp := (by first | assumption | rfl | omega | simp)) (hul := (by first | assumption | rfl | omega | simp))) ?_)))))))))))
 rintro _ F8 _ le8 ⟨x4, rfl, hr6, hr7, rfl⟩
 refine cX (qM (x4) rfl rfl (cX (qM (.bool ((putL ar t p ((fillL (matchP ar ((rs.getD r ([], [])).1) ((sub ar t p))) ((rs.getD r ([], [])).2)).getD [])).isSome)) rfl rfl (qi (x4) rfl (qi (.bool ((putL ar t p ((fillL (matchP ar ((rs.getD r ([], [])).1) ((sub ar t p))) ((rs.getD r ([], [])).2)).getD [])).isSome)) rfl (qd (qu (qs (L' := L) [x4, .bool ((putL ar t p ((fillL (matchP ar ((rs.getD r ([], [])).1) ((sub ar t p))) ((rs.getD r ([], [])).2)).getD [])).isSome)] (.tuple #[x4, .bool ((putL ar t p ((fillL (matchP ar ((rs.getD r ([], [])).1) ((sub ar t p))) ((rs.getD r ([], [])).2)).getD [])).isSome)]) (.tmp rfl (.tmp rfl .nil)) rfl (qn (qn le4 le6) le8) rF (sD (sD (sD sR))) ?_))))))))
 have hz := stepL_put hms hfs
 exact ⟨_, by rw [hz], by rw [hz]; exact hr6, by rw [hz]; exact (hr7.base (qn le4 le6)), rfl⟩

/- spec.PutAt -/
theorem sPutAt_spec {F : FH} {L : List HP} {arv : Value} {ar : List Int} (har : IntsF F arv ar) {tv : Value} {t : List Int} (ht : IntsF F tv t) {p : Nat} {uv : Value} {u : List Int} (hu : IntsF F uv u) (ho : termOk ar t = true) (hp : p < t.length) (hou : termOk ar u = true) :
    Does prog 235 [.agg #[arv], tv, ii ((p : Int)), uv] F (L) (fun v F' L' => ∃ (a : Value), (.tuple #[a, .bool ((putL ar t p u).isSome)] : Value) = v ∧ (IntsF F' a ((putL ar t p u).getD [])) ∧ L = L') := by
 refine qH func235 rfl rfl rfl ?_
 have hsl := sigOk_spec (termOk_sig ho)
 have htl := termOk_len ho
 have hul := termOk_len hou
 refine qf (qc (cX (qZ [arv] rfl rfl ?_)))
 intro b1
 refine qi (sN) rfl (qi (.bool (false)) rfl (qd (qf (qf (qc (cX (qq [arv] qI qw rfl rfl (Rd.ownN [] rfl rfl) (qh (tv) rfl (qh (ii ((p : Int))) rfl (cX (qm (args := [.agg #[arv], tv, ii ((p : Int))]) call299 rfl (l3Right_spec (n := (p : Int)) har ht (hla := (by first | assumption | rfl | omega | simp)) (hlt := (by first | assumption | rfl | omega | simp))) ?_)))))))))))
 rintro _ _ _ _ ⟨rfl, rfl, rfl⟩
 refine cX (jf rfl (qh (.bool (!(posOk ar t ((p : Int))))) rfl ?_))
 by_cases h1 : (!(posOk ar t ((p : Int)))) = true
 ·exact absurd h1 (by first | (rw [hou]; simp; done) | (rw [posOk_iff.2 ⟨ho, by omega⟩]; simp; done))
 rw [Bool.not_eq_true] at h1
 refine qr (t := 15) rfl (vB h1) (qq [arv] qI qw rfl rfl (Rd.ownN [] rfl rfl) (qr (t := 15) rfl (vB h1) (qt (uv) rfl (qr (t := 15) rfl (vB h1) (qm (args := [.agg #[arv], uv]) call136 rfl (sTermOk_spec har hu (hla := (by first | assumption | rfl | omega | simp)) (hlt := (by first | assumption | rfl | omega | simp))) ?_)))))
 rintro _ _ _ _ ⟨rfl, rfl, rfl⟩
 refine qr (t := 15) rfl (vB h1) (jf rfl (cX (qN (.bool (!(termOk ar u))) (vB h1) rfl (qd ?_))))
 refine jw (t := !(termOk ar u)) rfl (fun h2 => ?_) (fun h2 => ?_)
 ·exact absurd h2 (by first | (rw [hou]; simp; done) | (rw [posOk_iff.2 ⟨ho, by omega⟩]; simp; done))
 refine qA (qf (qc (cX (qq [arv] qI qw rfl rfl (Rd.ownN [] rfl rfl) (qh (tv) rfl (qh (ii ((p : Int))) rfl (qh (uv) rfl (cX (qm (args := [.agg #[arv], tv, ii (p : Int), uv]) call211 rfl (l3PutH_spec (p := p) har ht hu (ho := (by first | assumption | rfl | omega | simp)) (hp := (by first | assumption | rfl | omega | simp)) (hul := (by first | assumption | rfl | omega | simp))) ?_)))))))))
 rintro _ F1 _ le1 ⟨x1, rfl, hr1, hr2, rfl⟩
 refine cX (qM (x1) rfl rfl (cX (qM (.bool ((putL ar t p u).isSome)) rfl rfl (qi (x1) rfl (qi (.bool ((putL ar t p u).isSome)) rfl (qd (qu (qs (L' := L) [x1, .bool ((putL ar t p u).isSome)] (.tuple #[x1, .bool ((putL ar t p u).isSome)]) (.tmp rfl (.tmp rfl .nil)) rfl le1 rF (sD sR) ?_))))))))
 exact ⟨_, rfl, hr1, rfl⟩

/- spec.l20Match -/
set_option maxHeartbeats 1000000 in
set_option maxRecDepth 20000 in
theorem l20Match_spec_step {n : Nat} (ih : ∀ m : Nat, m < n → ∀ {F : FH} {L : List HP}  {arv : Value} {ar : List Int} (har : IntsF F arv ar) {gv : Value} {g : List (List Int)} (hg : RowsF F gv g) {pv : Value} {p : List Int} (hp : IntsF F pv p) {tv : Value} {t : List Int} (ht : IntsF F tv t) (hn : p.length ≤ m) (hop : termOk ar p = true) (hot : termOk ar t = true) (hgl : g.length = 24), Does prog 236 [.agg #[arv], gv, pv, tv] F L (fun v F' L' => (∃ (a : Value), (.tuple #[a, .bool ((mGo ar t p 0 g).isSome)] : Value) = v ∧ (SomeRowsF F' a (fun g2 => g2.length = 24 ∧ ∀ x, mGo ar t p 0 g = some x → g2 = x))) ∧ L = L')) {F : FH} {L : List HP}  {arv : Value} {ar : List Int} (har : IntsF F arv ar) {gv : Value} {g : List (List Int)} (hg : RowsF F gv g) {pv : Value} {p : List Int} (hp : IntsF F pv p) {tv : Value} {t : List Int} (ht : IntsF F tv t) (hn : p.length ≤ n) (hop : termOk ar p = true) (hot : termOk ar t = true) (hgl : g.length = 24) :
    Does prog 236 [.agg #[arv], gv, pv, tv] F (L) (fun v F' L' => (∃ (a : Value), (.tuple #[a, .bool ((mGo ar t p 0 g).isSome)] : Value) = v ∧ (SomeRowsF F' a (fun g2 => g2.length = 24 ∧ ∀ x, mGo ar t p 0 g = some x → g2 = x))) ∧ L = L') := by
 refine qH func236 rfl rfl rfl ?_
 have hpl := termOk_len hop
 have htl := termOk_len hot
 have hp0 := termOk_ge hop (p := 0) (by omega)
 have hal3 := argsL_le hop (p := 0) (by omega)
 have hap : (([] : List (List Int)) ++ g).length = g.length := rfl
 refine qf (qc (cX (qZ [arv] rfl rfl ?_)))
 intro b1
 refine qi (sN) rfl (qi (.bool (false)) rfl (qd (qf (qf (qc (qh (pv) rfl (cX (qE qg rfl hp.slv (cX (jB rfl rfl (qh (.bool (decide (((p.length : Int) : Int) = 0))) rfl ?_)))))))))))
 by_cases h1 : ((p.length : Int) : Int) = 0
 ·omega
 refine qr (t := 20) rfl (vF h1) (qt (tv) rfl (qr (t := 20) rfl (vF h1) (qE qg rfl ht.slv (qr (t := 20) rfl (vF h1) (jB rfl rfl (cX (qN (.bool (decide (((t.length : Int) : Int) = 0))) (vF h1) rfl (qd ?_))))))))
 refine qC (p := ((t.length : Int) : Int) = 0) rfl (fun h2 => ?_) (fun h2 => ?_)
 ·omega
 refine qA (qf (qf (qc (qh (pv) rfl (cX (qD 0 qg qy rfl rfl rfl hp.slv (by omega) (Nat.mul_one _) (cX (qk je rfl (hp.rd (by omega)) (cX (jh rfl rfl (qd ?_)))))))))))
 refine qC (p := (p.getD 0 0 : Int) < 0) rfl (fun h3 => ?_) (fun h3 => ?_)
 ·refine qf (qc (qh (pv) rfl (cX (qD 0 qg qy rfl rfl rfl hp.slv (by omega) (Nat.mul_one _) (cX (qk je rfl (hp.rd (by omega)) (cX (jp ((-1) - (p.getD 0 0)) rfl rfl (by omega) (by omega) (qi (ii ((-1) - (p.getD 0 0))) rfl (qd (qf (qf (qc (qh (gv) rfl (qh (ii ((-1) - (p.getD 0 0))) rfl (cX (qD (((-1) - (p.getD 0 0)).toNat) jb qv rfl rfl (by omega) hg.slv (by omega) (Nat.mul_one _) ?_)))))))))))))))))
  obtain ⟨a1, ha1, hr1⟩ := hg.rd (i := ((-1) - (p.getD 0 0)).toNat) (by omega)
  refine cX (qk qS rfl (hr1 _) (cX (qE qg rfl ha1.slv (cX (jH rfl rfl (qd ?_))))))
  refine qC (p := (((((g.getD (((-1) - (p.getD 0 0)).toNat) [])).length : Nat) : Int) : Int) > 0) rfl (fun h4 => ?_) (fun h4 => ?_)
  ·refine qf (qc ?_)
   have hnz : 0 < (g.getD (varIx (p.getD 0 0)) []).length := by unfold varIx; omega
   refine qh (gv) rfl (qh (gv) rfl (qh (ii ((-1) - (p.getD 0 0))) rfl (cX (qD (((-1) - (p.getD 0 0)).toNat) jb qv rfl rfl (by omega) hg.slv (by omega) (Nat.mul_one _) (cX (qk qS rfl (hr1 _) (qh (tv) rfl (cX (qm (args := [a1, tv]) call32 rfl (SameTerm_spec ha1 ht (hbd := (by first | assumption | rfl | omega | (left; simp; done) | (right; simp; done)))) ?_)))))))))
   rintro _ _ _ _ ⟨rfl, rfl, rfl⟩
   refine qi (gv) rfl (qi (.bool (decide (((g.getD (((-1) - (p.getD 0 0)).toNat) [])) = t))) rfl (qd (qu (qo (qo (qs (L' := L) [gv, .bool (decide (((g.getD (((-1) - (p.getD 0 0)).toNat) [])) = t))] (.tuple #[gv, .bool (decide (((g.getD (((-1) - (p.getD 0 0)).toNat) [])) = t))]) (.tmp rfl (.tmp rfl .nil)) rfl rF rF (sD sR) ?_))))))
   have e : mGo ar t p 0 g = if g.getD (varIx (p.getD 0 0)) [] = t then some g else none := by rw [mGo_var hop hot (by omega), if_neg (fun q => by rw [q] at hnz; simp at hnz)]
   exact ⟨⟨_, by rw [e]; split <;> simp_all [varIx], ⟨_, hg, hgl, fun x hx => (by rw [e] at hx; split at hx <;> first | exact Option.some.inj hx | cases hx)⟩⟩, rfl⟩
  refine qA (qf (qc (cX (qz (s := 1) [] [sN] [] jb qv zeroValue22 rfl (by decide) rfl CellsAre.nil rfl ?_))))
  intro v1 hv1
  refine qh (gv) rfl ?_
  have hc1 : RowsC F [] ([] : List (List Int)) := (CO.nil : RowsC F [] [])
  refine cX (XOp.appendRows (bytes := 24) (cs := []) [] _ jb typeInfo22 rfl rfl rfl rfl rfl rfl rfl hc1 hg (by omega) (by omega) ?_)
  intro v2 ds1 hs1 hc2
  refine qi (v2) rfl (qd (qf (qc (qh (v2) rfl (qh (ii ((-1) - (p.getD 0 0))) rfl (qh (tv) rfl (cX (qD (((-1) - (p.getD 0 0)).toNat) jb qv rfl rfl (by omega) (SlV.own [] rfl) (by omega) (Nat.mul_one _) (cX (XOp.storeS (i := ((-1) - (p.getD 0 0)).toNat) (cs := ([] ++ ds1)) [] _ qv rfl rfl (qJ (qG ht)) rfl (by have h9 := CO.len hc2; (try simp only [List.length_set, List.length_replicate] at h9 ⊢) <;> omega) ?_))))))))))
  have hc3 := hc2.set (((-1) - (p.getD 0 0)).toNat) ht
  refine qd (qf (qc (qh (v2) rfl (qi (v2) rfl (qi (.bool (true)) rfl (qd (qT [] _ _ rfl (fun F1 le1 hz1 => ?_))))))))
  replace har := har.mono le1
  replace hg := hg.mono le1
  replace hp := hp.mono le1
  replace ht := ht.mono le1
  replace hc3 := hc3.mono le1
  have hf1 : RowsF F1 v2 ((((([] : List (List Int)) ++ g)).set (((-1) - (p.getD 0 0)).toNat) t)) := CO.fz hc3 (by first | rfl | omega | (rw [List.length_set]; omega) | (simp; done)) hz1.fz
  refine qu (qo (qs (L' := L) [v2, .bool (true)] (.tuple #[v2, .bool (true)]) (.tmp rfl (.tmp rfl .nil)) rfl le1 rF (sD sR) ?_))
  have e : mGo ar t p 0 g = some (g.set (varIx (p.getD 0 0)) t) := by rw [mGo_var hop hot (by omega), if_pos (show g.getD (varIx (p.getD 0 0)) [] = [] from len_nil (by unfold varIx; omega))]
  exact ⟨⟨_, by rw [e]; rfl, ⟨_, hf1, by simp; omega, fun x hx => (by rw [e] at hx; exact Option.some.inj hx)⟩⟩, rfl⟩
 refine qA (qf (qf ?_))
 refine jY [cellsH b1 [arv] 36] L 6 [] [[], [0], [1], [], [3], [4]] (phiL [qe pv, qe (.pointer (some (elemA pv (0)))), qe (ii (p.getD 0 0)), qe tv, qe (.pointer (some (elemA tv (0)))), qe (ii (t.getD 0 0))]) (ownL []) mixed rfl rfl (by kernel_rfl) ?_ ?_
 ·refine pD (fun W R z9 => ?_) ?_
  ·refine qj (qt (pv) rfl ?_)
   exact ⟨rfl, rfl, rfl⟩
  refine pD (fun W R z9 => ?_) ?_
  ·rw [eS (l := [(0, _)]) ⟨z9 0 rfl, ⟨⟩⟩]
   refine qj (qD 0 qg qy rfl rfl rfl hp.slv (by omega) (Nat.mul_one _) ?_)
   exact ⟨rfl, rfl, rfl⟩
  refine pD (fun W R z9 => ?_) ?_
  ·rw [eS (l := [(1, _)]) ⟨z9 1 rfl, ⟨⟩⟩]
   refine qj (qk je rfl (hp.rd (by omega)) ?_)
   exact ⟨rfl, rfl, rfl⟩
  refine pD (fun W R z9 => ?_) ?_
  ·refine qj (qt (tv) rfl ?_)
   exact ⟨rfl, rfl, rfl⟩
  refine pD (fun W R z9 => ?_) ?_
  ·rw [eS (l := [(3, _)]) ⟨z9 3 rfl, ⟨⟩⟩]
   refine qj (qD 0 qg qy rfl rfl rfl ht.slv (by omega) (Nat.mul_one _) ?_)
   exact ⟨rfl, rfl, rfl⟩
  refine pD (fun W R z9 => ?_) ?_
  ·rw [eS (l := [(4, _)]) ⟨z9 4 rfl, ⟨⟩⟩]
   refine qj (qk je rfl (ht.rd (by omega)) ?_)
   exact ⟨rfl, rfl, rfl⟩
  exact stepsP.nil
 intro W hphi
 rw [eS (l := [(2, _), (5, _)]) ⟨(hphi 2 (by decide)), (hphi 5 (by decide)), ⟨⟩⟩]
 show XL _ _ _ _ _ _ _ (cellsH b1 [arv] 36 :: L)
 refine cX (XOp.neq rfl rfl (qd ?_))
 refine qC (p := (p.getD 0 0 : Int) ≠ t.getD 0 0) rfl (fun h5 => ?_) (fun h5 => ?_)
 ·have hd : ¬ p.getD 0 0 = t.getD 0 0 := h5
  refine qf (qc (qh (gv) rfl (qi (gv) rfl (qi (.bool (false)) rfl (qd (qu (qo (qs (L' := L) [gv, .bool (false)] (.tuple #[gv, .bool (false)]) (.tmp rfl (.tmp rfl .nil)) rfl rF rF (sD sR) ?_))))))))
  have e : mGo ar t p 0 g = none := mGo_symN hop (by omega) hd
  exact ⟨⟨_, by rw [e]; rfl, ⟨_, hg, by omega, fun x hx => (by rw [e] at hx; cases hx)⟩⟩, rfl⟩
 have hd0 : p.getD 0 0 = t.getD 0 0 := Classical.not_not.1 h5
 have hll : (argsL ar p 0).length = (argsL ar t 0).length := by rw [argsL_len, argsL_len, hd0]
 refine qA (qf (qc (cX (qq [arv] qI qw rfl rfl (Rd.ownN [] rfl rfl) (qh (pv) rfl (cX (jG <| qm (args := [.agg #[arv], pv, ii ((0 : Nat) : Int)]) call300 rfl (ArgsAt_spec (p := 0) har hp (ho := (by first | assumption | rfl | omega | simp)) (hp := (by first | assumption | rfl | omega | simp))) ?_)))))))
 rintro v3 _ _ _ ⟨rfl, hs2, rfl⟩
 refine ⟨_, _, rfl, fun F2 le2 hz2 => ?_⟩
 replace har := har.mono le2
 replace hg := hg.mono le2
 replace hp := hp.mono le2
 replace ht := ht.mono le2
 have hf2 : IntsF F2 v3 ((argsL ar p 0)) := intsH.fz (xs := (argsL ar p 0)) hz2.fz
 refine qi (v3) rfl (qd (qf (qc (cX (qq [arv] qI qw rfl rfl (Rd.ownN [] rfl rfl) (qh (tv) rfl (cX (jG <| qm (args := [.agg #[arv], tv, ii ((0 : Nat) : Int)]) call300 rfl (ArgsAt_spec (p := 0) har ht (ho := (by first | assumption | rfl | omega | simp)) (hp := (by first | assumption | rfl | omega | simp))) ?_))))))))
 rintro v4 _ _ _ ⟨rfl, hs3, rfl⟩
 refine ⟨_, _, rfl, fun F3 le3 hz3 => ?_⟩
 replace har := har.mono le3
 replace hg := hg.mono le3
 replace hp := hp.mono le3
 replace ht := ht.mono le3
 replace hf2 := hf2.mono le3
 have hf3 : IntsF F3 v4 ((argsL ar t 0)) := intsH.fz (xs := (argsL ar t 0)) hz3.fz
 refine qi (v4) rfl (qd (qf (qf (qc (qi (ii (0)) rfl (qd (qR (jy (α := Nat × Nat × Nat × Nat × Value × List (List Int) × FH) (fun xQ => [(1, xQ.2.2.2.2.1), (2, pv), (3, tv), (4, ptr b1 0), (12, v3), (13, v4), (14, ii (((xQ.1 : Nat) : Int)))]) (fun xQ => cellsH b1 [arv] 36 :: L) (fun xQ F' => xQ.2.2.2.2.2.2 = F' ∧ F3 ≤ xQ.2.2.2.2.2.2 ∧ (RowsF xQ.2.2.2.2.2.2 xQ.2.2.2.2.1 xQ.2.2.2.2.2.1) ∧ (xQ.2.2.2.2.2.1.length = 24) ∧ (ArgAt ar p xQ.1 xQ.2.1 xQ.2.2.1) ∧ (ArgAt ar t xQ.1 xQ.2.1 xQ.2.2.2.1) ∧ (xQ.2.1 + xQ.1 = (argsL ar p 0).length) ∧ (1 ≤ xQ.2.2.1) ∧ (mGo ar t p 0 g = mGo ar t (p.drop xQ.2.2.1) xQ.2.2.2.1 xQ.2.2.2.2.2.1)) (fun xQ => (argsL ar p 0).length - xQ.1) (0, (argsL ar p 0).length, 1, 1, gv, g, F3) ⟨rfl, rfl, rfl, rfl, rfl, rfl, rfl, ⟨⟩⟩ (sC sR) ⟨rfl, FLe.refl _, (hg), (hgl), (ArgAt.start hop), (by rw [hll]; exact ArgAt.start hot), (rfl), (Nat.le_refl _), (mGo_symS hop hot (by omega) hd0)⟩ ?_))))))))
 rintro ⟨k, m, qa, qb, gv2, gs, G1⟩ rE _ _ ⟨rfl, leG, hgv, hgn, hA, hB, hkm, hqa1, hgo⟩
 show X _ _ _ _ (envs [(1, gv2), (2, pv), (3, tv), (4, ptr b1 0), (12, v3), (13, v4), (14, ii ((k : Int)))] rE) _ (cellsH b1 [arv] 36 :: L)
 replace leG : F3 ≤ G1 := leG
 dsimp only at hgv hgn hA hB hkm hqa1 hgo
 have hxa := fun (h : 1 ≤ m) => ArgAt.next hop (m := m - 1) (by rw [Nat.sub_add_cancel h]; exact hA)
 have hxb := fun (h : 1 ≤ m) => ArgAt.next hot (m := m - 1) (by rw [Nat.sub_add_cancel h]; exact hB)
 have hsa := fun (h : 1 ≤ m) => sub_ok hop (hxa h).2.1
 have hsb := fun (h : 1 ≤ m) => sub_ok hot (hxb h).2.1
 have leG1 := leG
 replace har := har.mono leG1
 replace hp := hp.mono leG1
 replace ht := ht.mono leG1
 replace hf2 := hf2.mono leG1
 replace hf3 := hf3.mono leG1
 refine qf (qf (qc (qh (ii ((k : Int))) rfl (qh (v3) rfl (cX (qE qg rfl hf2.slv (cX (jh rfl rfl (qd ?_)))))))))
 refine qC (p := (k : Int) < ((((argsL ar p 0)).length : Nat) : Int)) rfl (fun h6 => ?_) (fun h6 => ?_)
 ·have h1m : 1 ≤ m := by omega
  have hq1 : ((argsL ar p 0).getD k 0).toNat = qa := by have h9 := (hxa h1m).1; omega
  have hq2 : ((argsL ar t 0).getD k 0).toNat = qb := by have h9 := (hxb h1m).1; omega
  have hq3 : 0 ≤ (argsL ar p 0).getD k 0 := by have h9 := (hxa h1m).1; omega
  have hq4 : 0 ≤ (argsL ar t 0).getD k 0 := by have h9 := (hxb h1m).1; omega
  have hq5 : ((argsL ar p 0).getD k 0).toNat < p.length := by rw [hq1]; exact (hxa h1m).2.1
  have hq6 : ((argsL ar t 0).getD k 0).toNat < t.length := by rw [hq2]; exact (hxb h1m).2.1
  have hq7 : (sub ar p ((argsL ar p 0).getD k 0).toNat).length < p.length := by rw [hq1]; exact argAt_less hop (hxa h1m).2.1 hqa1
  have hq8 : termOk ar (sub ar p ((argsL ar p 0).getD k 0).toNat) = true := sub_ok hop hq5
  have hq9 : termOk ar (sub ar t ((argsL ar t 0).getD k 0).toNat) = true := sub_ok hot hq6
  refine qA (qf (qR (qf ?_)))
  refine jM [cellsH b1 [arv] 36] L 21 [[], [], [], [], [], [], [], [], [], [], [], [], [], [], [], [], [], [16], [16], [], [16]] [[], [], [], [], [], [], [4, 5], [6], [2, 3, 7], [], [], [], [], [11, 12], [13], [9, 10, 14], [0, 1, 8, 15], [16], [16, 17], [16, 17], [16, 18]] [] (phiG [pe (.agg #[arv]), pe gv2, pe (.agg #[arv]), pe pv, pe v3, pe (ii ((k : Int)) : Value), pe (.pointer (some (elemA v3 (k)))), pe (ii (((argsL ar p 0)).getD k 0)), fun FF us v => ((v) : Value) = v ∧ (IntsF FF (v) (sub ar p ((((argsL ar p 0)).getD k 0).toNat))), pe (.agg #[arv]), pe tv, pe v4, pe (ii ((k : Int)) : Value), pe (.pointer (some (elemA v4 (k)))), pe (ii (((argsL ar t 0)).getD k 0)), fun FF us v => ((v) : Value) = v ∧ (IntsF FF (v) (sub ar t ((((argsL ar t 0)).getD k 0).toNat))), fun FF us v => (.tuple #[((tupAt v 0)), .bool ((mGo ar (sub ar t ((((argsL ar t 0)).getD k 0).toNat)) (sub ar p ((((argsL ar p 0)).getD k 0).toNat)) 0 gs).isSome)] : Value) = v ∧ (SomeRowsF FF ((tupAt v 0)) (fun g2 => g2.length = 24 ∧ ∀ x, mGo ar (sub ar t ((((argsL ar t 0)).getD k 0).toNat)) (sub ar p ((((argsL ar p 0)).getD k 0).toNat)) 0 gs = some x → g2 = x)), fun FF us v => v = (.tuple #[((tupAt (us.getD 0 undef) 0)), .bool ((mGo ar (sub ar t ((((argsL ar t 0)).getD k 0).toNat)) (sub ar p ((((argsL ar p 0)).getD k 0).toNat)) 0 gs).isSome)] : Value), fun FF us v => v = ((tupAt (us.getD 0 undef) 0)), pe (.bool ((mGo ar (sub ar t ((((argsL ar t 0)).getD k 0).toNat)) (sub ar p ((((argsL ar p 0)).getD k 0).toNat)) 0 gs).isSome)), fun FF us v => v = ((tupAt (us.getD 0 undef) 0))]) (ownL []) mixed rfl rfl (by kernel_rfl) (by kernel_rfl) (MonoG.get (m1 (m1 (m1 (m1 (m1 (m1 (m1 (m1 (mC (fun le h => ⟨h.1, h.2.mono le⟩) (m1 (m1 (m1 (m1 (m1 (m1 (mC (fun le h => ⟨h.1, h.2.mono le⟩) (mC (fun le h => ⟨h.1, h.2.mono le⟩) (mC (fun le h => h) (mC (fun le h => h) (m1 (mC (fun le h => h) MonoG.nil)))))))))))))))))))))) ?_ ?_
  ·refine gD (fun W Fs R lF z9 => ?_) ?_
   ·replace har := har.mono lF
    replace hp := hp.mono lF
    replace ht := ht.mono lF
    replace hf2 := hf2.mono lF
    replace hf3 := hf3.mono lF
    replace hgv := hgv.mono lF
    refine qj (qq [arv] qI qw rfl rfl (Rd.ownN [] rfl rfl) ?_)
    exact ⟨rfl, rfl⟩
   refine gD (fun W Fs R lF z9 => ?_) ?_
   ·refine qj (qt (gv2) rfl ?_)
    exact ⟨rfl, rfl⟩
   refine gD (fun W Fs R lF z9 => ?_) ?_
   ·replace har := har.mono lF
    replace hp := hp.mono lF
    replace ht := ht.mono lF
    replace hf2 := hf2.mono lF
    replace hf3 := hf3.mono lF
    replace hgv := hgv.mono lF
    refine qj (qq [arv] qI qw rfl rfl (Rd.ownN [] rfl rfl) ?_)
    exact ⟨rfl, rfl⟩
   refine gD (fun W Fs R lF z9 => ?_) ?_
   ·refine qj (qt (pv) rfl ?_)
    exact ⟨rfl, rfl⟩
   refine gD (fun W Fs R lF z9 => ?_) ?_
   ·refine qj (qt (v3) rfl ?_)
    exact ⟨rfl, rfl⟩
   refine gD (fun W Fs R lF z9 => ?_) ?_
   ·refine qj (qt (ii ((k : Int))) rfl ?_)
    exact ⟨rfl, rfl⟩
   refine gD (fun W Fs R lF z9 => ?_) ?_
   ·replace har := har.mono lF
    replace hp := hp.mono lF
    replace ht := ht.mono lF
    replace hf2 := hf2.mono lF
    replace hf3 := hf3.mono lF
    replace hgv := hgv.mono lF
    rw [eS (l := [(4, _), (5, _)]) ⟨z9 4 rfl, z9 5 rfl, ⟨⟩⟩]
    refine qj (qD k qg qy rfl rfl rfl hf2.slv (by omega) (Nat.mul_one _) ?_)
    exact ⟨rfl, rfl⟩
   refine gD (fun W Fs R lF z9 => ?_) ?_
   ·replace har := har.mono lF
    replace hp := hp.mono lF
    replace ht := ht.mono lF
    replace hf2 := hf2.mono lF
    replace hf3 := hf3.mono lF
    replace hgv := hgv.mono lF
    rw [eS (l := [(6, _)]) ⟨z9 6 rfl, ⟨⟩⟩]
    refine qj (qk je rfl (hf2.rd (by omega)) ?_)
    exact ⟨rfl, rfl⟩
   refine gD (fun W Fs R lF z9 => ?_) ?_
   ·replace har := har.mono lF
    replace hp := hp.mono lF
    replace ht := ht.mono lF
    replace hf3 := hf3.mono lF
    replace hgv := hgv.mono lF
    rw [eS (l := [(2, _), (3, _), (7, _)]) ⟨z9 2 rfl, z9 3 rfl, z9 7 rfl, ⟨⟩⟩]
    refine qj (qm (args := [.agg #[arv], pv, ii (((((argsL ar p 0)).getD k 0).toNat : Nat) : Int)]) call149 (by rw [show (((((argsL ar p 0)).getD k 0).toNat : Nat) : Int) = ((argsL ar p 0)).getD k 0 from by omega]; rfl) (sSubAtO_spec (p := (((argsL ar p 0)).getD k 0).toNat) har hp (ho := (by first | assumption | rfl | omega | simp)) (hp := (by first | assumption | rfl | omega | simp))) ?_)
    rintro _ F7 _ le7 ⟨x4, rfl, hr5, rfl⟩
    replace har := har.mono le7
    replace hp := hp.mono le7
    replace ht := ht.mono le7
    replace hf3 := hf3.mono le7
    replace hgv := hgv.mono le7
    exact ⟨⟨rfl, hr5⟩, rfl⟩
   refine gD (fun W Fs R lF z9 => ?_) ?_
   ·replace har := har.mono lF
    replace hp := hp.mono lF
    replace ht := ht.mono lF
    replace hf3 := hf3.mono lF
    replace hgv := hgv.mono lF
    refine qj (qq [arv] qI qw rfl rfl (Rd.ownN [] rfl rfl) ?_)
    exact ⟨rfl, rfl⟩
   refine gD (fun W Fs R lF z9 => ?_) ?_
   ·refine qj (qt (tv) rfl ?_)
    exact ⟨rfl, rfl⟩
   refine gD (fun W Fs R lF z9 => ?_) ?_
   ·refine qj (qt (v4) rfl ?_)
    exact ⟨rfl, rfl⟩
   refine gD (fun W Fs R lF z9 => ?_) ?_
   ·refine qj (qt (ii ((k : Int))) rfl ?_)
    exact ⟨rfl, rfl⟩
   refine gD (fun W Fs R lF z9 => ?_) ?_
   ·replace har := har.mono lF
    replace hp := hp.mono lF
    replace ht := ht.mono lF
    replace hf3 := hf3.mono lF
    replace hgv := hgv.mono lF
    rw [eS (l := [(11, _), (12, _)]) ⟨z9 11 rfl, z9 12 rfl, ⟨⟩⟩]
    refine qj (qD k qg qy rfl rfl rfl hf3.slv (by omega) (Nat.mul_one _) ?_)
    exact ⟨rfl, rfl⟩
   refine gD (fun W Fs R lF z9 => ?_) ?_
   ·replace har := har.mono lF
    replace hp := hp.mono lF
    replace ht := ht.mono lF
    replace hf3 := hf3.mono lF
    replace hgv := hgv.mono lF
    rw [eS (l := [(13, _)]) ⟨z9 13 rfl, ⟨⟩⟩]
    refine qj (qk je rfl (hf3.rd (by omega)) ?_)
    exact ⟨rfl, rfl⟩
   refine gD (fun W Fs R lF z9 => ?_) ?_
   ·replace har := har.mono lF
    replace hp := hp.mono lF
    replace ht := ht.mono lF
    replace hgv := hgv.mono lF
    rw [eS (l := [(9, _), (10, _), (14, _)]) ⟨z9 9 rfl, z9 10 rfl, z9 14 rfl, ⟨⟩⟩]
    refine qj (qm (args := [.agg #[arv], tv, ii (((((argsL ar t 0)).getD k 0).toNat : Nat) : Int)]) call149 (by rw [show (((((argsL ar t 0)).getD k 0).toNat : Nat) : Int) = ((argsL ar t 0)).getD k 0 from by omega]; rfl) (sSubAtO_spec (p := (((argsL ar t 0)).getD k 0).toNat) har ht (ho := (by first | assumption | rfl | omega | simp)) (hp := (by first | assumption | rfl | omega | simp))) ?_)
    rintro _ F8 _ le8 ⟨x5, rfl, hr6, rfl⟩
    replace har := har.mono le8
    replace hgv := hgv.mono le8
    exact ⟨⟨rfl, hr6⟩, rfl⟩
   refine gD (fun W Fs R lF z9 => ?_) ?_
   ·obtain ⟨e8, f8_2hr⟩ := z9 8 rfl
    obtain ⟨e15, f15_2hr⟩ := z9 15 rfl
    replace har := har.mono lF
    replace hgv := hgv.mono lF
    rw [eS (l := [(0, _), (1, _), (8, ((W 8))), (15, ((W 15)))]) ⟨z9 0 rfl, z9 1 rfl, (e8).symm, (e15).symm, ⟨⟩⟩]
    refine qj (qm (args := [.agg #[arv], gv2, ((W 8)), ((W 15))]) call236 rfl (ih (((sub ar p ((((argsL ar p 0)).getD k 0).toNat))).length) (by omega) har hgv f8_2hr f15_2hr (hn := (by first | assumption | rfl | omega | simp)) (hop := (by first | assumption | rfl | omega | simp)) (hot := (by first | assumption | rfl | omega | simp)) (hgl := (by first | assumption | rfl | omega | simp))) ?_)
    rintro _ F9 _ le9 ⟨⟨x6, rfl, hr7⟩, rfl⟩
    replace hgv := hgv.mono le9
    replace f8_2hr := f8_2hr.mono le9
    replace f15_2hr := f15_2hr.mono le9
    exact ⟨⟨rfl, hr7⟩, rfl⟩
   refine gD (fun W Fs R lF z9 => ?_) ?_
   ·obtain ⟨e16, f16_2hp_a⟩ := z9 16 rfl
    obtain ⟨t16X2_a, f16_2hp_a, q16_2_a0, q16_2_a1⟩ := f16_2hp_a
    rw [eS (l := [(16, (.tuple #[((tupAt (W 16) 0)), .bool ((mGo ar (sub ar t ((((argsL ar t 0)).getD k 0).toNat)) (sub ar p ((((argsL ar p 0)).getD k 0).toNat)) 0 gs).isSome)]))]) ⟨(e16).symm, ⟨⟩⟩]
    refine qj (qt (.tuple #[((tupAt (W 16) 0)), .bool ((mGo ar (sub ar t ((((argsL ar t 0)).getD k 0).toNat)) (sub ar p ((((argsL ar p 0)).getD k 0).toNat)) 0 gs).isSome)]) rfl ?_)
    exact ⟨rfl, rfl⟩
   refine gD (fun W Fs R lF z9 => ?_) ?_
   ·obtain ⟨e16, f16_2hp_a⟩ := z9 16 rfl
    obtain ⟨t16X2_a, f16_2hp_a, q16_2_a0, q16_2_a1⟩ := f16_2hp_a
    have e17 : W 17 = (.tuple #[((tupAt (W 16) 0)), .bool ((mGo ar (sub ar t ((((argsL ar t 0)).getD k 0).toNat)) (sub ar p ((((argsL ar p 0)).getD k 0).toNat)) 0 gs).isSome)] : Value) := z9 17 rfl
    rw [eS (l := [(16, (.tuple #[((tupAt (W 16) 0)), .bool ((mGo ar (sub ar t ((((argsL ar t 0)).getD k 0).toNat)) (sub ar p ((((argsL ar p 0)).getD k 0).toNat)) 0 gs).isSome)])), (17, (.tuple #[((tupAt (W 16) 0)), .bool ((mGo ar (sub ar t ((((argsL ar t 0)).getD k 0).toNat)) (sub ar p ((((argsL ar p 0)).getD k 0).toNat)) 0 gs).isSome)]))]) ⟨(e16).symm, e17, ⟨⟩⟩]
    refine qj (qM (((tupAt (W 16) 0))) rfl rfl ?_)
    exact ⟨rfl, rfl⟩
   refine gD (fun W Fs R lF z9 => ?_) ?_
   ·obtain ⟨e16, f16_2hp_a⟩ := z9 16 rfl
    obtain ⟨t16X2_a, f16_2hp_a, q16_2_a0, q16_2_a1⟩ := f16_2hp_a
    have e17 : W 17 = (.tuple #[((tupAt (W 16) 0)), .bool ((mGo ar (sub ar t ((((argsL ar t 0)).getD k 0).toNat)) (sub ar p ((((argsL ar p 0)).getD k 0).toNat)) 0 gs).isSome)] : Value) := z9 17 rfl
    rw [eS (l := [(16, (.tuple #[((tupAt (W 16) 0)), .bool ((mGo ar (sub ar t ((((argsL ar t 0)).getD k 0).toNat)) (sub ar p ((((argsL ar p 0)).getD k 0).toNat)) 0 gs).isSome)])), (17, (.tuple #[((tupAt (W 16) 0)), .bool ((mGo ar (sub ar t ((((argsL ar t 0)).getD k 0).toNat)) (sub ar p ((((argsL ar p 0)).getD k 0).toNat)) 0 gs).isSome)]))]) ⟨(e16).symm, e17, ⟨⟩⟩]
    refine qj (qM (.bool ((mGo ar (sub ar t ((((argsL ar t 0)).getD k 0).toNat)) (sub ar p ((((argsL ar p 0)).getD k 0).toNat)) 0 gs).isSome)) rfl rfl ?_)
    exact ⟨rfl, rfl⟩
   refine gD (fun W Fs R lF z9 => ?_) ?_
   ·obtain ⟨e16, f16_2hp_a⟩ := z9 16 rfl
    obtain ⟨t16X2_a, f16_2hp_a, q16_2_a0, q16_2_a1⟩ := f16_2hp_a
    have e18 : W 18 = ((tupAt (W 16) 0)) := z9 18 rfl
    rw [eS (l := [(16, (.tuple #[((tupAt (W 16) 0)), .bool ((mGo ar (sub ar t ((((argsL ar t 0)).getD k 0).toNat)) (sub ar p ((((argsL ar p 0)).getD k 0).toNat)) 0 gs).isSome)])), (18, ((tupAt (W 16) 0)))]) ⟨(e16).symm, e18, ⟨⟩⟩]
    refine qj (XOp.assign (((tupAt (W 16) 0))) rfl ?_)
    exact ⟨rfl, rfl⟩
   exact stepsG.nil
  intro W F10 le10 hphi
  obtain ⟨e8, f8_2hr⟩ := hphi 8 (by decide)
  obtain ⟨e15, f15_2hr⟩ := hphi 15 (by decide)
  obtain ⟨e16, f16_2hp_a⟩ := hphi 16 (by decide)
  obtain ⟨t16X2_a, f16_2hp_a, q16_2_a0, q16_2_a1⟩ := f16_2hp_a
  have e17 : W 17 = (.tuple #[((tupAt (W 16) 0)), .bool ((mGo ar (sub ar t ((((argsL ar t 0)).getD k 0).toNat)) (sub ar p ((((argsL ar p 0)).getD k 0).toNat)) 0 gs).isSome)] : Value) := hphi 17 (by decide)
  have e18 : W 18 = ((tupAt (W 16) 0)) := hphi 18 (by decide)
  have e20 : W 20 = ((tupAt (W 16) 0)) := hphi 20 (by decide)
  generalize hu1 : ((W 8)) = u1 at e8 f8_2hr e15 f15_2hr e16 f16_2hp_a e17 e18 e20
  generalize hu2 : ((W 15)) = u2 at e8 f8_2hr e15 f15_2hr e16 f16_2hp_a e17 e18 e20
  generalize hu3 : ((tupAt (W 16) 0)) = u3 at e8 f8_2hr e15 f15_2hr e16 f16_2hp_a e17 e18 e20
  rw [eS (l := [(16, (.tuple #[u3, .bool ((mGo ar (sub ar t ((((argsL ar t 0)).getD k 0).toNat)) (sub ar p ((((argsL ar p 0)).getD k 0).toNat)) 0 gs).isSome)])), (19, _), (20, u3)]) ⟨(e16).symm, (hphi 19 (by decide)), e20, ⟨⟩⟩]
  replace hgv := hgv.mono le10
  show XL _ _ _ _ _ _ _ (cellsH b1 [arv] 36 :: L)
  refine qi (.bool ((mGo ar (sub ar t ((((argsL ar t 0)).getD k 0).toNat)) (sub ar p ((((argsL ar p 0)).getD k 0).toNat)) 0 gs).isSome)) rfl (qd (qf (qf (qc (qh (.bool ((mGo ar (sub ar t ((((argsL ar t 0)).getD k 0).toNat)) (sub ar p ((((argsL ar p 0)).getD k 0).toNat)) 0 gs).isSome)) rfl (cX (jf rfl (qd ?_))))))))
  refine jw (t := !((mGo ar (sub ar t ((((argsL ar t 0)).getD k 0).toNat)) (sub ar p ((((argsL ar p 0)).getD k 0).toNat)) 0 gs).isSome)) rfl (fun h7 => ?_) (fun h7 => ?_)
  ·have hmf : (mGo ar (sub ar t qb) (sub ar p qa) 0 gs).isSome = false := by have h9 := Bool.not_inj (y := false) h7; rw [hq1, hq2] at h9; exact h9
   refine qf (qc (qh (gv2) rfl (qi (gv2) rfl (qi (.bool (false)) rfl (qd (qu (qo (qL (qo (qo (qL (qo (qs (L' := L) [gv2, .bool (false)] (.tuple #[gv2, .bool (false)]) (.tmp rfl (.tmp rfl .nil)) rfl (qn (qn (qn le2 le3) leG1) le10) rF (sD sR) ?_)))))))))))))
   have e : mGo ar t p 0 g = none := hgo.trans (mGo_argN hop hot (hxa h1m).2.1 (hxb h1m).2.1 hmf)
   exact ⟨⟨_, by rw [e]; rfl, ⟨_, hgv, by omega, fun x hx => (by rw [e] at hx; cases hx)⟩⟩, rfl⟩
  have hms : mGo ar (sub ar t qb) (sub ar p qa) 0 gs = some t16X2_a := opt_is (by have h9 := Bool.not_inj (y := true) h7; rw [hq1, hq2] at h9; exact h9) (fun r hr => q16_2_a1 r (by rw [hq1, hq2]; exact hr))
  refine qA (qc (qh (u3) rfl (qi (u3) rfl (qd (qc (qh (ii ((k : Int))) rfl (cX (qU (((k + 1 : Nat) : Int)) rfl rfl (by omega) (by omega) (qi (ii (((k + 1 : Nat) : Int))) rfl (qd ?_))))))))))
  exact ⟨(k + 1, m - 1, endN ar p qa, endN ar t qb, u3, t16X2_a, F10), _, (qn leG1 le10), rF, ⟨rfl, rfl, rfl, rfl, rfl, rfl, rfl, ⟨⟩⟩, (sC sR), ⟨rfl, (qn leG1 le10), (f16_2hp_a), (q16_2_a0), ((hxa (by omega)).2.2), ((hxb (by omega)).2.2), (by (try dsimp only) <;> omega), (by have h9 := endN_spec hop (hxa h1m).2.1; (try dsimp only); omega), (hgo.trans (mGo_argS hop hot (hxa (by omega)).2.1 (hxb (by omega)).2.1 hms))⟩, (by omega)⟩
 have h0m : m = 0 := by omega
 subst h0m
 have hqa := ArgAt.done hA
 have hqb := ArgAt.done hB
 refine jo (qB (qB (qW (qf (qc (qh (gv2) rfl (qi (gv2) rfl (qi (.bool (true)) rfl (qd (qu (qs (L' := L) [gv2, .bool (true)] (.tuple #[gv2, .bool (true)]) (.tmp rfl (.tmp rfl .nil)) rfl (qn (qn le2 le3) leG1) rF (sD sR) ?_)))))))))))
 have e : mGo ar t p 0 g = some gs := hgo.trans (mGo_done (by omega))
 exact ⟨⟨_, by rw [e]; rfl, ⟨_, hgv, hgn, fun x hx => (by rw [e] at hx; exact Option.some.inj hx)⟩⟩, rfl⟩

theorem l20Match_spec (n : Nat) : ∀ {F : FH} {L : List HP}  {arv : Value} {ar : List Int} (har : IntsF F arv ar) {gv : Value} {g : List (List Int)} (hg : RowsF F gv g) {pv : Value} {p : List Int} (hp : IntsF F pv p) {tv : Value} {t : List Int} (ht : IntsF F tv t) (hn : p.length ≤ n) (hop : termOk ar p = true) (hot : termOk ar t = true) (hgl : g.length = 24), Does prog 236 [.agg #[arv], gv, pv, tv] F L (fun v F' L' => (∃ (a : Value), (.tuple #[a, .bool ((mGo ar t p 0 g).isSome)] : Value) = v ∧ (SomeRowsF F' a (fun g2 => g2.length = 24 ∧ ∀ x, mGo ar t p 0 g = some x → g2 = x))) ∧ L = L') := by
  induction n using Nat.strongRecOn with
  | _ n ih =>
    intros
    exact l20Match_spec_step ih (by assumption) (by assumption) (by assumption) (by assumption) (by assumption) (by assumption) (by assumption) (by assumption)

/- spec.l20Move -/
set_option maxHeartbeats 1000000 in
set_option maxRecDepth 20000 in
theorem l20Move_spec {F : FH} {L : List HP} {arv : Value} {ar : List Int} (har : IntsF F arv ar) {esv : Value} {es : List (List Int × List Int)} (hes : PairsF F esv es) {tv : Value} {t : List Int} (ht : IntsF F tv t) {i : Int} {j : Int} {k : Bool} {uv : Value} {u : List Int} (hu : IntsF F uv u) (heo : eqsOkL ar es = true) (ho : termOk ar t = true) (hla : ar.length ≤ 4000000) (hul : u.length ≤ 4000000) :
    Does prog 137 [.agg #[arv], esv, tv, .agg #[ii (i), ii (j), .bool (k), uv]] F (L) (fun v F' L' => (.bool (moveB ar es t (i, j, k, u)) : Value) = v ∧ F = F' ∧ L = L') := by
 refine qH func137 rfl rfl rfl ?_
 have hsl := sigOk_spec (termOk_sig ho)
 have htl := termOk_len ho
 have hel := eqsOk_len heo
 refine qf (qc (cX (qZ [arv] rfl rfl ?_)))
 intro b1
 refine cX (qZ [ii (i), ii (j), .bool (k), uv] rfl rfl ?_)
 intro b2
 refine qi (.bool (false)) rfl (qd (qf (qf (qc (cX (ql (0) qY rfl qy (by decide) rfl rfl (cX (qk je rfl (Rd.own [] rfl rfl) (qh (esv) rfl (cX (qE jI rfl hes.slv (cX (jp (((es.length : Int)) - 1) rfl rfl (by omega) (by omega) (cX (qm (args := [ii (i), ii (0), ii (((es.length : Int)) - 1)]) call110 rfl (l1In_spec (n := i) (a := 0) (b := ((es.length : Int)) - 1)) ?_)))))))))))))))
 rintro _ _ _ _ ⟨rfl, rfl, rfl⟩
 refine cX (jQ rfl (qh (.bool (decide (¬(0 ≤ i ∧ i ≤ (((es.length : Int)) - 1))))) rfl ?_))
 by_cases h1 : ¬(0 ≤ i ∧ i ≤ (((es.length : Int)) - 1))
 ·refine qp (t := 25) rfl (vT h1) (qp (t := 25) rfl (vT h1) (qp (t := 25) rfl (vT h1) (qp (t := 25) rfl (vT h1) (qp (t := 25) rfl (vT h1) (qp (t := 25) rfl (vT h1) (qp (t := 25) rfl (vT h1) (cX (qP (.bool (true)) (vT h1) rfl (qh (.bool (true)) rfl (qp (t := 34) rfl rfl ?_))))))))))
  refine qp (t := 34) rfl rfl (qp (t := 34) rfl rfl (qp (t := 34) rfl rfl (qp (t := 34) rfl rfl (cX (qP (.bool (true)) rfl rfl (qh (.bool (true)) rfl (qp (t := 41) rfl rfl (qp (t := 41) rfl rfl (qp (t := 41) rfl rfl (qp (t := 41) rfl rfl ?_))))))))))
  refine qp (t := 41) rfl rfl (qp (t := 41) rfl rfl (cX (qP (.bool (true)) rfl rfl (qd (jC rfl (qf (qc (qi (.bool (false)) rfl (qd (qu (qo (qs (L' := L) [.bool (false)] (.bool (false)) (.tmp rfl .nil) rfl rF rF (sD (sD sR)) ?_))))))))))))
  exact ⟨(vB (by first | exact moveB_no2' hq0 | exact (moveB_eq' hgd hput (sideA_f hkf) (sideB_f hkf)).trans (pairM_none hm0) | exact moveB_no1' (fun hq => by obtain ⟨q1, q2, q3, q4, q5⟩ := hq; have q6 := posOk_iff.1 q5; first | omega | (simp_all; done) | (simp_all; omega)))), rfl, rfl⟩
 refine qr (t := 25) rfl (vF h1) (ql (1) qY rfl qy (by decide) rfl rfl (qr (t := 25) rfl (vF h1) (qk je rfl (Rd.own [] rfl rfl) (qr (t := 25) rfl (vF h1) (qt (tv) rfl (qr (t := 25) rfl (vF h1) (qE qg rfl ht.slv (qr (t := 25) rfl (vF h1) (jp (((t.length : Int)) - 1) rfl rfl (by omega) (by omega) (qr (t := 25) rfl (vF h1) (qm (args := [ii (j), ii (0), ii (((t.length : Int)) - 1)]) call110 rfl (l1In_spec (n := j) (a := 0) (b := ((t.length : Int)) - 1)) ?_)))))))))))
 rintro _ _ _ _ ⟨rfl, rfl, rfl⟩
 refine qr (t := 25) rfl (vF h1) (jQ rfl (cX (qN (.bool (decide (¬(0 ≤ j ∧ j ≤ (((t.length : Int)) - 1))))) (vF h1) rfl (qh (.bool (decide (¬(0 ≤ j ∧ j ≤ (((t.length : Int)) - 1))))) rfl ?_))))
 by_cases h2 : ¬(0 ≤ j ∧ j ≤ (((t.length : Int)) - 1))
 ·refine qp (t := 34) rfl (vT h2) (qp (t := 34) rfl (vT h2) (qp (t := 34) rfl (vT h2) (qp (t := 34) rfl (vT h2) (qp (t := 34) rfl (vT h2) (cX (qP (.bool (true)) (vT h2) rfl (qh (.bool (true)) rfl (qp (t := 41) rfl rfl (qp (t := 41) rfl rfl (qp (t := 41) rfl rfl ?_))))))))))
  refine qp (t := 41) rfl rfl (qp (t := 41) rfl rfl (qp (t := 41) rfl rfl (cX (qP (.bool (true)) rfl rfl (qd (jC rfl (qf (qc (qi (.bool (false)) rfl (qd (qu (qo (qs (L' := L) [.bool (false)] (.bool (false)) (.tmp rfl .nil) rfl rF rF (sD (sD sR)) ?_)))))))))))))
  exact ⟨(vB (by first | exact moveB_no2' hq0 | exact (moveB_eq' hgd hput (sideA_f hkf) (sideB_f hkf)).trans (pairM_none hm0) | exact moveB_no1' (fun hq => by obtain ⟨q1, q2, q3, q4, q5⟩ := hq; have q6 := posOk_iff.1 q5; first | omega | (simp_all; done) | (simp_all; omega)))), rfl, rfl⟩
 refine qr (t := 34) rfl (vF h2) (qq [arv] qI qw rfl rfl (Rd.ownN [_] rfl rfl) (qr (t := 34) rfl (vF h2) (ql (3) qY rfl qv (by decide) rfl rfl (qr (t := 34) rfl (vF h2) (qk qS rfl (Rd.own [] rfl rfl) (qr (t := 34) rfl (vF h2) (qm (args := [.agg #[arv], uv]) call136 rfl (sTermOk_spec har hu (hla := (by first | assumption | rfl | omega | simp)) (hlt := (by first | assumption | rfl | omega | simp))) ?_)))))))
 rintro _ _ _ _ ⟨rfl, rfl, rfl⟩
 refine qr (t := 34) rfl (vF h2) (jf rfl (cX (qN (.bool (!(termOk ar u))) (vF h2) rfl (qh (.bool (!(termOk ar u))) rfl ?_))))
 by_cases h3 : (!(termOk ar u)) = true
 ·refine qp (t := 41) rfl (vB h3) (qp (t := 41) rfl (vB h3) (qp (t := 41) rfl (vB h3) (qp (t := 41) rfl (vB h3) (qp (t := 41) rfl (vB h3) (qp (t := 41) rfl (vB h3) (cX (qP (.bool (true)) (vB h3) rfl (qd (jC rfl (qf (qc ?_)))))))))))
  refine qi (.bool (false)) rfl (qd (qu (qo (qs (L' := L) [.bool (false)] (.bool (false)) (.tmp rfl .nil) rfl rF rF (sD (sD sR)) ?_))))
  exact ⟨(vB (by first | exact moveB_no2' hq0 | exact (moveB_eq' hgd hput (sideA_f hkf) (sideB_f hkf)).trans (pairM_none hm0) | exact moveB_no1' (fun hq => by obtain ⟨q1, q2, q3, q4, q5⟩ := hq; have q6 := posOk_iff.1 q5; first | omega | (simp_all; done) | (simp_all; omega)))), rfl, rfl⟩
 rw [Bool.not_eq_true] at h3
 have hto9 : termOk ar u = true := Bool.not_inj (y := true) h3
 refine qr (t := 41) rfl (vB h3) (ql (1) qY rfl qy (by decide) rfl rfl (qr (t := 41) rfl (vB h3) (qk je rfl (Rd.own [] rfl rfl) (qr (t := 41) rfl (vB h3) (ql (3) qY rfl qv (by decide) rfl rfl (qr (t := 41) rfl (vB h3) (qk qS rfl (Rd.own [] rfl rfl) (qr (t := 41) rfl (vB h3) (qE qg rfl hu.slv (qr (t := 41) rfl (vB h3) (jZ rfl rfl (cX (qN (.bool (decide ((j : Int) ≥ (u.length : Int)))) (vB h3) rfl (qd ?_))))))))))))))
 refine qC (p := (j : Int) ≥ (u.length : Int)) rfl (fun h4 => ?_) (fun h4 => ?_)
 ·refine qf (qc (qi (.bool (false)) rfl (qd (qu (qo (qs (L' := L) [.bool (false)] (.bool (false)) (.tmp rfl .nil) rfl rF rF (sD (sD sR)) ?_))))))
  exact ⟨(vB (by first | exact moveB_no2' hq0 | exact (moveB_eq' hgd hput (sideA_f hkf) (sideB_f hkf)).trans (pairM_none hm0) | exact moveB_no1' (fun hq => by obtain ⟨q1, q2, q3, q4, q5⟩ := hq; have q6 := posOk_iff.1 q5; first | omega | (simp_all; done) | (simp_all; omega)))), rfl, rfl⟩
 refine qA (qf (qc ?_))
 have hgd : 0 ≤ i ∧ i < (es.length : Int) ∧ 0 ≤ j ∧ j < (t.length : Int) ∧ posOk ar u j = true := ⟨by omega, by omega, by omega, by omega, posOk_iff.2 ⟨hto9, by omega⟩⟩
 have hpo := posOk_iff.1 hgd.2.2.2.2
 have hou := hpo.1
 have hul2 := termOk_len hou
 have hsd := eqsOk_term heo (i := i.toNat) (by omega)
 have hs1 := hsd.1
 have hs2 := hsd.2
 have hl1 := termOk_len hs1
 have hl2 := termOk_len hs2
 have hg1 := fun k (hk : k < (es.getD i.toNat ([], [])).1.length) => termOk_ge hs1 hk
 have hg2 := fun k (hk : k < (es.getD i.toNat ([], [])).2.length) => termOk_ge hs2 hk
 have hso := sub_ok hou (p := j.toNat) (by omega)
 have hst := sub_ok ho (p := j.toNat) (by omega)
 have hsol := termOk_len hso
 have hstl := termOk_len hst
 refine qh (esv) rfl (cX (ql (0) qY rfl qy (by decide) rfl rfl (cX (qk je rfl (Rd.own [] rfl rfl) (cX (qD ((i).toNat) jI sizeOf168 rfl rfl (by omega) hes.slv (by omega) rfl (cX (jT (((i).toNat) * 2) jX rfl qv (by decide) rfl rfl ?_))))))))
 obtain ⟨a1, a2, ha1, ha2, hr1, hr2⟩ := hes.rd (i := (i).toNat) (by omega)
 refine cX (qk qS rfl (hr1 _) (qi (a1) rfl (qd (qf (qc (qh (esv) rfl (cX (ql (0) qY rfl qy (by decide) rfl rfl (cX (qk je rfl (Rd.own [] rfl rfl) (cX (qD ((i).toNat) jI sizeOf168 rfl rfl (by omega) hes.slv (by omega) rfl (cX (jT (((i).toNat) * 2 + 1) jX rfl qv (by decide) rfl rfl (cX (qk qS rfl (hr2 _) (qi (a2) rfl ?_)))))))))))))))))
 refine qd (qf (qf (qc (cX (ql (2) qY rfl sizeOf4 (by decide) rfl rfl (cX (qk isAgg4 rfl (Rd.own [] rfl rfl) (qd ?_))))))))
 refine jw (t := k) rfl (fun h5 => ?_) (fun h5 => ?_)
 ·have hkt : k = true := h5
  refine qf (qc (qh (esv) rfl (cX (ql (0) qY rfl qy (by decide) rfl rfl (cX (qk je rfl (Rd.own [] rfl rfl) (cX (qD ((i).toNat) jI sizeOf168 rfl rfl (by omega) hes.slv (by omega) rfl (cX (jT (((i).toNat) * 2 + 1) jX rfl qv (by decide) rfl rfl (cX (qk qS rfl (hr2 _) (qi (a2) rfl (qd (qc (qh (esv) rfl ?_))))))))))))))))
  refine cX (ql (0) qY rfl qy (by decide) rfl rfl (cX (qk je rfl (Rd.own [] rfl rfl) (cX (qD ((i).toNat) jI sizeOf168 rfl rfl (by omega) hes.slv (by omega) rfl (cX (jT (((i).toNat) * 2) jX rfl qv (by decide) rfl rfl (cX (qk qS rfl (hr1 _) (qi (a1) rfl (qd (qf (qc (cX (qq [arv] qI qw rfl rfl (Rd.ownN [_] rfl rfl) (cX (ql (3) qY rfl qv (by decide) rfl rfl (cX (qk qS rfl (Rd.own [] rfl rfl) ?_)))))))))))))))))))
  refine cX (ql (1) qY rfl qy (by decide) rfl rfl (cX (qk je rfl (Rd.own [] rfl rfl) (cX (qm (args := [.agg #[arv], uv, ii (((j).toNat : Nat) : Int)]) call149 (by rw [show (((j).toNat : Nat) : Int) = j from by omega]; rfl) (sSubAtO_spec (p := (j).toNat) har hu (ho := (by first | assumption | rfl | omega | simp)) (hp := (by first | assumption | rfl | omega | simp))) ?_)))))
  rintro _ F1 _ le1 ⟨x1, rfl, hr3, rfl⟩
  replace har := har.mono le1
  replace ht := ht.mono le1
  replace hu := hu.mono le1
  replace ha1 := ha1.mono le1
  replace ha2 := ha2.mono le1
  refine qi (x1) rfl (qd (qf (qc (cX (qq [arv] qI qw rfl rfl (Rd.ownN [_] rfl rfl) (qh (tv) rfl (cX (ql (1) qY rfl qy (by decide) rfl rfl (cX (qk je rfl (Rd.own [] rfl rfl) (qh (x1) rfl (cX (qm (args := [.agg #[arv], tv, ii (((j).toNat : Nat) : Int), x1]) call235 (by rw [show (((j).toNat : Nat) : Int) = j from by omega]; rfl) (sPutAt_spec (p := (j).toNat) har ht hr3 (ho := (by first | assumption | rfl | omega | simp)) (hp := (by first | assumption | rfl | omega | simp)) (hou := (by first | assumption | rfl | omega | simp))) ?_)))))))))))))
  rintro _ F2 _ le2 ⟨x2, rfl, hr4, rfl⟩
  replace har := har.mono le2
  replace ht := ht.mono le2
  replace hu := hu.mono le2
  replace ha1 := ha1.mono le2
  replace ha2 := ha2.mono le2
  replace hr3 := hr3.mono le2
  refine qh (.tuple #[x2, .bool ((putL ar t ((j).toNat) (sub ar u ((j).toNat))).isSome)]) rfl (cX (qM (x2) rfl rfl (cX (qM (.bool ((putL ar t ((j).toNat) (sub ar u ((j).toNat))).isSome)) rfl rfl (qi (x2) rfl (qi (.bool ((putL ar t ((j).toNat) (sub ar u ((j).toNat))).isSome)) rfl (qd (qf (qf (qc (qh (.bool ((putL ar t ((j).toNat) (sub ar u ((j).toNat))).isSome)) rfl (cX (jf rfl (qh (.bool (!((putL ar t ((j).toNat) (sub ar u ((j).toNat))).isSome))) rfl ?_))))))))))))))
  by_cases h6 : (!((putL ar t ((j).toNat) (sub ar u ((j).toNat))).isSome)) = true
  ·have hq0 : putL ar t j.toNat (sub ar u j.toNat) ≠ some u := fun e => by have h9 := Bool.not_inj (y := false) h6; rw [e] at h9; cases h9
   refine qp (t := 92) rfl (vB h6) (qp (t := 92) rfl (vB h6) (qp (t := 92) rfl (vB h6) (qp (t := 92) rfl (vB h6) (qp (t := 92) rfl (vB h6) (cX (qP (.bool (true)) (vB h6) rfl (qd (jC rfl (qf (qc (qi (.bool (false)) rfl ?_)))))))))))
   refine qd (qu (qo (qs (L' := L) [.bool (false)] (.bool (false)) (.tmp rfl .nil) rfl rF (qn le1 le2) (sD (sD sR)) ?_)))
   exact ⟨(vB (by first | exact moveB_no2' hq0 | exact (moveB_eq' hgd hput (sideA_t hkt) (sideB_t hkt)).trans (pairM_none hm0) | exact moveB_no1' (fun hq => by obtain ⟨q1, q2, q3, q4, q5⟩ := hq; have q6 := posOk_iff.1 q5; first | omega | (simp_all; done) | (simp_all; omega)))), rfl, rfl⟩
  rw [Bool.not_eq_true] at h6
  have hp1 : (putL ar t j.toNat (sub ar u j.toNat)).isSome = true := Bool.not_inj (y := true) h6
  have hp2 := put_le60 (ar := ar) (t := t) (u := sub ar u j.toNat) (p := j.toNat)
  refine qr (t := 92) rfl (vB h6) (qt (x2) rfl (qr (t := 92) rfl (vB h6) (ql (3) qY rfl qv (by decide) rfl rfl (qr (t := 92) rfl (vB h6) (qk qS rfl (Rd.own [] rfl rfl) (qr (t := 92) rfl (vB h6) (qm (args := [x2, uv]) call32 rfl (SameTerm_spec hr4 hu (hbd := (by first | assumption | rfl | omega | (left; simp; done) | (right; simp; done)))) ?_)))))))
  rintro _ _ _ _ ⟨rfl, rfl, rfl⟩
  refine qr (t := 92) rfl (vB h6) (jQ rfl (cX (qN (.bool (decide (¬(((putL ar t ((j).toNat) (sub ar u ((j).toNat))).getD []) = u)))) (vB h6) rfl (qd ?_))))
  refine qC (p := ¬(((putL ar t ((j).toNat) (sub ar u ((j).toNat))).getD []) = u)) rfl (fun h7 => ?_) (fun h7 => ?_)
  ·have hq0 : putL ar t j.toNat (sub ar u j.toNat) ≠ some u := fun e => h7 (by rw [e]; rfl)
   refine qf (qc (qi (.bool (false)) rfl (qd (qu (qo (qs (L' := L) [.bool (false)] (.bool (false)) (.tmp rfl .nil) rfl rF (qn le1 le2) (sD (sD sR)) ?_))))))
   exact ⟨(vB (by first | exact moveB_no2' hq0 | exact (moveB_eq' hgd hput (sideA_t hkt) (sideB_t hkt)).trans (pairM_none hm0) | exact moveB_no1' (fun hq => by obtain ⟨q1, q2, q3, q4, q5⟩ := hq; have q6 := posOk_iff.1 q5; first | omega | (simp_all; done) | (simp_all; omega)))), rfl, rfl⟩
  have hput := put_is hp1 (Classical.not_not.1 h7)
  refine qA (qf ?_)
  refine jM [cellsH b2 [ii (i), ii (j), .bool (k), uv] 105, cellsH b1 [arv] 36] L 13 [[], [], [], [], [], [], [], [], [], [8], [8], [], [8]] [[], [], [], [], [], [], [5], [3, 4, 6], [0, 1, 2, 7], [8], [8, 9], [8, 9], [8, 10]] [] (phiG [pe (.agg #[arv]), fun FF us v => (v : Value) = v ∧ (RowsF FF v (List.replicate 24 [] : List (List Int))), pe a2, pe (.agg #[arv]), pe tv, pe (ptr b2 1), pe (ii (j)), fun FF us v => ((v) : Value) = v ∧ (IntsF FF (v) (sub ar t ((j).toNat))), fun FF us v => (.tuple #[((tupAt v 0)), .bool ((mGo ar (sub ar t ((j).toNat)) ((es.getD ((i).toNat) ([], [])).2) 0 ((List.replicate 24 [] : List (List Int)))).isSome)] : Value) = v ∧ (SomeRowsF FF ((tupAt v 0)) (fun g2 => g2.length = 24 ∧ ∀ x, mGo ar (sub ar t ((j).toNat)) ((es.getD ((i).toNat) ([], [])).2) 0 ((List.replicate 24 [] : List (List Int))) = some x → g2 = x)), fun FF us v => v = (.tuple #[((tupAt (us.getD 0 undef) 0)), .bool ((mGo ar (sub ar t ((j).toNat)) ((es.getD ((i).toNat) ([], [])).2) 0 ((List.replicate 24 [] : List (List Int)))).isSome)] : Value), fun FF us v => v = ((tupAt (us.getD 0 undef) 0)), pe (.bool ((mGo ar (sub ar t ((j).toNat)) ((es.getD ((i).toNat) ([], [])).2) 0 ((List.replicate 24 [] : List (List Int)))).isSome) : Value), fun FF us v => v = ((tupAt (us.getD 0 undef) 0))]) (ownL []) mixed rfl rfl (by kernel_rfl) (by kernel_rfl) (MonoG.get (m1 (mC (fun le h => ⟨h.1, h.2.mono le⟩) (m1 (m1 (m1 (m1 (m1 (mC (fun le h => ⟨h.1, h.2.mono le⟩) (mC (fun le h => ⟨h.1, h.2.mono le⟩) (mC (fun le h => h) (mC (fun le h => h) (m1 (mC (fun le h => h) MonoG.nil)))))))))))))) ?_ ?_
  ·refine gD (fun W Fs R lF z9 => ?_) ?_
   ·replace har := har.mono lF
    replace ht := ht.mono lF
    replace hu := hu.mono lF
    replace ha1 := ha1.mono lF
    replace ha2 := ha2.mono lF
    replace hr3 := hr3.mono lF
    refine qj (qq [arv] qI qw rfl rfl (Rd.ownN [_] rfl rfl) ?_)
    exact ⟨rfl, rfl⟩
   refine gD (fun W Fs R lF z9 => ?_) ?_
   ·replace har := har.mono lF
    replace ht := ht.mono lF
    replace hu := hu.mono lF
    replace ha1 := ha1.mono lF
    replace ha2 := ha2.mono lF
    replace hr3 := hr3.mono lF
    refine qj (jG <| XOp.makeSlice (n := 24) (bytes := 24) [sN] jb qv typeInfo22 rfl zeroValue22 rfl rfl rfl rfl (by omega) (by omega) ?_)
    intro v1 hv1
    rw [nils]
    refine ⟨_, _, rfl, fun F5 le5 hz1 => ?_⟩
    replace har := har.mono le5
    replace ht := ht.mono le5
    replace hu := hu.mono le5
    replace ha1 := ha1.mono le5
    replace ha2 := ha2.mono le5
    replace hr3 := hr3.mono le5
    have hf1 : RowsF F5 v1 (List.replicate 24 [] : List (List Int)) := CO.fz (RowsC.nils 24) (by simp) hz1.fz
    exact ⟨⟨rfl, hf1⟩, rfl⟩
   refine gD (fun W Fs R lF z9 => ?_) ?_
   ·refine qj (qt (a2) rfl ?_)
    exact ⟨rfl, rfl⟩
   refine gD (fun W Fs R lF z9 => ?_) ?_
   ·replace har := har.mono lF
    replace ht := ht.mono lF
    replace hu := hu.mono lF
    replace ha1 := ha1.mono lF
    replace ha2 := ha2.mono lF
    replace hr3 := hr3.mono lF
    refine qj (qq [arv] qI qw rfl rfl (Rd.ownN [_] rfl rfl) ?_)
    exact ⟨rfl, rfl⟩
   refine gD (fun W Fs R lF z9 => ?_) ?_
   ·refine qj (qt (tv) rfl ?_)
    exact ⟨rfl, rfl⟩
   refine gD (fun W Fs R lF z9 => ?_) ?_
   ·refine qj (ql (1) qY rfl qy (by decide) rfl rfl ?_)
    exact ⟨rfl, rfl⟩
   refine gD (fun W Fs R lF z9 => ?_) ?_
   ·replace har := har.mono lF
    replace ht := ht.mono lF
    replace hu := hu.mono lF
    replace ha1 := ha1.mono lF
    replace ha2 := ha2.mono lF
    replace hr3 := hr3.mono lF
    rw [eS (l := [(5, _)]) ⟨z9 5 rfl, ⟨⟩⟩]
    refine qj (qk je rfl (Rd.own [] rfl rfl) ?_)
    exact ⟨rfl, rfl⟩
   refine gD (fun W Fs R lF z9 => ?_) ?_
   ·replace har := har.mono lF
    replace ht := ht.mono lF
    replace hu := hu.mono lF
    replace ha1 := ha1.mono lF
    replace ha2 := ha2.mono lF
    replace hr3 := hr3.mono lF
    rw [eS (l := [(3, _), (4, _), (6, _)]) ⟨z9 3 rfl, z9 4 rfl, z9 6 rfl, ⟨⟩⟩]
    refine qj (qm (args := [.agg #[arv], tv, ii (((j).toNat : Nat) : Int)]) call149 (by rw [show (((j).toNat : Nat) : Int) = j from by omega]; rfl) (sSubAtO_spec (p := (j).toNat) har ht (ho := (by first | assumption | rfl | omega | simp)) (hp := (by first | assumption | rfl | omega | simp))) ?_)
    rintro _ F6 _ le6 ⟨x5, rfl, hr7, rfl⟩
    replace har := har.mono le6
    replace ht := ht.mono le6
    replace hu := hu.mono le6
    replace ha1 := ha1.mono le6
    replace ha2 := ha2.mono le6
    replace hr3 := hr3.mono le6
    exact ⟨⟨rfl, hr7⟩, rfl⟩
   refine gD (fun W Fs R lF z9 => ?_) ?_
   ·obtain ⟨e1, f1_1mk⟩ := z9 1 rfl
    obtain ⟨e7, f7_1hr⟩ := z9 7 rfl
    replace har := har.mono lF
    replace ht := ht.mono lF
    replace hu := hu.mono lF
    replace ha1 := ha1.mono lF
    replace ha2 := ha2.mono lF
    replace hr3 := hr3.mono lF
    rw [eS (l := [(0, _), (1, (W 1)), (2, _), (7, ((W 7)))]) ⟨z9 0 rfl, (e1).symm, z9 2 rfl, (e7).symm, ⟨⟩⟩]
    refine qj (qm (args := [.agg #[arv], (W 1), a2, ((W 7))]) call236 rfl (l20Match_spec ((((es.getD ((i).toNat) ([], [])).2)).length) har f1_1mk ha2 f7_1hr (hn := (by first | assumption | rfl | omega | simp)) (hop := (by first | assumption | rfl | omega | simp)) (hot := (by first | assumption | rfl | omega | simp)) (hgl := (by first | assumption | rfl | omega | simp))) ?_)
    rintro _ F7 _ le7 ⟨⟨x6, rfl, hr8⟩, rfl⟩
    replace har := har.mono le7
    replace ht := ht.mono le7
    replace hu := hu.mono le7
    replace ha1 := ha1.mono le7
    replace ha2 := ha2.mono le7
    replace hr3 := hr3.mono le7
    replace f1_1mk := f1_1mk.mono le7
    replace f7_1hr := f7_1hr.mono le7
    exact ⟨⟨rfl, hr8⟩, rfl⟩
   refine gD (fun W Fs R lF z9 => ?_) ?_
   ·obtain ⟨e8, f8_1hp_a⟩ := z9 8 rfl
    obtain ⟨t8X1_a, f8_1hp_a, q8_1_a0, q8_1_a1⟩ := f8_1hp_a
    rw [eS (l := [(8, (.tuple #[((tupAt (W 8) 0)), .bool ((mGo ar (sub ar t ((j).toNat)) ((es.getD ((i).toNat) ([], [])).2) 0 ((List.replicate 24 [] : List (List Int)))).isSome)]))]) ⟨(e8).symm, ⟨⟩⟩]
    refine qj (qt (.tuple #[((tupAt (W 8) 0)), .bool ((mGo ar (sub ar t ((j).toNat)) ((es.getD ((i).toNat) ([], [])).2) 0 ((List.replicate 24 [] : List (List Int)))).isSome)]) rfl ?_)
    exact ⟨rfl, rfl⟩
   refine gD (fun W Fs R lF z9 => ?_) ?_
   ·obtain ⟨e8, f8_1hp_a⟩ := z9 8 rfl
    obtain ⟨t8X1_a, f8_1hp_a, q8_1_a0, q8_1_a1⟩ := f8_1hp_a
    have e9 : W 9 = (.tuple #[((tupAt (W 8) 0)), .bool ((mGo ar (sub ar t ((j).toNat)) ((es.getD ((i).toNat) ([], [])).2) 0 ((List.replicate 24 [] : List (List Int)))).isSome)] : Value) := z9 9 rfl
    rw [eS (l := [(8, (.tuple #[((tupAt (W 8) 0)), .bool ((mGo ar (sub ar t ((j).toNat)) ((es.getD ((i).toNat) ([], [])).2) 0 ((List.replicate 24 [] : List (List Int)))).isSome)])), (9, (.tuple #[((tupAt (W 8) 0)), .bool ((mGo ar (sub ar t ((j).toNat)) ((es.getD ((i).toNat) ([], [])).2) 0 ((List.replicate 24 [] : List (List Int)))).isSome)]))]) ⟨(e8).symm, e9, ⟨⟩⟩]
    refine qj (qM (((tupAt (W 8) 0))) rfl rfl ?_)
    exact ⟨rfl, rfl⟩
   refine gD (fun W Fs R lF z9 => ?_) ?_
   ·obtain ⟨e8, f8_1hp_a⟩ := z9 8 rfl
    obtain ⟨t8X1_a, f8_1hp_a, q8_1_a0, q8_1_a1⟩ := f8_1hp_a
    have e9 : W 9 = (.tuple #[((tupAt (W 8) 0)), .bool ((mGo ar (sub ar t ((j).toNat)) ((es.getD ((i).toNat) ([], [])).2) 0 ((List.replicate 24 [] : List (List Int)))).isSome)] : Value) := z9 9 rfl
    rw [eS (l := [(8, (.tuple #[((tupAt (W 8) 0)), .bool ((mGo ar (sub ar t ((j).toNat)) ((es.getD ((i).toNat) ([], [])).2) 0 ((List.replicate 24 [] : List (List Int)))).isSome)])), (9, (.tuple #[((tupAt (W 8) 0)), .bool ((mGo ar (sub ar t ((j).toNat)) ((es.getD ((i).toNat) ([], [])).2) 0 ((List.replicate 24 [] : List (List Int)))).isSome)]))]) ⟨(e8).symm, e9, ⟨⟩⟩]
    refine qj (qM (.bool ((mGo ar (sub ar t ((j).toNat)) ((es.getD ((i).toNat) ([], [])).2) 0 ((List.replicate 24 [] : List (List Int)))).isSome)) rfl rfl ?_)
    exact ⟨rfl, rfl⟩
   refine gD (fun W Fs R lF z9 => ?_) ?_
   ·obtain ⟨e8, f8_1hp_a⟩ := z9 8 rfl
    obtain ⟨t8X1_a, f8_1hp_a, q8_1_a0, q8_1_a1⟩ := f8_1hp_a
    have e10 : W 10 = ((tupAt (W 8) 0)) := z9 10 rfl
    rw [eS (l := [(8, (.tuple #[((tupAt (W 8) 0)), .bool ((mGo ar (sub ar t ((j).toNat)) ((es.getD ((i).toNat) ([], [])).2) 0 ((List.replicate 24 [] : List (List Int)))).isSome)])), (10, ((tupAt (W 8) 0)))]) ⟨(e8).symm, e10, ⟨⟩⟩]
    refine qj (XOp.assign (((tupAt (W 8) 0))) rfl ?_)
    exact ⟨rfl, rfl⟩
   exact stepsG.nil
  intro W F8 le8 hphi
  obtain ⟨e1, f1_1mk⟩ := hphi 1 (by decide)
  obtain ⟨e7, f7_1hr⟩ := hphi 7 (by decide)
  obtain ⟨e8, f8_1hp_a⟩ := hphi 8 (by decide)
  obtain ⟨t8X1_a, f8_1hp_a, q8_1_a0, q8_1_a1⟩ := f8_1hp_a
  have e9 : W 9 = (.tuple #[((tupAt (W 8) 0)), .bool ((mGo ar (sub ar t ((j).toNat)) ((es.getD ((i).toNat) ([], [])).2) 0 ((List.replicate 24 [] : List (List Int)))).isSome)] : Value) := hphi 9 (by decide)
  have e10 : W 10 = ((tupAt (W 8) 0)) := hphi 10 (by decide)
  have e12 : W 12 = ((tupAt (W 8) 0)) := hphi 12 (by decide)
  generalize hu1 : (W 1) = u1 at e1 f1_1mk e7 f7_1hr e8 f8_1hp_a e9 e10 e12
  generalize hu2 : ((W 7)) = u2 at e1 f1_1mk e7 f7_1hr e8 f8_1hp_a e9 e10 e12
  generalize hu3 : ((tupAt (W 8) 0)) = u3 at e1 f1_1mk e7 f7_1hr e8 f8_1hp_a e9 e10 e12
  rw [eS (l := [(8, (.tuple #[u3, .bool ((mGo ar (sub ar t ((j).toNat)) ((es.getD ((i).toNat) ([], [])).2) 0 ((List.replicate 24 [] : List (List Int)))).isSome)])), (11, _), (12, u3)]) ⟨(e8).symm, (hphi 11 (by decide)), e12, ⟨⟩⟩]
  replace har := har.mono le8
  replace ht := ht.mono le8
  replace hu := hu.mono le8
  replace ha1 := ha1.mono le8
  replace ha2 := ha2.mono le8
  replace hr3 := hr3.mono le8
  show XL _ _ _ _ _ _ _ (cellsH b2 [ii (i), ii (j), .bool (k), uv] 105 :: cellsH b1 [arv] 36 :: L)
  refine qi (.bool ((mGo ar (sub ar t ((j).toNat)) ((es.getD ((i).toNat) ([], [])).2) 0 ((List.replicate 24 [] : List (List Int)))).isSome)) rfl (qd (qf (qf (qc (qh (.bool ((mGo ar (sub ar t ((j).toNat)) ((es.getD ((i).toNat) ([], [])).2) 0 ((List.replicate 24 [] : List (List Int)))).isSome)) rfl (cX (jf rfl (qd ?_))))))))
  refine jw (t := !((mGo ar (sub ar t ((j).toNat)) ((es.getD ((i).toNat) ([], [])).2) 0 ((List.replicate 24 [] : List (List Int)))).isSome)) rfl (fun h8 => ?_) (fun h8 => ?_)
  ·have hm0 := Bool.not_inj (y := false) h8
   refine qf (qc (qi (.bool (false)) rfl (qd (qu (qo (qs (L' := L) [.bool (false)] (.bool (false)) (.tmp rfl .nil) rfl rF (qn (qn le1 le2) le8) (sD (sD sR)) ?_))))))
   exact ⟨(vB (by first | exact moveB_no2' hq0 | exact (moveB_eq' hgd hput (sideA_t hkt) (sideB_t hkt)).trans (pairM_none hm0) | exact moveB_no1' (fun hq => by obtain ⟨q1, q2, q3, q4, q5⟩ := hq; have q6 := posOk_iff.1 q5; first | omega | (simp_all; done) | (simp_all; omega)))), rfl, rfl⟩
  have hm0 := opt_is (Bool.not_inj (y := true) h8) (by assumption)
  refine qA (qf (qc (cX (qq [arv] qI qw rfl rfl (Rd.ownN [_] rfl rfl) (qh (u3) rfl (qh (a1) rfl (qh (x1) rfl (cX (qm (args := [.agg #[arv], u3, a1, x1]) call236 rfl (l20Match_spec ((((es.getD ((i).toNat) ([], [])).1)).length) har f8_1hp_a ha1 hr3 (hn := (by first | assumption | rfl | omega | simp)) (hop := (by first | assumption | rfl | omega | simp)) (hot := (by first | assumption | rfl | omega | simp)) (hgl := (by first | assumption | rfl | omega | simp))) ?_)))))))))
  rintro _ F9 _ le9 ⟨⟨x7, rfl, hr9⟩, rfl⟩
  obtain ⟨t1, hr9, q1, q2⟩ := hr9
  replace har := har.mono le9
  replace ht := ht.mono le9
  replace hu := hu.mono le9
  replace ha1 := ha1.mono le9
  replace ha2 := ha2.mono le9
  show XL _ _ _ _ _ _ _ (cellsH b2 [ii (i), ii (j), .bool (k), uv] 105 :: cellsH b1 [arv] 36 :: L)
  refine qh (.tuple #[x7, .bool ((mGo ar (sub ar u ((j).toNat)) ((es.getD ((i).toNat) ([], [])).1) 0 t8X1_a).isSome)]) rfl (cX (qM (x7) rfl rfl (cX (qM (.bool ((mGo ar (sub ar u ((j).toNat)) ((es.getD ((i).toNat) ([], [])).1) 0 t8X1_a).isSome)) rfl rfl (qi (x7) rfl (qi (.bool ((mGo ar (sub ar u ((j).toNat)) ((es.getD ((i).toNat) ([], [])).1) 0 t8X1_a).isSome)) rfl (qd (qf (qc (qh (.bool ((mGo ar (sub ar u ((j).toNat)) ((es.getD ((i).toNat) ([], [])).1) 0 t8X1_a).isSome)) rfl (qi (.bool ((mGo ar (sub ar u ((j).toNat)) ((es.getD ((i).toNat) ([], [])).1) 0 t8X1_a).isSome)) rfl (qd (qu (qs (L' := L) [.bool ((mGo ar (sub ar u ((j).toNat)) ((es.getD ((i).toNat) ([], [])).1) 0 t8X1_a).isSome)] (.bool ((mGo ar (sub ar u ((j).toNat)) ((es.getD ((i).toNat) ([], [])).1) 0 t8X1_a).isSome)) (.tmp rfl .nil) rfl rF (qn (qn (qn le1 le2) le8) le9) (sD (sD sR)) ?_))))))))))))))
  exact ⟨(vB ((moveB_eq' hgd hput (sideA_t hkt) (sideB_t hkt)).trans (pairM_some hm0))), rfl, rfl⟩
 have hkf : k = false := by simpa using h5
 refine qA (qf (qc (cX (qq [arv] qI qw rfl rfl (Rd.ownN [_] rfl rfl) (cX (ql (3) qY rfl qv (by decide) rfl rfl (cX (qk qS rfl (Rd.own [] rfl rfl) (cX (ql (1) qY rfl qy (by decide) rfl rfl (cX (qk je rfl (Rd.own [] rfl rfl) (cX (qm (args := [.agg #[arv], uv, ii (((j).toNat : Nat) : Int)]) call149 (by rw [show (((j).toNat : Nat) : Int) = j from by omega]; rfl) (sSubAtO_spec (p := (j).toNat) har hu (ho := (by first | assumption | rfl | omega | simp)) (hp := (by first | assumption | rfl | omega | simp))) ?_))))))))))))))
 rintro _ F10 _ le10 ⟨x8, rfl, hr10, rfl⟩
 replace har := har.mono le10
 replace ht := ht.mono le10
 replace hu := hu.mono le10
 replace ha1 := ha1.mono le10
 replace ha2 := ha2.mono le10
 refine qi (x8) rfl (qd (qf (qc (cX (qq [arv] qI qw rfl rfl (Rd.ownN [_] rfl rfl) (qh (tv) rfl (cX (ql (1) qY rfl qy (by decide) rfl rfl (cX (qk je rfl (Rd.own [] rfl rfl) (qh (x8) rfl (cX (qm (args := [.agg #[arv], tv, ii (((j).toNat : Nat) : Int), x8]) call235 (by rw [show (((j).toNat : Nat) : Int) = j from by omega]; rfl) (sPutAt_spec (p := (j).toNat) har ht hr10 (ho := (by first | assumption | rfl | omega | simp)) (hp := (by first | assumption | rfl | omega | simp)) (hou := (by first | assumption | rfl | omega | simp))) ?_)))))))))))))
 rintro _ F11 _ le11 ⟨x9, rfl, hr11, rfl⟩
 replace har := har.mono le11
 replace ht := ht.mono le11
 replace hu := hu.mono le11
 replace ha1 := ha1.mono le11
 replace ha2 := ha2.mono le11
 replace hr10 := hr10.mono le11
 refine qh (.tuple #[x9, .bool ((putL ar t ((j).toNat) (sub ar u ((j).toNat))).isSome)]) rfl (cX (qM (x9) rfl rfl (cX (qM (.bool ((putL ar t ((j).toNat) (sub ar u ((j).toNat))).isSome)) rfl rfl (qi (x9) rfl (qi (.bool ((putL ar t ((j).toNat) (sub ar u ((j).toNat))).isSome)) rfl (qd (qf (qf (qc (qh (.bool ((putL ar t ((j).toNat) (sub ar u ((j).toNat))).isSome)) rfl (cX (jf rfl (qh (.bool (!((putL ar t ((j).toNat) (sub ar u ((j).toNat))).isSome))) rfl ?_))))))))))))))
 by_cases h9 : (!((putL ar t ((j).toNat) (sub ar u ((j).toNat))).isSome)) = true
 ·have hq0 : putL ar t j.toNat (sub ar u j.toNat) ≠ some u := fun e => by have h9 := Bool.not_inj (y := false) h9; rw [e] at h9; cases h9
  refine qp (t := 92) rfl (vB h9) (qp (t := 92) rfl (vB h9) (qp (t := 92) rfl (vB h9) (qp (t := 92) rfl (vB h9) (qp (t := 92) rfl (vB h9) (cX (qP (.bool (true)) (vB h9) rfl (qd (jC rfl (qf (qc (qi (.bool (false)) rfl ?_)))))))))))
  refine qd (qu (qo (qs (L' := L) [.bool (false)] (.bool (false)) (.tmp rfl .nil) rfl rF (qn le10 le11) (sD (sD sR)) ?_)))
  exact ⟨(vB (by first | exact moveB_no2' hq0 | exact (moveB_eq' hgd hput (sideA_f hkf) (sideB_f hkf)).trans (pairM_none hm0) | exact moveB_no1' (fun hq => by obtain ⟨q1, q2, q3, q4, q5⟩ := hq; have q6 := posOk_iff.1 q5; first | omega | (simp_all; done) | (simp_all; omega)))), rfl, rfl⟩
 rw [Bool.not_eq_true] at h9
 have hp1 : (putL ar t j.toNat (sub ar u j.toNat)).isSome = true := Bool.not_inj (y := true) h9
 have hp2 := put_le60 (ar := ar) (t := t) (u := sub ar u j.toNat) (p := j.toNat)
 refine qr (t := 92) rfl (vB h9) (qt (x9) rfl (qr (t := 92) rfl (vB h9) (ql (3) qY rfl qv (by decide) rfl rfl (qr (t := 92) rfl (vB h9) (qk qS rfl (Rd.own [] rfl rfl) (qr (t := 92) rfl (vB h9) (qm (args := [x9, uv]) call32 rfl (SameTerm_spec hr11 hu (hbd := (by first | assumption | rfl | omega | (left; simp; done) | (right; simp; done)))) ?_)))))))
 rintro _ _ _ _ ⟨rfl, rfl, rfl⟩
 refine qr (t := 92) rfl (vB h9) (jQ rfl (cX (qN (.bool (decide (¬(((putL ar t ((j).toNat) (sub ar u ((j).toNat))).getD []) = u)))) (vB h9) rfl (qd ?_))))
 refine qC (p := ¬(((putL ar t ((j).toNat) (sub ar u ((j).toNat))).getD []) = u)) rfl (fun h10 => ?_) (fun h10 => ?_)
 ·have hq0 : putL ar t j.toNat (sub ar u j.toNat) ≠ some u := fun e => h10 (by rw [e]; rfl)
  refine qf (qc (qi (.bool (false)) rfl (qd (qu (qo (qs (L' := L) [.bool (false)] (.bool (false)) (.tmp rfl .nil) rfl rF (qn le10 le11) (sD (sD sR)) ?_))))))
  exact ⟨(vB (by first | exact moveB_no2' hq0 | exact (moveB_eq' hgd hput (sideA_f hkf) (sideB_f hkf)).trans (pairM_none hm0) | exact moveB_no1' (fun hq => by obtain ⟨q1, q2, q3, q4, q5⟩ := hq; have q6 := posOk_iff.1 q5; first | omega | (simp_all; done) | (simp_all; omega)))), rfl, rfl⟩
 have hput := put_is hp1 (Classical.not_not.1 h10)
 refine qA (qf ?_)
 refine jM [cellsH b2 [ii (i), ii (j), .bool (k), uv] 105, cellsH b1 [arv] 36] L 13 [[], [], [], [], [], [], [], [], [], [8], [8], [], [8]] [[], [], [], [], [], [], [5], [3, 4, 6], [0, 1, 2, 7], [8], [8, 9], [8, 9], [8, 10]] [] (phiG [pe (.agg #[arv]), fun FF us v => (v : Value) = v ∧ (RowsF FF v (List.replicate 24 [] : List (List Int))), pe a1, pe (.agg #[arv]), pe tv, pe (ptr b2 1), pe (ii (j)), fun FF us v => ((v) : Value) = v ∧ (IntsF FF (v) (sub ar t ((j).toNat))), fun FF us v => (.tuple #[((tupAt v 0)), .bool ((mGo ar (sub ar t ((j).toNat)) ((es.getD ((i).toNat) ([], [])).1) 0 ((List.replicate 24 [] : List (List Int)))).isSome)] : Value) = v ∧ (SomeRowsF FF ((tupAt v 0)) (fun g2 => g2.length = 24 ∧ ∀ x, mGo ar (sub ar t ((j).toNat)) ((es.getD ((i).toNat) ([], [])).1) 0 ((List.replicate 24 [] : List (List Int))) = some x → g2 = x)), fun FF us v => v = (.tuple #[((tupAt (us.getD 0 undef) 0)), .bool ((mGo ar (sub ar t ((j).toNat)) ((es.getD ((i).toNat) ([], [])).1) 0 ((List.replicate 24 [] : List (List Int)))).isSome)] : Value), fun FF us v => v = ((tupAt (us.getD 0 undef) 0)), pe (.bool ((mGo ar (sub ar t ((j).toNat)) ((es.getD ((i).toNat) ([], [])).1) 0 ((List.replicate 24 [] : List (List Int)))).isSome) : Value), fun FF us v => v = ((tupAt (us.getD 0 undef) 0))]) (ownL []) mixed rfl rfl (by kernel_rfl) (by kernel_rfl) (MonoG.get (m1 (mC (fun le h => ⟨h.1, h.2.mono le⟩) (m1 (m1 (m1 (m1 (m1 (mC (fun le h => ⟨h.1, h.2.mono le⟩) (mC (fun le h => ⟨h.1, h.2.mono le⟩) (mC (fun le h => h) (mC (fun le h => h) (m1 (mC (fun le h => h) MonoG.nil)))))))))))))) ?_ ?_
 ·refine gD (fun W Fs R lF z9 => ?_) ?_
  ·replace har := har.mono lF
   replace ht := ht.mono lF
   replace ha1 := ha1.mono lF
   replace ha2 := ha2.mono lF
   replace hr10 := hr10.mono lF
   refine qj (qq [arv] qI qw rfl rfl (Rd.ownN [_] rfl rfl) ?_)
   exact ⟨rfl, rfl⟩
  refine gD (fun W Fs R lF z9 => ?_) ?_
  ·replace har := har.mono lF
   replace ht := ht.mono lF
   replace ha1 := ha1.mono lF
   replace ha2 := ha2.mono lF
   replace hr10 := hr10.mono lF
   refine qj (jG <| XOp.makeSlice (n := 24) (bytes := 24) [sN] jb qv typeInfo22 rfl zeroValue22 rfl rfl rfl rfl (by omega) (by omega) ?_)
   intro v2 hv2
   rw [nils]
   refine ⟨_, _, rfl, fun F14 le14 hz2 => ?_⟩
   replace har := har.mono le14
   replace ht := ht.mono le14
   replace ha1 := ha1.mono le14
   replace ha2 := ha2.mono le14
   replace hr10 := hr10.mono le14
   have hf2 : RowsF F14 v2 (List.replicate 24 [] : List (List Int)) := CO.fz (RowsC.nils 24) (by simp) hz2.fz
   exact ⟨⟨rfl, hf2⟩, rfl⟩
  refine gD (fun W Fs R lF z9 => ?_) ?_
  ·refine qj (qt (a1) rfl ?_)
   exact ⟨rfl, rfl⟩
  refine gD (fun W Fs R lF z9 => ?_) ?_
  ·replace har := har.mono lF
   replace ht := ht.mono lF
   replace ha1 := ha1.mono lF
   replace ha2 := ha2.mono lF
   replace hr10 := hr10.mono lF
   refine qj (qq [arv] qI qw rfl rfl (Rd.ownN [_] rfl rfl) ?_)
   exact ⟨rfl, rfl⟩
  refine gD (fun W Fs R lF z9 => ?_) ?_
  ·refine qj (qt (tv) rfl ?_)
   exact ⟨rfl, rfl⟩
  refine gD (fun W Fs R lF z9 => ?_) ?_
  ·refine qj (ql (1) qY rfl qy (by decide) rfl rfl ?_)
   exact ⟨rfl, rfl⟩
  refine gD (fun W Fs R lF z9 => ?_) ?_
  ·replace har := har.mono lF
   replace ht := ht.mono lF
   replace ha1 := ha1.mono lF
   replace ha2 := ha2.mono lF
   replace hr10 := hr10.mono lF
   rw [eS (l := [(5, _)]) ⟨z9 5 rfl, ⟨⟩⟩]
   refine qj (qk je rfl (Rd.own [] rfl rfl) ?_)
   exact ⟨rfl, rfl⟩
  refine gD (fun W Fs R lF z9 => ?_) ?_
  ·replace har := har.mono lF
   replace ht := ht.mono lF
   replace ha1 := ha1.mono lF
   replace ha2 := ha2.mono lF
   replace hr10 := hr10.mono lF
   rw [eS (l := [(3, _), (4, _), (6, _)]) ⟨z9 3 rfl, z9 4 rfl, z9 6 rfl, ⟨⟩⟩]
   refine qj (qm (args := [.agg #[arv], tv, ii (((j).toNat : Nat) : Int)]) call149 (by rw [show (((j).toNat : Nat) : Int) = j from by omega]; rfl) (sSubAtO_spec (p := (j).toNat) har ht (ho := (by first | assumption | rfl | omega | simp)) (hp := (by first | assumption | rfl | omega | simp))) ?_)
   rintro _ F15 _ le15 ⟨x12, rfl, hr14, rfl⟩
   replace har := har.mono le15
   replace ha1 := ha1.mono le15
   replace ha2 := ha2.mono le15
   replace hr10 := hr10.mono le15
   exact ⟨⟨rfl, hr14⟩, rfl⟩
  refine gD (fun W Fs R lF z9 => ?_) ?_
  ·obtain ⟨e1, f1_2mk⟩ := z9 1 rfl
   obtain ⟨e7, f7_2hr⟩ := z9 7 rfl
   replace har := har.mono lF
   replace ha1 := ha1.mono lF
   replace ha2 := ha2.mono lF
   replace hr10 := hr10.mono lF
   rw [eS (l := [(0, _), (1, (W 1)), (2, _), (7, ((W 7)))]) ⟨z9 0 rfl, (e1).symm, z9 2 rfl, (e7).symm, ⟨⟩⟩]
   refine qj (qm (args := [.agg #[arv], (W 1), a1, ((W 7))]) call236 rfl (l20Match_spec ((((es.getD ((i).toNat) ([], [])).1)).length) har f1_2mk ha1 f7_2hr (hn := (by first | assumption | rfl | omega | simp)) (hop := (by first | assumption | rfl | omega | simp)) (hot := (by first | assumption | rfl | omega | simp)) (hgl := (by first | assumption | rfl | omega | simp))) ?_)
   rintro _ F16 _ le16 ⟨⟨x13, rfl, hr15⟩, rfl⟩
   replace har := har.mono le16
   replace ha2 := ha2.mono le16
   replace hr10 := hr10.mono le16
   replace f1_2mk := f1_2mk.mono le16
   replace f7_2hr := f7_2hr.mono le16
   exact ⟨⟨rfl, hr15⟩, rfl⟩
  refine gD (fun W Fs R lF z9 => ?_) ?_
  ·obtain ⟨e8, f8_2hp_a⟩ := z9 8 rfl
   obtain ⟨t8X2_a, f8_2hp_a, q8_2_a0, q8_2_a1⟩ := f8_2hp_a
   rw [eS (l := [(8, (.tuple #[((tupAt (W 8) 0)), .bool ((mGo ar (sub ar t ((j).toNat)) ((es.getD ((i).toNat) ([], [])).1) 0 ((List.replicate 24 [] : List (List Int)))).isSome)]))]) ⟨(e8).symm, ⟨⟩⟩]
   refine qj (qt (.tuple #[((tupAt (W 8) 0)), .bool ((mGo ar (sub ar t ((j).toNat)) ((es.getD ((i).toNat) ([], [])).1) 0 ((List.replicate 24 [] : List (List Int)))).isSome)]) rfl ?_)
   exact ⟨rfl, rfl⟩
  refine gD (fun W Fs R lF z9 => ?_) ?_
  ·obtain ⟨e8, f8_2hp_a⟩ := z9 8 rfl
   obtain ⟨t8X2_a, f8_2hp_a, q8_2_a0, q8_2_a1⟩ := f8_2hp_a
   have e9 : W 9 = (.tuple #[((tupAt (W 8) 0)), .bool ((mGo ar (sub ar t ((j).toNat)) ((es.getD ((i).toNat) ([], [])).1) 0 ((List.replicate 24 [] : List (List Int)))).isSome)] : Value) := z9 9 rfl
   rw [eS (l := [(8, (.tuple #[((tupAt (W 8) 0)), .bool ((mGo ar (sub ar t ((j).toNat)) ((es.getD ((i).toNat) ([], [])).1) 0 ((List.replicate 24 [] : List (List Int)))).isSome)])), (9, (.tuple #[((tupAt (W 8) 0)), .bool ((mGo ar (sub ar t ((j).toNat)) ((es.getD ((i).toNat) ([], [])).1) 0 ((List.replicate 24 [] : List (List Int)))).isSome)]))]) ⟨(e8).symm, e9, ⟨⟩⟩]
   refine qj (qM (((tupAt (W 8) 0))) rfl rfl ?_)
   exact ⟨rfl, rfl⟩
  refine gD (fun W Fs R lF z9 => ?_) ?_
  ·obtain ⟨e8, f8_2hp_a⟩ := z9 8 rfl
   obtain ⟨t8X2_a, f8_2hp_a, q8_2_a0, q8_2_a1⟩ := f8_2hp_a
   have e9 : W 9 = (.tuple #[((tupAt (W 8) 0)), .bool ((mGo ar (sub ar t ((j).toNat)) ((es.getD ((i).toNat) ([], [])).1) 0 ((List.replicate 24 [] : List (List Int)))).isSome)] : Value) := z9 9 rfl
   rw [eS (l := [(8, (.tuple #[((tupAt (W 8) 0)), .bool ((mGo ar (sub ar t ((j).toNat)) ((es.getD ((i).toNat) ([], [])).1) 0 ((List.replicate 24 [] : List (List Int)))).isSome)])), (9, (.tuple #[((tupAt (W 8) 0)), .bool ((mGo ar (sub ar t ((j).toNat)) ((es.getD ((i).toNat) ([], [])).1) 0 ((List.replicate 24 [] : List (List Int)))).isSome)]))]) ⟨(e8).symm, e9, ⟨⟩⟩]
   refine qj (qM (.bool ((mGo ar (sub ar t ((j).toNat)) ((es.getD ((i).toNat) ([], [])).1) 0 ((List.replicate 24 [] : List (List Int)))).isSome)) rfl rfl ?_)
   exact ⟨rfl, rfl⟩
  refine gD (fun W Fs R lF z9 => ?_) ?_
  ·obtain ⟨e8, f8_2hp_a⟩ := z9 8 rfl
   obtain ⟨t8X2_a, f8_2hp_a, q8_2_a0, q8_2_a1⟩ := f8_2hp_a
   have e10 : W 10 = ((tupAt (W 8) 0)) := z9 10 rfl
   rw [eS (l := [(8, (.tuple #[((tupAt (W 8) 0)), .bool ((mGo ar (sub ar t ((j).toNat)) ((es.getD ((i).toNat) ([], [])).1) 0 ((List.replicate 24 [] : List (List Int)))).isSome)])), (10, ((tupAt (W 8) 0)))]) ⟨(e8).symm, e10, ⟨⟩⟩]
   refine qj (XOp.assign (((tupAt (W 8) 0))) rfl ?_)
   exact ⟨rfl, rfl⟩
  exact stepsG.nil
 intro W F17 le17 hphi
 obtain ⟨e1, f1_2mk⟩ := hphi 1 (by decide)
 obtain ⟨e7, f7_2hr⟩ := hphi 7 (by decide)
 obtain ⟨e8, f8_2hp_a⟩ := hphi 8 (by decide)
 obtain ⟨t8X2_a, f8_2hp_a, q8_2_a0, q8_2_a1⟩ := f8_2hp_a
 have e9 : W 9 = (.tuple #[((tupAt (W 8) 0)), .bool ((mGo ar (sub ar t ((j).toNat)) ((es.getD ((i).toNat) ([], [])).1) 0 ((List.replicate 24 [] : List (List Int)))).isSome)] : Value) := hphi 9 (by decide)
 have e10 : W 10 = ((tupAt (W 8) 0)) := hphi 10 (by decide)
 have e12 : W 12 = ((tupAt (W 8) 0)) := hphi 12 (by decide)
 generalize hu4 : (W 1) = u4 at e1 f1_2mk e7 f7_2hr e8 f8_2hp_a e9 e10 e12
 generalize hu5 : ((W 7)) = u5 at e1 f1_2mk e7 f7_2hr e8 f8_2hp_a e9 e10 e12
 generalize hu6 : ((tupAt (W 8) 0)) = u6 at e1 f1_2mk e7 f7_2hr e8 f8_2hp_a e9 e10 e12
 rw [eS (l := [(8, (.tuple #[u6, .bool ((mGo ar (sub ar t ((j).toNat)) ((es.getD ((i).toNat) ([], [])).1) 0 ((List.replicate 24 [] : List (List Int)))).isSome)])), (11, _), (12, u6)]) ⟨(e8).symm, (hphi 11 (by decide)), e12, ⟨⟩⟩]
 replace har := har.mono le17
 replace ha2 := ha2.mono le17
 replace hr10 := hr10.mono le17
 show XL _ _ _ _ _ _ _ (cellsH b2 [ii (i), ii (j), .bool (k), uv] 105 :: cellsH b1 [arv] 36 :: L)
 refine qi (.bool ((mGo ar (sub ar t ((j).toNat)) ((es.getD ((i).toNat) ([], [])).1) 0 ((List.replicate 24 [] : List (List Int)))).isSome)) rfl (qd (qf (qf (qc (qh (.bool ((mGo ar (sub ar t ((j).toNat)) ((es.getD ((i).toNat) ([], [])).1) 0 ((List.replicate 24 [] : List (List Int)))).isSome)) rfl (cX (jf rfl (qd ?_))))))))
 refine jw (t := !((mGo ar (sub ar t ((j).toNat)) ((es.getD ((i).toNat) ([], [])).1) 0 ((List.replicate 24 [] : List (List Int)))).isSome)) rfl (fun h11 => ?_) (fun h11 => ?_)
 ·have hm0 := Bool.not_inj (y := false) h11
  refine qf (qc (qi (.bool (false)) rfl (qd (qu (qo (qs (L' := L) [.bool (false)] (.bool (false)) (.tmp rfl .nil) rfl rF (qn (qn le10 le11) le17) (sD (sD sR)) ?_))))))
  exact ⟨(vB (by first | exact moveB_no2' hq0 | exact (moveB_eq' hgd hput (sideA_f hkf) (sideB_f hkf)).trans (pairM_none hm0) | exact moveB_no1' (fun hq => by obtain ⟨q1, q2, q3, q4, q5⟩ := hq; have q6 := posOk_iff.1 q5; first | omega | (simp_all; done) | (simp_all; omega)))), rfl, rfl⟩
 have hm0 := opt_is (Bool.not_inj (y := true) h11) (by assumption)
 refine qA (qf (qc (cX (qq [arv] qI qw rfl rfl (Rd.ownN [_] rfl rfl) (qh (u6) rfl (qh (a2) rfl (qh (x8) rfl (cX (qm (args := [.agg #[arv], u6, a2, x8]) call236 rfl (l20Match_spec ((((es.getD ((i).toNat) ([], [])).2)).length) har f8_2hp_a ha2 hr10 (hn := (by first | assumption | rfl | omega | simp)) (hop := (by first | assumption | rfl | omega | simp)) (hot := (by first | assumption | rfl | omega | simp)) (hgl := (by first | assumption | rfl | omega | simp))) ?_)))))))))
 rintro _ F18 _ le18 ⟨⟨x14, rfl, hr16⟩, rfl⟩
 obtain ⟨t2, hr16, q3, q4⟩ := hr16
 show XL _ _ _ _ _ _ _ (cellsH b2 [ii (i), ii (j), .bool (k), uv] 105 :: cellsH b1 [arv] 36 :: L)
 refine qh (.tuple #[x14, .bool ((mGo ar (sub ar u ((j).toNat)) ((es.getD ((i).toNat) ([], [])).2) 0 t8X2_a).isSome)]) rfl (cX (qM (x14) rfl rfl (cX (qM (.bool ((mGo ar (sub ar u ((j).toNat)) ((es.getD ((i).toNat) ([], [])).2) 0 t8X2_a).isSome)) rfl rfl (qi (x14) rfl (qi (.bool ((mGo ar (sub ar u ((j).toNat)) ((es.getD ((i).toNat) ([], [])).2) 0 t8X2_a).isSome)) rfl (qd (qf (qc (qh (.bool ((mGo ar (sub ar u ((j).toNat)) ((es.getD ((i).toNat) ([], [])).2) 0 t8X2_a).isSome)) rfl (qi (.bool ((mGo ar (sub ar u ((j).toNat)) ((es.getD ((i).toNat) ([], [])).2) 0 t8X2_a).isSome)) rfl (qd (qu (qs (L' := L) [.bool ((mGo ar (sub ar u ((j).toNat)) ((es.getD ((i).toNat) ([], [])).2) 0 t8X2_a).isSome)] (.bool ((mGo ar (sub ar u ((j).toNat)) ((es.getD ((i).toNat) ([], [])).2) 0 t8X2_a).isSome)) (.tmp rfl .nil) rfl rF (qn (qn (qn le10 le11) le17) le18) (sD (sD sR)) ?_))))))))))))))
 exact ⟨(vB ((moveB_eq' hgd hput (sideA_f hkf) (sideB_f hkf)).trans (pairM_some hm0))), rfl, rfl⟩

/- impl.moveOk -/
set_option maxHeartbeats 1000000 in
set_option maxRecDepth 20000 in
theorem moveOk_spec {F : FH} {L : List HP} {arv : Value} {ar : List Int} (har : IntsF F arv ar) {esv : Value} {es : List (List Int × List Int)} (hes : PairsF F esv es) {tv : Value} {t : List Int} (ht : IntsF F tv t) {i : Int} {j : Int} {k : Bool} {uv : Value} {u : List Int} (hu : IntsF F uv u) (heo : eqsOkL ar es = true) (ho : termOk ar t = true) :
    Does prog 134 [.agg #[arv], esv, tv, .agg #[ii (i), ii (j), .bool (k), uv]] F (L) (fun v F' L' => (.bool (moveB ar es t (i, j, k, u)) : Value) = v ∧ F = F' ∧ L = L') := by
 refine qH func134 rfl rfl rfl ?_
 have hsl := sigOk_spec (termOk_sig ho)
 have htl := termOk_len ho
 have hel := eqsOk_len heo
 refine qf (qc (cX (qZ [arv] rfl rfl ?_)))
 intro b1
 refine cX (qZ [ii (i), ii (j), .bool (k), uv] rfl rfl ?_)
 intro b2
 refine qi (.bool (false)) rfl (qd (qf (qf (qc (cX (ql (0) qY rfl qy (by decide) rfl rfl (cX (qk je rfl (Rd.own [] rfl rfl) (cX (jh rfl rfl (qh (.bool (decide ((i : Int) < 0))) rfl ?_)))))))))))
 by_cases h1 : (i : Int) < 0
 ·refine qp (t := 19) rfl (vT h1) (qp (t := 19) rfl (vT h1) (qp (t := 19) rfl (vT h1) (qp (t := 19) rfl (vT h1) (qp (t := 19) rfl (vT h1) (cX (qP (.bool (true)) (vT h1) rfl (qh (.bool (true)) rfl (qp (t := 26) rfl rfl (qp (t := 26) rfl rfl (qp (t := 26) rfl rfl ?_))))))))))
  refine cX (qP (.bool (true)) rfl rfl (qh (.bool (true)) rfl (qp (t := 31) rfl rfl (qp (t := 31) rfl rfl (qp (t := 31) rfl rfl (qp (t := 31) rfl rfl (qp (t := 31) rfl rfl (cX (qP (.bool (true)) rfl rfl (qh (.bool (true)) rfl (qp (t := 38) rfl rfl ?_)))))))))))
  refine qp (t := 38) rfl rfl (qp (t := 38) rfl rfl (qp (t := 38) rfl rfl (qp (t := 38) rfl rfl (qp (t := 38) rfl rfl (qp (t := 38) rfl rfl (cX (qP (.bool (true)) rfl rfl (qd (jC rfl (qf (qc ?_)))))))))))
  refine qi (.bool (false)) rfl (qd (qu (qo (qs (L' := L) [.bool (false)] (.bool (false)) (.tmp rfl .nil) rfl rF rF (sD (sD sR)) ?_))))
  exact ⟨(vB (by first | exact moveB_no2' hq0 | exact (moveB_eq' hgd hput (sideA_f hkf) (sideB_f hkf)).trans (pairM_none hm0) | exact moveB_no1' (fun hq => by obtain ⟨q1, q2, q3, q4, q5⟩ := hq; have q6 := posOk_iff.1 q5; first | omega | (simp_all; done) | (simp_all; omega)))), rfl, rfl⟩
 refine qr (t := 19) rfl (vF h1) (ql (0) qY rfl qy (by decide) rfl rfl (qr (t := 19) rfl (vF h1) (qk je rfl (Rd.own [] rfl rfl) (qr (t := 19) rfl (vF h1) (qt (esv) rfl (qr (t := 19) rfl (vF h1) (qE jI rfl hes.slv (qr (t := 19) rfl (vF h1) (jZ rfl rfl (cX (qN (.bool (decide ((i : Int) ≥ (es.length : Int)))) (vF h1) rfl (qh (.bool (decide ((i : Int) ≥ (es.length : Int)))) rfl ?_))))))))))))
 by_cases h2 : (i : Int) ≥ (es.length : Int)
 ·refine qp (t := 26) rfl (vT h2) (qp (t := 26) rfl (vT h2) (qp (t := 26) rfl (vT h2) (cX (qP (.bool (true)) (vT h2) rfl (qh (.bool (true)) rfl (qp (t := 31) rfl rfl (qp (t := 31) rfl rfl (qp (t := 31) rfl rfl (qp (t := 31) rfl rfl (qp (t := 31) rfl rfl ?_))))))))))
  refine cX (qP (.bool (true)) rfl rfl (qh (.bool (true)) rfl (qp (t := 38) rfl rfl (qp (t := 38) rfl rfl (qp (t := 38) rfl rfl (qp (t := 38) rfl rfl (qp (t := 38) rfl rfl (qp (t := 38) rfl rfl (qp (t := 38) rfl rfl (cX (qP (.bool (true)) rfl rfl ?_)))))))))))
  refine qd (jC rfl (qf (qc (qi (.bool (false)) rfl (qd (qu (qo (qs (L' := L) [.bool (false)] (.bool (false)) (.tmp rfl .nil) rfl rF rF (sD (sD sR)) ?_))))))))
  exact ⟨(vB (by first | exact moveB_no2' hq0 | exact (moveB_eq' hgd hput (sideA_f hkf) (sideB_f hkf)).trans (pairM_none hm0) | exact moveB_no1' (fun hq => by obtain ⟨q1, q2, q3, q4, q5⟩ := hq; have q6 := posOk_iff.1 q5; first | omega | (simp_all; done) | (simp_all; omega)))), rfl, rfl⟩
 refine qr (t := 26) rfl (vF h2) (ql (1) qY rfl qy (by decide) rfl rfl (qr (t := 26) rfl (vF h2) (qk je rfl (Rd.own [] rfl rfl) (qr (t := 26) rfl (vF h2) (jh rfl rfl (cX (qN (.bool (decide ((j : Int) < 0))) (vF h2) rfl (qh (.bool (decide ((j : Int) < 0))) rfl ?_))))))))
 by_cases h3 : (j : Int) < 0
 ·refine qp (t := 31) rfl (vT h3) (qp (t := 31) rfl (vT h3) (qp (t := 31) rfl (vT h3) (qp (t := 31) rfl (vT h3) (qp (t := 31) rfl (vT h3) (cX (qP (.bool (true)) (vT h3) rfl (qh (.bool (true)) rfl (qp (t := 38) rfl rfl (qp (t := 38) rfl rfl (qp (t := 38) rfl rfl ?_))))))))))
  refine qp (t := 38) rfl rfl (qp (t := 38) rfl rfl (qp (t := 38) rfl rfl (qp (t := 38) rfl rfl (cX (qP (.bool (true)) rfl rfl (qd (jC rfl (qf (qc (qi (.bool (false)) rfl (qd ?_)))))))))))
  refine qu (qo (qs (L' := L) [.bool (false)] (.bool (false)) (.tmp rfl .nil) rfl rF rF (sD (sD sR)) ?_))
  exact ⟨(vB (by first | exact moveB_no2' hq0 | exact (moveB_eq' hgd hput (sideA_f hkf) (sideB_f hkf)).trans (pairM_none hm0) | exact moveB_no1' (fun hq => by obtain ⟨q1, q2, q3, q4, q5⟩ := hq; have q6 := posOk_iff.1 q5; first | omega | (simp_all; done) | (simp_all; omega)))), rfl, rfl⟩
 refine qr (t := 31) rfl (vF h3) (ql (1) qY rfl qy (by decide) rfl rfl (qr (t := 31) rfl (vF h3) (qk je rfl (Rd.own [] rfl rfl) (qr (t := 31) rfl (vF h3) (qt (tv) rfl (qr (t := 31) rfl (vF h3) (qE qg rfl ht.slv (qr (t := 31) rfl (vF h3) (jZ rfl rfl (cX (qN (.bool (decide ((j : Int) ≥ (t.length : Int)))) (vF h3) rfl (qh (.bool (decide ((j : Int) ≥ (t.length : Int)))) rfl ?_))))))))))))
 by_cases h4 : (j : Int) ≥ (t.length : Int)
 ·refine qp (t := 38) rfl (vT h4) (qp (t := 38) rfl (vT h4) (qp (t := 38) rfl (vT h4) (qp (t := 38) rfl (vT h4) (qp (t := 38) rfl (vT h4) (qp (t := 38) rfl (vT h4) (qp (t := 38) rfl (vT h4) (cX (qP (.bool (true)) (vT h4) rfl (qd (jC rfl ?_))))))))))
  refine qf (qc (qi (.bool (false)) rfl (qd (qu (qo (qs (L' := L) [.bool (false)] (.bool (false)) (.tmp rfl .nil) rfl rF rF (sD (sD sR)) ?_))))))
  exact ⟨(vB (by first | exact moveB_no2' hq0 | exact (moveB_eq' hgd hput (sideA_f hkf) (sideB_f hkf)).trans (pairM_none hm0) | exact moveB_no1' (fun hq => by obtain ⟨q1, q2, q3, q4, q5⟩ := hq; have q6 := posOk_iff.1 q5; first | omega | (simp_all; done) | (simp_all; omega)))), rfl, rfl⟩
 refine qr (t := 38) rfl (vF h4) (qq [arv] qI qw rfl rfl (Rd.ownN [_] rfl rfl) (qr (t := 38) rfl (vF h4) (ql (3) qY rfl qv (by decide) rfl rfl (qr (t := 38) rfl (vF h4) (qk qS rfl (Rd.own [] rfl rfl) (qr (t := 38) rfl (vF h4) (ql (1) qY rfl qy (by decide) rfl rfl (qr (t := 38) rfl (vF h4) (qk je rfl (Rd.own [] rfl rfl) (qr (t := 38) rfl (vF h4) (qm (args := [.agg #[arv], uv, ii (j)]) call233 rfl (posOk_spec (n := j) har hu) ?_)))))))))))
 rintro _ _ _ _ ⟨rfl, rfl, rfl⟩
 refine qr (t := 38) rfl (vF h4) (jf rfl (cX (qN (.bool (!(posOk ar u j))) (vF h4) rfl (qd ?_))))
 refine jw (t := !(posOk ar u j)) rfl (fun h5 => ?_) (fun h5 => ?_)
 ·refine qf (qc (qi (.bool (false)) rfl (qd (qu (qo (qs (L' := L) [.bool (false)] (.bool (false)) (.tmp rfl .nil) rfl rF rF (sD (sD sR)) ?_))))))
  exact ⟨(vB (by first | exact moveB_no2' hq0 | exact (moveB_eq' hgd hput (sideA_f hkf) (sideB_f hkf)).trans (pairM_none hm0) | exact moveB_no1' (fun hq => by obtain ⟨q1, q2, q3, q4, q5⟩ := hq; have q6 := posOk_iff.1 q5; first | omega | (simp_all; done) | (simp_all; omega)))), rfl, rfl⟩
 have hpk : posOk ar u j = true := Bool.not_inj (y := true) h5
 refine qA (qf ?_)
 obtain ⟨a1, a2, ha1, ha2, hr1, hr2⟩ := hes.rd (i := (i).toNat) (by omega)
 refine jY [cellsH b2 [ii (i), ii (j), .bool (k), uv] 105, cellsH b1 [arv] 36] L 13 [] [[], [], [1], [0, 2], [3], [4], [], [], [7], [6, 8], [9], [10], [5]] (phiL [qe esv, qe (ptr b2 0), qe (ii (i)), qe (.pointer (some (elemA esv (((i).toNat) * 2)))), qe (.pointer (some (elemA esv (((i).toNat) * 2)))), qe a1, qe esv, qe (ptr b2 0), qe (ii (i)), qe (.pointer (some (elemA esv (((i).toNat) * 2)))), qe (.pointer (some (elemA esv (((i).toNat) * 2 + 1)))), qe a2, qe a1]) (ownL []) mixed rfl rfl (by kernel_rfl) ?_ ?_
 ·refine pD (fun W R z9 => ?_) ?_
  ·refine qj (qt (esv) rfl ?_)
   exact ⟨rfl, rfl, rfl⟩
  refine pD (fun W R z9 => ?_) ?_
  ·refine qj (ql (0) qY rfl qy (by decide) rfl rfl ?_)
   exact ⟨rfl, rfl, rfl⟩
  refine pD (fun W R z9 => ?_) ?_
  ·rw [eS (l := [(1, _)]) ⟨z9 1 rfl, ⟨⟩⟩]
   refine qj (qk je rfl (Rd.own [] rfl rfl) ?_)
   exact ⟨rfl, rfl, rfl⟩
  refine pD (fun W R z9 => ?_) ?_
  ·rw [eS (l := [(0, _), (2, _)]) ⟨z9 0 rfl, z9 2 rfl, ⟨⟩⟩]
   refine qj (qD ((i).toNat) jI sizeOf168 rfl rfl (by omega) hes.slv (by omega) rfl ?_)
   exact ⟨rfl, rfl, rfl⟩
  refine pD (fun W R z9 => ?_) ?_
  ·rw [eS (l := [(3, _)]) ⟨z9 3 rfl, ⟨⟩⟩]
   refine qj (jT (((i).toNat) * 2) jX rfl qv (by decide) rfl rfl ?_)
   exact ⟨rfl, rfl, rfl⟩
  refine pD (fun W R z9 => ?_) ?_
  ·rw [eS (l := [(4, _)]) ⟨z9 4 rfl, ⟨⟩⟩]
   refine qj (qk qS rfl (hr1 _) ?_)
   exact ⟨rfl, rfl, rfl⟩
  refine pD (fun W R z9 => ?_) ?_
  ·refine qj (qt (esv) rfl ?_)
   exact ⟨rfl, rfl, rfl⟩
  refine pD (fun W R z9 => ?_) ?_
  ·refine qj (ql (0) qY rfl qy (by decide) rfl rfl ?_)
   exact ⟨rfl, rfl, rfl⟩
  refine pD (fun W R z9 => ?_) ?_
  ·rw [eS (l := [(7, _)]) ⟨z9 7 rfl, ⟨⟩⟩]
   refine qj (qk je rfl (Rd.own [] rfl rfl) ?_)
   exact ⟨rfl, rfl, rfl⟩
  refine pD (fun W R z9 => ?_) ?_
  ·rw [eS (l := [(6, _), (8, _)]) ⟨z9 6 rfl, z9 8 rfl, ⟨⟩⟩]
   refine qj (qD ((i).toNat) jI sizeOf168 rfl rfl (by omega) hes.slv (by omega) rfl ?_)
   exact ⟨rfl, rfl, rfl⟩
  refine pD (fun W R z9 => ?_) ?_
  ·rw [eS (l := [(9, _)]) ⟨z9 9 rfl, ⟨⟩⟩]
   refine qj (jT (((i).toNat) * 2 + 1) jX rfl qv (by decide) rfl rfl ?_)
   exact ⟨rfl, rfl, rfl⟩
  refine pD (fun W R z9 => ?_) ?_
  ·rw [eS (l := [(10, _)]) ⟨z9 10 rfl, ⟨⟩⟩]
   refine qj (qk qS rfl (hr2 _) ?_)
   exact ⟨rfl, rfl, rfl⟩
  refine pD (fun W R z9 => ?_) ?_
  ·rw [eS (l := [(5, _)]) ⟨z9 5 rfl, ⟨⟩⟩]
   refine qj (XOp.assign (a1) rfl ?_)
   exact ⟨rfl, rfl, rfl⟩
  exact stepsP.nil
 intro W hphi
 rw [eS (l := [(11, _), (12, _)]) ⟨(hphi 11 (by decide)), (hphi 12 (by decide)), ⟨⟩⟩]
 show XL _ _ _ _ _ _ _ (cellsH b2 [ii (i), ii (j), .bool (k), uv] 105 :: cellsH b1 [arv] 36 :: L)
 refine qi (a2) rfl (qd (qf (qf (qc ?_))))
 have hgd : 0 ≤ i ∧ i < (es.length : Int) ∧ 0 ≤ j ∧ j < (t.length : Int) ∧ posOk ar u j = true := ⟨by omega, by omega, by omega, by omega, hpk⟩
 have hpo := posOk_iff.1 hgd.2.2.2.2
 have hou := hpo.1
 have hul2 := termOk_len hou
 have hsd := eqsOk_term heo (i := i.toNat) (by omega)
 have hs1 := hsd.1
 have hs2 := hsd.2
 have hl1 := termOk_len hs1
 have hl2 := termOk_len hs2
 have hg1 := fun k (hk : k < (es.getD i.toNat ([], [])).1.length) => termOk_ge hs1 hk
 have hg2 := fun k (hk : k < (es.getD i.toNat ([], [])).2.length) => termOk_ge hs2 hk
 have hso := sub_ok hou (p := j.toNat) (by omega)
 have hst := sub_ok ho (p := j.toNat) (by omega)
 have hsol := termOk_len hso
 have hstl := termOk_len hst
 refine cX (ql (2) qY rfl sizeOf4 (by decide) rfl rfl (cX (qk isAgg4 rfl (Rd.own [] rfl rfl) (qd ?_))))
 refine jw (t := k) rfl (fun h6 => ?_) (fun h6 => ?_)
 ·have hkt : k = true := h6
  refine qc (qh (a2) rfl (qh (a1) rfl (qi (a2) rfl (qi (a1) rfl (qd (qf (qc (cX (ql (1) qY rfl qy (by decide) rfl rfl (cX (qk je rfl (Rd.own [] rfl rfl) (qi (ii (j)) rfl (qd (qf (qc ?_)))))))))))))))
  refine cX (qq [arv] qI qw rfl rfl (Rd.ownN [_] rfl rfl) (cX (ql (3) qY rfl qv (by decide) rfl rfl (cX (qk qS rfl (Rd.own [] rfl rfl) (qh (ii (j)) rfl (cX (qm (args := [.agg #[arv], uv, ii (((j).toNat : Nat) : Int)]) call204 (by rw [show (((j).toNat : Nat) : Int) = j from by omega]; rfl) (subAt_spec (p := (j).toNat) har hu (ho := (by first | assumption | rfl | omega | simp)) (hp := (by first | assumption | rfl | omega | simp)) (hnn := (by first | exact jO hu (by omega) | exact jO ht (by omega)))) ?_))))))))
  rintro v1 _ _ _ ⟨rfl, rfl, hv1, hn1⟩
  refine qi (v1) rfl (qd (qf (qc (cX (qq [arv] qI qw rfl rfl (Rd.ownN [_] rfl rfl) (qh (tv) rfl (qh (ii (j)) rfl (qh (v1) rfl (cX (qm (args := [.agg #[arv], tv, ii (((j).toNat : Nat) : Int), v1]) call207 (by rw [show (((j).toNat : Nat) : Int) = j from by omega]; rfl) (put_spec (p := (j).toNat) har ht hv1 (ho := (by first | assumption | rfl | omega | simp)) (hp := (by first | assumption | rfl | omega | simp)) (hul := (by first | assumption | rfl | omega | simp))) ?_))))))))))
  rintro _ F1 _ le1 ⟨x1, rfl, hr3, hr4, hr5, rfl⟩
  replace har := har.mono le1
  replace ht := ht.mono le1
  replace hu := hu.mono le1
  replace ha1 := ha1.mono le1
  replace ha2 := ha2.mono le1
  replace hv1 := hv1.mono le1
  refine qh (.tuple #[x1, .bool ((putL ar t ((j).toNat) ((sub ar u ((j).toNat)))).isSome)]) rfl (cX (qM (x1) rfl rfl (cX (qM (.bool ((putL ar t ((j).toNat) ((sub ar u ((j).toNat)))).isSome)) rfl rfl (qi (x1) rfl (qi (.bool ((putL ar t ((j).toNat) ((sub ar u ((j).toNat)))).isSome)) rfl (qd (qf (qf (qc (qh (.bool ((putL ar t ((j).toNat) ((sub ar u ((j).toNat)))).isSome)) rfl (cX (jf rfl (qh (.bool (!((putL ar t ((j).toNat) ((sub ar u ((j).toNat)))).isSome))) rfl ?_))))))))))))))
  by_cases h7 : (!((putL ar t ((j).toNat) ((sub ar u ((j).toNat)))).isSome)) = true
  ·have hq0 : putL ar t j.toNat (sub ar u j.toNat) ≠ some u := fun e => by have h9 := Bool.not_inj (y := false) h7; rw [e] at h9; cases h9
   refine qp (t := 80) rfl (vB h7) (qp (t := 80) rfl (vB h7) (qp (t := 80) rfl (vB h7) (qp (t := 80) rfl (vB h7) (qp (t := 80) rfl (vB h7) (cX (qP (.bool (true)) (vB h7) rfl (qd (jC rfl (qf (qc (qi (.bool (false)) rfl ?_)))))))))))
   refine qd (qu (qo (qs (L' := L) [.bool (false)] (.bool (false)) (.tmp rfl .nil) rfl rF le1 (sD (sD sR)) ?_)))
   exact ⟨(vB (by first | exact moveB_no2' hq0 | exact (moveB_eq' hgd hput (sideA_t hkt) (sideB_t hkt)).trans (pairM_none hm0) | exact moveB_no1' (fun hq => by obtain ⟨q1, q2, q3, q4, q5⟩ := hq; have q6 := posOk_iff.1 q5; first | omega | (simp_all; done) | (simp_all; omega)))), rfl, rfl⟩
  rw [Bool.not_eq_true] at h7
  have hp1 : (putL ar t j.toNat (sub ar u j.toNat)).isSome = true := Bool.not_inj (y := true) h7
  have hp2 := put_le60 (ar := ar) (t := t) (u := sub ar u j.toNat) (p := j.toNat)
  refine qr (t := 80) rfl (vB h7) (qt (x1) rfl (qr (t := 80) rfl (vB h7) (ql (3) qY rfl qv (by decide) rfl rfl (qr (t := 80) rfl (vB h7) (qk qS rfl (Rd.own [] rfl rfl) (qr (t := 80) rfl (vB h7) (qm (args := [x1, uv]) call156 rfl (Equal_spec hr3 hu (hbd := (by first | assumption | rfl | omega | (left; simp; done) | (right; simp; done)))) ?_)))))))
  rintro _ _ _ _ ⟨rfl, rfl, rfl⟩
  refine qr (t := 80) rfl (vB h7) (jQ rfl (cX (qN (.bool (decide (¬(((putL ar t ((j).toNat) ((sub ar u ((j).toNat)))).getD []) = u)))) (vB h7) rfl (qd ?_))))
  refine qC (p := ¬(((putL ar t ((j).toNat) ((sub ar u ((j).toNat)))).getD []) = u)) rfl (fun h8 => ?_) (fun h8 => ?_)
  ·have hq0 : putL ar t j.toNat (sub ar u j.toNat) ≠ some u := fun e => h8 (by rw [e]; rfl)
   refine qf (qc (qi (.bool (false)) rfl (qd (qu (qo (qs (L' := L) [.bool (false)] (.bool (false)) (.tmp rfl .nil) rfl rF le1 (sD (sD sR)) ?_))))))
   exact ⟨(vB (by first | exact moveB_no2' hq0 | exact (moveB_eq' hgd hput (sideA_t hkt) (sideB_t hkt)).trans (pairM_none hm0) | exact moveB_no1' (fun hq => by obtain ⟨q1, q2, q3, q4, q5⟩ := hq; have q6 := posOk_iff.1 q5; first | omega | (simp_all; done) | (simp_all; omega)))), rfl, rfl⟩
  have hput := put_is hp1 (Classical.not_not.1 h8)
  refine qA (qf ?_)
  refine jM [cellsH b2 [ii (i), ii (j), .bool (k), uv] 105, cellsH b1 [arv] 36] L 13 [[], [], [], [], [], [], [], [], [7], [7], [], [], [7, 11]] [[], [], [], [], [], [2, 3, 4], [], [0, 1, 5, 6], [7], [7, 8], [7, 8], [], [7, 9, 11]] [[], [], [], [], [], [], [], [], [], [], [], [], [11]] (phiG [pe (.agg #[arv]), pe a2, pe (.agg #[arv]), pe tv, pe (ii (j)), fun FF us v => ((v) : Value) = v ∧ (IntsF FF (v) (sub ar t ((j).toNat))) ∧ (isNil (v) = false), pe (.agg (List.replicate 24 (sN)).toArray), fun FF us v => (.tuple #[.agg (((aggL (tupAt v 0)))).toArray, .bool ((mGo ar ((sub ar t ((j).toNat))) ((es.getD ((i).toNat) ([], [])).2) 0 (List.replicate 24 ([] : List Int))).isSome)] : Value) = v ∧ (SomeBindsF FF ((aggL (tupAt v 0))) (fun bl => (bl.length = 24) ∧ (∀ r, mGo ar ((sub ar t ((j).toNat))) ((es.getD ((i).toNat) ([], [])).2) 0 (List.replicate 24 ([] : List Int)) = some r → bl = r))), fun FF us v => v = (.tuple #[.agg (((aggL (tupAt (us.getD 0 undef) 0)))).toArray, .bool ((mGo ar ((sub ar t ((j).toNat))) ((es.getD ((i).toNat) ([], [])).2) 0 (List.replicate 24 ([] : List Int))).isSome)] : Value), fun FF us v => v = (.agg (((aggL (tupAt (us.getD 0 undef) 0)))).toArray : Value), pe (.bool ((mGo ar ((sub ar t ((j).toNat))) ((es.getD ((i).toNat) ([], [])).2) 0 (List.replicate 24 ([] : List Int))).isSome) : Value), fun FF us v => v = ptr (blk v) 0, fun FF us v => True]) (ownL [o0, o0, o0, o0, o0, o0, o0, o0, o0, o0, o0, fun us v => [cellsH (blk v) (List.replicate 24 (sN)) 244], fun us v => [cellsH (blk (us.getD 1 undef)) (((aggL (tupAt (us.getD 0 undef) 0)))) 244]]) mixed rfl rfl (by kernel_rfl) (by kernel_rfl) (MonoG.get (m1 (m1 (m1 (m1 (m1 (mC (fun le h => ⟨h.1, h.2.1.mono le, h.2.2⟩) (m1 (mC (fun le h => ⟨h.1, h.2.mono le⟩) (mC (fun le h => h) (mC (fun le h => h) (m1 (mC (fun le h => h) (mC (fun le h => h) MonoG.nil)))))))))))))) ?_ ?_
  ·refine gD (fun W Fs R lF z9 => ?_) ?_
   ·replace har := har.mono lF
    replace ht := ht.mono lF
    replace hu := hu.mono lF
    replace ha1 := ha1.mono lF
    replace ha2 := ha2.mono lF
    replace hv1 := hv1.mono lF
    refine qj (qq [arv] qI qw rfl rfl (Rd.ownN [_] rfl rfl) ?_)
    exact ⟨rfl, rfl⟩
   refine gD (fun W Fs R lF z9 => ?_) ?_
   ·refine qj (qt (a2) rfl ?_)
    exact ⟨rfl, rfl⟩
   refine gD (fun W Fs R lF z9 => ?_) ?_
   ·replace har := har.mono lF
    replace ht := ht.mono lF
    replace hu := hu.mono lF
    replace ha1 := ha1.mono lF
    replace ha2 := ha2.mono lF
    replace hv1 := hv1.mono lF
    refine qj (qq [arv] qI qw rfl rfl (Rd.ownN [_] rfl rfl) ?_)
    exact ⟨rfl, rfl⟩
   refine gD (fun W Fs R lF z9 => ?_) ?_
   ·refine qj (qt (tv) rfl ?_)
    exact ⟨rfl, rfl⟩
   refine gD (fun W Fs R lF z9 => ?_) ?_
   ·refine qj (qt (ii (j)) rfl ?_)
    exact ⟨rfl, rfl⟩
   refine gD (fun W Fs R lF z9 => ?_) ?_
   ·replace har := har.mono lF
    replace ht := ht.mono lF
    replace hu := hu.mono lF
    replace ha1 := ha1.mono lF
    replace ha2 := ha2.mono lF
    replace hv1 := hv1.mono lF
    rw [eS (l := [(2, _), (3, _), (4, _)]) ⟨z9 2 rfl, z9 3 rfl, z9 4 rfl, ⟨⟩⟩]
    refine qj (qm (args := [.agg #[arv], tv, ii (((j).toNat : Nat) : Int)]) call204 (by rw [show (((j).toNat : Nat) : Int) = j from by omega]; rfl) (subAt_spec (p := (j).toNat) har ht (ho := (by first | assumption | rfl | omega | simp)) (hp := (by first | assumption | rfl | omega | simp)) (hnn := (by first | exact jO hu (by omega) | exact jO ht (by omega)))) ?_)
    rintro v3 _ _ _ ⟨rfl, rfl, hv3, hn3⟩
    exact ⟨⟨rfl, hv3, hn3⟩, rfl⟩
   refine gD (fun W Fs R lF z9 => ?_) ?_
   ·replace har := har.mono lF
    replace ht := ht.mono lF
    replace hu := hu.mono lF
    replace ha1 := ha1.mono lF
    replace ha2 := ha2.mono lF
    replace hv1 := hv1.mono lF
    refine qj (XOp.build0 (List.replicate 24 (sN)) runUnderlying244 ⟨_, qv⟩ zeroValue244 rfl ?_)
    exact ⟨rfl, rfl⟩
   refine gD (fun W Fs R lF z9 => ?_) ?_
   ·obtain ⟨e5, f5_2ha, f5_2hn⟩ := z9 5 rfl
    replace har := har.mono lF
    replace ht := ht.mono lF
    replace hu := hu.mono lF
    replace ha1 := ha1.mono lF
    replace ha2 := ha2.mono lF
    replace hv1 := hv1.mono lF
    rw [eS (l := [(0, _), (1, _), (5, ((W 5))), (6, _)]) ⟨z9 0 rfl, z9 1 rfl, (e5).symm, z9 6 rfl, ⟨⟩⟩]
    refine qj (qm (args := [.agg #[arv], a2, ((W 5)), .agg (List.replicate 24 (sN)).toArray]) call203 rfl (matchInto_spec har ha2 f5_2ha ((BindC.nils 24)) ((by first | assumption | rfl | simp | omega)) (ho := (by first | assumption | rfl | omega | simp)) (hpl := (by first | assumption | rfl | omega | simp)) (hpg := (by first | exact hg1 | exact hg2))) ?_)
    rintro _ _ _ _ ⟨rfl, x4, x5, rfl, hr9, hr10, hr11, rfl⟩
    exact ⟨⟨rfl, ⟨_, hr9, hr10, hr11⟩⟩, rfl⟩
   refine gD (fun W Fs R lF z9 => ?_) ?_
   ·obtain ⟨e7, f7_2hp_bs⟩ := z9 7 rfl
    obtain ⟨t7X2_bs, f7_2hp_bs, q7_2_bs0, q7_2_bs1⟩ := f7_2hp_bs
    rw [eS (l := [(7, (.tuple #[.agg (((aggL (tupAt (W 7) 0)))).toArray, .bool ((mGo ar ((sub ar t ((j).toNat))) ((es.getD ((i).toNat) ([], [])).2) 0 (List.replicate 24 ([] : List Int))).isSome)]))]) ⟨(e7).symm, ⟨⟩⟩]
    refine qj (qt (.tuple #[.agg (((aggL (tupAt (W 7) 0)))).toArray, .bool ((mGo ar ((sub ar t ((j).toNat))) ((es.getD ((i).toNat) ([], [])).2) 0 (List.replicate 24 ([] : List Int))).isSome)]) rfl ?_)
    exact ⟨rfl, rfl⟩
   refine gD (fun W Fs R lF z9 => ?_) ?_
   ·obtain ⟨e7, f7_2hp_bs⟩ := z9 7 rfl
    obtain ⟨t7X2_bs, f7_2hp_bs, q7_2_bs0, q7_2_bs1⟩ := f7_2hp_bs
    have e8 : W 8 = (.tuple #[.agg (((aggL (tupAt (W 7) 0)))).toArray, .bool ((mGo ar ((sub ar t ((j).toNat))) ((es.getD ((i).toNat) ([], [])).2) 0 (List.replicate 24 ([] : List Int))).isSome)] : Value) := z9 8 rfl
    rw [eS (l := [(7, (.tuple #[.agg (((aggL (tupAt (W 7) 0)))).toArray, .bool ((mGo ar ((sub ar t ((j).toNat))) ((es.getD ((i).toNat) ([], [])).2) 0 (List.replicate 24 ([] : List Int))).isSome)])), (8, (.tuple #[.agg (((aggL (tupAt (W 7) 0)))).toArray, .bool ((mGo ar ((sub ar t ((j).toNat))) ((es.getD ((i).toNat) ([], [])).2) 0 (List.replicate 24 ([] : List Int))).isSome)]))]) ⟨(e7).symm, e8, ⟨⟩⟩]
    refine qj (qM (.agg (((aggL (tupAt (W 7) 0)))).toArray) rfl rfl ?_)
    exact ⟨rfl, rfl⟩
   refine gD (fun W Fs R lF z9 => ?_) ?_
   ·obtain ⟨e7, f7_2hp_bs⟩ := z9 7 rfl
    obtain ⟨t7X2_bs, f7_2hp_bs, q7_2_bs0, q7_2_bs1⟩ := f7_2hp_bs
    have e8 : W 8 = (.tuple #[.agg (((aggL (tupAt (W 7) 0)))).toArray, .bool ((mGo ar ((sub ar t ((j).toNat))) ((es.getD ((i).toNat) ([], [])).2) 0 (List.replicate 24 ([] : List Int))).isSome)] : Value) := z9 8 rfl
    rw [eS (l := [(7, (.tuple #[.agg (((aggL (tupAt (W 7) 0)))).toArray, .bool ((mGo ar ((sub ar t ((j).toNat))) ((es.getD ((i).toNat) ([], [])).2) 0 (List.replicate 24 ([] : List Int))).isSome)])), (8, (.tuple #[.agg (((aggL (tupAt (W 7) 0)))).toArray, .bool ((mGo ar ((sub ar t ((j).toNat))) ((es.getD ((i).toNat) ([], [])).2) 0 (List.replicate 24 ([] : List Int))).isSome)]))]) ⟨(e7).symm, e8, ⟨⟩⟩]
    refine qj (qM (.bool ((mGo ar ((sub ar t ((j).toNat))) ((es.getD ((i).toNat) ([], [])).2) 0 (List.replicate 24 ([] : List Int))).isSome)) rfl rfl ?_)
    exact ⟨rfl, rfl⟩
   refine gD (fun W Fs R lF z9 => ?_) ?_
   ·replace har := har.mono lF
    replace ht := ht.mono lF
    replace hu := hu.mono lF
    replace ha1 := ha1.mono lF
    replace ha2 := ha2.mono lF
    replace hv1 := hv1.mono lF
    refine qj (ji (List.replicate 24 (sN)) zeroValue244 rfl ?_)
    intro b4
    exact ⟨rfl, rfl⟩
   refine gD (fun W Fs R lF z9 => ?_) ?_
   ·obtain ⟨e7, f7_2hp_bs⟩ := z9 7 rfl
    obtain ⟨t7X2_bs, f7_2hp_bs, q7_2_bs0, q7_2_bs1⟩ := f7_2hp_bs
    have e9 : W 9 = (.agg (((aggL (tupAt (W 7) 0)))).toArray : Value) := z9 9 rfl
    have e11 : W 11 = ptr (blk (W 11)) 0 := z9 11 rfl
    replace har := har.mono lF
    replace ht := ht.mono lF
    replace hu := hu.mono lF
    replace ha1 := ha1.mono lF
    replace ha2 := ha2.mono lF
    replace hv1 := hv1.mono lF
    rw [eS (l := [(7, (.tuple #[.agg (((aggL (tupAt (W 7) 0)))).toArray, .bool ((mGo ar ((sub ar t ((j).toNat))) ((es.getD ((i).toNat) ([], [])).2) 0 (List.replicate 24 ([] : List Int))).isSome)])), (9, (.agg (((aggL (tupAt (W 7) 0)))).toArray)), (11, ptr (blk (W 11)) 0)]) ⟨(e7).symm, e9, e11, ⟨⟩⟩]
    show XG _ _ _ _ _ (cellsH (blk (W 11)) (List.replicate 24 (sN)) 244 :: ([cellsH b2 [ii (i), ii (j), .bool (k), uv] 105, cellsH b1 [arv] 36] ++ R)) _
    refine qj (qK [] _ (((aggL (tupAt (W 7) 0)))) yd rfl rfl (by have := CO.len f7_2hp_bs; (try simp only [List.length_set, List.length_replicate] at this ⊢) <;> omega) f7_2hp_bs.ones rfl (Nat.ble_eq_true_of_le (Nat.le_of_eq (by (try simp only [List.length_replicate]) <;> omega))) (arr_over (by (try simp only [List.length_replicate]) <;> omega)) ?_)
    exact ⟨trivial, rfl⟩
   exact stepsG.nil
  intro W F4 le4 hphi
  obtain ⟨e5, f5_2ha, f5_2hn⟩ := hphi 5 (by decide)
  obtain ⟨e7, f7_2hp_bs⟩ := hphi 7 (by decide)
  obtain ⟨t7X2_bs, f7_2hp_bs, q7_2_bs0, q7_2_bs1⟩ := f7_2hp_bs
  have e8 : W 8 = (.tuple #[.agg (((aggL (tupAt (W 7) 0)))).toArray, .bool ((mGo ar ((sub ar t ((j).toNat))) ((es.getD ((i).toNat) ([], [])).2) 0 (List.replicate 24 ([] : List Int))).isSome)] : Value) := hphi 8 (by decide)
  have e9 : W 9 = (.agg (((aggL (tupAt (W 7) 0)))).toArray : Value) := hphi 9 (by decide)
  have e11 : W 11 = ptr (blk (W 11)) 0 := hphi 11 (by decide)
  generalize hu1 : ((W 5)) = u1 at e5 f5_2ha f5_2hn e7 f7_2hp_bs e8 e9 e11
  generalize hu2 : ((aggL (tupAt (W 7) 0))) = u2 at e5 f5_2ha f5_2hn e7 f7_2hp_bs e8 e9 e11
  generalize hu3 : blk (W 11) = b5 at e5 f5_2ha f5_2hn e7 f7_2hp_bs e8 e9 e11
  rw [eS (l := [(7, (.tuple #[.agg (u2).toArray, .bool ((mGo ar ((sub ar t ((j).toNat))) ((es.getD ((i).toNat) ([], [])).2) 0 (List.replicate 24 ([] : List Int))).isSome)])), (10, _), (11, ptr b5 0)]) ⟨(e7).symm, (hphi 10 (by decide)), e11, ⟨⟩⟩]
  replace har := har.mono le4
  replace ht := ht.mono le4
  replace hu := hu.mono le4
  replace ha1 := ha1.mono le4
  replace ha2 := ha2.mono le4
  replace hv1 := hv1.mono le4
  show XL _ _ _ _ _ _ _ (cellsH b5 u2 244 :: cellsH b2 [ii (i), ii (j), .bool (k), uv] 105 :: cellsH b1 [arv] 36 :: L)
  refine qi (.bool ((mGo ar ((sub ar t ((j).toNat))) ((es.getD ((i).toNat) ([], [])).2) 0 (List.replicate 24 ([] : List Int))).isSome)) rfl (qd (qf (qf (qc (qh (.bool ((mGo ar ((sub ar t ((j).toNat))) ((es.getD ((i).toNat) ([], [])).2) 0 (List.replicate 24 ([] : List Int))).isSome)) rfl (cX (jf rfl (qd ?_))))))))
  refine jw (t := !((mGo ar ((sub ar t ((j).toNat))) ((es.getD ((i).toNat) ([], [])).2) 0 (List.replicate 24 ([] : List Int))).isSome)) rfl (fun h9 => ?_) (fun h9 => ?_)
  ·have hm0 := Bool.not_inj (y := false) h9
   refine qf (qc (qi (.bool (false)) rfl (qd (qu (qo (qs (L' := L) [.bool (false)] (.bool (false)) (.tmp rfl .nil) rfl rF (qn le1 le4) (sD (sD (sD sR))) ?_))))))
   exact ⟨(vB (by first | exact moveB_no2' hq0 | exact (moveB_eq' hgd hput (sideA_t hkt) (sideB_t hkt)).trans (pairM_none hm0) | exact moveB_no1' (fun hq => by obtain ⟨q1, q2, q3, q4, q5⟩ := hq; have q6 := posOk_iff.1 q5; first | omega | (simp_all; done) | (simp_all; omega)))), rfl, rfl⟩
  have hm0 := opt_is (Bool.not_inj (y := true) h9) (by assumption)
  refine qA (qf (qc (cX (qq [arv] qI qw rfl rfl (Rd.ownN [_, _] rfl rfl) (qh (a1) rfl (qh (v1) rfl (cX (qq u2 isAgg244 yd (by have := CO.len f7_2hp_bs; (try simp only [List.length_set, List.length_replicate] at this ⊢) <;> omega) rfl (Rd.ownN [] rfl take_all) (cX (qm (args := [.agg #[arv], a1, v1, .agg (u2).toArray]) call203 rfl (matchInto_spec har ha1 hv1 f7_2hp_bs ((by first | assumption | rfl | simp | omega)) (ho := (by first | assumption | rfl | omega | simp)) (hpl := (by first | assumption | rfl | omega | simp)) (hpg := (by first | exact hg1 | exact hg2))) ?_))))))))))
  rintro _ _ _ _ ⟨rfl, x6, x7, rfl, hr12, hr13, hr14, rfl⟩
  refine qh (.tuple #[.agg (x6).toArray, .bool ((mGo ar ((sub ar u ((j).toNat))) ((es.getD ((i).toNat) ([], [])).1) 0 t7X2_bs).isSome)]) rfl (cX (qM (.agg (x6).toArray) rfl rfl (cX (qM (.bool ((mGo ar ((sub ar u ((j).toNat))) ((es.getD ((i).toNat) ([], [])).1) 0 t7X2_bs).isSome)) rfl rfl (qi (.bool ((mGo ar ((sub ar u ((j).toNat))) ((es.getD ((i).toNat) ([], [])).1) 0 t7X2_bs).isSome)) rfl (qd (qf (qc (qh (.bool ((mGo ar ((sub ar u ((j).toNat))) ((es.getD ((i).toNat) ([], [])).1) 0 t7X2_bs).isSome)) rfl (qi (.bool ((mGo ar ((sub ar u ((j).toNat))) ((es.getD ((i).toNat) ([], [])).1) 0 t7X2_bs).isSome)) rfl (qd (qu (qs (L' := L) [.bool ((mGo ar ((sub ar u ((j).toNat))) ((es.getD ((i).toNat) ([], [])).1) 0 t7X2_bs).isSome)] (.bool ((mGo ar ((sub ar u ((j).toNat))) ((es.getD ((i).toNat) ([], [])).1) 0 t7X2_bs).isSome)) (.tmp rfl .nil) rfl rF (qn le1 le4) (sD (sD (sD sR))) ?_)))))))))))))
  exact ⟨(vB ((moveB_eq' hgd hput (sideA_t hkt) (sideB_t hkt)).trans (pairM_some hm0))), rfl, rfl⟩
 have hkf : k = false := by simpa using h6
 refine qA (qf (qc (cX (ql (1) qY rfl qy (by decide) rfl rfl (cX (qk je rfl (Rd.own [] rfl rfl) (qi (ii (j)) rfl (qd (qf (qc (cX (qq [arv] qI qw rfl rfl (Rd.ownN [_] rfl rfl) (cX (ql (3) qY rfl qv (by decide) rfl rfl (cX (qk qS rfl (Rd.own [] rfl rfl) (qh (ii (j)) rfl (cX (qm (args := [.agg #[arv], uv, ii (((j).toNat : Nat) : Int)]) call204 (by rw [show (((j).toNat : Nat) : Int) = j from by omega]; rfl) (subAt_spec (p := (j).toNat) har hu (ho := (by first | assumption | rfl | omega | simp)) (hp := (by first | assumption | rfl | omega | simp)) (hnn := (by first | exact jO hu (by omega) | exact jO ht (by omega)))) ?_)))))))))))))))))))
 rintro v4 _ _ _ ⟨rfl, rfl, hv4, hn4⟩
 refine qi (v4) rfl (qd (qf (qc (cX (qq [arv] qI qw rfl rfl (Rd.ownN [_] rfl rfl) (qh (tv) rfl (qh (ii (j)) rfl (qh (v4) rfl (cX (qm (args := [.agg #[arv], tv, ii (((j).toNat : Nat) : Int), v4]) call207 (by rw [show (((j).toNat : Nat) : Int) = j from by omega]; rfl) (put_spec (p := (j).toNat) har ht hv4 (ho := (by first | assumption | rfl | omega | simp)) (hp := (by first | assumption | rfl | omega | simp)) (hul := (by first | assumption | rfl | omega | simp))) ?_))))))))))
 rintro _ F6 _ le6 ⟨x8, rfl, hr15, hr16, hr17, rfl⟩
 replace har := har.mono le6
 replace ht := ht.mono le6
 replace hu := hu.mono le6
 replace ha1 := ha1.mono le6
 replace ha2 := ha2.mono le6
 replace hv4 := hv4.mono le6
 refine qh (.tuple #[x8, .bool ((putL ar t ((j).toNat) ((sub ar u ((j).toNat)))).isSome)]) rfl (cX (qM (x8) rfl rfl (cX (qM (.bool ((putL ar t ((j).toNat) ((sub ar u ((j).toNat)))).isSome)) rfl rfl (qi (x8) rfl (qi (.bool ((putL ar t ((j).toNat) ((sub ar u ((j).toNat)))).isSome)) rfl (qd (qf (qf (qc (qh (.bool ((putL ar t ((j).toNat) ((sub ar u ((j).toNat)))).isSome)) rfl (cX (jf rfl (qh (.bool (!((putL ar t ((j).toNat) ((sub ar u ((j).toNat)))).isSome))) rfl ?_))))))))))))))
 by_cases h10 : (!((putL ar t ((j).toNat) ((sub ar u ((j).toNat)))).isSome)) = true
 ·have hq0 : putL ar t j.toNat (sub ar u j.toNat) ≠ some u := fun e => by have h9 := Bool.not_inj (y := false) h10; rw [e] at h9; cases h9
  refine qp (t := 80) rfl (vB h10) (qp (t := 80) rfl (vB h10) (qp (t := 80) rfl (vB h10) (qp (t := 80) rfl (vB h10) (qp (t := 80) rfl (vB h10) (cX (qP (.bool (true)) (vB h10) rfl (qd (jC rfl (qf (qc (qi (.bool (false)) rfl ?_)))))))))))
  refine qd (qu (qo (qs (L' := L) [.bool (false)] (.bool (false)) (.tmp rfl .nil) rfl rF le6 (sD (sD sR)) ?_)))
  exact ⟨(vB (by first | exact moveB_no2' hq0 | exact (moveB_eq' hgd hput (sideA_f hkf) (sideB_f hkf)).trans (pairM_none hm0) | exact moveB_no1' (fun hq => by obtain ⟨q1, q2, q3, q4, q5⟩ := hq; have q6 := posOk_iff.1 q5; first | omega | (simp_all; done) | (simp_all; omega)))), rfl, rfl⟩
 rw [Bool.not_eq_true] at h10
 have hp1 : (putL ar t j.toNat (sub ar u j.toNat)).isSome = true := Bool.not_inj (y := true) h10
 have hp2 := put_le60 (ar := ar) (t := t) (u := sub ar u j.toNat) (p := j.toNat)
 refine qr (t := 80) rfl (vB h10) (qt (x8) rfl (qr (t := 80) rfl (vB h10) (ql (3) qY rfl qv (by decide) rfl rfl (qr (t := 80) rfl (vB h10) (qk qS rfl (Rd.own [] rfl rfl) (qr (t := 80) rfl (vB h10) (qm (args := [x8, uv]) call156 rfl (Equal_spec hr15 hu (hbd := (by first | assumption | rfl | omega | (left; simp; done) | (right; simp; done)))) ?_)))))))
 rintro _ _ _ _ ⟨rfl, rfl, rfl⟩
 refine qr (t := 80) rfl (vB h10) (jQ rfl (cX (qN (.bool (decide (¬(((putL ar t ((j).toNat) ((sub ar u ((j).toNat)))).getD []) = u)))) (vB h10) rfl (qd ?_))))
 refine qC (p := ¬(((putL ar t ((j).toNat) ((sub ar u ((j).toNat)))).getD []) = u)) rfl (fun h11 => ?_) (fun h11 => ?_)
 ·have hq0 : putL ar t j.toNat (sub ar u j.toNat) ≠ some u := fun e => h11 (by rw [e]; rfl)
  refine qf (qc (qi (.bool (false)) rfl (qd (qu (qo (qs (L' := L) [.bool (false)] (.bool (false)) (.tmp rfl .nil) rfl rF le6 (sD (sD sR)) ?_))))))
  exact ⟨(vB (by first | exact moveB_no2' hq0 | exact (moveB_eq' hgd hput (sideA_f hkf) (sideB_f hkf)).trans (pairM_none hm0) | exact moveB_no1' (fun hq => by obtain ⟨q1, q2, q3, q4, q5⟩ := hq; have q6 := posOk_iff.1 q5; first | omega | (simp_all; done) | (simp_all; omega)))), rfl, rfl⟩
 have hput := put_is hp1 (Classical.not_not.1 h11)
 refine qA (qf ?_)
 refine jM [cellsH b2 [ii (i), ii (j), .bool (k), uv] 105, cellsH b1 [arv] 36] L 13 [[], [], [], [], [], [], [], [], [7], [7], [], [], [7, 11]] [[], [], [], [], [], [2, 3, 4], [], [0, 1, 5, 6], [7], [7, 8], [7, 8], [], [7, 9, 11]] [[], [], [], [], [], [], [], [], [], [], [], [], [11]] (phiG [pe (.agg #[arv]), pe a1, pe (.agg #[arv]), pe tv, pe (ii (j)), fun FF us v => ((v) : Value) = v ∧ (IntsF FF (v) (sub ar t ((j).toNat))) ∧ (isNil (v) = false), pe (.agg (List.replicate 24 (sN)).toArray), fun FF us v => (.tuple #[.agg (((aggL (tupAt v 0)))).toArray, .bool ((mGo ar ((sub ar t ((j).toNat))) ((es.getD ((i).toNat) ([], [])).1) 0 (List.replicate 24 ([] : List Int))).isSome)] : Value) = v ∧ (SomeBindsF FF ((aggL (tupAt v 0))) (fun bl => (bl.length = 24) ∧ (∀ r, mGo ar ((sub ar t ((j).toNat))) ((es.getD ((i).toNat) ([], [])).1) 0 (List.replicate 24 ([] : List Int)) = some r → bl = r))), fun FF us v => v = (.tuple #[.agg (((aggL (tupAt (us.getD 0 undef) 0)))).toArray, .bool ((mGo ar ((sub ar t ((j).toNat))) ((es.getD ((i).toNat) ([], [])).1) 0 (List.replicate 24 ([] : List Int))).isSome)] : Value), fun FF us v => v = (.agg (((aggL (tupAt (us.getD 0 undef) 0)))).toArray : Value), pe (.bool ((mGo ar ((sub ar t ((j).toNat))) ((es.getD ((i).toNat) ([], [])).1) 0 (List.replicate 24 ([] : List Int))).isSome) : Value), fun FF us v => v = ptr (blk v) 0, fun FF us v => True]) (ownL [o0, o0, o0, o0, o0, o0, o0, o0, o0, o0, o0, fun us v => [cellsH (blk v) (List.replicate 24 (sN)) 244], fun us v => [cellsH (blk (us.getD 1 undef)) (((aggL (tupAt (us.getD 0 undef) 0)))) 244]]) mixed rfl rfl (by kernel_rfl) (by kernel_rfl) (MonoG.get (m1 (m1 (m1 (m1 (m1 (mC (fun le h => ⟨h.1, h.2.1.mono le, h.2.2⟩) (m1 (mC (fun le h => ⟨h.1, h.2.mono le⟩) (mC (fun le h => h) (mC (fun le h => h) (m1 (mC (fun le h => h) (mC (fun le h => h) MonoG.nil)))))))))))))) ?_ ?_
 ·refine gD (fun W Fs R lF z9 => ?_) ?_
  ·replace har := har.mono lF
   replace ht := ht.mono lF
   replace hu := hu.mono lF
   replace ha1 := ha1.mono lF
   replace ha2 := ha2.mono lF
   replace hv4 := hv4.mono lF
   refine qj (qq [arv] qI qw rfl rfl (Rd.ownN [_] rfl rfl) ?_)
   exact ⟨rfl, rfl⟩
  refine gD (fun W Fs R lF z9 => ?_) ?_
  ·refine qj (qt (a1) rfl ?_)
   exact ⟨rfl, rfl⟩
  refine gD (fun W Fs R lF z9 => ?_) ?_
  ·replace har := har.mono lF
   replace ht := ht.mono lF
   replace hu := hu.mono lF
   replace ha1 := ha1.mono lF
   replace ha2 := ha2.mono lF
   replace hv4 := hv4.mono lF
   refine qj (qq [arv] qI qw rfl rfl (Rd.ownN [_] rfl rfl) ?_)
   exact ⟨rfl, rfl⟩
  refine gD (fun W Fs R lF z9 => ?_) ?_
  ·refine qj (qt (tv) rfl ?_)
   exact ⟨rfl, rfl⟩
  refine gD (fun W Fs R lF z9 => ?_) ?_
  ·refine qj (qt (ii (j)) rfl ?_)
   exact ⟨rfl, rfl⟩
  refine gD (fun W Fs R lF z9 => ?_) ?_
  ·replace har := har.mono lF
   replace ht := ht.mono lF
   replace hu := hu.mono lF
   replace ha1 := ha1.mono lF
   replace ha2 := ha2.mono lF
   replace hv4 := hv4.mono lF
   rw [eS (l := [(2, _), (3, _), (4, _)]) ⟨z9 2 rfl, z9 3 rfl, z9 4 rfl, ⟨⟩⟩]
   refine qj (qm (args := [.agg #[arv], tv, ii (((j).toNat : Nat) : Int)]) call204 (by rw [show (((j).toNat : Nat) : Int) = j from by omega]; rfl) (subAt_spec (p := (j).toNat) har ht (ho := (by first | assumption | rfl | omega | simp)) (hp := (by first | assumption | rfl | omega | simp)) (hnn := (by first | exact jO hu (by omega) | exact jO ht (by omega)))) ?_)
   rintro v6 _ _ _ ⟨rfl, rfl, hv6, hn6⟩
   exact ⟨⟨rfl, hv6, hn6⟩, rfl⟩
  refine gD (fun W Fs R lF z9 => ?_) ?_
  ·replace har := har.mono lF
   replace ha1 := ha1.mono lF
   replace ha2 := ha2.mono lF
   replace hv4 := hv4.mono lF
   refine qj (XOp.build0 (List.replicate 24 (sN)) runUnderlying244 ⟨_, qv⟩ zeroValue244 rfl ?_)
   exact ⟨rfl, rfl⟩
  refine gD (fun W Fs R lF z9 => ?_) ?_
  ·obtain ⟨e5, f5_3ha, f5_3hn⟩ := z9 5 rfl
   replace har := har.mono lF
   replace ha1 := ha1.mono lF
   replace ha2 := ha2.mono lF
   replace hv4 := hv4.mono lF
   rw [eS (l := [(0, _), (1, _), (5, ((W 5))), (6, _)]) ⟨z9 0 rfl, z9 1 rfl, (e5).symm, z9 6 rfl, ⟨⟩⟩]
   refine qj (qm (args := [.agg #[arv], a1, ((W 5)), .agg (List.replicate 24 (sN)).toArray]) call203 rfl (matchInto_spec har ha1 f5_3ha ((BindC.nils 24)) ((by first | assumption | rfl | simp | omega)) (ho := (by first | assumption | rfl | omega | simp)) (hpl := (by first | assumption | rfl | omega | simp)) (hpg := (by first | exact hg1 | exact hg2))) ?_)
   rintro _ _ _ _ ⟨rfl, x11, x12, rfl, hr21, hr22, hr23, rfl⟩
   exact ⟨⟨rfl, ⟨_, hr21, hr22, hr23⟩⟩, rfl⟩
  refine gD (fun W Fs R lF z9 => ?_) ?_
  ·obtain ⟨e7, f7_3hp_bs⟩ := z9 7 rfl
   obtain ⟨t7X3_bs, f7_3hp_bs, q7_3_bs0, q7_3_bs1⟩ := f7_3hp_bs
   rw [eS (l := [(7, (.tuple #[.agg (((aggL (tupAt (W 7) 0)))).toArray, .bool ((mGo ar ((sub ar t ((j).toNat))) ((es.getD ((i).toNat) ([], [])).1) 0 (List.replicate 24 ([] : List Int))).isSome)]))]) ⟨(e7).symm, ⟨⟩⟩]
   refine qj (qt (.tuple #[.agg (((aggL (tupAt (W 7) 0)))).toArray, .bool ((mGo ar ((sub ar t ((j).toNat))) ((es.getD ((i).toNat) ([], [])).1) 0 (List.replicate 24 ([] : List Int))).isSome)]) rfl ?_)
   exact ⟨rfl, rfl⟩
  refine gD (fun W Fs R lF z9 => ?_) ?_
  ·obtain ⟨e7, f7_3hp_bs⟩ := z9 7 rfl
   obtain ⟨t7X3_bs, f7_3hp_bs, q7_3_bs0, q7_3_bs1⟩ := f7_3hp_bs
   have e8 : W 8 = (.tuple #[.agg (((aggL (tupAt (W 7) 0)))).toArray, .bool ((mGo ar ((sub ar t ((j).toNat))) ((es.getD ((i).toNat) ([], [])).1) 0 (List.replicate 24 ([] : List Int))).isSome)] : Value) := z9 8 rfl
   rw [eS (l := [(7, (.tuple #[.agg (((aggL (tupAt (W 7) 0)))).toArray, .bool ((mGo ar ((sub ar t ((j).toNat))) ((es.getD ((i).toNat) ([], [])).1) 0 (List.replicate 24 ([] : List Int))).isSome)])), (8, (.tuple #[.agg (((aggL (tupAt (W 7) 0)))).toArray, .bool ((mGo ar ((sub ar t ((j).toNat))) ((es.getD ((i).toNat) ([], [])).1) 0 (List.replicate 24 ([] : List Int))).isSome)]))]) ⟨(e7).symm, e8, ⟨⟩⟩]
   refine qj (qM (.agg (((aggL (tupAt (W 7) 0)))).toArray) rfl rfl ?_)
   exact ⟨rfl, rfl⟩
  refine gD (fun W Fs R lF z9 => ?_) ?_
  ·obtain ⟨e7, f7_3hp_bs⟩ := z9 7 rfl
   obtain ⟨t7X3_bs, f7_3hp_bs, q7_3_bs0, q7_3_bs1⟩ := f7_3hp_bs
   have e8 : W 8 = (.tuple #[.agg (((aggL (tupAt (W 7) 0)))).toArray, .bool ((mGo ar ((sub ar t ((j).toNat))) ((es.getD ((i).toNat) ([], [])).1) 0 (List.replicate 24 ([] : List Int))).isSome)] : Value) := z9 8 rfl
   rw [eS (l := [(7, (.tuple #[.agg (((aggL (tupAt (W 7) 0)))).toArray, .bool ((mGo ar ((sub ar t ((j).toNat))) ((es.getD ((i).toNat) ([], [])).1) 0 (List.replicate 24 ([] : List Int))).isSome)])), (8, (.tuple #[.agg (((aggL (tupAt (W 7) 0)))).toArray, .bool ((mGo ar ((sub ar t ((j).toNat))) ((es.getD ((i).toNat) ([], [])).1) 0 (List.replicate 24 ([] : List Int))).isSome)]))]) ⟨(e7).symm, e8, ⟨⟩⟩]
   refine qj (qM (.bool ((mGo ar ((sub ar t ((j).toNat))) ((es.getD ((i).toNat) ([], [])).1) 0 (List.replicate 24 ([] : List Int))).isSome)) rfl rfl ?_)
   exact ⟨rfl, rfl⟩
  refine gD (fun W Fs R lF z9 => ?_) ?_
  ·replace har := har.mono lF
   replace ha2 := ha2.mono lF
   replace hv4 := hv4.mono lF
   refine qj (ji (List.replicate 24 (sN)) zeroValue244 rfl ?_)
   intro b7
   exact ⟨rfl, rfl⟩
  refine gD (fun W Fs R lF z9 => ?_) ?_
  ·obtain ⟨e7, f7_3hp_bs⟩ := z9 7 rfl
   obtain ⟨t7X3_bs, f7_3hp_bs, q7_3_bs0, q7_3_bs1⟩ := f7_3hp_bs
   have e9 : W 9 = (.agg (((aggL (tupAt (W 7) 0)))).toArray : Value) := z9 9 rfl
   have e11 : W 11 = ptr (blk (W 11)) 0 := z9 11 rfl
   replace har := har.mono lF
   replace ha2 := ha2.mono lF
   replace hv4 := hv4.mono lF
   rw [eS (l := [(7, (.tuple #[.agg (((aggL (tupAt (W 7) 0)))).toArray, .bool ((mGo ar ((sub ar t ((j).toNat))) ((es.getD ((i).toNat) ([], [])).1) 0 (List.replicate 24 ([] : List Int))).isSome)])), (9, (.agg (((aggL (tupAt (W 7) 0)))).toArray)), (11, ptr (blk (W 11)) 0)]) ⟨(e7).symm, e9, e11, ⟨⟩⟩]
   show XG _ _ _ _ _ (cellsH (blk (W 11)) (List.replicate 24 (sN)) 244 :: ([cellsH b2 [ii (i), ii (j), .bool (k), uv] 105, cellsH b1 [arv] 36] ++ R)) _
   refine qj (qK [] _ (((aggL (tupAt (W 7) 0)))) yd rfl rfl (by have := CO.len f7_3hp_bs; (try simp only [List.length_set, List.length_replicate] at this ⊢) <;> omega) f7_3hp_bs.ones rfl (Nat.ble_eq_true_of_le (Nat.le_of_eq (by (try simp only [List.length_replicate]) <;> omega))) (arr_over (by (try simp only [List.length_replicate]) <;> omega)) ?_)
   exact ⟨trivial, rfl⟩
  exact stepsG.nil
 intro W F9 le9 hphi
 obtain ⟨e5, f5_3ha, f5_3hn⟩ := hphi 5 (by decide)
 obtain ⟨e7, f7_3hp_bs⟩ := hphi 7 (by decide)
 obtain ⟨t7X3_bs, f7_3hp_bs, q7_3_bs0, q7_3_bs1⟩ := f7_3hp_bs
 have e8 : W 8 = (.tuple #[.agg (((aggL (tupAt (W 7) 0)))).toArray, .bool ((mGo ar ((sub ar t ((j).toNat))) ((es.getD ((i).toNat) ([], [])).1) 0 (List.replicate 24 ([] : List Int))).isSome)] : Value) := hphi 8 (by decide)
 have e9 : W 9 = (.agg (((aggL (tupAt (W 7) 0)))).toArray : Value) := hphi 9 (by decide)
 have e11 : W 11 = ptr (blk (W 11)) 0 := hphi 11 (by decide)
 generalize hu4 : ((W 5)) = u3 at e5 f5_3ha f5_3hn e7 f7_3hp_bs e8 e9 e11
 generalize hu5 : ((aggL (tupAt (W 7) 0))) = u4 at e5 f5_3ha f5_3hn e7 f7_3hp_bs e8 e9 e11
 generalize hu6 : blk (W 11) = b8 at e5 f5_3ha f5_3hn e7 f7_3hp_bs e8 e9 e11
 rw [eS (l := [(7, (.tuple #[.agg (u4).toArray, .bool ((mGo ar ((sub ar t ((j).toNat))) ((es.getD ((i).toNat) ([], [])).1) 0 (List.replicate 24 ([] : List Int))).isSome)])), (10, _), (11, ptr b8 0)]) ⟨(e7).symm, (hphi 10 (by decide)), e11, ⟨⟩⟩]
 replace har := har.mono le9
 replace ha2 := ha2.mono le9
 replace hv4 := hv4.mono le9
 show XL _ _ _ _ _ _ _ (cellsH b8 u4 244 :: cellsH b2 [ii (i), ii (j), .bool (k), uv] 105 :: cellsH b1 [arv] 36 :: L)
 refine qi (.bool ((mGo ar ((sub ar t ((j).toNat))) ((es.getD ((i).toNat) ([], [])).1) 0 (List.replicate 24 ([] : List Int))).isSome)) rfl (qd (qf (qf (qc (qh (.bool ((mGo ar ((sub ar t ((j).toNat))) ((es.getD ((i).toNat) ([], [])).1) 0 (List.replicate 24 ([] : List Int))).isSome)) rfl (cX (jf rfl (qd ?_))))))))
 refine jw (t := !((mGo ar ((sub ar t ((j).toNat))) ((es.getD ((i).toNat) ([], [])).1) 0 (List.replicate 24 ([] : List Int))).isSome)) rfl (fun h12 => ?_) (fun h12 => ?_)
 ·have hm0 := Bool.not_inj (y := false) h12
  refine qf (qc (qi (.bool (false)) rfl (qd (qu (qo (qs (L' := L) [.bool (false)] (.bool (false)) (.tmp rfl .nil) rfl rF (qn le6 le9) (sD (sD (sD sR))) ?_))))))
  exact ⟨(vB (by first | exact moveB_no2' hq0 | exact (moveB_eq' hgd hput (sideA_f hkf) (sideB_f hkf)).trans (pairM_none hm0) | exact moveB_no1' (fun hq => by obtain ⟨q1, q2, q3, q4, q5⟩ := hq; have q6 := posOk_iff.1 q5; first | omega | (simp_all; done) | (simp_all; omega)))), rfl, rfl⟩
 have hm0 := opt_is (Bool.not_inj (y := true) h12) (by assumption)
 refine qA (qf (qc (cX (qq [arv] qI qw rfl rfl (Rd.ownN [_, _] rfl rfl) (qh (a2) rfl (qh (v4) rfl (cX (qq u4 isAgg244 yd (by have := CO.len f7_3hp_bs; (try simp only [List.length_set, List.length_replicate] at this ⊢) <;> omega) rfl (Rd.ownN [] rfl take_all) (cX (qm (args := [.agg #[arv], a2, v4, .agg (u4).toArray]) call203 rfl (matchInto_spec har ha2 hv4 f7_3hp_bs ((by first | assumption | rfl | simp | omega)) (ho := (by first | assumption | rfl | omega | simp)) (hpl := (by first | assumption | rfl | omega | simp)) (hpg := (by first | exact hg1 | exact hg2))) ?_))))))))))
 rintro _ _ _ _ ⟨rfl, x13, x14, rfl, hr24, hr25, hr26, rfl⟩
 refine qh (.tuple #[.agg (x13).toArray, .bool ((mGo ar ((sub ar u ((j).toNat))) ((es.getD ((i).toNat) ([], [])).2) 0 t7X3_bs).isSome)]) rfl (cX (qM (.agg (x13).toArray) rfl rfl (cX (qM (.bool ((mGo ar ((sub ar u ((j).toNat))) ((es.getD ((i).toNat) ([], [])).2) 0 t7X3_bs).isSome)) rfl rfl (qi (.bool ((mGo ar ((sub ar u ((j).toNat))) ((es.getD ((i).toNat) ([], [])).2) 0 t7X3_bs).isSome)) rfl (qd (qf (qc (qh (.bool ((mGo ar ((sub ar u ((j).toNat))) ((es.getD ((i).toNat) ([], [])).2) 0 t7X3_bs).isSome)) rfl (qi (.bool ((mGo ar ((sub ar u ((j).toNat))) ((es.getD ((i).toNat) ([], [])).2) 0 t7X3_bs).isSome)) rfl (qd (qu (qs (L' := L) [.bool ((mGo ar ((sub ar u ((j).toNat))) ((es.getD ((i).toNat) ([], [])).2) 0 t7X3_bs).isSome)] (.bool ((mGo ar ((sub ar u ((j).toNat))) ((es.getD ((i).toNat) ([], [])).2) 0 t7X3_bs).isSome)) (.tmp rfl .nil) rfl rF (qn le6 le9) (sD (sD (sD sR))) ?_)))))))))))))
 exact ⟨(vB ((moveB_eq' hgd hput (sideA_f hkf) (sideB_f hkf)).trans (pairM_some hm0))), rfl, rfl⟩

/- impl.MoveOk -/
theorem iMoveOk_spec {F : FH} {L : List HP} {arv : Value} {ar : List Int} (har : IntsF F arv ar) {esv : Value} {es : List (List Int × List Int)} (hes : PairsF F esv es) {tv : Value} {t : List Int} (ht : IntsF F tv t) {i : Int} {j : Int} {k : Bool} {uv : Value} {u : List Int} (hu : IntsF F uv u) :
    Does prog 51 [.agg #[arv], esv, tv, .agg #[ii (i), ii (j), .bool (k), uv]] F (L) (fun v F' L' => (.bool (((eqsOkL ar es && termOk ar t) && moveB ar es t (i, j, k, u))) : Value) = v ∧ F = F' ∧ L = L') := by
 refine qH func51 rfl rfl rfl (qf (qc (cX (qZ [arv] rfl rfl ?_))))
 intro b1
 refine cX (qZ [ii (i), ii (j), .bool (k), uv] rfl rfl ?_)
 intro b2
 refine qi (.bool (false)) rfl (qd (qf (qc (cX (qq [arv] qI qw rfl rfl (Rd.ownN [_] rfl rfl) (qh (esv) rfl (cX (qm (args := [.agg #[arv], esv]) call133 rfl (EqsOk_spec har hes) ?_))))))))
 rintro _ _ _ _ ⟨rfl, rfl, rfl⟩
 refine qh (.bool (eqsOkL ar es)) rfl ?_
 by_cases h1 : (eqsOkL ar es) = true
 ·have heo : eqsOkL ar es = true := h1
  refine qr (t := 12) rfl (vB h1) (qq [arv] qI qw rfl rfl (Rd.ownN [_] rfl rfl) (qr (t := 12) rfl (vB h1) (qt (tv) rfl (qr (t := 12) rfl (vB h1) (qm (args := [.agg #[arv], tv]) call113 rfl (TermOk_spec har ht) ?_)))))
  rintro _ _ _ _ ⟨rfl, rfl, rfl⟩
  refine cX (qP (.bool (termOk ar t)) (vB h1) rfl (qh (.bool (termOk ar t)) rfl ?_))
  by_cases h2 : (termOk ar t) = true
  ·have ho : termOk ar t = true := h2
   refine qr (t := 17) rfl (vB h2) (qq [arv] qI qw rfl rfl (Rd.ownN [_] rfl rfl) (qr (t := 17) rfl (vB h2) (qt (esv) rfl (qr (t := 17) rfl (vB h2) (qt (tv) rfl (qr (t := 17) rfl (vB h2) (qq [ii (i), ii (j), .bool (k), uv] isAgg105 sizeOf105 rfl rfl (Rd.ownN [] rfl rfl) (qr (t := 17) rfl (vB h2) (qm (args := [.agg #[arv], esv, tv, .agg #[ii (i), ii (j), .bool (k), uv]]) call134 rfl (moveOk_spec har hes ht hu (heo := (by first | assumption | rfl | omega | simp)) (ho := (by first | assumption | rfl | omega | simp))) ?_)))))))))
   rintro _ _ _ _ ⟨rfl, rfl, rfl⟩
   refine cX (qP (.bool (moveB ar es t (i, j, k, u))) (vB h2) rfl (qi (.bool (moveB ar es t (i, j, k, u))) rfl (qd (qu (qs (L' := L) [.bool (moveB ar es t (i, j, k, u))] (.bool (moveB ar es t (i, j, k, u))) (.tmp rfl .nil) rfl rF rF (sD (sD sR)) ?_)))))
   exact ⟨(vB (by simp_all)), rfl, rfl⟩
  rw [Bool.not_eq_true] at h2
  refine qp (t := 17) rfl (vB h2) (qp (t := 17) rfl (vB h2) (qp (t := 17) rfl (vB h2) (qp (t := 17) rfl (vB h2) (qp (t := 17) rfl (vB h2) (cX (qN (.bool (false)) (vB h2) rfl (qi (.bool (false)) rfl (qd (qu (qs (L' := L) [.bool (false)] (.bool (false)) (.tmp rfl .nil) rfl rF rF (sD (sD sR)) ?_))))))))))
  exact ⟨(vB (by simp_all)), rfl, rfl⟩
 rw [Bool.not_eq_true] at h1
 refine qp (t := 12) rfl (vB h1) (qp (t := 12) rfl (vB h1) (qp (t := 12) rfl (vB h1) (cX (qN (.bool (false)) (vB h1) rfl (qh (.bool (false)) rfl (qp (t := 17) rfl rfl (qp (t := 17) rfl rfl (qp (t := 17) rfl rfl (qp (t := 17) rfl rfl (qp (t := 17) rfl rfl ?_))))))))))
 refine cX (qN (.bool (false)) rfl rfl (qi (.bool (false)) rfl (qd (qu (qs (L' := L) [.bool (false)] (.bool (false)) (.tmp rfl .nil) rfl rF rF (sD (sD sR)) ?_)))))
 exact ⟨(vB (by simp_all)), rfl, rfl⟩

/- spec.ChainOk -/
set_option maxRecDepth 20000 in
theorem sChainOk_spec {F : FH} {L : List HP} {arv : Value} {ar : List Int} (har : IntsF F arv ar) {esv : Value} {es : List (List Int × List Int)} (hes : PairsF F esv es) {fv : Value} {f : List Int} (hf : IntsF F fv f) {msv : Value} {ms : List MoveT} (hms : MovesF F msv ms) (hla : ar.length ≤ 4000000) (hel : es.length ≤ 4000000) (heb : ∀ i, i < es.length → (es.getD i ([], [])).1.length ≤ 4000000 ∧ (es.getD i ([], [])).2.length ≤ 4000000) (hlf : f.length ≤ 4000000) (hmb : ∀ i, i < ms.length → (ms.getD i (0, 0, false, [])).2.2.2.length ≤ 4000000) :
    Does prog 52 [.agg #[arv], esv, .agg #[fv, msv]] F (L) (fun v F' L' => (.bool (chainOkL ar es f ms) : Value) = v ∧ F = F' ∧ L = L') := by
 refine qH func52 rfl rfl rfl (qf (qc (cX (qZ [arv] rfl rfl ?_))))
 intro b1
 refine cX (qZ [fv, msv] rfl rfl ?_)
 intro b2
 refine qi (.bool (false)) rfl (qd (qf (qf (qc (cX (qq [arv] qI qw rfl rfl (Rd.ownN [_] rfl rfl) (qh (esv) rfl (cX (qm (args := [.agg #[arv], esv]) call135 rfl (sEqsOk_spec har hes (hla := (by first | assumption | rfl | omega | simp)) (hel := (by first | assumption | rfl | omega | simp)) (heb := (by first | assumption | rfl | omega | simp))) ?_)))))))))
 rintro _ _ _ _ ⟨rfl, rfl, rfl⟩
 refine cX (jf rfl (qh (.bool (!(eqsOkL ar es))) rfl ?_))
 by_cases h1 : (!(eqsOkL ar es)) = true
 ·refine qp (t := 13) rfl (vB h1) (qp (t := 13) rfl (vB h1) (qp (t := 13) rfl (vB h1) (qp (t := 13) rfl (vB h1) (qp (t := 13) rfl (vB h1) (cX (qP (.bool (true)) (vB h1) rfl (qh (.bool (true)) rfl (qp (t := 20) rfl rfl (qp (t := 20) rfl rfl (qp (t := 20) rfl rfl ?_))))))))))
  refine qp (t := 20) rfl rfl (cX (qP (.bool (true)) rfl rfl (qd (jC rfl (qf (qc (qi (.bool (false)) rfl (qd (qu (qo (qs (L' := L) [.bool (false)] (.bool (false)) (.tmp rfl .nil) rfl rF rF (sD (sD sR)) ?_)))))))))))
  exact ⟨(vB (by unfold chainOkL; simp_all <;> omega)), rfl, rfl⟩
 rw [Bool.not_eq_true] at h1
 have heo : eqsOkL ar es = true := Bool.not_inj (y := true) h1
 refine qr (t := 13) rfl (vB h1) (qq [arv] qI qw rfl rfl (Rd.ownN [_] rfl rfl) (qr (t := 13) rfl (vB h1) (ql (0) jE rfl qv (by decide) rfl rfl (qr (t := 13) rfl (vB h1) (qk qS rfl (Rd.own [] rfl rfl) (qr (t := 13) rfl (vB h1) (qm (args := [.agg #[arv], fv]) call136 rfl (sTermOk_spec har hf (hla := (by first | assumption | rfl | omega | simp)) (hlt := (by first | assumption | rfl | omega | simp))) ?_)))))))
 rintro _ _ _ _ ⟨rfl, rfl, rfl⟩
 refine qr (t := 13) rfl (vB h1) (jf rfl (cX (qN (.bool (!(termOk ar f))) (vB h1) rfl (qh (.bool (!(termOk ar f))) rfl ?_))))
 by_cases h2 : (!(termOk ar f)) = true
 ·refine qp (t := 20) rfl (vB h2) (qp (t := 20) rfl (vB h2) (qp (t := 20) rfl (vB h2) (qp (t := 20) rfl (vB h2) (cX (qP (.bool (true)) (vB h2) rfl (qd (jC rfl (qf (qc (qi (.bool (false)) rfl (qd ?_)))))))))))
  refine qu (qo (qs (L' := L) [.bool (false)] (.bool (false)) (.tmp rfl .nil) rfl rF rF (sD (sD sR)) ?_))
  exact ⟨(vB (by unfold chainOkL; simp_all <;> omega)), rfl, rfl⟩
 rw [Bool.not_eq_true] at h2
 have hof : termOk ar f = true := Bool.not_inj (y := true) h2
 refine qr (t := 20) rfl (vB h2) (ql (1) jE rfl sizeOf94 (by decide) rfl rfl (qr (t := 20) rfl (vB h2) (qk isAgg94 rfl (Rd.own [] rfl rfl) (qr (t := 20) rfl (vB h2) (qE yc rfl hms.slv (qr (t := 20) rfl (vB h2) (jH rfl rfl (cX (qN (.bool (decide (((ms.length : Int) : Int) > 60))) (vB h2) rfl (qd ?_))))))))))
 refine qC (p := ((ms.length : Int) : Int) > 60) rfl (fun h3 => ?_) (fun h3 => ?_)
 ·refine qf (qc (qi (.bool (false)) rfl (qd (qu (qo (qs (L' := L) [.bool (false)] (.bool (false)) (.tmp rfl .nil) rfl rF rF (sD (sD sR)) ?_))))))
  exact ⟨(vB (by unfold chainOkL; simp_all <;> omega)), rfl, rfl⟩
 refine qA (qf (qc (cX (ql (0) jE rfl qv (by decide) rfl rfl (cX (qk qS rfl (Rd.own [] rfl rfl) (qi (fv) rfl (qd (qf (qf (qc (qi (ii (0)) rfl (qd (qR (jy (α := Nat × Value × List Int × FH) (fun xQ => [(1, esv), (3, ptr b1 0), (5, ptr b2 0), (7, xQ.2.1), (8, ii (((xQ.1 : Nat) : Int)))]) (fun xQ => cellsH b2 [fv, msv] 96 :: cellsH b1 [arv] 36 :: L) (fun xQ F' => xQ.2.2.2 = F' ∧ F ≤ xQ.2.2.2 ∧ (IntsF xQ.2.2.2 xQ.2.1 xQ.2.2.1) ∧ (xQ.1 ≤ ms.length) ∧ (termOk ar xQ.2.2.1 = true) ∧ (movesGo ar es f ms = movesGo ar es xQ.2.2.1 (ms.drop xQ.1))) (fun xQ => ms.length - xQ.1) (0, fv, f, F) ⟨rfl, rfl, rfl, rfl, rfl, ⟨⟩⟩ (sC (sC sR)) ⟨rfl, FLe.refl _, (hf), (Nat.zero_le _), (hof), (rfl)⟩ ?_)))))))))))))))
 rintro ⟨k, cv, cur, G1⟩ rE _ _ ⟨rfl, leG, hcv, hk, hoc, hgo⟩
 show X _ _ _ _ (envs [(1, esv), (3, ptr b1 0), (5, ptr b2 0), (7, cv), (8, ii ((k : Int)))] rE) _ (cellsH b2 [fv, msv] 96 :: cellsH b1 [arv] 36 :: L)
 replace leG : F ≤ G1 := leG
 dsimp only at hcv hk hoc hgo
 have hcl := termOk_len hoc
 have hmk := hmb k
 have leG1 := leG
 replace har := har.mono leG1
 replace hes := hes.mono leG1
 replace hms := hms.mono leG1
 refine qf (qf (qc (qh (ii ((k : Int))) rfl (cX (ql (1) jE rfl sizeOf94 (by decide) rfl rfl (cX (qk isAgg94 rfl (Rd.own [] rfl rfl) (cX (qE yc rfl hms.slv (cX (jh rfl rfl (qd ?_))))))))))))
 refine qC (p := (k : Int) < (ms.length : Int)) rfl (fun h4 => ?_) (fun h4 => ?_)
 ·refine qA (qf (qR (qf (qf ?_))))
  obtain ⟨a1, ha1, hrg1, hq1⟩ := hms.rd (i := k) (by omega)
  refine jY [cellsH b2 [fv, msv] 96, cellsH b1 [arv] 36] L 8 [] [[], [], [], [], [3], [], [4, 5], [6]] (phiL [qe (.agg #[arv]), qe esv, qe cv, qe (ptr b2 1), qe msv, qe (ii ((k : Int)) : Value), qe (.pointer (some (elemA msv (k * 4)))), qe (.agg #[ii ((ms.getD k (0, 0, false, [])).1), ii ((ms.getD k (0, 0, false, [])).2.1), .bool ((ms.getD k (0, 0, false, [])).2.2.1), a1])]) (ownL []) mixed rfl rfl (by kernel_rfl) ?_ ?_
  ·refine pD (fun W R z9 => ?_) ?_
   ·refine qj (qq [arv] qI qw rfl rfl (Rd.ownN [_] rfl rfl) ?_)
    exact ⟨rfl, rfl, rfl⟩
   refine pD (fun W R z9 => ?_) ?_
   ·refine qj (qt (esv) rfl ?_)
    exact ⟨rfl, rfl, rfl⟩
   refine pD (fun W R z9 => ?_) ?_
   ·refine qj (qt (cv) rfl ?_)
    exact ⟨rfl, rfl, rfl⟩
   refine pD (fun W R z9 => ?_) ?_
   ·refine qj (ql (1) jE rfl sizeOf94 (by decide) rfl rfl ?_)
    exact ⟨rfl, rfl, rfl⟩
   refine pD (fun W R z9 => ?_) ?_
   ·rw [eS (l := [(3, _)]) ⟨z9 3 rfl, ⟨⟩⟩]
    refine qj (qk isAgg94 rfl (Rd.own [] rfl rfl) ?_)
    exact ⟨rfl, rfl, rfl⟩
   refine pD (fun W R z9 => ?_) ?_
   ·refine qj (qt (ii ((k : Int))) rfl ?_)
    exact ⟨rfl, rfl, rfl⟩
   refine pD (fun W R z9 => ?_) ?_
   ·rw [eS (l := [(4, _), (5, _)]) ⟨z9 4 rfl, z9 5 rfl, ⟨⟩⟩]
    refine qj (qD k yc sizeOf105 rfl rfl rfl hms.slv (by omega) rfl ?_)
    exact ⟨rfl, rfl, rfl⟩
   refine pD (fun W R z9 => ?_) ?_
   ·rw [eS (l := [(6, _)]) ⟨z9 6 rfl, ⟨⟩⟩]
    refine qj (qq [ii ((ms.getD k (0, 0, false, [])).1), ii ((ms.getD k (0, 0, false, [])).2.1), .bool ((ms.getD k (0, 0, false, [])).2.2.1), a1] isAgg105 sizeOf105 rfl rfl (Rd.all (hrg1 _)) ?_)
    exact ⟨rfl, rfl, rfl⟩
   exact stepsP.nil
  intro W hphi
  rw [eS (l := [(0, _), (1, _), (2, _), (7, _)]) ⟨(hphi 0 (by decide)), (hphi 1 (by decide)), (hphi 2 (by decide)), (hphi 7 (by decide)), ⟨⟩⟩]
  show XL _ _ _ _ _ _ _ (cellsH b2 [fv, msv] 96 :: cellsH b1 [arv] 36 :: L)
  refine cX (qm (args := [.agg #[arv], esv, cv, .agg #[ii ((ms.getD k (0, 0, false, [])).1), ii ((ms.getD k (0, 0, false, [])).2.1), .bool ((ms.getD k (0, 0, false, [])).2.2.1), a1]]) call137 rfl (l20Move_spec har hes hcv ha1 (heo := (by first | assumption | rfl | omega | simp)) (ho := (by first | assumption | rfl | omega | simp)) (hla := (by first | assumption | rfl | omega | simp)) (hul := (by first | assumption | rfl | omega | simp))) ?_)
  rintro _ _ _ _ ⟨rfl, rfl, rfl⟩
  refine cX (jf rfl (qd ?_))
  refine jw (t := !(moveB ar es cur (((ms.getD k (0, 0, false, [])).1), ((ms.getD k (0, 0, false, [])).2.1), ((ms.getD k (0, 0, false, [])).2.2.1), ((ms.getD k (0, 0, false, [])).2.2.2)))) rfl (fun h5 => ?_) (fun h5 => ?_)
  ·have hmv : moveB ar es cur (ms.getD k (0, 0, false, [])) = false := Bool.not_inj (y := false) h5
   refine qf (qc (qi (.bool (false)) rfl (qd (qu (qo (qL (qo (qo (qL (qo (qs (L' := L) [.bool (false)] (.bool (false)) (.tmp rfl .nil) rfl rF leG1 (sD (sD sR)) ?_)))))))))))
   exact ⟨(vB (by rw [chainOkL, hgo, movesGo_fail (by omega) hmv, Bool.and_false])), rfl, rfl⟩
  have hmv : moveB ar es cur (ms.getD k (0, 0, false, [])) = true := Bool.not_inj (y := true) h5
  refine qA (qc (cX (ql (1) jE rfl sizeOf94 (by decide) rfl rfl (cX (qk isAgg94 rfl (Rd.own [] rfl rfl) (qh (ii ((k : Int))) rfl (cX (qD k yc sizeOf105 rfl rfl rfl hms.slv (by omega) rfl (cX (jT (k * 4 + 3) qY rfl qv (by decide) rfl rfl (cX (qk qS rfl (hrg1 _ 3 _ rfl) (qi (a1) rfl (qd (qc (qh (ii ((k : Int))) rfl ?_))))))))))))))))
  refine cX (qU (((k + 1 : Nat) : Int)) rfl rfl (by omega) (by omega) (qi (ii (((k + 1 : Nat) : Int))) rfl (qd ?_)))
  exact ⟨(k + 1, a1, (ms.getD k (0, 0, false, [])).2.2.2, G1), _, leG1, rF, ⟨rfl, rfl, rfl, rfl, rfl, ⟨⟩⟩, (sC (sC sR)), ⟨rfl, leG1, (ha1), (by (try dsimp only) <;> omega), (moveB_to hmv), (hgo.trans (movesGo_next (by omega) hmv))⟩, (by omega)⟩
 refine jo (qB (qB (qW (qf (qc (qi (.bool (true)) rfl (qd (qu (qs (L' := L) [.bool (true)] (.bool (true)) (.tmp rfl .nil) rfl rF leG1 (sD (sD sR)) ?_)))))))))
 exact ⟨(vB (by rw [chainOkL, hgo, movesGo_end (by omega), heo, hof, decide_eq_true (show ms.length ≤ 60 by omega)]; rfl)), rfl, rfl⟩

/- impl.ChainOk -/
set_option maxRecDepth 20000 in
theorem iChainOk_spec {F : FH} {L : List HP} {arv : Value} {ar : List Int} (har : IntsF F arv ar) {esv : Value} {es : List (List Int × List Int)} (hes : PairsF F esv es) {fv : Value} {f : List Int} (hf : IntsF F fv f) {msv : Value} {ms : List MoveT} (hms : MovesF F msv ms) (hmb : ∀ i, i < ms.length → (ms.getD i (0, 0, false, [])).2.2.2.length ≤ 4000000) :
    Does prog 138 [.agg #[arv], esv, .agg #[fv, msv]] F (L) (fun v F' L' => (.bool (chainOkL ar es f ms) : Value) = v ∧ F = F' ∧ L = L') := by
 refine qH func138 rfl rfl rfl (qf (qc (cX (qZ [arv] rfl rfl ?_))))
 intro b1
 refine cX (qZ [fv, msv] rfl rfl ?_)
 intro b2
 refine qi (.bool (false)) rfl (qd (qf (qf (qc (cX (qq [arv] qI qw rfl rfl (Rd.ownN [_] rfl rfl) (qh (esv) rfl (cX (qm (args := [.agg #[arv], esv]) call133 rfl (EqsOk_spec har hes) ?_)))))))))
 rintro _ _ _ _ ⟨rfl, rfl, rfl⟩
 refine cX (jf rfl (qh (.bool (!(eqsOkL ar es))) rfl ?_))
 by_cases h1 : (!(eqsOkL ar es)) = true
 ·refine qp (t := 14) rfl (vB h1) (qp (t := 14) rfl (vB h1) (qp (t := 14) rfl (vB h1) (qp (t := 14) rfl (vB h1) (qp (t := 14) rfl (vB h1) (cX (qP (.bool (true)) (vB h1) rfl (qh (.bool (true)) rfl (qp (t := 21) rfl rfl (qp (t := 21) rfl rfl (qp (t := 21) rfl rfl ?_))))))))))
  refine qp (t := 21) rfl rfl (cX (qP (.bool (true)) rfl rfl (qd (jC rfl (qf (qc (qi (.bool (false)) rfl (qd (qu (qo (qs (L' := L) [.bool (false)] (.bool (false)) (.tmp rfl .nil) rfl rF rF (sD (sD sR)) ?_)))))))))))
  exact ⟨(vB (by unfold chainOkL; simp_all <;> omega)), rfl, rfl⟩
 rw [Bool.not_eq_true] at h1
 have heo : eqsOkL ar es = true := Bool.not_inj (y := true) h1
 refine qr (t := 14) rfl (vB h1) (qq [arv] qI qw rfl rfl (Rd.ownN [_] rfl rfl) (qr (t := 14) rfl (vB h1) (ql (0) jE rfl qv (by decide) rfl rfl (qr (t := 14) rfl (vB h1) (qk qS rfl (Rd.own [] rfl rfl) (qr (t := 14) rfl (vB h1) (qm (args := [.agg #[arv], fv]) call113 rfl (TermOk_spec har hf) ?_)))))))
 rintro _ _ _ _ ⟨rfl, rfl, rfl⟩
 refine qr (t := 14) rfl (vB h1) (jf rfl (cX (qN (.bool (!(termOk ar f))) (vB h1) rfl (qh (.bool (!(termOk ar f))) rfl ?_))))
 by_cases h2 : (!(termOk ar f)) = true
 ·refine qp (t := 21) rfl (vB h2) (qp (t := 21) rfl (vB h2) (qp (t := 21) rfl (vB h2) (qp (t := 21) rfl (vB h2) (cX (qP (.bool (true)) (vB h2) rfl (qd (jC rfl (qf (qc (qi (.bool (false)) rfl (qd ?_)))))))))))
  refine qu (qo (qs (L' := L) [.bool (false)] (.bool (false)) (.tmp rfl .nil) rfl rF rF (sD (sD sR)) ?_))
  exact ⟨(vB (by unfold chainOkL; simp_all <;> omega)), rfl, rfl⟩
 rw [Bool.not_eq_true] at h2
 have hof : termOk ar f = true := Bool.not_inj (y := true) h2
 refine qr (t := 21) rfl (vB h2) (ql (1) jE rfl sizeOf94 (by decide) rfl rfl (qr (t := 21) rfl (vB h2) (qk isAgg94 rfl (Rd.own [] rfl rfl) (qr (t := 21) rfl (vB h2) (qE yc rfl hms.slv (qr (t := 21) rfl (vB h2) (jH rfl rfl (cX (qN (.bool (decide (((ms.length : Int) : Int) > 60))) (vB h2) rfl (qd ?_))))))))))
 refine qC (p := ((ms.length : Int) : Int) > 60) rfl (fun h3 => ?_) (fun h3 => ?_)
 ·refine qf (qc (qi (.bool (false)) rfl (qd (qu (qo (qs (L' := L) [.bool (false)] (.bool (false)) (.tmp rfl .nil) rfl rF rF (sD (sD sR)) ?_))))))
  exact ⟨(vB (by unfold chainOkL; simp_all <;> omega)), rfl, rfl⟩
 refine qA (qf (qc (cX (ql (0) jE rfl qv (by decide) rfl rfl (cX (qk qS rfl (Rd.own [] rfl rfl) (qi (fv) rfl (qd (qf (qf (qc (cX (ql (1) jE rfl sizeOf94 (by decide) rfl rfl (cX (qk isAgg94 rfl (Rd.own [] rfl rfl) (cX (qE yc rfl hms.slv (qh (ii (0)) rfl (qd (qR ?_))))))))))))))))))))
 refine jy (α := Nat × Value × List Int × FH) (fun xQ => [(1, esv), (3, ptr b1 0), (7, xQ.2.1), (30, msv), (31, ii ((ms.length : Int))), (32, ii (((xQ.1 : Nat) : Int)))]) (fun xQ => cellsH b2 [fv, msv] 96 :: cellsH b1 [arv] 36 :: L) (fun xQ F' => xQ.2.2.2 = F' ∧ F ≤ xQ.2.2.2 ∧ (IntsF xQ.2.2.2 xQ.2.1 xQ.2.2.1) ∧ (xQ.1 ≤ ms.length) ∧ (termOk ar xQ.2.2.1 = true) ∧ (movesGo ar es f ms = movesGo ar es xQ.2.2.1 (ms.drop xQ.1))) (fun xQ => ms.length - xQ.1) (0, fv, f, F) ⟨rfl, rfl, rfl, rfl, rfl, rfl, ⟨⟩⟩ (sC (sC sR)) ⟨rfl, FLe.refl _, (hf), (Nat.zero_le _), (hof), (rfl)⟩ ?_
 rintro ⟨k, cv, cur, G1⟩ rE _ _ ⟨rfl, leG, hcv, hk, hoc, hgo⟩
 show X _ _ _ _ (envs [(1, esv), (3, ptr b1 0), (7, cv), (30, msv), (31, ii ((ms.length : Int))), (32, ii ((k : Int)))] rE) _ (cellsH b2 [fv, msv] 96 :: cellsH b1 [arv] 36 :: L)
 replace leG : F ≤ G1 := leG
 dsimp only at hcv hk hoc hgo
 have hcl := termOk_len hoc
 have hmk := hmb k
 have leG1 := leG
 replace har := har.mono leG1
 replace hes := hes.mono leG1
 replace hms := hms.mono leG1
 refine qf (qc (cX (jh rfl rfl (qd (qf ?_)))))
 refine qC (p := (k : Int) < (ms.length : Int)) rfl (fun h4 => ?_) (fun h4 => ?_)
 ·refine qA (qf (qR (qf (qc (cX (qD k yc sizeOf105 rfl rfl rfl hms.slv (by omega) rfl ?_))))))
  obtain ⟨a1, ha1, hrg1, hq1⟩ := hms.rd (i := k) (by omega)
  refine cX (qq [ii ((ms.getD k (0, 0, false, [])).1), ii ((ms.getD k (0, 0, false, [])).2.1), .bool ((ms.getD k (0, 0, false, [])).2.2.1), a1] isAgg105 sizeOf105 rfl rfl (Rd.all (hrg1 _)) (cX (ji [ii (0), ii (0), .bool (false), sN] zeroValue105 rfl ?_)))
  intro b3
  refine cX (qK [] _ [ii ((ms.getD k (0, 0, false, [])).1), ii ((ms.getD k (0, 0, false, [])).2.1), .bool ((ms.getD k (0, 0, false, [])).2.2.1), a1] sizeOf105 rfl rfl rfl (qx rfl (qx rfl (qx rfl (qx (qJ (qG ha1)) qQ)))) rfl rfl rfl (qd (qf (qf (qc (cX (qq [arv] qI qw rfl rfl (Rd.ownN [_, _] rfl rfl) (qh (esv) rfl (qh (cv) rfl (cX (qq [ii ((ms.getD k (0, 0, false, [])).1), ii ((ms.getD k (0, 0, false, [])).2.1), .bool ((ms.getD k (0, 0, false, [])).2.2.1), a1] isAgg105 sizeOf105 rfl rfl (Rd.ownN [] rfl rfl) (cX (qm (args := [.agg #[arv], esv, cv, .agg #[ii ((ms.getD k (0, 0, false, [])).1), ii ((ms.getD k (0, 0, false, [])).2.1), .bool ((ms.getD k (0, 0, false, [])).2.2.1), a1]]) call134 rfl (moveOk_spec har hes hcv ha1 (heo := (by first | assumption | rfl | omega | simp)) (ho := (by first | assumption | rfl | omega | simp))) ?_)))))))))))))
  rintro _ _ _ _ ⟨rfl, rfl, rfl⟩
  refine cX (jf rfl (qd ?_))
  refine jw (t := !(moveB ar es cur (((ms.getD k (0, 0, false, [])).1), ((ms.getD k (0, 0, false, [])).2.1), ((ms.getD k (0, 0, false, [])).2.2.1), ((ms.getD k (0, 0, false, [])).2.2.2)))) rfl (fun h5 => ?_) (fun h5 => ?_)
  ·have hmv : moveB ar es cur (ms.getD k (0, 0, false, [])) = false := Bool.not_inj (y := false) h5
   refine qf (qc (qi (.bool (false)) rfl (qd (qu (qo (qL (qo (qo (qL (qo (qs (L' := L) [.bool (false)] (.bool (false)) (.tmp rfl .nil) rfl rF leG1 (sD (sD (sD sR))) ?_)))))))))))
   exact ⟨(vB (by rw [chainOkL, hgo, movesGo_fail (by omega) hmv, Bool.and_false])), rfl, rfl⟩
  have hmv : moveB ar es cur (ms.getD k (0, 0, false, [])) = true := Bool.not_inj (y := true) h5
  refine qA (qc (cX (ql (3) qY rfl qv (by decide) rfl rfl (cX (qk qS rfl (Rd.own [] rfl rfl) (qi (a1) rfl (qd (qc (cX (qU (((k + 1 : Nat) : Int)) rfl rfl (by omega) (by omega) (qh (ii (((k + 1 : Nat) : Int))) rfl (qd ?_))))))))))))
  exact ⟨(k + 1, a1, (ms.getD k (0, 0, false, [])).2.2.2, G1), _, leG1, rF, ⟨rfl, rfl, rfl, rfl, rfl, rfl, ⟨⟩⟩, (sD (sC (sC sR))), ⟨rfl, leG1, (ha1), (by (try dsimp only) <;> omega), (moveB_to hmv), (hgo.trans (movesGo_next (by omega) hmv))⟩, (by omega)⟩
 refine jo (qB (qB (qW (qf (qc (qi (.bool (true)) rfl (qd (qu (qs (L' := L) [.bool (true)] (.bool (true)) (.tmp rfl .nil) rfl rF leG1 (sD (sD sR)) ?_)))))))))
 exact ⟨(vB (by rw [chainOkL, hgo, movesGo_end (by omega), heo, hof, decide_eq_true (show ms.length ≤ 60 by omega)]; rfl)), rfl, rfl⟩

/- impl.ChainEnd -/
theorem iChainEnd_spec {F : FH} {L : List HP} {arv : Value} {ar : List Int} (har : IntsF F arv ar) {esv : Value} {es : List (List Int × List Int)} (hes : PairsF F esv es) {fv : Value} {f : List Int} (hf : IntsF F fv f) {msv : Value} {ms : List MoveT} (hms : MovesF F msv ms) (hlf : f.length ≤ 4000000) (hmb : ∀ i, i < ms.length → (ms.getD i (0, 0, false, [])).2.2.2.length ≤ 4000000) :
    Does prog 53 [.agg #[arv], esv, .agg #[fv, msv]] F (L) (fun v F' L' => ∃ (a : Value), (a : Value) = v ∧ (IntsF F' a (chainEndF ar es f ms)) ∧ L = L') := by
 refine qH func53 rfl rfl rfl (qf (qc (cX (qZ [arv] rfl rfl ?_))))
 intro b1
 refine cX (qZ [fv, msv] rfl rfl ?_)
 intro b2
 refine qi (sN) rfl (qd (qf (qf (qc (cX (qq [arv] qI qw rfl rfl (Rd.ownN [_] rfl rfl) (qh (esv) rfl (cX (qq [fv, msv] isAgg96 sizeOf96 rfl rfl (Rd.ownN [] rfl rfl) (cX (qm (args := [.agg #[arv], esv, .agg #[fv, msv]]) call138 rfl (iChainOk_spec har hes hf hms (hmb := (by first | assumption | rfl | omega | simp))) ?_)))))))))))
 rintro _ _ _ _ ⟨rfl, rfl, rfl⟩
 refine cX (jf rfl (qd ?_))
 refine jw (t := !(chainOkL ar es f ms)) rfl (fun h1 => ?_) (fun h1 => ?_)
 ·have hco : chainOkL ar es f ms = false := Bool.not_inj (y := false) h1
  refine qf (qc (qi (sN) rfl (qd (qu (qo (qs (L' := L) [sN] (sN) (.tmp rfl .nil) rfl rF rF (sD (sD sR)) ?_))))))
  rw [chainEndF_no hco]
  exact ⟨_, rfl, IntsF.nilV, rfl⟩
 have hco : chainOkL ar es f ms = true := Bool.not_inj (y := true) h1
 have hml : ms.length ≤ 60 := by unfold chainOkL at hco; simp_all
 have hen : (endM f ms).length ≤ 4000000 := by unfold endM; split <;> first | exact hlf | exact hmb _ (by omega)
 refine qA (qf (qc (cX (qq [fv, msv] isAgg96 sizeOf96 rfl rfl (Rd.ownN [] rfl rfl) (cX (qm (args := [.agg #[fv, msv]]) call139 rfl (chainEnd_spec hf hms (hlss := (by first | assumption | rfl | omega | simp))) ?_))))))
 rintro _ _ _ _ ⟨rfl, x1, rfl, hr1, rfl⟩
 refine cX (jG <| qm (args := [x1]) call97 rfl (Clone_spec hr1 (hlt := (by first | assumption | rfl | omega | simp))) ?_)
 rintro v1 _ _ _ ⟨rfl, hs1, rfl⟩
 refine ⟨_, _, rfl, fun F2 le2 hz1 => ?_⟩
 have hf1 : IntsF F2 v1 (((endM f ms))) := intsH.fz (xs := ((endM f ms))) hz1.fz
 refine qi (v1) rfl (qd (qu (qs (L' := L) [v1] (v1) (.tmp rfl .nil) rfl le2 rF (sD (sD sR)) ?_)))
 rw [chainEndF_yes hco]
 exact ⟨_, rfl, hf1, rfl⟩

/- impl.cloneRules -/
set_option maxRecDepth 20000 in
theorem cloneRules_spec {F : FH} {L : List HP} {rsv : Value} {rs : List (List Int × List Int)} (hrs : PairsF F rsv rs) (hlr : rs.length ≤ 4000000) (hrb : ∀ i, i < rs.length → (rs.getD i ([], [])).1.length ≤ 4000000 ∧ (rs.getD i ([], [])).2.length ≤ 4000000) :
    Does prog 132 [rsv] F (L) (fun v F' L' => ∃ (a : Value), (a : Value) = v ∧ (PairsF F' a rs) ∧ L = L') := by
 refine qH func132 rfl rfl rfl (qf (qc (qi (sN) rfl (qd (qf (qc (qi (sN) rfl (qd (qf (qf (qc (qh (rsv) rfl (cX (qE jd rfl hrs.slv (qh (ii (0)) rfl (qd (qR ?_)))))))))))))))))
 refine jy (α := Nat × Value × List (List Int × List Int) × List Value × Nat × FH) (fun xQ => [(3, xQ.2.1), (6, rsv), (7, ii ((rs.length : Int))), (8, ii (((xQ.1 : Nat) : Int)))]) (fun xQ => slH 76 2 xQ.2.1 xQ.2.2.2.2.1 xQ.2.2.2.1 :: L) (fun xQ F' => xQ.2.2.2.2.2 = F' ∧ F ≤ xQ.2.2.2.2.2 ∧ (xQ.1 ≤ rs.length) ∧ (IsSl xQ.2.1) ∧ (PairsC xQ.2.2.2.2.2 xQ.2.2.2.1 xQ.2.2.1) ∧ (xQ.2.2.2.2.1 = xQ.2.2.1.length) ∧ (xQ.2.2.1 = rs.take xQ.1)) (fun xQ => rs.length - xQ.1) (0, sN, [], [], 0, F) ⟨rfl, rfl, rfl, rfl, ⟨⟩⟩ (jx (Sub.addNil 76 2 _ _) (sC sR)) ⟨rfl, FLe.refl _, (Nat.zero_le _), (⟨_, _, _, rfl⟩), (CO.nil), (rfl), (rfl)⟩ ?_
 rintro ⟨k, ov, os, cs, m, G1⟩ rE _ _ ⟨rfl, leG, hk, hov, hC, hm, hos⟩
 show X _ _ _ _ (envs [(3, ov), (6, rsv), (7, ii ((rs.length : Int))), (8, ii ((k : Int)))] rE) _ (slH 76 2 ov m cs :: L)
 replace leG : F ≤ G1 := leG
 dsimp only at hk hov hC hm hos
 have hrk := hrb k
 have hol : os.length = k := by rw [hos, List.length_take]; omega
 have leG1 := leG
 replace hrs := hrs.mono leG1
 refine qf (qc (cX (jh rfl rfl (qd (qf ?_)))))
 refine qC (p := (k : Int) < (rs.length : Int)) rfl (fun h1 => ?_) (fun h1 => ?_)
 ·refine qA (qf (qR (qf (qc (cX (qD k jd jv rfl rfl rfl hrs.slv (by omega) rfl ?_))))))
  obtain ⟨a1, a2, ha1, ha2, hr1, hr2⟩ := hrs.rd (i := k) (by omega)
  refine cX (qq [a1, a2] isAgg76 jv rfl rfl (Rd.two (hr1 _) (hr2 _)) (cX (ji [sN, sN] jn rfl ?_)))
  intro b1
  refine cX (qK [] _ [a1, a2] jv rfl rfl rfl (qx (qJ (qG ha1)) (qx (qJ (qG ha2)) qQ)) rfl rfl rfl (qd ?_))
  refine jM [cellsH b1 [a1, a2] 76, slH 76 2 ov m cs] L 9 [[], [], [], [], [], [], [], [3, 6], [3, 6]] [[], [], [1], [2], [], [4], [5], [3, 6], [3, 6, 7]] [] (phiG [pe ov, pe (ptr b1 0), pe a1, fun FF us v => ((v) : Value) = v ∧ (IntsF FF (v) (((rs.getD k ([], [])).1))), pe (ptr b1 1), pe a2, fun FF us v => ((v) : Value) = v ∧ (IntsF FF (v) (((rs.getD k ([], [])).2))), fun FF us v => v = (.agg #[((us.getD 0 undef)), ((us.getD 1 undef))] : Value), fun FF us v => ∃ b, v = .slice (some ⟨b, 0, none⟩) 1 1]) (ownL [o0, o0, o0, o0, o0, o0, o0, o0, fun us v => [slH 76 2 v 1 [((us.getD 0 undef)), ((us.getD 1 undef))]]]) mixed rfl rfl (by kernel_rfl) (by kernel_rfl) (MonoG.get (m1 (m1 (m1 (mC (fun le h => ⟨h.1, h.2.mono le⟩) (m1 (m1 (mC (fun le h => ⟨h.1, h.2.mono le⟩) (mC (fun le h => h) (mC (fun le h => h) MonoG.nil)))))))))) ?_ ?_
  ·refine gD (fun W Fs R lF z9 => ?_) ?_
   ·refine qj (qt (ov) rfl ?_)
    exact ⟨rfl, rfl⟩
   refine gD (fun W Fs R lF z9 => ?_) ?_
   ·refine qj (ql (0) ja rfl qv (by decide) rfl rfl ?_)
    exact ⟨rfl, rfl⟩
   refine gD (fun W Fs R lF z9 => ?_) ?_
   ·replace hrs := hrs.mono lF
    replace hC := hC.mono lF
    replace ha1 := ha1.mono lF
    replace ha2 := ha2.mono lF
    rw [eS (l := [(1, _)]) ⟨z9 1 rfl, ⟨⟩⟩]
    refine qj (qk qS rfl (Rd.own [] rfl rfl) ?_)
    exact ⟨rfl, rfl⟩
   refine gD (fun W Fs R lF z9 => ?_) ?_
   ·replace hrs := hrs.mono lF
    replace hC := hC.mono lF
    replace ha1 := ha1.mono lF
    replace ha2 := ha2.mono lF
    rw [eS (l := [(2, _)]) ⟨z9 2 rfl, ⟨⟩⟩]
    refine qj (jG <| qm (args := [a1]) call97 rfl (Clone_spec ha1 (hlt := (by first | assumption | rfl | omega | simp))) ?_)
    rintro v4 _ _ _ ⟨rfl, hs3, rfl⟩
    refine ⟨_, _, rfl, fun F1 le1 hz1 => ?_⟩
    replace hrs := hrs.mono le1
    replace hC := hC.mono le1
    replace ha2 := ha2.mono le1
    have hf1 : IntsF F1 v4 ((((rs.getD k ([], [])).1))) := intsH.fz (xs := (((rs.getD k ([], [])).1))) hz1.fz
    exact ⟨⟨rfl, hf1⟩, rfl⟩
   refine gD (fun W Fs R lF z9 => ?_) ?_
   ·refine qj (ql (1) ja rfl qv (by decide) rfl rfl ?_)
    exact ⟨rfl, rfl⟩
   refine gD (fun W Fs R lF z9 => ?_) ?_
   ·replace hrs := hrs.mono lF
    replace hC := hC.mono lF
    replace ha2 := ha2.mono lF
    rw [eS (l := [(4, _)]) ⟨z9 4 rfl, ⟨⟩⟩]
    refine qj (qk qS rfl (Rd.own [] rfl rfl) ?_)
    exact ⟨rfl, rfl⟩
   refine gD (fun W Fs R lF z9 => ?_) ?_
   ·replace hrs := hrs.mono lF
    replace hC := hC.mono lF
    replace ha2 := ha2.mono lF
    rw [eS (l := [(5, _)]) ⟨z9 5 rfl, ⟨⟩⟩]
    refine qj (jG <| qm (args := [a2]) call97 rfl (Clone_spec ha2 (hlt := (by first | assumption | rfl | omega | simp))) ?_)
    rintro v5 _ _ _ ⟨rfl, hs4, rfl⟩
    refine ⟨_, _, rfl, fun F2 le2 hz2 => ?_⟩
    replace hC := hC.mono le2
    have hf2 : IntsF F2 v5 ((((rs.getD k ([], [])).2))) := intsH.fz (xs := (((rs.getD k ([], [])).2))) hz2.fz
    exact ⟨⟨rfl, hf2⟩, rfl⟩
   refine gD (fun W Fs R lF z9 => ?_) ?_
   ·obtain ⟨e3, f3_1ha⟩ := z9 3 rfl
    obtain ⟨e6, f6_1ha⟩ := z9 6 rfl
    replace hC := hC.mono lF
    rw [eS (l := [(3, ((W 3))), (6, ((W 6)))]) ⟨(e3).symm, (e6).symm, ⟨⟩⟩]
    refine qj (jk [((W 3)), ((W 6))] [sN, sN] [(0, 1), (1, 1)] [(0, [((W 3))]), (1, [((W 6))])] ja jn rfl (.cons rfl qv (.cons rfl qv PlacesAre.nil)) rfl (.cons (cells_one (qG f3_1ha)) (.cons (cells_one (qG f6_1ha)) CellsAre.nil)) ?_)
    exact ⟨rfl, rfl⟩
   refine gD (fun W Fs R lF z9 => ?_) ?_
   ·obtain ⟨e3, f3_1ha⟩ := z9 3 rfl
    obtain ⟨e6, f6_1ha⟩ := z9 6 rfl
    have e7 : W 7 = (.agg #[((W 3)), ((W 6))] : Value) := z9 7 rfl
    replace hC := hC.mono lF
    rw [eS (l := [(3, ((W 3))), (6, ((W 6))), (7, (.agg #[((W 3)), ((W 6))]))]) ⟨(e3).symm, (e6).symm, e7, ⟨⟩⟩]
    refine qj (qz (s := 2) [((W 3)), ((W 6))] [sN, sN] [(0, [((W 3)), ((W 6))])] jd jv jn rfl (by decide) rfl (.cons rfl CellsAre.nil) rfl ?_)
    intro v6 hv2
    exact ⟨hv2, rfl⟩
   exact stepsG.nil
  intro W F3 le3 hphi
  obtain ⟨e3, f3_1ha⟩ := hphi 3 (by decide)
  obtain ⟨e6, f6_1ha⟩ := hphi 6 (by decide)
  have e7 : W 7 = (.agg #[((W 3)), ((W 6))] : Value) := hphi 7 (by decide)
  have f8 : ∃ b, (W 8) = .slice (some ⟨b, 0, none⟩) 1 1 := hphi 8 (by decide)
  generalize hu1 : ((W 3)) = u1 at e3 f3_1ha e6 f6_1ha e7 f8
  generalize hu2 : ((W 6)) = u2 at e3 f3_1ha e6 f6_1ha e7 f8
  generalize hu8 : W 8 = u3 at e3 f3_1ha e6 f6_1ha e7 f8
  rw [eS (l := [(0, _), (3, u1), (6, u2), (8, u3)]) ⟨(hphi 0 (by decide)), hu1, hu2, hu8, ⟨⟩⟩]
  replace hC := hC.mono le3
  show XL _ _ _ _ _ _ _ (slH 76 2 u3 1 [u1, u2] :: cellsH b1 [a1, a2] 76 :: slH 76 2 ov m cs :: L)
  refine cX (ye (m := 1) (bytes := 48) (cs := cs) [_, _] _ [u1, u2] jd typeInfo76 rfl rfl rfl rfl rfl rfl rfl (SlV.own [] rfl) rfl (Rd.lit [] rfl) (qx (qJ (qG f3_1ha)) (qx (qJ (qG f6_1ha)) qQ)) (by (try simp only [List.length_append, List.length_nil, List.length_cons, List.length_singleton]); omega) (by (try simp only [List.length_append, List.length_nil, List.length_cons, List.length_singleton]); omega) ?_)
  intro v7 hs5 hn1 hm1
  have hc1 := PairsC.snoc hC f3_1ha f6_1ha
  refine qi (v7) rfl (qd (qc (cX (qU (((k + 1 : Nat) : Int)) rfl rfl (by omega) (by omega) (qh (ii (((k + 1 : Nat) : Int))) rfl (qd ?_))))))
  exact ⟨(k + 1, v7, os ++ [((((rs.getD k ([], [])).1)), (((rs.getD k ([], [])).2)))], cs ++ [u1, u2], (m) + 1, F3), _, (qn leG1 le3), rF, ⟨rfl, rfl, rfl, rfl, ⟨⟩⟩, (sD (sD (sC sR))), ⟨rfl, (qn leG1 le3), (by (try dsimp only) <;> omega), (hs5), (hc1), (by (try dsimp only); rw [List.length_append]; simp only [List.length_singleton]; omega), (by (try dsimp only); rw [take_succ_getD ([], []) (by omega), ← hos])⟩, (by omega)⟩
 refine jo (qB (qB (qW (qf (qc (qh (ov) rfl (qi (ov) rfl (qd (qT [] _ _ rfl (fun F4 le4 hz3 => ?_))))))))))
 replace hC := hC.mono le4
 have hf3 : PairsF F4 ov os := CO.fz hC (by first | rfl | omega | (rw [List.length_set]; omega) | (simp; done)) hz3.fz
 refine qu (qs (L' := L) [ov] (ov) (.tmp rfl .nil) rfl (qn leG1 le4) rF sR ?_)
 have e9 : os = rs := by rw [hos, List.take_of_length_le (by omega)]
 subst e9
 exact ⟨_, rfl, hf3, rfl⟩

/- impl.EqsOf -/
set_option maxRecDepth 20000 in
theorem EqsOf_spec {F : FH} {L : List HP} {arv : Value} {ar : List Int} (har : IntsF F arv ar) {rsv : Value} {rs : List (List Int × List Int)} (hrs : PairsF F rsv rs) (hlr : rs.length ≤ 4000000) (hrb : ∀ i, i < rs.length → (rs.getD i ([], [])).1.length ≤ 4000000 ∧ (rs.getD i ([], [])).2.length ≤ 4000000) :
    Does prog 50 [.agg #[arv, rsv]] F (L) (fun v F' L' => ∃ (a : Value), (a : Value) = v ∧ (PairsF F' a (eqsF ar rs)) ∧ L = L') := by
 refine qH func50 rfl rfl rfl (qf (qc (cX (qZ [arv, rsv] rfl rfl ?_))))
 intro b1
 refine qi (sN) rfl (qd (qf (qf (qc (cX (qq [arv, rsv] jj qX rfl rfl (Rd.ownN [] rfl rfl) (cX (qm (args := [.agg #[arv, rsv]]) call131 rfl (SystemOk_spec har hrs) ?_))))))))
 rintro _ _ _ _ ⟨rfl, rfl, rfl⟩
 refine cX (jf rfl (qd ?_))
 refine jw (t := !(sysOk ar rs)) rfl (fun h1 => ?_) (fun h1 => ?_)
 ·have hsy : sysOk ar rs = false := Bool.not_inj (y := false) h1
  refine qf (qc (qi (sN) rfl (qd (qu (qo (qs (L' := L) [sN] (sN) (.tmp rfl .nil) rfl rF rF (sD sR) ?_))))))
  rw [eqsF_no hsy]
  exact ⟨_, rfl, SlOf.nilV, rfl⟩
 have hsy : sysOk ar rs = true := Bool.not_inj (y := true) h1
 refine qA (qf (qc (qi (sN) rfl (qd (qf (qf (qc (cX (ql (1) qF rfl jz (by decide) rfl rfl (cX (qk ya rfl (Rd.own [] rfl rfl) (cX (qm (args := [rsv]) call132 rfl (cloneRules_spec hrs (hlr := (by first | assumption | rfl | omega | simp)) (hrb := (by first | assumption | rfl | omega | simp))) ?_)))))))))))))
 rintro _ F1 _ le1 ⟨x1, rfl, hr1, rfl⟩
 refine cX (qE jd rfl hr1.slv (qh (ii (0)) rfl (qd (qR (jy (α := Nat × Value × List (List Int × List Int) × List Value × Nat × FH) (fun xQ => [(3, xQ.2.1), (11, x1), (12, ii ((rs.length : Int))), (13, ii (((xQ.1 : Nat) : Int)))]) (fun xQ => slH 168 2 xQ.2.1 xQ.2.2.2.2.1 xQ.2.2.2.1 :: cellsH b1 [arv, rsv] 39 :: L) (fun xQ F' => xQ.2.2.2.2.2 = F' ∧ F1 ≤ xQ.2.2.2.2.2 ∧ (xQ.1 ≤ rs.length) ∧ (IsSl xQ.2.1) ∧ (PairsC xQ.2.2.2.2.2 xQ.2.2.2.1 xQ.2.2.1) ∧ (xQ.2.2.2.2.1 = xQ.2.2.1.length) ∧ (xQ.2.2.1 = rs.take xQ.1)) (fun xQ => rs.length - xQ.1) (0, sN, [], [], 0, F1) ⟨rfl, rfl, rfl, rfl, ⟨⟩⟩ (jx (Sub.addNil 168 2 _ _) (sC (sC sR))) ⟨rfl, FLe.refl _, (Nat.zero_le _), (⟨_, _, _, rfl⟩), (CO.nil), (rfl), (rfl)⟩ ?_)))))
 rintro ⟨k, ov, os, cs, m, G1⟩ rE _ _ ⟨rfl, leG, hk, hov, hC, hm, hos⟩
 show X _ _ _ _ (envs [(3, ov), (11, x1), (12, ii ((rs.length : Int))), (13, ii ((k : Int)))] rE) _ (slH 168 2 ov m cs :: cellsH b1 [arv, rsv] 39 :: L)
 replace leG : F1 ≤ G1 := leG
 dsimp only at hk hov hC hm hos
 have hrk := hrb k
 have hol : os.length = k := by rw [hos, List.length_take]; omega
 have leG1 := leG
 replace hr1 := hr1.mono leG1
 refine qf (qc (cX (jh rfl rfl (qd (qf ?_)))))
 refine qC (p := (k : Int) < (rs.length : Int)) rfl (fun h2 => ?_) (fun h2 => ?_)
 ·refine qA (qf (qR (qf (qc (cX (qD k jd jv rfl rfl rfl hr1.slv (by omega) rfl ?_))))))
  obtain ⟨a1, a2, ha1, ha2, hr2, hr3⟩ := hr1.rd (i := k) (by omega)
  refine cX (qq [a1, a2] isAgg76 jv rfl rfl (Rd.two (hr2 _) (hr3 _)) (cX (ji [sN, sN] jn rfl ?_)))
  intro b2
  refine cX (qK [] _ [a1, a2] jv rfl rfl rfl (qx (qJ (qG ha1)) (qx (qJ (qG ha2)) qQ)) rfl rfl rfl (qd (qc (qh (ov) rfl (cX (ql (0) ja rfl qv (by decide) rfl rfl (cX (qk qS rfl (Rd.own [] rfl rfl) (cX (ql (1) ja rfl qv (by decide) rfl rfl (cX (qk qS rfl (Rd.own [] rfl rfl) (cX (jk [a1, a2] [sN, sN] [(0, 1), (1, 1)] [(0, [a1]), (1, [a2])] jX zeroValue168 rfl (.cons rfl qv (.cons rfl qv PlacesAre.nil)) rfl (.cons (cells_one (qG ha1)) (.cons (cells_one (qG ha2)) CellsAre.nil)) (cX (qz (s := 2) [a1, a2] [sN, sN] [(0, [a1, a2])] jI sizeOf168 zeroValue168 rfl (by decide) rfl (.cons rfl CellsAre.nil) rfl ?_))))))))))))))))
  intro v1 hv1
  refine cX (ye (m := 1) (bytes := 48) (cs := cs) [_, _] _ [a1, a2] jI typeInfo168 rfl rfl rfl rfl rfl rfl rfl (SlV.own [] rfl) rfl (Rd.lit [] rfl) (qx (qJ (qG ha1)) (qx (qJ (qG ha2)) qQ)) (by (try simp only [List.length_append, List.length_nil, List.length_cons, List.length_singleton]); omega) (by (try simp only [List.length_append, List.length_nil, List.length_cons, List.length_singleton]); omega) ?_)
  intro v2 hs1 hn1 hm1
  have hc1 := PairsC.snoc hC ha1 ha2
  refine qi (v2) rfl (qd (qc (cX (qU (((k + 1 : Nat) : Int)) rfl rfl (by omega) (by omega) (qh (ii (((k + 1 : Nat) : Int))) rfl (qd ?_))))))
  exact ⟨(k + 1, v2, os ++ [((rs.getD k ([], [])).1, (rs.getD k ([], [])).2)], cs ++ [a1, a2], (m) + 1, G1), _, leG1, rF, ⟨rfl, rfl, rfl, rfl, ⟨⟩⟩, (sD (sD (sC (sC sR)))), ⟨rfl, leG1, (by (try dsimp only) <;> omega), (hs1), (hc1), (by (try dsimp only); rw [List.length_append]; simp only [List.length_singleton]; omega), (by (try dsimp only); rw [take_succ_getD ([], []) (by omega), ← hos])⟩, (by omega)⟩
 refine jo (qB (qB (qW (qf (qc (qh (ov) rfl (qi (ov) rfl (qd (qT [] _ _ rfl (fun F2 le2 hz1 => ?_))))))))))
 replace hC := hC.mono le2
 have hf1 : PairsF F2 ov os := CO.fz hC (by first | rfl | omega | (rw [List.length_set]; omega) | (simp; done)) hz1.fz
 refine qu (qs (L' := L) [ov] (ov) (.tmp rfl .nil) rfl (qn (qn le1 leG1) le2) rF (sD sR) ?_)
 have e9 : os = rs := by rw [hos, List.take_of_length_le (by omega)]
 rw [eqsF_yes hsy, ← e9]
 exact ⟨_, rfl, hf1, rfl⟩

/- spec.WalkBy -/
set_option maxRecDepth 20000 in
theorem sWalkByH_spec {F : FH} {L : List HP} {arv : Value} {ar : List Int} (har : IntsF F arv ar) {rsv : Value} {rs : List (List Int × List Int)} (hrs : PairsF F rsv rs) {tv : Value} {t : List Int} (ht : IntsF F tv t) {st : Int} {n : Int} (hla : ar.length ≤ 4000000) (hlr : rs.length ≤ 4000000) (hrb : ∀ i, i < rs.length → (rs.getD i ([], [])).1.length ≤ 4000000 ∧ (rs.getD i ([], [])).2.length ≤ 4000000) (hlt : t.length ≤ 4000000) :
    Does prog 228 [.agg #[arv, rsv], tv, ii (st), ii (n)] F (L) (fun v F' L' => ∃ (a : Value), ∃ (b : Value), (.tuple #[.agg #[a, b], .bool ((walkB ar rs t st n).2.2)] : Value) = v ∧ (IntsF F' a (walkB ar rs t st n).1) ∧ (StepsF F' b (walkB ar rs t st n).2.1) ∧ (Fresh F F' (star [intsH 2 a (walkB ar rs t st n).1, stepsD 2 102 b (walkB ar rs t st n).2.1])) ∧ L = L') := by
 refine qH func228 rfl rfl rfl (qf (qc (cX (qZ [arv, rsv] rfl rfl ?_))))
 intro b1
 refine cX (ji [sN, sN] yg rfl ?_)
 intro b2
 refine qi (.bool (false)) rfl (qd (qf (qf (qc (cX (qq [arv, rsv] jj qX rfl rfl (Rd.ownN [_] rfl rfl) (qh (tv) rfl (qh (ii (st)) rfl (cX (qm (args := [.agg #[arv, rsv], tv, ii (st)]) call296 rfl (l8Right_spec (st := st) har hrs ht (hla := (by first | assumption | rfl | omega | simp)) (hlr := (by first | assumption | rfl | omega | simp)) (hrb := (by first | assumption | rfl | omega | simp)) (hlt := (by first | assumption | rfl | omega | simp))) ?_))))))))))
 rintro _ _ _ _ ⟨rfl, rfl, rfl⟩
 refine cX (jf rfl (qh (.bool (!((rightB ar rs t && decide (1 ≤ st ∧ st ≤ 3))))) rfl ?_))
 by_cases h1 : (!((rightB ar rs t && decide (1 ≤ st ∧ st ≤ 3)))) = true
 ·refine qp (t := 22) rfl (vB h1) (qp (t := 22) rfl (vB h1) (qp (t := 22) rfl (vB h1) (cX (qP (.bool (true)) (vB h1) rfl (qd (jC rfl (qf (qc (cX (jk [sN, sN] [sN, sN] [(0, 1), (1, 1)] [] jg yg rfl (.cons rfl qv (.cons rfl jK PlacesAre.nil)) rfl CellsAre.nil (cX (qK [] _ [sN, sN] jq rfl rfl rfl (qx rfl (qx rfl qQ)) rfl rfl rfl (qi (.bool (false)) rfl ?_)))))))))))))
  refine qd (qu (qo (qs (L' := L) [.agg #[sN, sN], .bool (false)] (.tuple #[.agg #[sN, sN], .bool (false)]) (.cell rfl (jt [sN, sN] jN jq rfl (Rd.ownN [] rfl rfl)) (.tmp rfl .nil)) rfl rF rF (sD (sD sR)) ?_)))
  have hw : walkB ar rs t st n = ([], [], false) := walkB_no (by rw [wOk]; cases hx : (rightB ar rs t && decide (1 ≤ st ∧ st ≤ 3)) <;> simp_all <;> (intros; omega))
  exact ⟨_, _, by rw [hw], by rw [hw]; exact IntsF.nilV, by rw [hw]; exact SlOf.nilV, by rw [hw]; exact Fresh.empty nilWalk, rfl⟩
 rw [Bool.not_eq_true] at h1
 have hri : rightB ar rs t = true ∧ (1 ≤ st ∧ st ≤ 3) := by simpa using h1
 have hsys := (right_iff.1 hri.1).1
 have ho := (right_iff.1 hri.1).2
 have htl := termOk_len ho
 refine qr (t := 22) rfl (vB h1) (qt (ii (n)) rfl (qr (t := 22) rfl (vB h1) (qm (args := [ii (n), ii (0), ii (60)]) call110 rfl (l1In_spec (n := n) (a := 0) (b := 60)) ?_)))
 rintro _ _ _ _ ⟨rfl, rfl, rfl⟩
 refine qr (t := 22) rfl (vB h1) (jQ rfl (cX (qN (.bool (decide (¬(0 ≤ n ∧ n ≤ 60)))) (vB h1) rfl (qd ?_))))
 refine qC (p := ¬(0 ≤ n ∧ n ≤ 60)) rfl (fun h2 => ?_) (fun h2 => ?_)
 ·refine qf (qc (cX (jk [sN, sN] [sN, sN] [(0, 1), (1, 1)] [] jg yg rfl (.cons rfl qv (.cons rfl jK PlacesAre.nil)) rfl CellsAre.nil (cX (qK [] _ [sN, sN] jq rfl rfl rfl (qx rfl (qx rfl qQ)) rfl rfl rfl (qi (.bool (false)) rfl (qd (qu (qo (qs (L' := L) [.agg #[sN, sN], .bool (false)] (.tuple #[.agg #[sN, sN], .bool (false)]) (.cell rfl (jt [sN, sN] jN jq rfl (Rd.ownN [] rfl rfl)) (.tmp rfl .nil)) rfl rF rF (sD (sD sR)) ?_))))))))))
  have hw : walkB ar rs t st n = ([], [], false) := walkB_no (by rw [wOk]; cases hx : (rightB ar rs t && decide (1 ≤ st ∧ st ≤ 3)) <;> simp_all <;> (intros; omega))
  exact ⟨_, _, by rw [hw], by rw [hw]; exact IntsF.nilV, by rw [hw]; exact SlOf.nilV, by rw [hw]; exact Fresh.empty nilWalk, rfl⟩
 refine qA (qf (qc (qh (tv) rfl (cX (jG <| qm (args := [tv]) call106 rfl (l1Copy_spec ht (hlt := (by first | omega | (rw [hu2]; have := termOk_len (stepL_ok hsys hoc (by omega) (by omega) hu); simp only [Option.getD_some]; omega)))) ?_)))))
 rintro v1 _ _ _ ⟨rfl, hs1, rfl⟩
 refine ⟨_, _, rfl, fun F1 le1 hz1 => ?_⟩
 replace har := har.mono le1
 replace hrs := hrs.mono le1
 replace ht := ht.mono le1
 have hf1 : IntsF F1 v1 ((t)) := intsH.fz (xs := (t)) hz1.fz
 refine cX (jk [v1, sN] [sN, sN] [(0, 1), (1, 1)] [(0, [v1])] jg yg rfl (.cons rfl qv (.cons rfl jK PlacesAre.nil)) rfl (.cons (cells_one (qG hf1)) CellsAre.nil) (cX (ji [sN, sN] yg rfl ?_)))
 intro b3
 refine cX (qK [] _ [v1, sN] jq rfl rfl rfl (qx (qJ (qG hf1)) (qx rfl qQ)) rfl rfl rfl (qd (qf (qc (qh (tv) rfl (cX (jG <| qm (args := [tv]) call106 rfl (l1Copy_spec ht (hlt := (by first | omega | (rw [hu2]; have := termOk_len (stepL_ok hsys hoc (by omega) (by omega) hu); simp only [Option.getD_some]; omega)))) ?_)))))))
 rintro v2 _ _ _ ⟨rfl, hs2, rfl⟩
 refine ⟨_, _, rfl, fun F2 le2 hz2 => ?_⟩
 replace har := har.mono le2
 replace hrs := hrs.mono le2
 replace hf1 := hf1.mono le2
 have hf2 : IntsF F2 v2 ((t)) := intsH.fz (xs := (t)) hz2.fz
 refine qi (v2) rfl (qd (qf (qR (jy (α := Value × List Int × Value × List StepT × List Value × List HP × Nat × FH) (fun xQ => [(2, ii (st)), (3, ii (n)), (4, ptr b1 0), (8, ptr b2 0), (10, ptr b3 0), (11, xQ.1)]) (fun xQ => slH 102 3 xQ.2.2.1 xQ.2.2.2.2.2.2.1 xQ.2.2.2.2.1 :: cellsH b3 [v1, xQ.2.2.1] 45 :: cellsH b2 [sN, sN] 45 :: cellsH b1 [arv, rsv] 39 :: L) (fun xQ F' => xQ.2.2.2.2.2.2.2 = F' ∧ F2 ≤ xQ.2.2.2.2.2.2.2 ∧ (IntsF xQ.2.2.2.2.2.2.2 xQ.1 xQ.2.1) ∧ (termOk ar xQ.2.1 = true) ∧ (IsSl xQ.2.2.1) ∧ (StepsC xQ.2.2.2.2.2.2.2 xQ.2.2.2.2.1 xQ.2.2.2.1) ∧ (xQ.2.2.2.2.2.2.1 = xQ.2.2.2.1.length) ∧ (DeepL 3 (StepO 2) xQ.2.2.2.2.1 xQ.2.2.2.1 xQ.2.2.2.2.2.1) ∧ (Fresh F2 xQ.2.2.2.2.2.2.2 (star xQ.2.2.2.2.2.1)) ∧ (xQ.2.2.2.1.length ≤ n.toNat) ∧ ((walkGo ar rs st n.toNat t).1 = xQ.2.2.2.1 ++ (walkGo ar rs st (n.toNat - xQ.2.2.2.1.length) xQ.2.1).1) ∧ ((walkGo ar rs st n.toNat t).2 = (walkGo ar rs st (n.toNat - xQ.2.2.2.1.length) xQ.2.1).2)) (fun xQ => n.toNat - xQ.2.2.2.1.length) (v2, t, sN, [], [], [], 0, F2) ⟨rfl, rfl, rfl, rfl, rfl, rfl, ⟨⟩⟩ (jx (Sub.addNil 102 3 _ _) (sC (sC (sC (sC sR))))) ⟨rfl, FLe.refl _, (hf2), (ho), (⟨_, _, _, rfl⟩), (CO.nil), (rfl), (DeepL.nil), (Fresh.nilL), (by simp), (rfl), (rfl)⟩ ?_))))
 rintro ⟨cv, cur, sv, ss, cs, Ls, m, G1⟩ rE _ _ ⟨rfl, leG, hcv, hoc, hsv, hC, hm, hD, hZ, hln, hwa, hwb⟩
 show X _ _ _ _ (envs [(2, ii (st)), (3, ii (n)), (4, ptr b1 0), (8, ptr b2 0), (10, ptr b3 0), (11, cv)] rE) _ (slH 102 3 sv m cs :: cellsH b3 [v1, sv] 45 :: cellsH b2 [sN, sN] 45 :: cellsH b1 [arv, rsv] 39 :: L)
 replace leG : F2 ≤ G1 := leG
 dsimp only at hcv hoc hsv hC hm hD hZ hln hwa hwb
 have hcl := termOk_len hoc
 have leG1 := leG
 replace har := har.mono leG1
 replace hrs := hrs.mono leG1
 replace hf1 := hf1.mono leG1
 refine qf (qf (qc (cX (ql (1) jg rfl jK (by decide) rfl rfl (cX (qk isAgg43 rfl (Rd.own [_] rfl rfl) (cX (qE ju rfl (SlV.own [] rfl) (qh (ii (n)) rfl (cX (jh rfl rfl (qd ?_))))))))))))
 refine qC (p := (m : Int) < n) rfl (fun h3 => ?_) (fun h3 => ?_)
 ·refine qA (qR (qf (qc (cX (qq [arv, rsv] jj qX rfl rfl (Rd.ownN [_, _, _] rfl rfl) (qh (cv) rfl (qh (ii (st)) rfl (cX (qm (args := [.agg #[arv, rsv], cv, ii (st)]) call297 rfl (sPickBy_spec (st := st) har hrs hcv (hla := (by first | assumption | rfl | omega | simp)) (hlr := (by first | assumption | rfl | omega | simp)) (hrb := (by first | assumption | rfl | omega | simp)) (hlt := (by first | assumption | rfl | omega | simp))) ?_)))))))))
  rintro _ _ _ _ ⟨rfl, rfl, rfl⟩
  refine qh (.tuple #[ii (pickAt ar rs cur st), ii (pickRule ar rs cur st), .bool (pickB ar rs cur st)]) rfl (cX (qM (ii (pickAt ar rs cur st)) rfl rfl (cX (qM (ii (pickRule ar rs cur st)) rfl rfl (cX (qM (.bool (pickB ar rs cur st)) rfl rfl (qi (ii (pickAt ar rs cur st)) rfl (qi (ii (pickRule ar rs cur st)) rfl (qi (.bool (pickB ar rs cur st)) rfl (qd (qf (qf (qc (qh (.bool (pickB ar rs cur st)) rfl (cX (jf rfl ?_))))))))))))))))
  refine qd ?_
  refine jw (t := !(pickB ar rs cur st)) rfl (fun h4 => ?_) (fun h4 => ?_)
  ·have hpb : pickB ar rs cur st = false := by simpa using h4
   have he : redL ar rs cur = [] := Classical.byContradiction (fun hne => by rw [pickB_iff.2 ⟨right_iff.2 ⟨hsys, hoc⟩, hri.2, hne⟩] at hpb; cases hpb)
   have hend : walkGo ar rs st (n.toNat - ss.length) cur = ([], normalL ar rs cur) := by rw [walk_nil he, normalL, decide_eq_true he]
   refine jo (qB (blockQ_other (by decide) (qB (qW (qf ?_)))))
   refine jY [slH 102 3 sv m cs, cellsH b3 [v1, sv] 45, cellsH b2 [sN, sN] 45, cellsH b1 [arv, rsv] 39] L 4 [] [[], [], [], [1, 2]] (phiL [qe (.agg #[v1, sv]), qe (.agg #[arv, rsv]), qe cv, qe (.bool ((rightB ar rs cur && normalL ar rs cur)))]) (ownL []) mixed rfl rfl (by kernel_rfl) ?_ ?_
   ·refine pD (fun W R z9 => ?_) ?_
    ·refine qj (qq [v1, sv] jN jq rfl rfl (Rd.ownN [_] rfl rfl) ?_)
     exact ⟨rfl, rfl, rfl⟩
    refine pD (fun W R z9 => ?_) ?_
    ·refine qj (qq [arv, rsv] jj qX rfl rfl (Rd.ownN [_, _, _] rfl rfl) ?_)
     exact ⟨rfl, rfl, rfl⟩
    refine pD (fun W R z9 => ?_) ?_
    ·refine qj (qt (cv) rfl ?_)
     exact ⟨rfl, rfl, rfl⟩
    refine pD (fun W R z9 => ?_) ?_
    ·rw [eS (l := [(1, _), (2, _)]) ⟨z9 1 rfl, z9 2 rfl, ⟨⟩⟩]
     refine qj (qm (args := [.agg #[arv, rsv], cv]) call125 rfl (sNormalIn_spec har hrs hcv (hla := (by first | assumption | rfl | omega | simp)) (hlr := (by first | assumption | rfl | omega | simp)) (hrb := (by first | assumption | rfl | omega | simp)) (hlt := (by first | assumption | rfl | omega | simp))) ?_)
     rintro _ _ _ _ ⟨rfl, rfl, rfl⟩
     exact ⟨rfl, rfl, rfl⟩
    exact stepsP.nil
   intro W hphi
   rw [eS (l := [(0, _), (3, _)]) ⟨(hphi 0 (by decide)), (hphi 3 (by decide)), ⟨⟩⟩]
   show XL _ _ _ _ _ _ _ (slH 102 3 sv m cs :: cellsH b3 [v1, sv] 45 :: cellsH b2 [sN, sN] 45 :: cellsH b1 [arv, rsv] 39 :: L)
   refine cX (qK [_, _] _ [v1, sv] jq rfl rfl rfl (qx (qJ (qG hf1)) (qx (qJ hsv) qQ)) rfl rfl rfl (qi (.bool ((rightB ar rs cur && normalL ar rs cur))) rfl (qd (qT [] _ _ rfl (fun F3 le3 hz3 => ?_)))))
   replace har := har.mono le3
   replace hrs := hrs.mono le3
   replace hf1 := hf1.mono le3
   replace hcv := hcv.mono le3
   replace hC := hC.mono le3
   have hf3 : StepsF F3 sv ss := CO.fz hC (by first | rfl | omega | (rw [List.length_set]; omega) | (simp; done)) hz3.fz
   refine qu (qs (L' := L) [.agg #[v1, sv], .bool ((rightB ar rs cur && normalL ar rs cur))] (.tuple #[.agg #[v1, sv], .bool ((rightB ar rs cur && normalL ar rs cur))]) (.cell rfl (jt [v1, sv] jN jq rfl (Rd.ownN [_] rfl rfl)) (.tmp rfl .nil)) rfl (qn (qn (qn le1 le2) leG1) le3) rF (sD (sD (sD sR))) ?_)
   have hw := walkB_yes (ar := ar) (rs := rs) (t := t) (st := st) (n := n) (by rw [wOk]; simp [hri, hri.2]; omega)
   have e : walkGo ar rs st n.toNat t = (ss, normalL ar rs cur) := Prod.ext (by rw [hwa, hend]; simp) (by rw [hwb, hend])
   have hrc : rightB ar rs cur = true := right_iff.2 ⟨hsys, hoc⟩
   exact ⟨_, _, by rw [hw, e, hrc, Bool.true_and], by rw [hw]; exact hf1, by rw [hw, e]; exact hf3, by rw [hw, e]; exact (Fresh.app ((Fresh.one hz1).mono le2) (qn le1 le2) (Fresh.one (Fresh.deep hD hZ leG1 hz3 (by omega) le3)) (qn leG1 le3)), rfl⟩
  have hpb : pickB ar rs cur st = true := by simpa using h4
  have hne := (pickB_iff.1 hpb).2.2
  have hpa : pickAt ar rs cur st = pickL ar rs cur st := by rw [pickAt, if_pos hpb]
  have hpr : pickRule ar rs cur st = ruleAtL ar rs cur (pickL ar rs cur st).toNat := by rw [pickRule, if_pos hpb]
  obtain ⟨q, hq1, hq2, hq3, _⟩ := (pick_spec (ar := ar) (rs := rs) (t := cur) st).resolve_left (fun h => hne h.2)
  have hpn : (pickL ar rs cur st).toNat = q := by omega
  have hrr : 0 ≤ ruleAtL ar rs cur (pickL ar rs cur st).toNat := by rw [hpn]; simpa [hasR] using hq3
  obtain ⟨k, hk1, hk2, _⟩ := (M.ruleAt_spec (ar := ar) (rs := rs) (t := cur) (p := (pickL ar rs cur st).toNat)).resolve_left (by omega)
  refine qA (qf (qc (cX (qq [arv, rsv] jj qX rfl rfl (Rd.ownN [_, _, _] rfl rfl) (qh (cv) rfl (qh (ii (pickAt ar rs cur st)) rfl (qh (ii (pickRule ar rs cur st)) rfl (cX (qm (args := [.agg #[arv, rsv], cv, ii (((pickAt ar rs cur st).toNat : Nat) : Int), ii (((pickRule ar rs cur st).toNat : Nat) : Int)]) call111 (by rw [show (((pickAt ar rs cur st).toNat : Nat) : Int) = pickAt ar rs cur st from by omega, show (((pickRule ar rs cur st).toNat : Nat) : Int) = pickRule ar rs cur st from by omega]; rfl) (l7StepH_spec (p := (pickAt ar rs cur st).toNat) (r := (pickRule ar rs cur st).toNat) har hrs hcv (hsys := (by first | assumption | rfl | omega | simp)) (ho := (by first | assumption | rfl | omega | simp)) (hp := (by first | assumption | rfl | omega | simp)) (hr := (by first | assumption | rfl | omega | simp))) ?_)))))))))
  rintro _ F4 _ le4 ⟨x1, rfl, hr1, hr2, rfl⟩
  replace har := har.mono le4
  replace hrs := hrs.mono le4
  replace hf1 := hf1.mono le4
  replace hcv := hcv.mono le4
  replace hC := hC.mono le4
  refine qh (.tuple #[x1, .bool ((stepL ar rs cur ((pickAt ar rs cur st).toNat) ((pickRule ar rs cur st).toNat)).isSome)]) rfl (cX (qM (x1) rfl rfl (cX (qM (.bool ((stepL ar rs cur ((pickAt ar rs cur st).toNat) ((pickRule ar rs cur st).toNat)).isSome)) rfl rfl (qi (x1) rfl (qi (.bool ((stepL ar rs cur ((pickAt ar rs cur st).toNat) ((pickRule ar rs cur st).toNat)).isSome)) rfl (qd (qf (qf (qc (qh (.bool ((stepL ar rs cur ((pickAt ar rs cur st).toNat) ((pickRule ar rs cur st).toNat)).isSome)) rfl (cX (jf rfl (qd ?_))))))))))))))
  refine jw (t := !((stepL ar rs cur ((pickAt ar rs cur st).toNat) ((pickRule ar rs cur st).toNat)).isSome)) rfl (fun h5 => ?_) (fun h5 => ?_)
  ·have hu : (stepL ar rs cur (pickL ar rs cur st).toNat (ruleAtL ar rs cur (pickL ar rs cur st).toNat).toNat).isSome = false := by rw [← hpr, ← hpa]; simpa using h5
   have hend : walkGo ar rs st (n.toNat - ss.length) cur = ([], normalL ar rs cur) := by rw [walk_stuck (by omega) hne hu, normalL, decide_eq_false hne]
   refine jo (qB (blockQ_other (by decide) (qB (qW (qf ?_)))))
   refine jY [slH 102 3 sv m cs, cellsH b3 [v1, sv] 45, cellsH b2 [sN, sN] 45, cellsH b1 [arv, rsv] 39] L 4 [] [[], [], [], [1, 2]] (phiL [qe (.agg #[v1, sv]), qe (.agg #[arv, rsv]), qe cv, qe (.bool ((rightB ar rs cur && normalL ar rs cur)))]) (ownL []) mixed rfl rfl (by kernel_rfl) ?_ ?_
   ·refine pD (fun W R z9 => ?_) ?_
    ·refine qj (qq [v1, sv] jN jq rfl rfl (Rd.ownN [_] rfl rfl) ?_)
     exact ⟨rfl, rfl, rfl⟩
    refine pD (fun W R z9 => ?_) ?_
    ·refine qj (qq [arv, rsv] jj qX rfl rfl (Rd.ownN [_, _, _] rfl rfl) ?_)
     exact ⟨rfl, rfl, rfl⟩
    refine pD (fun W R z9 => ?_) ?_
    ·refine qj (qt (cv) rfl ?_)
     exact ⟨rfl, rfl, rfl⟩
    refine pD (fun W R z9 => ?_) ?_
    ·rw [eS (l := [(1, _), (2, _)]) ⟨z9 1 rfl, z9 2 rfl, ⟨⟩⟩]
     refine qj (qm (args := [.agg #[arv, rsv], cv]) call125 rfl (sNormalIn_spec har hrs hcv (hla := (by first | assumption | rfl | omega | simp)) (hlr := (by first | assumption | rfl | omega | simp)) (hrb := (by first | assumption | rfl | omega | simp)) (hlt := (by first | assumption | rfl | omega | simp))) ?_)
     rintro _ _ _ _ ⟨rfl, rfl, rfl⟩
     exact ⟨rfl, rfl, rfl⟩
    exact stepsP.nil
   intro W hphi
   rw [eS (l := [(0, _), (3, _)]) ⟨(hphi 0 (by decide)), (hphi 3 (by decide)), ⟨⟩⟩]
   show XL _ _ _ _ _ _ _ (slH 102 3 sv m cs :: cellsH b3 [v1, sv] 45 :: cellsH b2 [sN, sN] 45 :: cellsH b1 [arv, rsv] 39 :: L)
   refine cX (qK [_, _] _ [v1, sv] jq rfl rfl rfl (qx (qJ (qG hf1)) (qx (qJ hsv) qQ)) rfl rfl rfl (qi (.bool ((rightB ar rs cur && normalL ar rs cur))) rfl (qd (qT [] _ _ rfl (fun F5 le5 hz4 => ?_)))))
   replace har := har.mono le5
   replace hrs := hrs.mono le5
   replace hf1 := hf1.mono le5
   replace hcv := hcv.mono le5
   replace hC := hC.mono le5
   replace hr1 := hr1.mono le5
   have hf4 : StepsF F5 sv ss := CO.fz hC (by first | rfl | omega | (rw [List.length_set]; omega) | (simp; done)) hz4.fz
   refine qu (qs (L' := L) [.agg #[v1, sv], .bool ((rightB ar rs cur && normalL ar rs cur))] (.tuple #[.agg #[v1, sv], .bool ((rightB ar rs cur && normalL ar rs cur))]) (.cell rfl (jt [v1, sv] jN jq rfl (Rd.ownN [_] rfl rfl)) (.tmp rfl .nil)) rfl (qn (qn (qn (qn le1 le2) leG1) le4) le5) rF (sD (sD (sD sR))) ?_)
   have hw := walkB_yes (ar := ar) (rs := rs) (t := t) (st := st) (n := n) (by rw [wOk]; simp [hri, hri.2]; omega)
   have e : walkGo ar rs st n.toNat t = (ss, normalL ar rs cur) := Prod.ext (by rw [hwa, hend]; simp) (by rw [hwb, hend])
   have hrc : rightB ar rs cur = true := right_iff.2 ⟨hsys, hoc⟩
   exact ⟨_, _, by rw [hw, e, hrc, Bool.true_and], by rw [hw]; exact hf1, by rw [hw, e]; exact hf4, by rw [hw, e]; exact (Fresh.app ((Fresh.one hz1).mono le2) (qn le1 le2) (Fresh.one (Fresh.deep hD (hZ.mono le4) (qn leG1 le4) hz4 (by omega) le5)) (qn (qn leG1 le4) le5)), rfl⟩
  obtain ⟨u, hu⟩ := Option.isSome_iff_exists.1 (show (stepL ar rs cur (pickL ar rs cur st).toNat (ruleAtL ar rs cur (pickL ar rs cur st).toNat).toNat).isSome = true from by rw [← hpr, ← hpa]; simpa using h5)
  have hu2 : stepL ar rs cur (pickAt ar rs cur st).toNat (pickRule ar rs cur st).toNat = some u := by rw [hpa, hpr]; exact hu
  refine qA (qf (qc (cX (ql (1) jg rfl jK (by decide) rfl rfl (cX (qk isAgg43 rfl (Rd.own [_] rfl rfl) (qh (ii (pickAt ar rs cur st)) rfl (qh (ii (pickRule ar rs cur st)) rfl (qh (x1) rfl (cX (jk [ii (pickAt ar rs cur st), ii (pickRule ar rs cur st), x1] [ii (0), ii (0), sN] [(0, 1), (1, 1), (2, 1)] [(0, [ii (pickAt ar rs cur st)]), (1, [ii (pickRule ar rs cur st)]), (2, [x1])] jA zeroValue102 rfl (.cons rfl qy (.cons rfl qy (.cons rfl qv PlacesAre.nil))) rfl (.cons rfl (.cons rfl (.cons (cells_one (qG hr1)) CellsAre.nil))) (cX (qz (s := 3) [ii (pickAt ar rs cur st), ii (pickRule ar rs cur st), x1] [ii (0), ii (0), sN] [(0, [ii (pickAt ar rs cur st), ii (pickRule ar rs cur st), x1])] ju yh zeroValue102 rfl (by decide) rfl (.cons rfl CellsAre.nil) rfl ?_)))))))))))))
  intro v3 hv1
  refine cX (ye (m := 1) (bytes := 40) (cs := cs) [_] _ [ii (pickAt ar rs cur st), ii (pickRule ar rs cur st), x1] ju typeInfo102 rfl rfl rfl rfl rfl rfl rfl (SlV.own [] rfl) rfl (Rd.lit [] rfl) (qx rfl (qx rfl (qx (qJ (qG hr1)) qQ))) (by (try simp only [List.length_append, List.length_nil, List.length_cons, List.length_singleton]); omega) (by (try simp only [List.length_append, List.length_nil, List.length_cons, List.length_singleton]); omega) ?_)
  intro v4 hs3 hn1 hm1
  have hc1 := StepsC.snoc hC (i := pickAt ar rs cur st) (j := pickRule ar rs cur st) hr1
  refine cX (ql (1) jg rfl jK (by decide) rfl rfl (cX (jJ [_, _] _ [v1, v4] jK rfl rfl (qJ hs3) rfl rfl rfl (qd (qc (qh (x1) rfl (cX (jG <| qm (args := [x1]) call106 rfl (l1Copy_spec hr1 (hlt := (by first | omega | (rw [hu2]; have := termOk_len (stepL_ok hsys hoc (by omega) (by omega) hu); simp only [Option.getD_some]; omega)))) ?_))))))))
  rintro v5 _ _ _ ⟨rfl, hs4, rfl⟩
  refine ⟨_, _, rfl, fun F6 le6 hz5 => ?_⟩
  replace har := har.mono le6
  replace hrs := hrs.mono le6
  replace hf1 := hf1.mono le6
  replace hcv := hcv.mono le6
  replace hC := hC.mono le6
  replace hc1 := hc1.mono le6
  have hf5 : IntsF F6 v5 ((((stepL ar rs cur ((pickAt ar rs cur st).toNat) ((pickRule ar rs cur st).toNat)).getD []))) := intsH.fz (xs := (((stepL ar rs cur ((pickAt ar rs cur st).toNat) ((pickRule ar rs cur st).toNat)).getD []))) hz5.fz
  refine qi (v5) rfl (qd ?_)
  exact ⟨(v5, (((stepL ar rs cur ((pickAt ar rs cur st).toNat) ((pickRule ar rs cur st).toNat)).getD [])), v4, ss ++ [(pickAt ar rs cur st, pickRule ar rs cur st, (stepL ar rs cur ((pickAt ar rs cur st).toNat) ((pickRule ar rs cur st).toNat)).getD [])], cs ++ [ii (pickAt ar rs cur st), ii (pickRule ar rs cur st), x1], Ls ++ [intsH 2 x1 ((stepL ar rs cur ((pickAt ar rs cur st).toNat) ((pickRule ar rs cur st).toNat)).getD [])], (m) + 1, F6), _, (qn (qn leG1 le4) le6), rF, ⟨rfl, rfl, rfl, rfl, rfl, rfl, ⟨⟩⟩, (sD (sC (sC (sC (sC sR))))), ⟨rfl, (qn (qn leG1 le4) le6), (hf5), (by dsimp only; rw [hu2]; exact stepL_ok hsys hoc (by omega) (by omega) hu), (hs3), (hc1), (by (try dsimp only); rw [List.length_append]; simp only [List.length_singleton]; omega), (DeepL.snoc hD rfl ⟨_, rfl, rfl⟩), (((Fresh.app hZ leG1 (Fresh.one hr2) le4).mono le6)), (by dsimp only; rw [List.length_append]; simp only [List.length_singleton]; omega), (by dsimp only; rw [hwa, walk_next (m := n.toNat - ss.length) (by omega) hne hu, hu2, hpa, hpr]; simp only [Option.getD_some, List.length_append, List.length_singleton, List.append_assoc, List.singleton_append]; rw [show n.toNat - ss.length - 1 = n.toNat - (ss.length + 1) from by omega]), (by dsimp only; rw [hwb, walk_next (m := n.toNat - ss.length) (by omega) hne hu, hu2]; simp only [Option.getD_some, List.length_append, List.length_singleton]; rw [show n.toNat - ss.length - 1 = n.toNat - (ss.length + 1) from by omega])⟩, (by dsimp only; rw [List.length_append]; simp only [List.length_singleton]; omega)⟩
 have hend : walkGo ar rs st (n.toNat - ss.length) cur = ([], normalL ar rs cur) := by rw [show n.toNat - ss.length = 0 from by omega]; rfl
 refine jo (qB (qB (qW (qf ?_))))
 refine jY [slH 102 3 sv m cs, cellsH b3 [v1, sv] 45, cellsH b2 [sN, sN] 45, cellsH b1 [arv, rsv] 39] L 4 [] [[], [], [], [1, 2]] (phiL [qe (.agg #[v1, sv]), qe (.agg #[arv, rsv]), qe cv, qe (.bool ((rightB ar rs cur && normalL ar rs cur)))]) (ownL []) mixed rfl rfl (by kernel_rfl) ?_ ?_
 ·refine pD (fun W R z9 => ?_) ?_
  ·refine qj (qq [v1, sv] jN jq rfl rfl (Rd.ownN [_] rfl rfl) ?_)
   exact ⟨rfl, rfl, rfl⟩
  refine pD (fun W R z9 => ?_) ?_
  ·refine qj (qq [arv, rsv] jj qX rfl rfl (Rd.ownN [_, _, _] rfl rfl) ?_)
   exact ⟨rfl, rfl, rfl⟩
  refine pD (fun W R z9 => ?_) ?_
  ·refine qj (qt (cv) rfl ?_)
   exact ⟨rfl, rfl, rfl⟩
  refine pD (fun W R z9 => ?_) ?_
  ·rw [eS (l := [(1, _), (2, _)]) ⟨z9 1 rfl, z9 2 rfl, ⟨⟩⟩]
   refine qj (qm (args := [.agg #[arv, rsv], cv]) call125 rfl (sNormalIn_spec har hrs hcv (hla := (by first | assumption | rfl | omega | simp)) (hlr := (by first | assumption | rfl | omega | simp)) (hrb := (by first | assumption | rfl | omega | simp)) (hlt := (by first | assumption | rfl | omega | simp))) ?_)
   rintro _ _ _ _ ⟨rfl, rfl, rfl⟩
   exact ⟨rfl, rfl, rfl⟩
  exact stepsP.nil
 intro W hphi
 rw [eS (l := [(0, _), (3, _)]) ⟨(hphi 0 (by decide)), (hphi 3 (by decide)), ⟨⟩⟩]
 show XL _ _ _ _ _ _ _ (slH 102 3 sv m cs :: cellsH b3 [v1, sv] 45 :: cellsH b2 [sN, sN] 45 :: cellsH b1 [arv, rsv] 39 :: L)
 refine cX (qK [_, _] _ [v1, sv] jq rfl rfl rfl (qx (qJ (qG hf1)) (qx (qJ hsv) qQ)) rfl rfl rfl (qi (.bool ((rightB ar rs cur && normalL ar rs cur))) rfl (qd (qT [] _ _ rfl (fun F7 le7 hz6 => ?_)))))
 replace hf1 := hf1.mono le7
 replace hC := hC.mono le7
 have hf6 : StepsF F7 sv ss := CO.fz hC (by first | rfl | omega | (rw [List.length_set]; omega) | (simp; done)) hz6.fz
 refine qu (qs (L' := L) [.agg #[v1, sv], .bool ((rightB ar rs cur && normalL ar rs cur))] (.tuple #[.agg #[v1, sv], .bool ((rightB ar rs cur && normalL ar rs cur))]) (.cell rfl (jt [v1, sv] jN jq rfl (Rd.ownN [_] rfl rfl)) (.tmp rfl .nil)) rfl (qn (qn (qn le1 le2) leG1) le7) rF (sD (sD (sD sR))) ?_)
 have hw := walkB_yes (ar := ar) (rs := rs) (t := t) (st := st) (n := n) (by rw [wOk]; simp [hri, hri.2]; omega)
 have e : walkGo ar rs st n.toNat t = (ss, normalL ar rs cur) := Prod.ext (by rw [hwa, hend]; simp) (by rw [hwb, hend])
 have hrc : rightB ar rs cur = true := right_iff.2 ⟨hsys, hoc⟩
 exact ⟨_, _, by rw [hw, e, hrc, Bool.true_and], by rw [hw]; exact hf1, by rw [hw, e]; exact hf6, by rw [hw, e]; exact (Fresh.app ((Fresh.one hz1).mono le2) (qn le1 le2) (Fresh.one (Fresh.deep hD hZ leG1 hz6 (by omega) le7)) (qn leG1 le7)), rfl⟩

/- spec.l20DrawWalk -/
set_option maxHeartbeats 1000000 in
set_option maxRecDepth 20000 in
theorem l20DrawWalk_spec {F : FH} {L : List HP} {cb : Nat} {bsv : Value} {bs : List Int} (hbs : BytesF F bsv bs) (hbl : bs.length ≤ 4000000) {arv : Value} {ar : List Int} (har : IntsF F arv ar) {rsv : Value} {rs : List (List Int × List Int)} (hrs : PairsF F rsv rs) (hsm : smallS ar rs) :
    Does prog 129 [ptr cb 0, .agg #[arv, rsv]] F (curH .i64 231 cb bsv bs.length :: L) (fun v F' L' => (∃ (a : Value), ∃ (b : Value), (.agg #[a, b] : Value) = v ∧ (SomesF F' a (fun f => f.length ≤ 2000)) ∧ (SomeStepsF F' b (fun xs => xs.length ≤ 60 ∧ smallT xs))) ∧ curH .i64 231 cb bsv bs.length :: L = L') := by
 refine qH func129 rfl rfl rfl ?_
 have hla := hsm.la
 have hlr := hsm.lr
 have hrb := hsm.each
 refine qf (qc (cX (qZ [arv, rsv] rfl rfl ?_)))
 intro b1
 refine cX (ji [sN, sN] yg rfl ?_)
 intro b2
 refine qd (qf (qc (qh (ptr cb 0) rfl (cX (qq [arv, rsv] jj qX rfl rfl (Rd.ownN [_] rfl rfl) (cX (qm (args := [ptr cb 0, .agg #[arv, rsv]]) call216 rfl (jl [_, _] (l7DrawTerm_spec hbs (by omega) har hrs (hsm := (by first | assumption | rfl | omega | simp)))) ?_)))))))
 rintro _ F1 _ le1 ⟨⟨x1, rfl, hr1⟩, rfl⟩
 obtain ⟨t1, hr1, q1⟩ := hr1
 replace hbs := hbs.mono le1
 replace har := har.mono le1
 replace hrs := hrs.mono le1
 show XL _ _ _ _ _ _ _ (cellsH b2 [sN, sN] 45 :: cellsH b1 [arv, rsv] 39 :: curH .i64 231 cb bsv bs.length :: L)
 refine qi (x1) rfl (qd (qf ?_))
 refine jM [cellsH b2 [sN, sN] 45, cellsH b1 [arv, rsv] 39, curH .i64 231 cb bsv bs.length] L 13 [[], [], [], [], [3], [], [], [3, 6], [3, 6, 7], [7], [3, 6], [], [7, 11]] [[], [], [], [2], [3], [], [5], [0, 1, 3, 4, 6], [3, 6, 7], [3, 6, 7, 8], [3, 6, 7, 8], [], [3, 6, 7, 9, 11]] [[], [], [], [], [], [], [], [], [], [], [], [], [11]] (phiG [pe (.agg #[arv, rsv]), pe x1, pe (ptr cb 0), fun FF us v => (ii (((intAt v))) : Value) = v ∧ (0 ≤ ((intAt v)) ∧ (((intAt v)) < 3 ∨ ((intAt v)) = 0)), fun FF us v => v = (ii (1 + (((intAt (us.getD 0 undef))))) : Value), pe (ptr cb 0), fun FF us v => (ii (((intAt v))) : Value) = v ∧ (0 ≤ ((intAt v)) ∧ (((intAt v)) < 8 ∨ ((intAt v)) = 0)), fun FF us v => (.tuple #[.agg #[((aggAt (tupAt v 0) 0)), ((aggAt (tupAt v 0) 1))], .bool ((walkB ar rs t1 (1 + (((intAt (us.getD 0 undef))))) (((intAt (us.getD 1 undef))))).2.2)] : Value) = v ∧ (IsSl ((aggAt (tupAt v 0) 0))) ∧ (IsSl ((aggAt (tupAt v 0) 1))), fun FF us v => v = (.tuple #[.agg #[((aggAt (tupAt (us.getD 2 undef) 0) 0)), ((aggAt (tupAt (us.getD 2 undef) 0) 1))], .bool ((walkB ar rs t1 (1 + (((intAt (us.getD 0 undef))))) (((intAt (us.getD 1 undef))))).2.2)] : Value), fun FF us v => v = (.agg #[((aggAt (tupAt (us.getD 0 undef) 0) 0)), ((aggAt (tupAt (us.getD 0 undef) 0) 1))] : Value), fun FF us v => v = (.bool ((walkB ar rs t1 (1 + (((intAt (us.getD 0 undef))))) (((intAt (us.getD 1 undef))))).2.2) : Value), fun FF us v => v = ptr (blk v) 0, fun FF us v => True]) (ownL [o0, o0, o0, o0, o0, o0, o0, fun us v => [intsH 2 (((aggAt (tupAt v 0) 0))) ((walkB ar rs t1 (1 + (((intAt (us.getD 0 undef))))) (((intAt (us.getD 1 undef))))).1), stepsD 2 102 (((aggAt (tupAt v 0) 1))) ((walkB ar rs t1 (1 + (((intAt (us.getD 0 undef))))) (((intAt (us.getD 1 undef))))).2.1)], o0, o0, o0, fun us v => [cellsH (blk v) [sN, sN] 45], fun us v => [cellsH (blk (us.getD 1 undef)) [((aggAt (tupAt (us.getD 0 undef) 0) 0)), ((aggAt (tupAt (us.getD 0 undef) 0) 1))] 45]]) mixed rfl rfl (by kernel_rfl) (by kernel_rfl) (MonoG.get (m1 (m1 (m1 (mC (fun le h => ⟨h.1, h.2⟩) (mC (fun le h => h) (m1 (mC (fun le h => ⟨h.1, h.2⟩) (mC (fun le h => ⟨h.1, h.2.1, h.2.2⟩) (mC (fun le h => h) (mC (fun le h => h) (mC (fun le h => h) (mC (fun le h => h) (mC (fun le h => h) MonoG.nil)))))))))))))) ?_ ?_
 ·refine gD (fun W Fs R lF z9 => ?_) ?_
  ·replace hbs := hbs.mono lF
   replace har := har.mono lF
   replace hrs := hrs.mono lF
   replace hr1 := hr1.mono lF
   refine qj (qq [arv, rsv] jj qX rfl rfl (Rd.ownN [_] rfl rfl) ?_)
   exact ⟨rfl, rfl⟩
  refine gD (fun W Fs R lF z9 => ?_) ?_
  ·refine qj (qt (x1) rfl ?_)
   exact ⟨rfl, rfl⟩
  refine gD (fun W Fs R lF z9 => ?_) ?_
  ·refine qj (qt (ptr cb 0) rfl ?_)
   exact ⟨rfl, rfl⟩
  refine gD (fun W Fs R lF z9 => ?_) ?_
  ·replace hbs := hbs.mono lF
   replace har := har.mono lF
   replace hrs := hrs.mono lF
   replace hr1 := hr1.mono lF
   rw [eS (l := [(2, _)]) ⟨z9 2 rfl, ⟨⟩⟩]
   refine qj (qm (args := [ptr cb 0, ii (3)]) jP rfl (jl [_, _] (l1Below_spec (n := 3) hbs (by omega) (hn := (by first | assumption | rfl | omega | simp)))) ?_)
   rintro _ _ _ _ ⟨⟨rfl, x6, rfl, hr7⟩, rfl⟩
   exact ⟨⟨rfl, hr7⟩, rfl⟩
  refine gD (fun W Fs R lF z9 => ?_) ?_
  ·obtain ⟨e3, f3_1hx⟩ := z9 3 rfl
   rw [eS (l := [(3, (ii (((intAt (W 3))))))]) ⟨(e3).symm, ⟨⟩⟩]
   refine qj (qU (1 + (((intAt (W 3))))) rfl rfl (by omega) (by omega) ?_)
   exact ⟨rfl, rfl⟩
  refine gD (fun W Fs R lF z9 => ?_) ?_
  ·refine qj (qt (ptr cb 0) rfl ?_)
   exact ⟨rfl, rfl⟩
  refine gD (fun W Fs R lF z9 => ?_) ?_
  ·replace hbs := hbs.mono lF
   replace har := har.mono lF
   replace hrs := hrs.mono lF
   replace hr1 := hr1.mono lF
   rw [eS (l := [(5, _)]) ⟨z9 5 rfl, ⟨⟩⟩]
   refine qj (qm (args := [ptr cb 0, ii (8)]) jP rfl (jl [_, _] (l1Below_spec (n := 8) hbs (by omega) (hn := (by first | assumption | rfl | omega | simp)))) ?_)
   rintro _ _ _ _ ⟨⟨rfl, x7, rfl, hr8⟩, rfl⟩
   exact ⟨⟨rfl, hr8⟩, rfl⟩
  refine gD (fun W Fs R lF z9 => ?_) ?_
  ·obtain ⟨e3, f3_1hx⟩ := z9 3 rfl
   have e4 : W 4 = (ii (1 + (((intAt (W 3))))) : Value) := z9 4 rfl
   obtain ⟨e6, f6_1hx⟩ := z9 6 rfl
   replace hbs := hbs.mono lF
   replace har := har.mono lF
   replace hrs := hrs.mono lF
   replace hr1 := hr1.mono lF
   rw [eS (l := [(0, _), (1, _), (3, (ii (((intAt (W 3)))))), (4, (ii (1 + (((intAt (W 3))))))), (6, (ii (((intAt (W 6))))))]) ⟨z9 0 rfl, z9 1 rfl, (e3).symm, e4, (e6).symm, ⟨⟩⟩]
   refine qj (XOp.thawL (id (qm (args := [.agg #[arv, rsv], x1, ii (1 + (((intAt (W 3))))), ii (((intAt (W 6))))]) call228 rfl (sWalkByH_spec (st := 1 + (((intAt (W 3))))) (n := ((intAt (W 6)))) har hrs hr1 (hla := (by first | assumption | rfl | omega | simp)) (hlr := (by first | assumption | rfl | omega | simp)) (hrb := (by first | assumption | rfl | omega | simp)) (hlt := (by first | assumption | rfl | omega | simp))) ?_)))
   rintro _ F7 _ le7 ⟨x8, x9, rfl, hr9, hr10, hr11, rfl⟩
   refine ⟨[intsH 2 x8 ((walkB ar rs t1 (1 + (((intAt (W 3))))) (((intAt (W 6))))).1), stepsD 2 102 x9 ((walkB ar rs t1 (1 + (((intAt (W 3))))) (((intAt (W 6))))).2.1)], hr11, ?_⟩
   exact ⟨⟨rfl, (qG hr9), (StepsF.isSl hr10)⟩, rfl⟩
  refine gD (fun W Fs R lF z9 => ?_) ?_
  ·obtain ⟨e3, f3_1hx⟩ := z9 3 rfl
   obtain ⟨e6, f6_1hx⟩ := z9 6 rfl
   obtain ⟨e7, f7_1sl0, f7_1sl1⟩ : (.tuple #[.agg #[((aggAt (tupAt (W 7) 0) 0)), ((aggAt (tupAt (W 7) 0) 1))], .bool ((walkB ar rs t1 (1 + (((intAt (W 3))))) (((intAt (W 6))))).2.2)] : Value) = (W 7) ∧ (IsSl ((aggAt (tupAt (W 7) 0) 0))) ∧ (IsSl ((aggAt (tupAt (W 7) 0) 1))) := z9 7 rfl
   rw [eS (l := [(3, (ii (((intAt (W 3)))))), (6, (ii (((intAt (W 6)))))), (7, (.tuple #[.agg #[((aggAt (tupAt (W 7) 0) 0)), ((aggAt (tupAt (W 7) 0) 1))], .bool ((walkB ar rs t1 (1 + (((intAt (W 3))))) (((intAt (W 6))))).2.2)]))]) ⟨(e3).symm, (e6).symm, (e7).symm, ⟨⟩⟩]
   refine qj (qt (.tuple #[.agg #[((aggAt (tupAt (W 7) 0) 0)), ((aggAt (tupAt (W 7) 0) 1))], .bool ((walkB ar rs t1 (1 + (((intAt (W 3))))) (((intAt (W 6))))).2.2)]) rfl ?_)
   exact ⟨rfl, rfl⟩
  refine gD (fun W Fs R lF z9 => ?_) ?_
  ·obtain ⟨e3, f3_1hx⟩ := z9 3 rfl
   obtain ⟨e6, f6_1hx⟩ := z9 6 rfl
   obtain ⟨e7, f7_1sl0, f7_1sl1⟩ : (.tuple #[.agg #[((aggAt (tupAt (W 7) 0) 0)), ((aggAt (tupAt (W 7) 0) 1))], .bool ((walkB ar rs t1 (1 + (((intAt (W 3))))) (((intAt (W 6))))).2.2)] : Value) = (W 7) ∧ (IsSl ((aggAt (tupAt (W 7) 0) 0))) ∧ (IsSl ((aggAt (tupAt (W 7) 0) 1))) := z9 7 rfl
   have e8 : W 8 = (.tuple #[.agg #[((aggAt (tupAt (W 7) 0) 0)), ((aggAt (tupAt (W 7) 0) 1))], .bool ((walkB ar rs t1 (1 + (((intAt (W 3))))) (((intAt (W 6))))).2.2)] : Value) := z9 8 rfl
   rw [eS (l := [(3, (ii (((intAt (W 3)))))), (6, (ii (((intAt (W 6)))))), (7, (.tuple #[.agg #[((aggAt (tupAt (W 7) 0) 0)), ((aggAt (tupAt (W 7) 0) 1))], .bool ((walkB ar rs t1 (1 + (((intAt (W 3))))) (((intAt (W 6))))).2.2)])), (8, (.tuple #[.agg #[((aggAt (tupAt (W 7) 0) 0)), ((aggAt (tupAt (W 7) 0) 1))], .bool ((walkB ar rs t1 (1 + (((intAt (W 3))))) (((intAt (W 6))))).2.2)]))]) ⟨(e3).symm, (e6).symm, (e7).symm, e8, ⟨⟩⟩]
   refine qj (qM (.agg #[((aggAt (tupAt (W 7) 0) 0)), ((aggAt (tupAt (W 7) 0) 1))]) rfl rfl ?_)
   exact ⟨rfl, rfl⟩
  refine gD (fun W Fs R lF z9 => ?_) ?_
  ·obtain ⟨e3, f3_1hx⟩ := z9 3 rfl
   obtain ⟨e6, f6_1hx⟩ := z9 6 rfl
   obtain ⟨e7, f7_1sl0, f7_1sl1⟩ : (.tuple #[.agg #[((aggAt (tupAt (W 7) 0) 0)), ((aggAt (tupAt (W 7) 0) 1))], .bool ((walkB ar rs t1 (1 + (((intAt (W 3))))) (((intAt (W 6))))).2.2)] : Value) = (W 7) ∧ (IsSl ((aggAt (tupAt (W 7) 0) 0))) ∧ (IsSl ((aggAt (tupAt (W 7) 0) 1))) := z9 7 rfl
   have e8 : W 8 = (.tuple #[.agg #[((aggAt (tupAt (W 7) 0) 0)), ((aggAt (tupAt (W 7) 0) 1))], .bool ((walkB ar rs t1 (1 + (((intAt (W 3))))) (((intAt (W 6))))).2.2)] : Value) := z9 8 rfl
   rw [eS (l := [(3, (ii (((intAt (W 3)))))), (6, (ii (((intAt (W 6)))))), (7, (.tuple #[.agg #[((aggAt (tupAt (W 7) 0) 0)), ((aggAt (tupAt (W 7) 0) 1))], .bool ((walkB ar rs t1 (1 + (((intAt (W 3))))) (((intAt (W 6))))).2.2)])), (8, (.tuple #[.agg #[((aggAt (tupAt (W 7) 0) 0)), ((aggAt (tupAt (W 7) 0) 1))], .bool ((walkB ar rs t1 (1 + (((intAt (W 3))))) (((intAt (W 6))))).2.2)]))]) ⟨(e3).symm, (e6).symm, (e7).symm, e8, ⟨⟩⟩]
   refine qj (qM (.bool ((walkB ar rs t1 (1 + (((intAt (W 3))))) (((intAt (W 6))))).2.2)) rfl rfl ?_)
   exact ⟨rfl, rfl⟩
  refine gD (fun W Fs R lF z9 => ?_) ?_
  ·replace hbs := hbs.mono lF
   refine qj (ji [sN, sN] yg rfl ?_)
   intro b4
   exact ⟨rfl, rfl⟩
  refine gD (fun W Fs R lF z9 => ?_) ?_
  ·obtain ⟨e3, f3_1hx⟩ := z9 3 rfl
   obtain ⟨e6, f6_1hx⟩ := z9 6 rfl
   obtain ⟨e7, f7_1sl0, f7_1sl1⟩ : (.tuple #[.agg #[((aggAt (tupAt (W 7) 0) 0)), ((aggAt (tupAt (W 7) 0) 1))], .bool ((walkB ar rs t1 (1 + (((intAt (W 3))))) (((intAt (W 6))))).2.2)] : Value) = (W 7) ∧ (IsSl ((aggAt (tupAt (W 7) 0) 0))) ∧ (IsSl ((aggAt (tupAt (W 7) 0) 1))) := z9 7 rfl
   have e9 : W 9 = (.agg #[((aggAt (tupAt (W 7) 0) 0)), ((aggAt (tupAt (W 7) 0) 1))] : Value) := z9 9 rfl
   have e11 : W 11 = ptr (blk (W 11)) 0 := z9 11 rfl
   replace hbs := hbs.mono lF
   rw [eS (l := [(3, (ii (((intAt (W 3)))))), (6, (ii (((intAt (W 6)))))), (7, (.tuple #[.agg #[((aggAt (tupAt (W 7) 0) 0)), ((aggAt (tupAt (W 7) 0) 1))], .bool ((walkB ar rs t1 (1 + (((intAt (W 3))))) (((intAt (W 6))))).2.2)])), (9, (.agg #[((aggAt (tupAt (W 7) 0) 0)), ((aggAt (tupAt (W 7) 0) 1))])), (11, ptr (blk (W 11)) 0)]) ⟨(e3).symm, (e6).symm, (e7).symm, e9, e11, ⟨⟩⟩]
   show XG _ _ _ _ _ (cellsH (blk (W 11)) [sN, sN] 45 :: ([cellsH b2 [sN, sN] 45, cellsH b1 [arv, rsv] 39, curH .i64 231 cb bsv bs.length] ++ R)) _
   refine qj (qK [] _ [((aggAt (tupAt (W 7) 0) 0)), ((aggAt (tupAt (W 7) 0) 1))] jq rfl rfl rfl (qx (qJ f7_1sl0) (qx (qJ f7_1sl1) qQ)) rfl rfl rfl ?_)
   exact ⟨trivial, rfl⟩
  exact stepsG.nil
 intro W F8 le8 hphi
 obtain ⟨e3, f3_1hx⟩ := hphi 3 (by decide)
 have e4 : W 4 = (ii (1 + (((intAt (W 3))))) : Value) := hphi 4 (by decide)
 obtain ⟨e6, f6_1hx⟩ := hphi 6 (by decide)
 obtain ⟨e7, f7_1sl0, f7_1sl1⟩ : (.tuple #[.agg #[((aggAt (tupAt (W 7) 0) 0)), ((aggAt (tupAt (W 7) 0) 1))], .bool ((walkB ar rs t1 (1 + (((intAt (W 3))))) (((intAt (W 6))))).2.2)] : Value) = (W 7) ∧ (IsSl ((aggAt (tupAt (W 7) 0) 0))) ∧ (IsSl ((aggAt (tupAt (W 7) 0) 1))) := hphi 7 (by decide)
 have e8 : W 8 = (.tuple #[.agg #[((aggAt (tupAt (W 7) 0) 0)), ((aggAt (tupAt (W 7) 0) 1))], .bool ((walkB ar rs t1 (1 + (((intAt (W 3))))) (((intAt (W 6))))).2.2)] : Value) := hphi 8 (by decide)
 have e9 : W 9 = (.agg #[((aggAt (tupAt (W 7) 0) 0)), ((aggAt (tupAt (W 7) 0) 1))] : Value) := hphi 9 (by decide)
 have e10 : W 10 = (.bool ((walkB ar rs t1 (1 + (((intAt (W 3))))) (((intAt (W 6))))).2.2) : Value) := hphi 10 (by decide)
 have e11 : W 11 = ptr (blk (W 11)) 0 := hphi 11 (by decide)
 generalize hu1 : (intAt (W 3)) = u1 at e3 f3_1hx e4 e6 f6_1hx e7 f7_1sl0 f7_1sl1 e8 e9 e10 e11
 generalize hu2 : (intAt (W 6)) = u2 at e3 f3_1hx e4 e6 f6_1hx e7 f7_1sl0 f7_1sl1 e8 e9 e10 e11
 generalize hu3 : ((aggAt (tupAt (W 7) 0) 0)) = u3 at e3 f3_1hx e4 e6 f6_1hx e7 f7_1sl0 f7_1sl1 e8 e9 e10 e11
 generalize hu4 : ((aggAt (tupAt (W 7) 0) 1)) = u4 at e3 f3_1hx e4 e6 f6_1hx e7 f7_1sl0 f7_1sl1 e8 e9 e10 e11
 generalize hu5 : blk (W 11) = b5 at e3 f3_1hx e4 e6 f6_1hx e7 f7_1sl0 f7_1sl1 e8 e9 e10 e11
 rw [eS (l := [(3, (ii ((u1)))), (6, (ii ((u2)))), (7, (.tuple #[.agg #[u3, u4], .bool ((walkB ar rs t1 (1 + ((u1))) ((u2))).2.2)])), (10, (.bool ((walkB ar rs t1 (1 + ((u1))) ((u2))).2.2))), (11, ptr b5 0)]) ⟨(e3).symm, (e6).symm, (e7).symm, e10, e11, ⟨⟩⟩]
 replace hbs := hbs.mono le8
 show XL _ _ _ _ _ _ _ (intsH 2 u3 ((walkB ar rs t1 (1 + ((u1))) ((u2))).1) :: stepsD 2 102 u4 ((walkB ar rs t1 (1 + ((u1))) ((u2))).2.1) :: cellsH b5 [u3, u4] 45 :: cellsH b2 [sN, sN] 45 :: cellsH b1 [arv, rsv] 39 :: curH .i64 231 cb bsv bs.length :: L)
 refine qi (.bool ((walkB ar rs t1 (1 + ((u1))) ((u2))).2.2)) rfl (qd (qf (qf (qc ?_))))
 have hwb9 : ((walkB ar rs t1 (1 + ((u1))) ((u2))).1).length ≤ 2000 ∧ ((walkB ar rs t1 (1 + ((u1))) ((u2))).2.1).length ≤ 60 ∧ smallT ((walkB ar rs t1 (1 + ((u1))) ((u2))).2.1) := by apply walkB_small; omega
 refine XL.openD [_] _ rfl (fun cs1 Ls1 F9 le9 hs1 hD1 hZ1 => ?_)
 replace hbs := hbs.mono le9
 have hc1 := hD1.steps hZ1
 show XL _ _ _ _ _ _ _ (intsH 2 u3 ((walkB ar rs t1 (1 + ((u1))) ((u2))).1) :: slH 102 3 u4 (((walkB ar rs t1 (1 + ((u1))) ((u2))).2.1).length) cs1 :: cellsH b5 [u3, u4] 45 :: cellsH b2 [sN, sN] 45 :: cellsH b1 [arv, rsv] 39 :: curH .i64 231 cb bsv bs.length :: L)
 skip
 refine qh (ptr cb 0) rfl (cX (qm (args := [ptr cb 0, ii (10)]) call103 rfl (jl [_, _, _, _, _] (l1Once_spec (n := 10) hbs (by omega) (hn := (by first | assumption | rfl | omega | simp)))) ?_))
 rintro _ _ _ _ ⟨⟨rfl, x10, rfl⟩, rfl⟩
 show XL _ _ _ _ _ _ _ (intsH 2 u3 ((walkB ar rs t1 (1 + ((u1))) ((u2))).1) :: slH 102 3 u4 (((walkB ar rs t1 (1 + ((u1))) ((u2))).2.1).length) cs1 :: cellsH b5 [u3, u4] 45 :: cellsH b2 [sN, sN] 45 :: cellsH b1 [arv, rsv] 39 :: curH .i64 231 cb bsv bs.length :: L)
 refine qh (.bool (x10)) rfl ?_
 by_cases h1 : (x10) = true
 ·refine qr (t := 24) rfl (vB h1) (ql (1) jg rfl jK (by decide) rfl rfl (qr (t := 24) rfl (vB h1) (qk isAgg43 rfl (Rd.own [_, _] rfl rfl) (qr (t := 24) rfl (vB h1) (qE ju rfl (SlV.own [_] rfl) (qr (t := 24) rfl (vB h1) (jH rfl rfl (cX (qP (.bool (decide ((((((walkB ar rs t1 (1 + ((u1))) ((u2))).2.1).length : Nat) : Int) : Int) > 0))) (vB h1) rfl (qd ?_))))))))))
  refine qC (p := (((((walkB ar rs t1 (1 + ((u1))) ((u2))).2.1).length : Nat) : Int) : Int) > 0) rfl (fun h2 => ?_) (fun h2 => ?_)
  ·refine jM [intsH 2 u3 ((walkB ar rs t1 (1 + ((u1))) ((u2))).1), slH 102 3 u4 (((walkB ar rs t1 (1 + ((u1))) ((u2))).2.1).length) cs1, cellsH b5 [u3, u4] 45, cellsH b2 [sN, sN] 45, cellsH b1 [arv, rsv] 39, curH .i64 231 cb bsv bs.length] L 4 [] [[], [0], [], [2]] [] (phiG [pe (ptr b5 1), pe u4, pe (ptr cb 0), fun FF us v => (ii (((intAt v))) : Value) = v]) (ownL []) mixed rfl rfl (by kernel_rfl) (by kernel_rfl) (MonoG.get (m1 (m1 (m1 (mC (fun le h => h) MonoG.nil))))) ?_ ?_
   ·refine gD (fun W Fs R lF z9 => ?_) ?_
    ·refine qj (ql (1) jg rfl jK (by decide) rfl rfl ?_)
     exact ⟨rfl, rfl⟩
    refine gD (fun W Fs R lF z9 => ?_) ?_
    ·replace hbs := hbs.mono lF
     replace hc1 := hc1.mono lF
     rw [eS (l := [(0, _)]) ⟨z9 0 rfl, ⟨⟩⟩]
     refine qj (qk isAgg43 rfl (Rd.own [_, _] rfl rfl) ?_)
     exact ⟨rfl, rfl⟩
    refine gD (fun W Fs R lF z9 => ?_) ?_
    ·refine qj (qt (ptr cb 0) rfl ?_)
     exact ⟨rfl, rfl⟩
    refine gD (fun W Fs R lF z9 => ?_) ?_
    ·replace hbs := hbs.mono lF
     replace hc1 := hc1.mono lF
     rw [eS (l := [(2, _)]) ⟨z9 2 rfl, ⟨⟩⟩]
     refine qj (qm (args := [ptr cb 0, ii (2)]) call191 rfl (jl [_, _, _, _, _] (l1Num_spec (m := 2) hbs (by omega) (hm := (by first | assumption | rfl | omega | simp)))) ?_)
     rintro _ _ _ _ ⟨⟨rfl, x12, rfl⟩, rfl⟩
     exact ⟨rfl, rfl⟩
    exact stepsG.nil
   intro W F13 le13 hphi
   have e3 : (ii (((intAt (W 3)))) : Value) = (W 3) := hphi 3 (by decide)
   generalize hu6 : (intAt (W 3)) = u5 at e3
   rw [eS (l := [(1, _), (3, (ii ((u5))))]) ⟨(hphi 1 (by decide)), (e3).symm, ⟨⟩⟩]
   replace hc1 := hc1.mono le13
   show XL _ _ _ _ _ _ _ (intsH 2 u3 ((walkB ar rs t1 (1 + ((u1))) ((u2))).1) :: slH 102 3 u4 (((walkB ar rs t1 (1 + ((u1))) ((u2))).2.1).length) cs1 :: cellsH b5 [u3, u4] 45 :: cellsH b2 [sN, sN] 45 :: cellsH b1 [arv, rsv] 39 :: curH .i64 231 cb bsv bs.length :: L)
   refine cX (qD 0 ju yh rfl rfl rfl (SlV.own [_] rfl) (by omega) rfl (cX (jT (0 * 3 + 1) jA rfl qy (by decide) rfl rfl (cX (XOp.storeS (i := 0 * 3 + 1) (cs := cs1) [_] _ qy rfl rfl rfl rfl (by have h9 := CO.len hc1; (try simp only [List.length_set, List.length_replicate] at h9 ⊢) <;> omega) ?_)))))
   have hc2 := hc1.setRule (j := 0) (a := (u5)) (by (try simp only [List.length_set, List.length_replicate]); omega)
   refine qd (qf (qc (cX (qq [u3, u4] jN jq rfl rfl (Rd.ownN [_, _] rfl rfl) (cX (qK [_, _, _] _ [u3, u4] jq rfl rfl rfl (qx (qJ f7_1sl0) (qx (qJ hs1) qQ)) rfl rfl rfl (qd (qT [] _ _ rfl (fun F14 le14 hz1 => ?_)))))))))
   replace hc1 := hc1.mono le14
   replace hc2 := hc2.mono le14
   have hf1 : IntsF F14 u3 ((walkB ar rs t1 (1 + ((u1))) ((u2))).1) := intsH.fz (xs := (walkB ar rs t1 (1 + ((u1))) ((u2))).1) hz1.fz
   refine qT [] _ _ rfl (fun F15 le15 hz2 => ?_)
   replace hc1 := hc1.mono le15
   replace hc2 := hc2.mono le15
   replace hf1 := hf1.mono le15
   have hf2 : StepsF F15 u4 ((((walkB ar rs t1 (1 + ((u1))) ((u2))).2.1).set 0 ((((walkB ar rs t1 (1 + ((u1))) ((u2))).2.1).getD 0 (0, 0, [])).1, (u5), (((walkB ar rs t1 (1 + ((u1))) ((u2))).2.1).getD 0 (0, 0, [])).2.2))) := CO.fz hc2 (by first | rfl | omega | (rw [List.length_set]; omega) | (simp; done)) hz2.fz
   refine qu (qs (L' := curH .i64 231 cb bsv bs.length :: L) [.agg #[u3, u4]] (.agg #[u3, u4]) (.cell rfl (jt [u3, u4] jN jq rfl (Rd.ownN [_] rfl rfl)) .nil) rfl (qn (qn (qn (qn (qn le1 le8) le9) le13) le14) le15) rF (sD (sD (sD (sC sR)))) ?_)
   exact ⟨⟨_, _, rfl, ⟨_, hf1, hwb9.1⟩, ⟨_, hf2, by (try rw [List.length_set]); exact hwb9.2.1, by first | exact hwb9.2.2 | exact smallT.set hwb9.2.2 (by exact hwb9.2.2 0) 0⟩⟩, rfl⟩
  refine qA (qf (qc (cX (qq [u3, u4] jN jq rfl rfl (Rd.ownN [_, _] rfl rfl) (cX (qK [_, _, _] _ [u3, u4] jq rfl rfl rfl (qx (qJ f7_1sl0) (qx (qJ hs1) qQ)) rfl rfl rfl (qd (qT [] _ _ rfl (fun F16 le16 hz3 => ?_)))))))))
  replace hc1 := hc1.mono le16
  have hf3 : IntsF F16 u3 ((walkB ar rs t1 (1 + ((u1))) ((u2))).1) := intsH.fz (xs := (walkB ar rs t1 (1 + ((u1))) ((u2))).1) hz3.fz
  refine qT [] _ _ rfl (fun F17 le17 hz4 => ?_)
  replace hc1 := hc1.mono le17
  replace hf3 := hf3.mono le17
  have hf4 : StepsF F17 u4 ((walkB ar rs t1 (1 + ((u1))) ((u2))).2.1) := CO.fz hc1 (by first | rfl | omega | (rw [List.length_set]; omega) | (simp; done)) hz4.fz
  refine qu (qs (L' := curH .i64 231 cb bsv bs.length :: L) [.agg #[u3, u4]] (.agg #[u3, u4]) (.cell rfl (jt [u3, u4] jN jq rfl (Rd.ownN [_] rfl rfl)) .nil) rfl (qn (qn (qn (qn le1 le8) le9) le16) le17) rF (sD (sD (sD (sC sR)))) ?_)
  exact ⟨⟨_, _, rfl, ⟨_, hf3, hwb9.1⟩, ⟨_, hf4, by (try rw [List.length_set]); exact hwb9.2.1, by first | exact hwb9.2.2 | exact smallT.set hwb9.2.2 (by exact hwb9.2.2 0) 0⟩⟩, rfl⟩
 rw [Bool.not_eq_true] at h1
 refine qp (t := 24) rfl (vB h1) (qp (t := 24) rfl (vB h1) (qp (t := 24) rfl (vB h1) (qp (t := 24) rfl (vB h1) (cX (qN (.bool (false)) (vB h1) rfl (qd (X.condF rfl (qA (qf (qc (cX (qq [u3, u4] jN jq rfl rfl (Rd.ownN [_, _] rfl rfl) (cX (qK [_, _, _] _ [u3, u4] jq rfl rfl rfl (qx (qJ f7_1sl0) (qx (qJ hs1) qQ)) rfl rfl rfl ?_))))))))))))))
 refine qd (qT [] _ _ rfl (fun F18 le18 hz5 => ?_))
 replace hc1 := hc1.mono le18
 have hf5 : IntsF F18 u3 ((walkB ar rs t1 (1 + ((u1))) ((u2))).1) := intsH.fz (xs := (walkB ar rs t1 (1 + ((u1))) ((u2))).1) hz5.fz
 refine qT [] _ _ rfl (fun F19 le19 hz6 => ?_)
 replace hc1 := hc1.mono le19
 replace hf5 := hf5.mono le19
 have hf6 : StepsF F19 u4 ((walkB ar rs t1 (1 + ((u1))) ((u2))).2.1) := CO.fz hc1 (by first | rfl | omega | (rw [List.length_set]; omega) | (simp; done)) hz6.fz
 refine qu (qs (L' := curH .i64 231 cb bsv bs.length :: L) [.agg #[u3, u4]] (.agg #[u3, u4]) (.cell rfl (jt [u3, u4] jN jq rfl (Rd.ownN [_] rfl rfl)) .nil) rfl (qn (qn (qn (qn le1 le8) le9) le18) le19) rF (sD (sD (sD (sC sR)))) ?_)
 exact ⟨⟨_, _, rfl, ⟨_, hf5, hwb9.1⟩, ⟨_, hf6, by (try rw [List.length_set]); exact hwb9.2.1, by first | exact hwb9.2.2 | exact smallT.set hwb9.2.2 (by exact hwb9.2.2 0) 0⟩⟩, rfl⟩

/- spec.DrawChainOfWalk -/
theorem DrawChainOfWalk_spec {F : FH} {L : List HP} {bsv : Value} {bs : List Int} (hbs : BytesF F bsv bs) (hbl : bs.length ≤ 4000000) :
    Does prog 47 [bsv] F (L) (fun v F' L' => ∃ (a : Value), ∃ (b : Value), ∃ (fv : Value), ∃ (xv : Value), ∃ (ar : List Int), ∃ (rs : List (List Int × List Int)), ∃ (f : List Int), ∃ (xs : List StepT), (.tuple #[.agg #[a, b], .agg #[fv, xv]] : Value) = v ∧ (IntsF F' a ar) ∧ (PairsF F' b rs) ∧ (IntsF F' fv f) ∧ (StepsF F' xv xs) ∧ (smallS ar rs) ∧ (f.length ≤ 2000 ∧ xs.length ≤ 60 ∧ smallT xs) ∧ L = L') := by
 refine qH func47 rfl rfl rfl (qf (qc (cX (ji [sN, sN] jW rfl ?_))))
 intro b1
 refine cX (ji [sN, sN] yg rfl ?_)
 intro b2
 refine qd (qf (qc (qh (bsv) rfl (cX (qm (args := [bsv]) call93 rfl (l1New_spec hbs (by omega)) ?_)))))
 rintro _ _ _ _ ⟨cb1, rfl, rfl, rfl⟩
 show XL _ _ _ _ _ _ _ (curH .i64 231 cb1 bsv bs.length :: cellsH b2 [sN, sN] 45 :: cellsH b1 [sN, sN] 39 :: L)
 refine qi (ptr cb1 0) rfl (qd (qf (qc (qh (ptr cb1 0) rfl (cX (qm (args := [ptr cb1 0]) call128 rfl (jl [] (l6DrawAny_spec hbs (by omega))) ?_))))))
 rintro _ F1 _ le1 ⟨⟨x1, x2, x3, x4, rfl, hr1, hr2, hr3⟩, rfl⟩
 replace hbs := hbs.mono le1
 show XL _ _ _ _ _ _ _ (curH .i64 231 cb1 bsv bs.length :: cellsH b2 [sN, sN] 45 :: cellsH b1 [sN, sN] 39 :: L)
 have hsm6 := hr3
 have hal6 := hsm6.1
 refine cX (ji [sN, sN] jW rfl ?_)
 intro b3
 refine cX (qK [] _ [x1, x2] qX rfl rfl rfl (qx (qJ (qG hr1)) (qx (qJ (PairsF.isSl hr2)) qQ)) rfl rfl rfl (qd (qf ?_)))
 refine jM [cellsH b3 [x1, x2] 39, curH .i64 231 cb1 bsv bs.length, cellsH b2 [sN, sN] 45, cellsH b1 [sN, sN] 39] L 4 [] [[], [], [], [1, 2]] [] (phiG [pe (.agg #[x1, x2]), pe (ptr cb1 0), pe (.agg #[x1, x2]), fun FF us v => (.agg #[((aggAt v 0)), ((aggAt v 1))] : Value) = v ∧ (SomesF FF ((aggAt v 0)) (fun f => f.length ≤ 2000)) ∧ (SomeStepsF FF ((aggAt v 1)) (fun xs => xs.length ≤ 60 ∧ smallT xs))]) (ownL []) mixed rfl rfl (by kernel_rfl) (by kernel_rfl) (MonoG.get (m1 (m1 (m1 (mC (fun le h => ⟨h.1, h.2.1.mono le, h.2.2.mono le⟩) MonoG.nil))))) ?_ ?_
 ·refine gD (fun W Fs R lF z9 => ?_) ?_
  ·replace hbs := hbs.mono lF
   replace hr1 := hr1.mono lF
   replace hr2 := hr2.mono lF
   refine qj (qq [x1, x2] jj qX rfl rfl (Rd.ownN [] rfl rfl) ?_)
   exact ⟨rfl, rfl⟩
  refine gD (fun W Fs R lF z9 => ?_) ?_
  ·refine qj (qt (ptr cb1 0) rfl ?_)
   exact ⟨rfl, rfl⟩
  refine gD (fun W Fs R lF z9 => ?_) ?_
  ·replace hbs := hbs.mono lF
   replace hr1 := hr1.mono lF
   replace hr2 := hr2.mono lF
   refine qj (qq [x1, x2] jj qX rfl rfl (Rd.ownN [] rfl rfl) ?_)
   exact ⟨rfl, rfl⟩
  refine gD (fun W Fs R lF z9 => ?_) ?_
  ·replace hbs := hbs.mono lF
   replace hr1 := hr1.mono lF
   replace hr2 := hr2.mono lF
   rw [eS (l := [(1, _), (2, _)]) ⟨z9 1 rfl, z9 2 rfl, ⟨⟩⟩]
   refine qj (qm (args := [ptr cb1 0, .agg #[x1, x2]]) call129 rfl (jl [_] (l20DrawWalk_spec hbs (by omega) hr1 hr2 (hsm := (by first | assumption | rfl | omega | simp)))) ?_)
   rintro _ F3 _ le3 ⟨⟨x7, x8, rfl, hr6, hr7⟩, rfl⟩
   replace hr1 := hr1.mono le3
   replace hr2 := hr2.mono le3
   exact ⟨⟨rfl, hr6, hr7⟩, rfl⟩
  exact stepsG.nil
 intro W F4 le4 hphi
 obtain ⟨e3, f3_1hp_a, f3_1hp_b⟩ := hphi 3 (by decide)
 obtain ⟨t3X1_a, f3_1hp_a, q3_1_a0⟩ := f3_1hp_a
 obtain ⟨t3X1_b, f3_1hp_b, q3_1_b0, q3_1_b1⟩ := f3_1hp_b
 generalize hu1 : ((aggAt (W 3) 0)) = u1 at e3 f3_1hp_a f3_1hp_b
 generalize hu2 : ((aggAt (W 3) 1)) = u2 at e3 f3_1hp_a f3_1hp_b
 rw [eS (l := [(0, _), (3, (.agg #[u1, u2]))]) ⟨(hphi 0 (by decide)), (e3).symm, ⟨⟩⟩]
 replace hr1 := hr1.mono le4
 replace hr2 := hr2.mono le4
 show XL _ _ _ _ _ _ _ (cellsH b3 [x1, x2] 39 :: curH .i64 231 cb1 bsv bs.length :: cellsH b2 [sN, sN] 45 :: cellsH b1 [sN, sN] 39 :: L)
 refine cX (qK [_, _, _] _ [x1, x2] qX rfl rfl rfl (qx (qJ (qG hr1)) (qx (qJ (PairsF.isSl hr2)) qQ)) rfl rfl rfl (cX (qK [_, _] _ [u1, u2] jq rfl rfl rfl (qx (qJ (qG f3_1hp_a)) (qx (qJ (StepsF.isSl f3_1hp_b)) qQ)) rfl rfl rfl (qd (qu (qs (L' := L) [.agg #[x1, x2], .agg #[u1, u2]] (.tuple #[.agg #[x1, x2], .agg #[u1, u2]]) (.cell rfl (jt [x1, x2] jj qX rfl (Rd.ownN [_, _, _] rfl rfl)) (.cell rfl (jt [u1, u2] jN jq rfl (Rd.ownN [_, _] rfl rfl)) .nil)) rfl (qn le1 le4) rF (sD (sD (sD (sD sR)))) ?_))))))
 exact ⟨_, _, _, _, _, _, _, _, rfl, hr1, hr2, f3_1hp_a, f3_1hp_b, hsm6, ⟨q3_1_a0, q3_1_b0, q3_1_b1⟩, rfl⟩

/- laws.FnMoves -/
set_option maxHeartbeats 2000000 in
set_option maxRecDepth 20000 in
theorem FnMoves_does {F : FH} {L : List HP} {bsv : Value} {bs : List Int} (hbs : BytesF F bsv bs) (hlb : bs.length ≤ 9223372036854775807) :
    Does prog 7 [bsv] F (L) (fun v F' L' => (.bool (true) : Value) = v ∧ F = F' ∧ L = L') := by
 refine qH func7 rfl rfl rfl (qf (qc (qi (.bool (false)) rfl (qd (qf (qf (qc (qh (bsv) rfl (cX (qm (args := [bsv]) call26 rfl (big_spec hbs) ?_))))))))))
 rintro _ _ _ _ ⟨rfl, rfl, rfl⟩
 refine qd ?_
 refine qC (p := (bs.length : Int) > 4096) rfl (fun h1 => ?_) (fun h1 => ?_)
 ·refine qf (qc (qi (.bool (true)) rfl (qd (qu (qo (qs (L' := L) [.bool (true)] (.bool (true)) (.tmp rfl .nil) rfl rF rF sR ?_))))))
  exact ⟨rfl, rfl, rfl⟩
 have hbl2 : bs.length ≤ 4000000 := by omega
 refine qA (qf (qc (qh (bsv) rfl (cX (qm (args := [bsv]) call47 rfl (DrawChainOfWalk_spec hbs (hbl := (by first | assumption | rfl | omega | simp))) ?_)))))
 rintro _ F1 _ le1 ⟨x1, x2, x3, x4, x5, x6, x7, x8, rfl, hr1, hr2, hr3, hr4, hr5, hr6, rfl⟩
 replace hbs := hbs.mono le1
 have hla := hr5.la
 have hlr := hr5.lr
 have hrb := hr5.each
 have hsf := hr6.1
 have hlf : x7.length ≤ 4000000 := by omega
 have hsn := hr6.2.1
 have hlss : x8.length ≤ 4000000 := by omega
 have hsb : ∀ i, i < x8.length → (x8.getD i (0, 0, [])).2.2.length ≤ 4000000 := fun i _ => by have h9 := hr6.2.2 i; omega
 have hcw := chainWF_ok (ar := x5) (rs := x6) (f := x7) (ss := x8)
 have hcb := chainWF_bound (ar := x5) (rs := x6) (f := x7) (ss := x8)
 have hcb1 : (chainWF x5 x6 x7 x8).1.length ≤ 4000000 := by have h9 := hcb.1; omega
 have hcb2 : (chainWF x5 x6 x7 x8).2.1.length ≤ 60 := hcb.2.1
 have hcb3 : ∀ i, i < (chainWF x5 x6 x7 x8).2.1.length → (((chainWF x5 x6 x7 x8).2.1).getD i (0, 0, false, [])).2.2.2.length ≤ 4000000 := fun i hi => by have h9 := hcb.2.2.1 i hi; omega
 have hen9 := endT_len (ar := x5) (rs := x6) (f := x7) (ss := x8)
 refine qh (.tuple #[.agg #[x1, x2], .agg #[x3, x4]]) rfl (cX (qM (.agg #[x1, x2]) rfl rfl (cX (qM (.agg #[x3, x4]) rfl rfl (cX (ji [sN, sN] jW rfl ?_))))))
 intro b1
 refine cX (ji [sN, sN] yg rfl ?_)
 intro b2
 refine cX (qK [_] _ [x1, x2] qX rfl rfl rfl (qx (qJ (qG hr1)) (qx (qJ (PairsF.isSl hr2)) qQ)) rfl rfl rfl (cX (qK [] _ [x3, x4] jq rfl rfl rfl (qx (qJ (qG hr3)) (qx (qJ (StepsF.isSl hr4)) qQ)) rfl rfl rfl (qd (qf (qc (cX (qq [x1, x2] jj qX rfl rfl (Rd.ownN [_] rfl rfl) (cX (qq [x3, x4] jN jq rfl rfl (Rd.ownN [] rfl rfl) (cX (qm (args := [.agg #[x1, x2], .agg #[x3, x4]]) call48 rfl (ChainOfWalk_spec hr1 hr2 hr3 hr4 (hlf := (by first | assumption | rfl | omega | simp)) (hsb := (by first | assumption | rfl | omega | simp))) ?_))))))))))))
 rintro _ F2 _ le2 ⟨x9, x10, rfl, hr7, hr8, hr9, rfl⟩
 replace hbs := hbs.mono le2
 replace hr1 := hr1.mono le2
 replace hr2 := hr2.mono le2
 replace hr3 := hr3.mono le2
 replace hr4 := hr4.mono le2
 refine qh (.tuple #[.agg #[x9, x10], .bool ((chainWF x5 x6 x7 x8).2.2)]) rfl (cX (qM (.agg #[x9, x10]) rfl rfl (cX (qM (.bool ((chainWF x5 x6 x7 x8).2.2)) rfl rfl (cX (ji [sN, sN] zeroValue96 rfl ?_))))))
 intro b3
 refine cX (qK [] _ [x9, x10] sizeOf96 rfl rfl rfl (qx (qJ (qG hr7)) (qx (qJ (MovesF.isSl hr8)) qQ)) rfl rfl rfl (qi (.bool ((chainWF x5 x6 x7 x8).2.2)) rfl (qd (qf (qf (qc (qh (.bool ((chainWF x5 x6 x7 x8).2.2)) rfl (cX (qq [x1, x2] jj qX rfl rfl (Rd.ownN [_, _] rfl rfl) (cX (qq [x3, x4] jN jq rfl rfl (Rd.ownN [_] rfl rfl) (cX (qm (args := [.agg #[x1, x2], .agg #[x3, x4]]) call49 rfl (sWalkOk_spec hr1 hr2 hr3 hr4 (hla := (by first | assumption | rfl | omega | simp)) (hlr := (by first | assumption | rfl | omega | simp)) (hrb := (by first | assumption | rfl | omega | simp)) (hlf := (by first | assumption | rfl | omega | simp)) (hlss := (by first | assumption | rfl | omega | simp)) (hsb := (by first | assumption | rfl | omega | simp))) ?_)))))))))))))
 rintro _ _ _ _ ⟨rfl, rfl, rfl⟩
 refine cX (XOp.neB (a := (chainWF x5 x6 x7 x8).2.2) (b := walkOkL x5 x6 x7 x8) runUnderlying4 rfl rfl (qd ?_))
 refine qC (p := ((chainWF x5 x6 x7 x8).2.2) ≠ (walkOkL x5 x6 x7 x8)) rfl (fun h2 => ?_) (fun h2 => ?_)
 ·exact absurd hcw (by simpa using h2)
 refine qA (qf (qc (cX (qq [x1, x2] jj qX rfl rfl (Rd.ownN [_, _] rfl rfl) (cX (qm (args := [.agg #[x1, x2]]) call50 rfl (EqsOf_spec hr1 hr2 (hlr := (by first | assumption | rfl | omega | simp)) (hrb := (by first | assumption | rfl | omega | simp))) ?_))))))
 rintro _ F3 _ le3 ⟨x11, rfl, hr10, rfl⟩
 replace hbs := hbs.mono le3
 replace hr1 := hr1.mono le3
 replace hr2 := hr2.mono le3
 replace hr3 := hr3.mono le3
 replace hr4 := hr4.mono le3
 replace hr7 := hr7.mono le3
 replace hr8 := hr8.mono le3
 refine qi (x11) rfl (qd (qf (qf (qc (qh (.bool ((chainWF x5 x6 x7 x8).2.2)) rfl (cX (jf rfl (qh (.bool (!((chainWF x5 x6 x7 x8).2.2))) rfl ?_))))))))
 by_cases h3 : (!((chainWF x5 x6 x7 x8).2.2)) = true
 ·have hwk : walkOkL x5 x6 x7 x8 = false := by rw [← hcw]; exact Bool.not_inj (y := false) h3
  have hcf := chain_from hwk
  refine qp (t := 33) rfl (vB h3) (qp (t := 33) rfl (vB h3) (qp (t := 33) rfl (vB h3) (cX (qP (.bool (true)) (vB h3) rfl (qd (jC rfl (qf (qc (qh (.bool ((chainWF x5 x6 x7 x8).2.2)) rfl (qh (.bool ((chainWF x5 x6 x7 x8).2.2)) rfl ?_))))))))))
  by_cases h4 : ((chainWF x5 x6 x7 x8).2.2) = true
  ·refine qp (t := 39) rfl (vB h4) (qp (t := 39) rfl (vB h4) (qp (t := 39) rfl (vB h4) (qp (t := 39) rfl (vB h4) (cX (qP (.bool (true)) (vB h4) rfl (qi (.bool (true)) rfl (qd (qu (qo (qs (L' := L) [.bool (true)] (.bool (true)) (.tmp rfl .nil) rfl rF (qn (qn le1 le2) le3) (sD (sD (sD sR))) ?_))))))))))
   exact ⟨rfl, rfl, rfl⟩
  rw [Bool.not_eq_true] at h4
  refine qr (t := 39) rfl (vB h4) (ql (0) jE rfl qv (by decide) rfl rfl (qr (t := 39) rfl (vB h4) (qk qS rfl (Rd.own [] rfl rfl) (qr (t := 39) rfl (vB h4) (qE qg rfl hr7.slv (qr (t := 39) rfl (vB h4) (jB rfl rfl (cX (qN (.bool (decide ((((((chainWF x5 x6 x7 x8).1).length : Nat) : Int) : Int) = 0))) (vB h4) rfl (qi (.bool (decide ((((((chainWF x5 x6 x7 x8).1).length : Nat) : Int) : Int) = 0))) rfl (qd (qu (qo (qs (L' := L) [.bool (decide ((((((chainWF x5 x6 x7 x8).1).length : Nat) : Int) : Int) = 0))] (.bool (decide ((((((chainWF x5 x6 x7 x8).1).length : Nat) : Int) : Int) = 0))) (.tmp rfl .nil) rfl rF (qn (qn le1 le2) le3) (sD (sD (sD sR))) ?_))))))))))))))
  exact ⟨(vB (by first | rfl | (rw [hcf]; simp; done) | simp_all)), rfl, rfl⟩
 rw [Bool.not_eq_true] at h3
 have hwk : walkOkL x5 x6 x7 x8 = true := by rw [← hcw]; exact Bool.not_inj (y := true) h3
 refine qr (t := 33) rfl (vB h3) (qt (x11) rfl (qr (t := 33) rfl (vB h3) (qE jI rfl hr10.slv (qr (t := 33) rfl (vB h3) (jH rfl rfl (cX (qN (.bool (decide (((((eqsF x5 x6).length : Nat) : Int) : Int) > 12))) (vB h3) rfl (qd ?_))))))))
 refine qC (p := ((((eqsF x5 x6).length : Nat) : Int) : Int) > 12) rfl (fun h5 => ?_) (fun h5 => ?_)
 ·refine qf (qc (qh (.bool ((chainWF x5 x6 x7 x8).2.2)) rfl (qh (.bool ((chainWF x5 x6 x7 x8).2.2)) rfl ?_)))
  by_cases h6 : ((chainWF x5 x6 x7 x8).2.2) = true
  ·refine qp (t := 39) rfl (vB h6) (qp (t := 39) rfl (vB h6) (qp (t := 39) rfl (vB h6) (qp (t := 39) rfl (vB h6) (cX (qP (.bool (true)) (vB h6) rfl (qi (.bool (true)) rfl (qd (qu (qo (qs (L' := L) [.bool (true)] (.bool (true)) (.tmp rfl .nil) rfl rF (qn (qn le1 le2) le3) (sD (sD (sD sR))) ?_))))))))))
   exact ⟨rfl, rfl, rfl⟩
  rw [Bool.not_eq_true] at h6
  refine qr (t := 39) rfl (vB h6) (ql (0) jE rfl qv (by decide) rfl rfl (qr (t := 39) rfl (vB h6) (qk qS rfl (Rd.own [] rfl rfl) (qr (t := 39) rfl (vB h6) (qE qg rfl hr7.slv (qr (t := 39) rfl (vB h6) (jB rfl rfl (cX (qN (.bool (decide ((((((chainWF x5 x6 x7 x8).1).length : Nat) : Int) : Int) = 0))) (vB h6) rfl (qi (.bool (decide ((((((chainWF x5 x6 x7 x8).1).length : Nat) : Int) : Int) = 0))) rfl (qd (qu (qo (qs (L' := L) [.bool (decide ((((((chainWF x5 x6 x7 x8).1).length : Nat) : Int) : Int) = 0))] (.bool (decide ((((((chainWF x5 x6 x7 x8).1).length : Nat) : Int) : Int) = 0))) (.tmp rfl .nil) rfl rF (qn (qn le1 le2) le3) (sD (sD (sD sR))) ?_))))))))))))))
  exact ⟨(vB (by first | rfl | (rw [hcf]; simp; done) | simp_all)), rfl, rfl⟩
 refine qA (qf (qc ?_))
 have hes : eqsF x5 x6 = x6 := eqsF_yes (right_iff.1 (walkOkL_iff.1 hwk).1).1
 rw [hes] at hr10
 have hgo0 := (walkOkL_iff.1 hwk).2.2
 have hto0 := (right_iff.1 (walkOkL_iff.1 hwk).1).2
 have hsy0 := (right_iff.1 (walkOkL_iff.1 hwk).1).1
 have heo0 := eqs_of_sys hsy0
 refine cX (ql (0) jg rfl qv (by decide) rfl rfl (cX (qk qS rfl (Rd.own [_] rfl rfl) (qi (x3) rfl (qd (qf (qf (qc (qi (ii (0)) rfl (qd (qR (jy (α := Nat × Value × List Int × FH) (fun xQ => [(3, ptr b1 0), (4, ptr b2 0), (5, ptr b3 0), (7, x11), (8, xQ.2.1), (9, ii (((xQ.1 : Nat) : Int)))]) (fun xQ => cellsH b3 [x9, x10] 96 :: cellsH b2 [x3, x4] 45 :: cellsH b1 [x1, x2] 39 :: L) (fun xQ F' => xQ.2.2.2 = F' ∧ F3 ≤ xQ.2.2.2 ∧ (IntsF xQ.2.2.2 xQ.2.1 xQ.2.2.1) ∧ (xQ.1 ≤ x8.length) ∧ (termOk x5 xQ.2.2.1 = true) ∧ (goOk x5 x6 xQ.2.2.1 (x8.drop xQ.1) = true)) (fun xQ => x8.length - xQ.1) (0, x3, x7, F3) ⟨rfl, rfl, rfl, rfl, rfl, rfl, ⟨⟩⟩ (sC (sC (sC sR))) ⟨rfl, FLe.refl _, (hr3), (Nat.zero_le _), (hto0), (hgo0)⟩ ?_))))))))))))
 rintro ⟨k, cv, cur, G1⟩ rE _ _ ⟨rfl, leG, hcv, hk, hoc, hgo⟩
 show X _ _ _ _ (envs [(3, ptr b1 0), (4, ptr b2 0), (5, ptr b3 0), (7, x11), (8, cv), (9, ii ((k : Int)))] rE) _ (cellsH b3 [x9, x10] 96 :: cellsH b2 [x3, x4] 45 :: cellsH b1 [x1, x2] 39 :: L)
 replace leG : F3 ≤ G1 := leG
 dsimp only at hcv hk hoc hgo
 have hst := fun (h : k < x8.length) => goOk_step hgo h
 have hmv := fun (h : k < x8.length) => step_moves (hst h).1
 have hok9 := fun (h : k < x8.length) => (right_iff.1 (stepAtL_ok (hst h).1).1).2
 have leG1 := leG
 replace hbs := hbs.mono leG1
 replace hr1 := hr1.mono leG1
 replace hr2 := hr2.mono leG1
 replace hr3 := hr3.mono leG1
 replace hr4 := hr4.mono leG1
 replace hr7 := hr7.mono leG1
 replace hr8 := hr8.mono leG1
 replace hr10 := hr10.mono leG1
 refine qf (qf (qc (qh (ii ((k : Int))) rfl (cX (ql (1) jg rfl jK (by decide) rfl rfl (cX (qk isAgg43 rfl (Rd.own [_] rfl rfl) (cX (qE ju rfl hr4.slv (cX (jh rfl rfl (qd ?_))))))))))))
 refine qC (p := (k : Int) < (x8.length : Int)) rfl (fun h7 => ?_) (fun h7 => ?_)
 ·refine qA (qf (qR (qf (qc (cX (ql (1) jg rfl jK (by decide) rfl rfl (cX (qk isAgg43 rfl (Rd.own [_] rfl rfl) (qh (ii ((k : Int))) rfl (cX (qD k ju yh rfl rfl rfl hr4.slv (by omega) rfl ?_)))))))))))
  obtain ⟨a1, ha1, hr11, hr12, hr13⟩ := hr4.rd (i := k) (by omega)
  refine cX (qq [ii ((x8.getD k (0, 0, [])).1), ii ((x8.getD k (0, 0, [])).2.1), a1] isAgg102 yh rfl rfl (Rd.three (hr11 _) (hr12 _) (hr13 _)) ?_)
  replace hmv := hmv (by omega)
  have hot9 := hok9 (by omega)
  refine cX (ji [ii (0), ii (0), sN] zeroValue102 rfl ?_)
  intro b4
  refine cX (qK [] _ [ii ((x8.getD k (0, 0, [])).1), ii ((x8.getD k (0, 0, [])).2.1), a1] yh rfl rfl rfl (qx rfl (qx rfl (qx (qJ (qG ha1)) qQ))) rfl rfl rfl (qd (qf (qf (qc (cX (ql (0) qF rfl qw (by decide) rfl rfl (cX (qq [x1] qI qw rfl rfl (Rd.ownN [_, _, _] rfl rfl) (qh (x11) rfl (qh (cv) rfl (cX (ql (1) jA rfl qy (by decide) rfl rfl (cX (qk je rfl (Rd.own [] rfl rfl) (cX (ql (0) jA rfl qy (by decide) rfl rfl (cX (qk je rfl (Rd.own [] rfl rfl) ?_)))))))))))))))))))
  refine cX (ql (2) jA rfl qv (by decide) rfl rfl (cX (qk qS rfl (Rd.own [] rfl rfl) (cX (jk [ii ((x8.getD k (0, 0, [])).2.1), ii ((x8.getD k (0, 0, [])).1), .bool (false), a1] [ii (0), ii (0), .bool (false), sN] [(0, 1), (1, 1), (2, 1), (3, 1)] [(0, [ii ((x8.getD k (0, 0, [])).2.1)]), (1, [ii ((x8.getD k (0, 0, [])).1)]), (3, [a1])] qY zeroValue105 rfl (.cons rfl qy (.cons rfl qy (.cons rfl sizeOf4 (.cons rfl qv PlacesAre.nil)))) rfl (.cons rfl (.cons rfl (.cons (cells_one (qG ha1)) CellsAre.nil))) (cX (qm (args := [.agg #[x1], x11, cv, .agg #[ii ((x8.getD k (0, 0, [])).2.1), ii ((x8.getD k (0, 0, [])).1), .bool (false), a1]]) call51 rfl (iMoveOk_spec hr1 hr10 hcv ha1) ?_)))))))
  rintro _ _ _ _ ⟨rfl, rfl, rfl⟩
  refine cX (jf rfl (qh (.bool (!(((eqsOkL x5 x6 && termOk x5 cur) && moveB x5 x6 cur (((x8.getD k (0, 0, [])).2.1), ((x8.getD k (0, 0, [])).1), false, ((x8.getD k (0, 0, [])).2.2)))))) rfl ?_))
  by_cases h8 : (!(((eqsOkL x5 x6 && termOk x5 cur) && moveB x5 x6 cur (((x8.getD k (0, 0, [])).2.1), ((x8.getD k (0, 0, [])).1), false, ((x8.getD k (0, 0, [])).2.2))))) = true
  ·exact absurd h8 (by first | (rw [hmv.1, heo0, hoc]; simp; done) | (rw [hmv.2, heo0, hot9]; simp; done))
  rw [Bool.not_eq_true] at h8
  refine qr (t := 72) rfl (vB h8) (ql (0) qF rfl qw (by decide) rfl rfl (qr (t := 72) rfl (vB h8) (qq [x1] qI qw rfl rfl (Rd.ownN [_, _, _] rfl rfl) (qr (t := 72) rfl (vB h8) (qt (x11) rfl (qr (t := 72) rfl (vB h8) (ql (2) jA rfl qv (by decide) rfl rfl (qr (t := 72) rfl (vB h8) (qk qS rfl (Rd.own [] rfl rfl) (qr (t := 72) rfl (vB h8) (ql (1) jA rfl qy (by decide) rfl rfl (qr (t := 72) rfl (vB h8) (qk je rfl (Rd.own [] rfl rfl) (qr (t := 72) rfl (vB h8) (ql (0) jA rfl qy (by decide) rfl rfl (qr (t := 72) rfl (vB h8) (qk je rfl (Rd.own [] rfl rfl) (qr (t := 72) rfl (vB h8) (qt (cv) rfl ?_)))))))))))))))))))
  refine qr (t := 72) rfl (vB h8) (jk [ii ((x8.getD k (0, 0, [])).2.1), ii ((x8.getD k (0, 0, [])).1), .bool (true), cv] [ii (0), ii (0), .bool (false), sN] [(0, 1), (1, 1), (2, 1), (3, 1)] [(0, [ii ((x8.getD k (0, 0, [])).2.1)]), (1, [ii ((x8.getD k (0, 0, [])).1)]), (2, [.bool (true)]), (3, [cv])] qY zeroValue105 rfl (.cons rfl qy (.cons rfl qy (.cons rfl sizeOf4 (.cons rfl qv PlacesAre.nil)))) rfl (.cons rfl (.cons rfl (.cons rfl (.cons (cells_one (qG hcv)) CellsAre.nil)))) (qr (t := 72) rfl (vB h8) (qm (args := [.agg #[x1], x11, a1, .agg #[ii ((x8.getD k (0, 0, [])).2.1), ii ((x8.getD k (0, 0, [])).1), .bool (true), cv]]) call51 rfl (iMoveOk_spec hr1 hr10 ha1 hcv) ?_)))
  rintro _ _ _ _ ⟨rfl, rfl, rfl⟩
  refine qr (t := 72) rfl (vB h8) (jf rfl (cX (qN (.bool (!(((eqsOkL x5 x6 && termOk x5 ((x8.getD k (0, 0, [])).2.2)) && moveB x5 x6 ((x8.getD k (0, 0, [])).2.2) (((x8.getD k (0, 0, [])).2.1), ((x8.getD k (0, 0, [])).1), true, cur))))) (vB h8) rfl (qd ?_))))
  refine jw (t := !(((eqsOkL x5 x6 && termOk x5 ((x8.getD k (0, 0, [])).2.2)) && moveB x5 x6 ((x8.getD k (0, 0, [])).2.2) (((x8.getD k (0, 0, [])).2.1), ((x8.getD k (0, 0, [])).1), true, cur)))) rfl (fun h9 => ?_) (fun h9 => ?_)
  ·exact absurd h9 (by first | (rw [hmv.1, heo0, hoc]; simp; done) | (rw [hmv.2, heo0, hot9]; simp; done))
  refine qA (qc (cX (ql (2) jA rfl qv (by decide) rfl rfl (cX (qk qS rfl (Rd.own [] rfl rfl) (qi (a1) rfl (qd (qc (qh (ii ((k : Int))) rfl (cX (qU (((k + 1 : Nat) : Int)) rfl rfl (by omega) (by omega) (qi (ii (((k + 1 : Nat) : Int))) rfl (qd ?_)))))))))))))
  exact ⟨(k + 1, a1, (x8.getD k (0, 0, [])).2.2, G1), _, leG1, rF, ⟨rfl, rfl, rfl, rfl, rfl, rfl, ⟨⟩⟩, (sD (sC (sC (sC sR)))), ⟨rfl, leG1, (ha1), (by (try dsimp only) <;> omega), (hot9), ((hst (by omega)).2)⟩, (by omega)⟩
 refine jo (qB (qB (qW (qf ?_))))
 by_cases h10 : (chainOkL x5 x6 ((chainWF x5 x6 x7 x8).1) ((chainWF x5 x6 x7 x8).2.1)) = true
 ·refine jM [cellsH b3 [x9, x10] 96, cellsH b2 [x3, x4] 45, cellsH b1 [x1, x2] 39] L 13 [] [[], [0], [], [], [1, 2, 3], [4], [5], [5, 6], [5], [5], [5, 7, 8, 9], [5], [5]] [] (phiG [pe (ptr b1 0), pe (.agg #[x1]), pe x11, pe (.agg #[x9, x10]), pe (.bool (chainOkL x5 x6 ((chainWF x5 x6 x7 x8).1) ((chainWF x5 x6 x7 x8).2.1))), pe (.bool (chainOkL x5 x6 ((chainWF x5 x6 x7 x8).1) ((chainWF x5 x6 x7 x8).2.1))), pe (ptr b1 0), pe (.agg #[x1]), pe x11, pe (.agg #[x9, x10]), fun FF us v => ((v) : Value) = v ∧ (IntsF FF (v) (chainEndF x5 x6 ((chainWF x5 x6 x7 x8).1) ((chainWF x5 x6 x7 x8).2.1))), pe (.agg #[x1, x2]), pe (.agg #[x3, x4])]) (ownL []) mixed rfl rfl (by kernel_rfl) (by kernel_rfl) (MonoG.get (m1 (m1 (m1 (m1 (m1 (m1 (m1 (m1 (m1 (m1 (mC (fun le h => ⟨h.1, h.2.mono le⟩) (m1 (m1 MonoG.nil)))))))))))))) ?_ ?_
  ·refine gD (fun W Fs R lF z9 => ?_) ?_
   ·refine qj (ql (0) qF rfl qw (by decide) rfl rfl ?_)
    exact ⟨rfl, rfl⟩
   refine gD (fun W Fs R lF z9 => ?_) ?_
   ·replace hbs := hbs.mono lF
    replace hr1 := hr1.mono lF
    replace hr2 := hr2.mono lF
    replace hr3 := hr3.mono lF
    replace hr4 := hr4.mono lF
    replace hr7 := hr7.mono lF
    replace hr8 := hr8.mono lF
    replace hr10 := hr10.mono lF
    rw [eS (l := [(0, _)]) ⟨z9 0 rfl, ⟨⟩⟩]
    refine qj (qq [x1] qI qw rfl rfl (Rd.ownN [_, _] rfl rfl) ?_)
    exact ⟨rfl, rfl⟩
   refine gD (fun W Fs R lF z9 => ?_) ?_
   ·refine qj (qt (x11) rfl ?_)
    exact ⟨rfl, rfl⟩
   refine gD (fun W Fs R lF z9 => ?_) ?_
   ·replace hbs := hbs.mono lF
    replace hr1 := hr1.mono lF
    replace hr2 := hr2.mono lF
    replace hr3 := hr3.mono lF
    replace hr4 := hr4.mono lF
    replace hr7 := hr7.mono lF
    replace hr8 := hr8.mono lF
    replace hr10 := hr10.mono lF
    refine qj (qq [x9, x10] isAgg96 sizeOf96 rfl rfl (Rd.ownN [] rfl rfl) ?_)
    exact ⟨rfl, rfl⟩
   refine gD (fun W Fs R lF z9 => ?_) ?_
   ·replace hbs := hbs.mono lF
    replace hr1 := hr1.mono lF
    replace hr2 := hr2.mono lF
    replace hr3 := hr3.mono lF
    replace hr4 := hr4.mono lF
    replace hr7 := hr7.mono lF
    replace hr8 := hr8.mono lF
    replace hr10 := hr10.mono lF
    rw [eS (l := [(1, _), (2, _), (3, _)]) ⟨z9 1 rfl, z9 2 rfl, z9 3 rfl, ⟨⟩⟩]
    refine qj (qm (args := [.agg #[x1], x11, .agg #[x9, x10]]) call52 rfl (sChainOk_spec hr1 hr10 hr7 hr8 (hla := (by first | assumption | rfl | omega | simp)) (hel := (by first | assumption | rfl | omega | simp)) (heb := (by first | assumption | rfl | omega | simp)) (hlf := (by first | assumption | rfl | omega | simp)) (hmb := (by first | assumption | rfl | omega | simp))) ?_)
    rintro _ _ _ _ ⟨rfl, rfl, rfl⟩
    exact ⟨rfl, rfl⟩
   refine gD (fun W Fs R lF z9 => ?_) ?_
   ·rw [eS (l := [(4, _)]) ⟨z9 4 rfl, ⟨⟩⟩]
    refine qj (qt (.bool (chainOkL x5 x6 ((chainWF x5 x6 x7 x8).1) ((chainWF x5 x6 x7 x8).2.1))) rfl ?_)
    exact ⟨rfl, rfl⟩
   refine gD (fun W Fs R lF z9 => ?_) ?_
   ·rw [eS (l := [(5, _)]) ⟨z9 5 rfl, ⟨⟩⟩]
    refine jS (t := 94) rfl (vB h10) (ql (0) qF rfl qw (by decide) rfl rfl ?_)
    exact ⟨rfl, rfl⟩
   refine gD (fun W Fs R lF z9 => ?_) ?_
   ·replace hbs := hbs.mono lF
    replace hr1 := hr1.mono lF
    replace hr2 := hr2.mono lF
    replace hr3 := hr3.mono lF
    replace hr4 := hr4.mono lF
    replace hr7 := hr7.mono lF
    replace hr8 := hr8.mono lF
    replace hr10 := hr10.mono lF
    rw [eS (l := [(5, _), (6, _)]) ⟨z9 5 rfl, z9 6 rfl, ⟨⟩⟩]
    refine jS (t := 94) rfl (vB h10) (qq [x1] qI qw rfl rfl (Rd.ownN [_, _] rfl rfl) ?_)
    exact ⟨rfl, rfl⟩
   refine gD (fun W Fs R lF z9 => ?_) ?_
   ·rw [eS (l := [(5, _)]) ⟨z9 5 rfl, ⟨⟩⟩]
    refine jS (t := 94) rfl (vB h10) (qt (x11) rfl ?_)
    exact ⟨rfl, rfl⟩
   refine gD (fun W Fs R lF z9 => ?_) ?_
   ·replace hbs := hbs.mono lF
    replace hr1 := hr1.mono lF
    replace hr2 := hr2.mono lF
    replace hr3 := hr3.mono lF
    replace hr4 := hr4.mono lF
    replace hr7 := hr7.mono lF
    replace hr8 := hr8.mono lF
    replace hr10 := hr10.mono lF
    rw [eS (l := [(5, _)]) ⟨z9 5 rfl, ⟨⟩⟩]
    refine jS (t := 94) rfl (vB h10) (qq [x9, x10] isAgg96 sizeOf96 rfl rfl (Rd.ownN [] rfl rfl) ?_)
    exact ⟨rfl, rfl⟩
   refine gD (fun W Fs R lF z9 => ?_) ?_
   ·replace hbs := hbs.mono lF
    replace hr1 := hr1.mono lF
    replace hr2 := hr2.mono lF
    replace hr3 := hr3.mono lF
    replace hr4 := hr4.mono lF
    replace hr7 := hr7.mono lF
    replace hr8 := hr8.mono lF
    replace hr10 := hr10.mono lF
    rw [eS (l := [(5, _), (7, _), (8, _), (9, _)]) ⟨z9 5 rfl, z9 7 rfl, z9 8 rfl, z9 9 rfl, ⟨⟩⟩]
    refine jS (t := 94) rfl (vB h10) (qm (args := [.agg #[x1], x11, .agg #[x9, x10]]) call53 rfl (iChainEnd_spec hr1 hr10 hr7 hr8 (hlf := (by first | assumption | rfl | omega | simp)) (hmb := (by first | assumption | rfl | omega | simp))) ?_)
    rintro _ F5 _ le5 ⟨x13, rfl, hr15, rfl⟩
    replace hbs := hbs.mono le5
    replace hr1 := hr1.mono le5
    replace hr2 := hr2.mono le5
    replace hr3 := hr3.mono le5
    replace hr4 := hr4.mono le5
    exact ⟨⟨rfl, hr15⟩, rfl⟩
   refine gD (fun W Fs R lF z9 => ?_) ?_
   ·replace hbs := hbs.mono lF
    replace hr1 := hr1.mono lF
    replace hr2 := hr2.mono lF
    replace hr3 := hr3.mono lF
    replace hr4 := hr4.mono lF
    rw [eS (l := [(5, _)]) ⟨z9 5 rfl, ⟨⟩⟩]
    refine jS (t := 94) rfl (vB h10) (qq [x1, x2] jj qX rfl rfl (Rd.ownN [_, _] rfl rfl) ?_)
    exact ⟨rfl, rfl⟩
   refine gD (fun W Fs R lF z9 => ?_) ?_
   ·replace hbs := hbs.mono lF
    replace hr1 := hr1.mono lF
    replace hr2 := hr2.mono lF
    replace hr3 := hr3.mono lF
    replace hr4 := hr4.mono lF
    rw [eS (l := [(5, _)]) ⟨z9 5 rfl, ⟨⟩⟩]
    refine jS (t := 94) rfl (vB h10) (qq [x3, x4] jN jq rfl rfl (Rd.ownN [_] rfl rfl) ?_)
    exact ⟨rfl, rfl⟩
   exact stepsG.nil
  intro W F6 le6 hphi
  obtain ⟨e10, f10_2hr⟩ := hphi 10 (by decide)
  generalize hu1 : ((W 10)) = u1 at e10 f10_2hr
  rw [eS (l := [(5, _), (10, u1), (11, _), (12, _)]) ⟨(hphi 5 (by decide)), hu1, (hphi 11 (by decide)), (hphi 12 (by decide)), ⟨⟩⟩]
  replace hr1 := hr1.mono le6
  replace hr2 := hr2.mono le6
  replace hr3 := hr3.mono le6
  replace hr4 := hr4.mono le6
  show XL _ _ _ _ _ _ _ (cellsH b3 [x9, x10] 96 :: cellsH b2 [x3, x4] 45 :: cellsH b1 [x1, x2] 39 :: L)
  refine qr (t := 94) rfl (vB h10) (jG <| qm (args := [.agg #[x1, x2], .agg #[x3, x4]]) call54 rfl (sEndTerm_spec hr1 hr2 hr3 hr4 (hla := (by first | assumption | rfl | omega | simp)) (hlr := (by first | assumption | rfl | omega | simp)) (hrb := (by first | assumption | rfl | omega | simp)) (hlf := (by first | assumption | rfl | omega | simp)) (hlss := (by first | assumption | rfl | omega | simp)) (hsb := (by first | assumption | rfl | omega | simp))) ?_)
  rintro v1 _ _ _ ⟨rfl, hs1, rfl⟩
  refine ⟨_, _, rfl, fun F7 le7 hz1 => ?_⟩
  replace f10_2hr := f10_2hr.mono le7
  have hf1 : IntsF F7 v1 ((endT x5 x6 x7 x8)) := intsH.fz (xs := (endT x5 x6 x7 x8)) hz1.fz
  refine qr (t := 94) rfl (vB h10) (qm (args := [u1, v1]) call32 rfl (SameTerm_spec f10_2hr hf1 (hbd := (by first | assumption | rfl | omega | (left; simp; done) | (right; simp; done)))) ?_)
  rintro _ _ _ _ ⟨rfl, rfl, rfl⟩
  refine cX (qP (.bool (decide ((chainEndF x5 x6 ((chainWF x5 x6 x7 x8).1) ((chainWF x5 x6 x7 x8).2.1)) = ((endT x5 x6 x7 x8))))) (vB h10) rfl (qi (.bool (decide ((chainEndF x5 x6 ((chainWF x5 x6 x7 x8).1) ((chainWF x5 x6 x7 x8).2.1)) = ((endT x5 x6 x7 x8))))) rfl (qd (qu (qs (L' := L) [.bool (decide ((chainEndF x5 x6 ((chainWF x5 x6 x7 x8).1) ((chainWF x5 x6 x7 x8).2.1)) = ((endT x5 x6 x7 x8))))] (.bool (decide ((chainEndF x5 x6 ((chainWF x5 x6 x7 x8).1) ((chainWF x5 x6 x7 x8).2.1)) = ((endT x5 x6 x7 x8))))) (.tmp rfl .nil) rfl rF (qn (qn (qn (qn (qn le1 le2) le3) leG1) le6) le7) (sD (sD (sD sR))) ?_)))))
  exact ⟨(vB (by simp [chain_end hwk])), rfl, rfl⟩
 rw [Bool.not_eq_true] at h10
 exact absurd (chain_law2 hwk) (by rw [h10]; simp)
end Go.Proofs.YtenomejgjcpbdaaGreat
