/-
  Walks, one after the other (part 3).
-/
import Derived.Test.YtcdjpapjjoldeaaGreatQTL2
import Derived.Test.YtcdjpapjjoldeaaGreatQTB1
set_option linter.unusedSimpArgs false
set_option linter.unusedVariables false
namespace Go.Proofs.YtcdjpapjjoldeaaGreat
open Go X M Tryz

/- impl.overlap -/
set_option maxHeartbeats 1000000 in
set_option maxRecDepth 20000 in
theorem overlap_spec {F : FH} {L : List HP} {arv : Value} {ar : List Int} (har : IntsF F arv ar) {rsv : Value} {rs : List (List Int × List Int)} (hrs : PairsF F rsv rs) {o : Nat} {p : Nat} {u : Nat} (hsys : sysOk ar rs = true) (ho : o < rs.length) (hu : u < rs.length) (hp : p < (rs.getD o ([], [])).1.length) :
    Does prog 228 [.agg #[arv, rsv], ii ((o : Int)), ii ((p : Int)), ii ((u : Int))] F (L) (fun v F' L' => ((.tuple #[.pointer none, .bool false] : Value) = v ∧ meetB ar rs o p u = false ∧ L = L') ∨ (∃ b7 : Nat, (.tuple #[ptr b7 0, .bool false] : Value) = v ∧ meetB ar rs o p u = false ∧ L = L') ∨ (∃ (b7 : Nat) (b9 : List Value) (l9 : RowL), (.tuple #[ptr b7 0, .bool true] : Value) = v ∧ meetB ar rs o p u = true ∧ BindC F' b9 l9 ∧ MguP ar rs o p u l9 ∧ cellsH b7 (arv :: b9) 144 :: L = L')) := by
 refine qD func228 rfl rfl rfl ?_
 have hlo : termOk ar (rs.getD o ([], [])).1 = true := rule_L hsys ho
 have hllo : 1 ≤ (rs.getD o ([], [])).1.length ∧ (rs.getD o ([], [])).1.length ≤ 60 := termOk_len hlo
 have hglo : ∀ k, k < (rs.getD o ([], [])).1.length → -24 ≤ (rs.getD o ([], [])).1.getD k 0 := fun k h => termOk_ge hlo h
 have hlu : termOk ar (rs.getD u ([], [])).1 = true := rule_L hsys hu
 have hllu : 1 ≤ (rs.getD u ([], [])).1.length ∧ (rs.getD u ([], [])).1.length ≤ 60 := termOk_len hlu
 have hglu : ∀ k, k < (rs.getD u ([], [])).1.length → -24 ≤ (rs.getD u ([], [])).1.getD k 0 := fun k h => termOk_ge hlu h
 have hro : termOk ar (rs.getD o ([], [])).2 = true := rule_R hsys ho
 have hlro : 1 ≤ (rs.getD o ([], [])).2.length ∧ (rs.getD o ([], [])).2.length ≤ 60 := termOk_len hro
 have hgro : ∀ k, k < (rs.getD o ([], [])).2.length → -24 ≤ (rs.getD o ([], [])).2.getD k 0 := fun k h => termOk_ge hro h
 have hru : termOk ar (rs.getD u ([], [])).2 = true := rule_R hsys hu
 have hlru : 1 ≤ (rs.getD u ([], [])).2.length ∧ (rs.getD u ([], [])).2.length ≤ 60 := termOk_len hru
 have hgru : ∀ k, k < (rs.getD u ([], [])).2.length → -24 ≤ (rs.getD u ([], [])).2.getD k 0 := fun k h => termOk_ge hru h
 have hrl := (sysOk_iff.1 hsys).2.1
 have hsig := (sysOk_iff.1 hsys).1
 have hsl := sigOk_spec hsig
 refine qc (qa (cX (qV [arv, rsv] rfl rfl ?_)))
 intro b1
 refine qg ((.pointer none)) rfl (qg (.bool (false)) rfl (qb (qc (qc (qa (qf (ii ((o : Int))) rfl (qf (ii ((u : Int))) rfl (cX (jI rfl rfl (qf (.bool (decide ((o : Int) = (u : Int)))) rfl ?_))))))))))
 by_cases h1 : (o : Int) = (u : Int)
 ·refine qq (t := 14) rfl (vT h1) (qj (ii ((p : Int))) rfl (qq (t := 14) rfl (vT h1) (jI rfl rfl (cX (qR (.bool (decide ((p : Int) = 0))) (vT h1) rfl (qb ?_))))))
  refine qx (p := (p : Int) = 0) rfl (fun h2 => ?_) (fun h2 => ?_)
  ·refine qc (qa (qg ((.pointer none)) rfl (qg (.bool (false)) rfl (qb (qy (qk (qs (L' := L) [(.pointer none), .bool (false)] (.tuple #[(.pointer none), .bool (false)]) (.tmp rfl (.tmp rfl .nil)) rfl rF rF (sD sR) ?_)))))))
   exact .inl ⟨rfl, meet_self (by omega), rfl⟩
  refine qw (qc (qa (cX (qn (0) qH rfl qN (by decide) rfl rfl (cX (qB [arv] je qN rfl rfl (Rd.ownN [] rfl rfl) (cX (jw [arv, sN, sN, sN, sN, sN, sN, sN, sN, sN, sN, sN, sN, sN, sN, sN, sN, sN, sN, sN, sN, sN, sN, sN, sN, sN, sN, sN, sN, sN, sN, sN, sN, sN, sN, sN, sN, sN, sN, sN, sN, sN, sN, sN, sN, sN, sN, sN, sN] [sN, sN, sN, sN, sN, sN, sN, sN, sN, sN, sN, sN, sN, sN, sN, sN, sN, sN, sN, sN, sN, sN, sN, sN, sN, sN, sN, sN, sN, sN, sN, sN, sN, sN, sN, sN, sN, sN, sN, sN, sN, sN, sN, sN, sN, sN, sN, sN, sN] [(0, 1), (1, 48)] [(0, [arv])] ju zeroValue144 rfl (.cons rfl qN (.cons rfl sizeOf142 PlacesAre.nil)) rfl (.cons rfl CellsAre.nil) (cX (qV [arv, sN, sN, sN, sN, sN, sN, sN, sN, sN, sN, sN, sN, sN, sN, sN, sN, sN, sN, sN, sN, sN, sN, sN, sN, sN, sN, sN, sN, sN, sN, sN, sN, sN, sN, sN, sN, sN, sN, sN, sN, sN, sN, sN, sN, sN, sN, sN, sN] rfl rfl ?_))))))))))
  intro b2
  refine qg (ptr b2 0) rfl ?_
  have hc1 : BindC F _ _ := BindC.nils 48
  show XL _ _ _ _ _ _ _ (cellsH b2 (arv :: ((List.replicate 48 (sN)))) 144 :: cellsH b1 [arv, rsv] 66 :: L)
  skip
  refine qb (qc (X.free0 mixed (by kernel_rfl) (by kernel_rfl) (fun _ _ _ _ _ h => by obtain ⟨h1 | h1, _⟩ := h <;> cases h1) (fun _ _ _ h => by obtain ⟨h1 | h1, _⟩ := h <;> cases h1) ?_))
  obtain ⟨a1, a2, ha1, ha2, hr1, hr2⟩ := hrs.rd (i := o) (by omega)
  obtain ⟨a3, a4, ha3, ha4, hr3, hr4⟩ := hrs.rd (i := u) (by omega)
  refine XA.drawG [cellsH b2 (arv :: ((List.replicate 48 (sN)))) 144, cellsH b1 [arv, rsv] 66] L 19 [[], [], [], [], [], [], [], [], [], [], [], [], [], [], [], [], [], [], []] [[], [], [], [2], [], [4], [], [5, 6], [7], [8], [], [3, 9, 10], [], [12], [], [13, 14], [15], [16], [17]] [[], [], [], [], [], [], [], [], [], [], [], [], [], [], [], [], [], [], []] (phiG [fun FF us v => v = ptr b2 0, fun FF us v => v = ptr b2 0, fun FF us v => v = ptr b1 0, fun FF us v => v = (.agg #[arv] : Value), fun FF us v => v = ptr b1 1, fun FF us v => v = rsv, fun FF us v => v = (ii ((o : Int)) : Value), fun FF us v => v = (.pointer (some (elemA rsv (o * 2))) : Value), fun FF us v => v = (.pointer (some (elemA rsv (o * 2))) : Value), fun FF us v => v = a1, fun FF us v => v = (ii ((p : Int)) : Value), fun FF us v => ((v) : Value) = v ∧ (IntsF FF (v) (sub ar ((rs.getD o ([], [])).1) p)) ∧ (isNil (v) = false), fun FF us v => v = ptr b1 1, fun FF us v => v = rsv, fun FF us v => v = (ii ((u : Int)) : Value), fun FF us v => v = (.pointer (some (elemA rsv (u * 2))) : Value), fun FF us v => v = (.pointer (some (elemA rsv (u * 2))) : Value), fun FF us v => v = a3, fun FF us v => ((v) : Value) = v ∧ (IntsF FF (v) (awayL ((rs.getD u ([], [])).1)))]) (ownL [fun us v => [], fun us v => [], fun us v => [], fun us v => [], fun us v => [], fun us v => [], fun us v => [], fun us v => [], fun us v => [], fun us v => [], fun us v => [], fun us v => [], fun us v => [], fun us v => [], fun us v => [], fun us v => [], fun us v => [], fun us v => [], fun us v => []]) rfl rfl (by kernel_rfl) (by kernel_rfl) (MonoG.get (mC (fun le h => h) (mC (fun le h => h) (mC (fun le h => h) (mC (fun le h => h) (mC (fun le h => h) (mC (fun le h => h) (mC (fun le h => h) (mC (fun le h => h) (mC (fun le h => h) (mC (fun le h => h) (mC (fun le h => h) (mC (fun le h => ⟨h.1, h.2.1.mono le, h.2.2⟩) (mC (fun le h => h) (mC (fun le h => h) (mC (fun le h => h) (mC (fun le h => h) (mC (fun le h => h) (mC (fun le h => h) (mC (fun le h => ⟨h.1, h.2.mono le⟩) MonoG.nil)))))))))))))))))))) ?_ ?_
  ·refine gD (fun W Fs R lF z9 => ?_) ?_
   ·refine qh (qj (ptr b2 0) rfl ?_)
    exact ⟨rfl, rfl⟩
   refine gD (fun W Fs R lF z9 => ?_) ?_
   ·refine qh (qj (ptr b2 0) rfl ?_)
    exact ⟨rfl, rfl⟩
   refine gD (fun W Fs R lF z9 => ?_) ?_
   ·refine qh (qn (0) qH rfl qN (by decide) rfl rfl ?_)
    exact ⟨rfl, rfl⟩
   refine gD (fun W Fs R lF z9 => ?_) ?_
   ·replace har := har.mono lF
    replace hrs := hrs.mono lF
    replace hc1 := hc1.mono lF
    replace ha1 := ha1.mono lF
    replace ha3 := ha3.mono lF
    replace hr1 := Rd.monoA hr1 lF
    replace hr3 := Rd.monoA hr3 lF
    rw [eS (l := [(2, _)]) ⟨z9 2 rfl, ⟨⟩⟩]
    refine qh (qB [arv] je qN rfl rfl (Rd.ownN [_] rfl rfl) ?_)
    exact ⟨rfl, rfl⟩
   refine gD (fun W Fs R lF z9 => ?_) ?_
   ·refine qh (qn (1) qH rfl jx (by decide) rfl rfl ?_)
    exact ⟨rfl, rfl⟩
   refine gD (fun W Fs R lF z9 => ?_) ?_
   ·replace har := har.mono lF
    replace hrs := hrs.mono lF
    replace hc1 := hc1.mono lF
    replace ha1 := ha1.mono lF
    replace ha3 := ha3.mono lF
    replace hr1 := Rd.monoA hr1 lF
    replace hr3 := Rd.monoA hr3 lF
    rw [eS (l := [(4, _)]) ⟨z9 4 rfl, ⟨⟩⟩]
    refine qh (qi jG rfl (Rd.own [_] rfl rfl) ?_)
    exact ⟨rfl, rfl⟩
   refine gD (fun W Fs R lF z9 => ?_) ?_
   ·refine qh (qj (ii ((o : Int))) rfl ?_)
    exact ⟨rfl, rfl⟩
   refine gD (fun W Fs R lF z9 => ?_) ?_
   ·replace har := har.mono lF
    replace hrs := hrs.mono lF
    replace hc1 := hc1.mono lF
    replace ha1 := ha1.mono lF
    replace ha3 := ha3.mono lF
    replace hr1 := Rd.monoA hr1 lF
    replace hr3 := Rd.monoA hr3 lF
    rw [eS (l := [(5, _), (6, _)]) ⟨z9 5 rfl, z9 6 rfl, ⟨⟩⟩]
    refine qh (ql o qU jh rfl rfl rfl hrs.slv (by omega) rfl ?_)
    exact ⟨rfl, rfl⟩
   refine gD (fun W Fs R lF z9 => ?_) ?_
   ·rw [eS (l := [(7, _)]) ⟨z9 7 rfl, ⟨⟩⟩]
    refine qh (jZ (o * 2) qQ rfl qr (by decide) rfl rfl ?_)
    exact ⟨rfl, rfl⟩
   refine gD (fun W Fs R lF z9 => ?_) ?_
   ·replace har := har.mono lF
    replace hrs := hrs.mono lF
    replace hc1 := hc1.mono lF
    replace ha1 := ha1.mono lF
    replace ha3 := ha3.mono lF
    replace hr1 := Rd.monoA hr1 lF
    replace hr3 := Rd.monoA hr3 lF
    rw [eS (l := [(8, _)]) ⟨z9 8 rfl, ⟨⟩⟩]
    refine qh (qi qP rfl (hr1 _) ?_)
    exact ⟨rfl, rfl⟩
   refine gD (fun W Fs R lF z9 => ?_) ?_
   ·refine qh (qj (ii ((p : Int))) rfl ?_)
    exact ⟨rfl, rfl⟩
   refine gD (fun W Fs R lF z9 => ?_) ?_
   ·replace har := har.mono lF
    replace hrs := hrs.mono lF
    replace hc1 := hc1.mono lF
    replace ha1 := ha1.mono lF
    replace ha3 := ha3.mono lF
    replace hr3 := Rd.monoA hr3 lF
    rw [eS (l := [(3, _), (9, _), (10, _)]) ⟨z9 3 rfl, z9 9 rfl, z9 10 rfl, ⟨⟩⟩]
    refine qh (qt (args := [.agg #[arv], a1, ii (p : Int)]) call55 rfl (subAtW_spec (p := p) har ha1 (ho := (termW_of hlo)) (hp := (hp)) (hnn := (by first | assumption | exact jO (by assumption) (by omega)))) ?_)
    rintro v3 _ _ _ ⟨rfl, rfl, hv2, hn2⟩
    exact ⟨⟨rfl, hv2, hn2⟩, rfl⟩
   refine gD (fun W Fs R lF z9 => ?_) ?_
   ·refine qh (qn (1) qH rfl jx (by decide) rfl rfl ?_)
    exact ⟨rfl, rfl⟩
   refine gD (fun W Fs R lF z9 => ?_) ?_
   ·replace har := har.mono lF
    replace hrs := hrs.mono lF
    replace hc1 := hc1.mono lF
    replace ha3 := ha3.mono lF
    replace hr3 := Rd.monoA hr3 lF
    rw [eS (l := [(12, _)]) ⟨z9 12 rfl, ⟨⟩⟩]
    refine qh (qi jG rfl (Rd.own [_] rfl rfl) ?_)
    exact ⟨rfl, rfl⟩
   refine gD (fun W Fs R lF z9 => ?_) ?_
   ·refine qh (qj (ii ((u : Int))) rfl ?_)
    exact ⟨rfl, rfl⟩
   refine gD (fun W Fs R lF z9 => ?_) ?_
   ·replace har := har.mono lF
    replace hrs := hrs.mono lF
    replace hc1 := hc1.mono lF
    replace ha3 := ha3.mono lF
    replace hr3 := Rd.monoA hr3 lF
    rw [eS (l := [(13, _), (14, _)]) ⟨z9 13 rfl, z9 14 rfl, ⟨⟩⟩]
    refine qh (ql u qU jh rfl rfl rfl hrs.slv (by omega) rfl ?_)
    exact ⟨rfl, rfl⟩
   refine gD (fun W Fs R lF z9 => ?_) ?_
   ·rw [eS (l := [(15, _)]) ⟨z9 15 rfl, ⟨⟩⟩]
    refine qh (jZ (u * 2) qQ rfl qr (by decide) rfl rfl ?_)
    exact ⟨rfl, rfl⟩
   refine gD (fun W Fs R lF z9 => ?_) ?_
   ·replace har := har.mono lF
    replace hrs := hrs.mono lF
    replace hc1 := hc1.mono lF
    replace ha3 := ha3.mono lF
    replace hr3 := Rd.monoA hr3 lF
    rw [eS (l := [(16, _)]) ⟨z9 16 rfl, ⟨⟩⟩]
    refine qh (qi qP rfl (hr3 _) ?_)
    exact ⟨rfl, rfl⟩
   refine gD (fun W Fs R lF z9 => ?_) ?_
   ·replace har := har.mono lF
    replace hrs := hrs.mono lF
    replace hc1 := hc1.mono lF
    replace ha3 := ha3.mono lF
    rw [eS (l := [(17, _)]) ⟨z9 17 rfl, ⟨⟩⟩]
    refine qh (jK <| qt (args := [a3]) call96 rfl (away_spec ha3 (hlt := (by omega)) (htg := (fun i hi => by have := hglu i hi; omega))) ?_)
    rintro v4 _ _ _ ⟨rfl, hs2, rfl⟩
    refine ⟨_, _, rfl, fun F1 le1 hz1 => ?_⟩
    replace har := har.mono le1
    replace hrs := hrs.mono le1
    replace hc1 := hc1.mono le1
    have hf1 : IntsF F1 v4 ((awayL ((rs.getD u ([], [])).1))) := intsH.fz (xs := (awayL ((rs.getD u ([], [])).1))) hz1.fz
    exact ⟨⟨rfl, hf1⟩, rfl⟩
   exact stepsG.nil
  intro W F2 le2 hphi
  obtain ⟨e11, f11_1ha, f11_1hn⟩ := hphi 11 (by decide)
  obtain ⟨e18, f18_1ha⟩ := hphi 18 (by decide)
  generalize hu1 : ((W 11)) = u1 at e11 f11_1ha f11_1hn e18 f18_1ha
  generalize hu2 : ((W 18)) = u2 at e11 f11_1ha f11_1hn e18 f18_1ha
  rw [eS (l := [(0, _), (1, _), (11, u1), (18, u2)]) ⟨(hphi 0 (by decide)), (hphi 1 (by decide)), hu1, hu2, ⟨⟩⟩]
  replace har := har.mono le2
  replace hrs := hrs.mono le2
  replace hc1 := hc1.mono le2
  show XL _ _ _ _ _ _ _ (cellsH b2 (arv :: ((List.replicate 48 (sN)))) 144 :: cellsH b1 [arv, rsv] 66 :: L)
  refine cX (qt (args := [ptr b2 0, u1, u2]) call95 rfl (solve_spec har hc1 BOk.nils f11_1ha f18_1ha (termW_of (sub_ok hlo hp)) (away_W hlu) (by first | assumption | exact jO f11_1ha (by have := termOk_len (sub_ok hlo hp); omega)) (jO f18_1ha (by rw [away_len]; omega))) ?_)
  rintro _ F3 _ le3 ⟨ok9, b3, l1, rfl, hb1, hy1, hn3, rfl⟩
  cases ok9
  ·replace har := har.mono le3
   replace hrs := hrs.mono le3
   refine qg (ptr b2 0) rfl (qg (.bool (false)) rfl (qb (qy (qs (L' := L) [ptr b2 0, .bool (false)] (.tuple #[ptr b2 0, .bool (false)]) (.tmp rfl (.tmp rfl .nil)) rfl (qm le2 le3) rF (sD (sD sR)) ?_))))
   exact .inr (.inl ⟨_, rfl, meet_no (nils_no (hn3 rfl)), rfl⟩)
  replace har := har.mono le3
  replace hrs := hrs.mono le3
  refine qg (ptr b2 0) rfl (qg (.bool (true)) rfl (qb (qy (qs (L' := cellsH b2 (arv :: b3) 144 :: L) [ptr b2 0, .bool (true)] (.tuple #[ptr b2 0, .bool (true)]) (.tmp rfl (.tmp rfl .nil)) rfl (qm le2 le3) rF (sC (sD sR)) ?_))))
  have hm9 := Mgu.of (hy1 rfl)
  exact .inr (.inr ⟨_, _, _, rfl, meet_yes (by omega) hm9, hb1, hm9, rfl⟩)
 refine qp (t := 14) rfl (vF h1) (qp (t := 14) rfl (vF h1) (cX (qS (.bool (false)) (vF h1) rfl (qb (jz rfl (qw (qc (qa (cX (qn (0) qH rfl qN (by decide) rfl rfl (cX (qB [arv] je qN rfl rfl (Rd.ownN [] rfl rfl) (cX (jw [arv, sN, sN, sN, sN, sN, sN, sN, sN, sN, sN, sN, sN, sN, sN, sN, sN, sN, sN, sN, sN, sN, sN, sN, sN, sN, sN, sN, sN, sN, sN, sN, sN, sN, sN, sN, sN, sN, sN, sN, sN, sN, sN, sN, sN, sN, sN, sN, sN] [sN, sN, sN, sN, sN, sN, sN, sN, sN, sN, sN, sN, sN, sN, sN, sN, sN, sN, sN, sN, sN, sN, sN, sN, sN, sN, sN, sN, sN, sN, sN, sN, sN, sN, sN, sN, sN, sN, sN, sN, sN, sN, sN, sN, sN, sN, sN, sN, sN] [(0, 1), (1, 48)] [(0, [arv])] ju zeroValue144 rfl (.cons rfl qN (.cons rfl sizeOf142 PlacesAre.nil)) rfl (.cons rfl CellsAre.nil) (cX (qV [arv, sN, sN, sN, sN, sN, sN, sN, sN, sN, sN, sN, sN, sN, sN, sN, sN, sN, sN, sN, sN, sN, sN, sN, sN, sN, sN, sN, sN, sN, sN, sN, sN, sN, sN, sN, sN, sN, sN, sN, sN, sN, sN, sN, sN, sN, sN, sN, sN] rfl rfl ?_))))))))))))))))
 intro b4
 refine qg (ptr b4 0) rfl ?_
 have hc2 : BindC F _ _ := BindC.nils 48
 show XL _ _ _ _ _ _ _ (cellsH b4 (arv :: ((List.replicate 48 (sN)))) 144 :: cellsH b1 [arv, rsv] 66 :: L)
 skip
 refine qb (qc (X.free0 mixed (by kernel_rfl) (by kernel_rfl) (fun _ _ _ _ _ h => by obtain ⟨h1 | h1, _⟩ := h <;> cases h1) (fun _ _ _ h => by obtain ⟨h1 | h1, _⟩ := h <;> cases h1) ?_))
 obtain ⟨a5, a6, ha5, ha6, hr5, hr6⟩ := hrs.rd (i := o) (by omega)
 obtain ⟨a7, a8, ha7, ha8, hr7, hr8⟩ := hrs.rd (i := u) (by omega)
 refine XA.drawG [cellsH b4 (arv :: ((List.replicate 48 (sN)))) 144, cellsH b1 [arv, rsv] 66] L 19 [[], [], [], [], [], [], [], [], [], [], [], [], [], [], [], [], [], [], []] [[], [], [], [2], [], [4], [], [5, 6], [7], [8], [], [3, 9, 10], [], [12], [], [13, 14], [15], [16], [17]] [[], [], [], [], [], [], [], [], [], [], [], [], [], [], [], [], [], [], []] (phiG [fun FF us v => v = ptr b4 0, fun FF us v => v = ptr b4 0, fun FF us v => v = ptr b1 0, fun FF us v => v = (.agg #[arv] : Value), fun FF us v => v = ptr b1 1, fun FF us v => v = rsv, fun FF us v => v = (ii ((o : Int)) : Value), fun FF us v => v = (.pointer (some (elemA rsv (o * 2))) : Value), fun FF us v => v = (.pointer (some (elemA rsv (o * 2))) : Value), fun FF us v => v = a5, fun FF us v => v = (ii ((p : Int)) : Value), fun FF us v => ((v) : Value) = v ∧ (IntsF FF (v) (sub ar ((rs.getD o ([], [])).1) p)) ∧ (isNil (v) = false), fun FF us v => v = ptr b1 1, fun FF us v => v = rsv, fun FF us v => v = (ii ((u : Int)) : Value), fun FF us v => v = (.pointer (some (elemA rsv (u * 2))) : Value), fun FF us v => v = (.pointer (some (elemA rsv (u * 2))) : Value), fun FF us v => v = a7, fun FF us v => ((v) : Value) = v ∧ (IntsF FF (v) (awayL ((rs.getD u ([], [])).1)))]) (ownL [fun us v => [], fun us v => [], fun us v => [], fun us v => [], fun us v => [], fun us v => [], fun us v => [], fun us v => [], fun us v => [], fun us v => [], fun us v => [], fun us v => [], fun us v => [], fun us v => [], fun us v => [], fun us v => [], fun us v => [], fun us v => [], fun us v => []]) rfl rfl (by kernel_rfl) (by kernel_rfl) (MonoG.get (mC (fun le h => h) (mC (fun le h => h) (mC (fun le h => h) (mC (fun le h => h) (mC (fun le h => h) (mC (fun le h => h) (mC (fun le h => h) (mC (fun le h => h) (mC (fun le h => h) (mC (fun le h => h) (mC (fun le h => h) (mC (fun le h => ⟨h.1, h.2.1.mono le, h.2.2⟩) (mC (fun le h => h) (mC (fun le h => h) (mC (fun le h => h) (mC (fun le h => h) (mC (fun le h => h) (mC (fun le h => h) (mC (fun le h => ⟨h.1, h.2.mono le⟩) MonoG.nil)))))))))))))))))))) ?_ ?_
 ·refine gD (fun W Fs R lF z9 => ?_) ?_
  ·refine qh (qj (ptr b4 0) rfl ?_)
   exact ⟨rfl, rfl⟩
  refine gD (fun W Fs R lF z9 => ?_) ?_
  ·refine qh (qj (ptr b4 0) rfl ?_)
   exact ⟨rfl, rfl⟩
  refine gD (fun W Fs R lF z9 => ?_) ?_
  ·refine qh (qn (0) qH rfl qN (by decide) rfl rfl ?_)
   exact ⟨rfl, rfl⟩
  refine gD (fun W Fs R lF z9 => ?_) ?_
  ·replace har := har.mono lF
   replace hrs := hrs.mono lF
   replace hc2 := hc2.mono lF
   replace ha5 := ha5.mono lF
   replace ha7 := ha7.mono lF
   replace hr5 := Rd.monoA hr5 lF
   replace hr7 := Rd.monoA hr7 lF
   rw [eS (l := [(2, _)]) ⟨z9 2 rfl, ⟨⟩⟩]
   refine qh (qB [arv] je qN rfl rfl (Rd.ownN [_] rfl rfl) ?_)
   exact ⟨rfl, rfl⟩
  refine gD (fun W Fs R lF z9 => ?_) ?_
  ·refine qh (qn (1) qH rfl jx (by decide) rfl rfl ?_)
   exact ⟨rfl, rfl⟩
  refine gD (fun W Fs R lF z9 => ?_) ?_
  ·replace har := har.mono lF
   replace hrs := hrs.mono lF
   replace hc2 := hc2.mono lF
   replace ha5 := ha5.mono lF
   replace ha7 := ha7.mono lF
   replace hr5 := Rd.monoA hr5 lF
   replace hr7 := Rd.monoA hr7 lF
   rw [eS (l := [(4, _)]) ⟨z9 4 rfl, ⟨⟩⟩]
   refine qh (qi jG rfl (Rd.own [_] rfl rfl) ?_)
   exact ⟨rfl, rfl⟩
  refine gD (fun W Fs R lF z9 => ?_) ?_
  ·refine qh (qj (ii ((o : Int))) rfl ?_)
   exact ⟨rfl, rfl⟩
  refine gD (fun W Fs R lF z9 => ?_) ?_
  ·replace har := har.mono lF
   replace hrs := hrs.mono lF
   replace hc2 := hc2.mono lF
   replace ha5 := ha5.mono lF
   replace ha7 := ha7.mono lF
   replace hr5 := Rd.monoA hr5 lF
   replace hr7 := Rd.monoA hr7 lF
   rw [eS (l := [(5, _), (6, _)]) ⟨z9 5 rfl, z9 6 rfl, ⟨⟩⟩]
   refine qh (ql o qU jh rfl rfl rfl hrs.slv (by omega) rfl ?_)
   exact ⟨rfl, rfl⟩
  refine gD (fun W Fs R lF z9 => ?_) ?_
  ·rw [eS (l := [(7, _)]) ⟨z9 7 rfl, ⟨⟩⟩]
   refine qh (jZ (o * 2) qQ rfl qr (by decide) rfl rfl ?_)
   exact ⟨rfl, rfl⟩
  refine gD (fun W Fs R lF z9 => ?_) ?_
  ·replace har := har.mono lF
   replace hrs := hrs.mono lF
   replace hc2 := hc2.mono lF
   replace ha5 := ha5.mono lF
   replace ha7 := ha7.mono lF
   replace hr5 := Rd.monoA hr5 lF
   replace hr7 := Rd.monoA hr7 lF
   rw [eS (l := [(8, _)]) ⟨z9 8 rfl, ⟨⟩⟩]
   refine qh (qi qP rfl (hr5 _) ?_)
   exact ⟨rfl, rfl⟩
  refine gD (fun W Fs R lF z9 => ?_) ?_
  ·refine qh (qj (ii ((p : Int))) rfl ?_)
   exact ⟨rfl, rfl⟩
  refine gD (fun W Fs R lF z9 => ?_) ?_
  ·replace har := har.mono lF
   replace hrs := hrs.mono lF
   replace hc2 := hc2.mono lF
   replace ha5 := ha5.mono lF
   replace ha7 := ha7.mono lF
   replace hr7 := Rd.monoA hr7 lF
   rw [eS (l := [(3, _), (9, _), (10, _)]) ⟨z9 3 rfl, z9 9 rfl, z9 10 rfl, ⟨⟩⟩]
   refine qh (qt (args := [.agg #[arv], a5, ii (p : Int)]) call55 rfl (subAtW_spec (p := p) har ha5 (ho := (termW_of hlo)) (hp := (hp)) (hnn := (by first | assumption | exact jO (by assumption) (by omega)))) ?_)
   rintro v7 _ _ _ ⟨rfl, rfl, hv4, hn5⟩
   exact ⟨⟨rfl, hv4, hn5⟩, rfl⟩
  refine gD (fun W Fs R lF z9 => ?_) ?_
  ·refine qh (qn (1) qH rfl jx (by decide) rfl rfl ?_)
   exact ⟨rfl, rfl⟩
  refine gD (fun W Fs R lF z9 => ?_) ?_
  ·replace har := har.mono lF
   replace hrs := hrs.mono lF
   replace hc2 := hc2.mono lF
   replace ha7 := ha7.mono lF
   replace hr7 := Rd.monoA hr7 lF
   rw [eS (l := [(12, _)]) ⟨z9 12 rfl, ⟨⟩⟩]
   refine qh (qi jG rfl (Rd.own [_] rfl rfl) ?_)
   exact ⟨rfl, rfl⟩
  refine gD (fun W Fs R lF z9 => ?_) ?_
  ·refine qh (qj (ii ((u : Int))) rfl ?_)
   exact ⟨rfl, rfl⟩
  refine gD (fun W Fs R lF z9 => ?_) ?_
  ·replace har := har.mono lF
   replace hrs := hrs.mono lF
   replace hc2 := hc2.mono lF
   replace ha7 := ha7.mono lF
   replace hr7 := Rd.monoA hr7 lF
   rw [eS (l := [(13, _), (14, _)]) ⟨z9 13 rfl, z9 14 rfl, ⟨⟩⟩]
   refine qh (ql u qU jh rfl rfl rfl hrs.slv (by omega) rfl ?_)
   exact ⟨rfl, rfl⟩
  refine gD (fun W Fs R lF z9 => ?_) ?_
  ·rw [eS (l := [(15, _)]) ⟨z9 15 rfl, ⟨⟩⟩]
   refine qh (jZ (u * 2) qQ rfl qr (by decide) rfl rfl ?_)
   exact ⟨rfl, rfl⟩
  refine gD (fun W Fs R lF z9 => ?_) ?_
  ·replace har := har.mono lF
   replace hc2 := hc2.mono lF
   replace ha7 := ha7.mono lF
   replace hr7 := Rd.monoA hr7 lF
   rw [eS (l := [(16, _)]) ⟨z9 16 rfl, ⟨⟩⟩]
   refine qh (qi qP rfl (hr7 _) ?_)
   exact ⟨rfl, rfl⟩
  refine gD (fun W Fs R lF z9 => ?_) ?_
  ·replace har := har.mono lF
   replace hc2 := hc2.mono lF
   replace ha7 := ha7.mono lF
   rw [eS (l := [(17, _)]) ⟨z9 17 rfl, ⟨⟩⟩]
   refine qh (jK <| qt (args := [a7]) call96 rfl (away_spec ha7 (hlt := (by omega)) (htg := (fun i hi => by have := hglu i hi; omega))) ?_)
   rintro v8 _ _ _ ⟨rfl, hs4, rfl⟩
   refine ⟨_, _, rfl, fun F4 le4 hz2 => ?_⟩
   replace har := har.mono le4
   replace hc2 := hc2.mono le4
   have hf2 : IntsF F4 v8 ((awayL ((rs.getD u ([], [])).1))) := intsH.fz (xs := (awayL ((rs.getD u ([], [])).1))) hz2.fz
   exact ⟨⟨rfl, hf2⟩, rfl⟩
  exact stepsG.nil
 intro W F5 le5 hphi
 obtain ⟨e11, f11_2ha, f11_2hn⟩ := hphi 11 (by decide)
 obtain ⟨e18, f18_2ha⟩ := hphi 18 (by decide)
 generalize hu3 : ((W 11)) = u3 at e11 f11_2ha f11_2hn e18 f18_2ha
 generalize hu4 : ((W 18)) = u4 at e11 f11_2ha f11_2hn e18 f18_2ha
 rw [eS (l := [(0, _), (1, _), (11, u3), (18, u4)]) ⟨(hphi 0 (by decide)), (hphi 1 (by decide)), hu3, hu4, ⟨⟩⟩]
 replace har := har.mono le5
 replace hc2 := hc2.mono le5
 show XL _ _ _ _ _ _ _ (cellsH b4 (arv :: ((List.replicate 48 (sN)))) 144 :: cellsH b1 [arv, rsv] 66 :: L)
 refine cX (qt (args := [ptr b4 0, u3, u4]) call95 rfl (solve_spec har hc2 BOk.nils f11_2ha f18_2ha (termW_of (sub_ok hlo hp)) (away_W hlu) (by first | assumption | exact jO f11_2ha (by have := termOk_len (sub_ok hlo hp); omega)) (jO f18_2ha (by rw [away_len]; omega))) ?_)
 rintro _ F6 _ le6 ⟨ok9, b5, l2, rfl, hb2, hy2, hn6, rfl⟩
 cases ok9
 ·replace har := har.mono le6
  refine qg (ptr b4 0) rfl (qg (.bool (false)) rfl (qb (qy (qs (L' := L) [ptr b4 0, .bool (false)] (.tuple #[ptr b4 0, .bool (false)]) (.tmp rfl (.tmp rfl .nil)) rfl (qm le5 le6) rF (sD (sD sR)) ?_))))
  exact .inr (.inl ⟨_, rfl, meet_no (nils_no (hn6 rfl)), rfl⟩)
 replace har := har.mono le6
 refine qg (ptr b4 0) rfl (qg (.bool (true)) rfl (qb (qy (qs (L' := cellsH b4 (arv :: b5) 144 :: L) [ptr b4 0, .bool (true)] (.tuple #[ptr b4 0, .bool (true)]) (.tmp rfl (.tmp rfl .nil)) rfl (qm le5 le6) rF (sC (sD sR)) ?_))))
 have hm9 := Mgu.of (hy2 rfl)
 exact .inr (.inr ⟨_, _, _, rfl, meet_yes (by omega) hm9, hb2, hm9, rfl⟩)

/- impl.renumber -/
set_option maxHeartbeats 1000000 in
set_option maxRecDepth 20000 in
theorem renumber_spec {F : FH} {L : List HP} {tsv : Value} {ts : List (List Int)} (hts : RowsF F tsv ts) (htl : ts.length ≤ 100) (hrb : ∀ i, i < ts.length → (ts.getD i []).length ≤ 60) :
    Does prog 221 [tsv] F (L) (fun v F' L' => ∃ (cs : List Value) (Us : List HP), ArrF F' 1 v (rnL [] ts).length cs ∧ RowsC F' cs (rnL [] ts) ∧ DeepL 1 (RowO 2) cs (rnL [] ts) Us ∧ Fresh F F' (star Us) ∧ L = L') := by
 refine qD func221 rfl rfl rfl (qc (qa (qg (sN) rfl (qb (qc (qa (qg (sN) rfl (qb (qc (qa (qg (sN) rfl (qb (qc (qc (qa (qf (tsv) rfl (cX (qC qA rfl hts.slv ?_))))))))))))))))))
 refine qf (ii (0)) rfl (qb (qF (jj (α := Nat × Value × RowL × List Value × List HP × Nat × Value × List Int × FH) (fun xQ => [(3, xQ.2.2.2.2.2.2.1), (4, xQ.2.1), (11, tsv), (12, ii ((ts.length : Int))), (13, ii (((xQ.1 : Nat) : Int)))]) (fun xQ => slH 22 1 xQ.2.1 xQ.2.2.2.2.2.1 xQ.2.2.2.1 :: intsH 2 xQ.2.2.2.2.2.2.1 xQ.2.2.2.2.2.2.2.1 :: L) (fun xQ F' => xQ.2.2.2.2.2.2.2.2 = F' ∧ F ≤ xQ.2.2.2.2.2.2.2.2 ∧ (IsSl xQ.2.1) ∧ (xQ.1 ≤ ts.length) ∧ (RowsC xQ.2.2.2.2.2.2.2.2 xQ.2.2.2.1 xQ.2.2.1) ∧ (xQ.2.2.2.2.2.1 = xQ.2.2.1.length) ∧ (DeepL 1 (RowO 2) xQ.2.2.2.1 xQ.2.2.1 xQ.2.2.2.2.1) ∧ (Fresh F xQ.2.2.2.2.2.2.2.2 (star xQ.2.2.2.2.1)) ∧ (IsSl xQ.2.2.2.2.2.2.1) ∧ (rnL [] ts = xQ.2.2.1 ++ rnL xQ.2.2.2.2.2.2.2.1 (ts.drop xQ.1)) ∧ (xQ.2.2.2.2.2.2.2.1.length ≤ xQ.1 * 60)) (fun xQ => ts.length - xQ.1) (0, sN, [], [], [], 0, sN, [], F) ⟨rfl, rfl, rfl, rfl, rfl, ⟨⟩⟩ (qO (Sub.addNil 22 1 _ _) (sC (qO (intsH.addNil 2 none _) (sC sR)))) ⟨rfl, FLe.refl _, (⟨_, _, _, rfl⟩), (by (try dsimp only) <;> omega), (CO.nil), (rfl), (DeepL.nil), (Fresh.nilL), (⟨_, _, _, rfl⟩), (rfl), (Nat.zero_le _)⟩ ?_)))
 rintro ⟨k, ov, os, ocs, Us, m, zv, zs, G1⟩ rE _ _ ⟨rfl, leG, hov, hk, hC, hm, hD, hZ, hzv, hrn, hzl⟩
 show X _ _ _ _ (envs [(3, zv), (4, ov), (11, tsv), (12, ii ((ts.length : Int))), (13, ii ((k : Int)))] rE) _ (slH 22 1 ov m ocs :: intsH 2 zv zs :: L)
 replace leG : F ≤ G1 := leG
 dsimp only at hov hk hC hm hD hZ hzv hrn hzl
 have hrbk := hrb k
 have hol : os.length ≤ ts.length := by have h9 := congrArg List.length hrn; rw [List.length_append, rnL_len] at h9; omega
 have leG1 := leG
 replace hts := hts.mono leG1
 refine qc (qa (cX (qL rfl rfl (qb (qc ?_)))))
 refine qx (p := (k : Int) < (ts.length : Int)) rfl (fun h1 => ?_) (fun h1 => ?_)
 ·refine qw (qc (qF (qc (qa (cX (ql k qA qr rfl rfl rfl hts.slv (by omega) (Nat.mul_one _) ?_))))))
  obtain ⟨a1, ha1, hr1⟩ := hts.rd (i := k) (by omega)
  refine cX (qi qP rfl (hr1 _) (qg (a1) rfl (qb (qc (qa (qf (a1) rfl (cX (qt (args := [a1]) call53 rfl (Clone_spec ha1 (hlt := (by have := hrbk (by omega); omega))) ?_))))))))
  rintro v1 _ _ _ ⟨rfl, hs1, rfl⟩
  refine qg (v1) rfl (qb (qc (qc (qa (qf (v1) rfl (cX (qC qd rfl (intsH.slv [] rfl) (qf (ii (0)) rfl (qb (qF (jj (α := Nat × List Int × Value × List Int) (fun xQ => [(3, xQ.2.2.1), (4, ov), (7, v1), (11, tsv), (12, ii ((ts.length : Int))), (13, ii ((k : Int))), (19, v1), (20, ii (((((((ts.getD k [])))).length : Nat) : Int))), (21, ii (((xQ.1 : Nat) : Int)))]) (fun xQ => intsH 2 v1 xQ.2.1 :: slH 22 1 ov m ocs :: intsH 2 xQ.2.2.1 xQ.2.2.2 :: L) (fun xQ F' => G1 = F' ∧ (xQ.1 ≤ (ts.getD k []).length) ∧ (IsSl xQ.2.2.1) ∧ (RnAt zs (ts.getD k []) xQ.2.2.2 xQ.2.1 xQ.1) ∧ (xQ.2.2.2.length ≤ k * 60 + xQ.1)) (fun xQ => (ts.getD k []).length - xQ.1) (0, (ts.getD k []), zv, zs) ⟨rfl, rfl, rfl, rfl, rfl, rfl, rfl, rfl, rfl, ⟨⟩⟩ (sC (sC (sC sR))) ⟨rfl, (by (try dsimp only) <;> omega), (hzv), (RnAt.start), (by (try dsimp only); omega)⟩ ?_)))))))))))
  rintro ⟨j, ws, zv2, zs2⟩ rE _ _ ⟨rfl, hj, hzv2, hR, hzl2⟩
  show X _ _ _ _ (envs [(3, zv2), (4, ov), (7, v1), (11, tsv), (12, ii ((ts.length : Int))), (13, ii ((k : Int))), (19, v1), (20, ii (((((((ts.getD k [])))).length : Nat) : Int))), (21, ii ((j : Int)))] rE) _ (intsH 2 v1 ws :: slH 22 1 ov m ocs :: intsH 2 zv2 zs2 :: L)
  dsimp only at hj hzv2 hR hzl2
  have hwl := hR.len
  have hwj := fun h : j < (ts.getD k []).length => hR.at h
  refine qc (qa (cX (qL rfl rfl (qb (qc ?_)))))
  refine qx (p := (j : Int) < ((((((ts.getD k [])))).length : Nat) : Int)) rfl (fun h2 => ?_) (fun h2 => ?_)
  ·refine qw (qc (qF (qc (qa (qf (ii ((j : Int))) rfl (cX (ql j qd qo rfl rfl rfl (intsH.slv [] rfl) (by omega) (Nat.mul_one _) (cX (qi qK rfl (intsH.rd [] rfl (by omega)) (qg (ii ((j : Int))) rfl (qg (ii (ws.getD j 0)) rfl (qb (qc (qc (qa (qf (ii (ws.getD j 0)) rfl (cX (jT rfl rfl (qb ?_)))))))))))))))))))
   refine qx (p := (ws.getD j 0 : Int) ≥ 0) rfl (fun h3 => ?_) (fun h3 => ?_)
   ·refine ja (qu (qJ (qa (cX (qI (((j + 1 : Nat) : Int)) rfl rfl (by omega) (by omega) (qf (ii (((j + 1 : Nat) : Int))) rfl (qb ?_)))))))
    exact ⟨(j + 1, ws, zv2, zs2), _, FLe.refl _, rF, ⟨rfl, rfl, rfl, rfl, rfl, rfl, rfl, rfl, rfl, ⟨⟩⟩, (sC (sC (sC sR))), ⟨rfl, (by (try dsimp only) <;> omega), (hzv2), (hR.sym (by omega) (by have := hwj (by omega); omega)), (by (try dsimp only); (try rw [List.length_append, List.length_singleton]); omega)⟩, (by omega)⟩
   have hwj1 := hwj (by omega)
   have hj0 : (ts.getD k []).getD j 0 < 0 := by omega
   refine qw (qc (qa (qf (zv2) rfl (qf (ii (ws.getD j 0)) rfl (cX (XOp.lend [_, _] _ _ rfl (fun F1 le1 hz1 => ?_)))))))
   have hf1 : IntsF _ zv2 zs2 := intsH.fz (xs := zs2) hz1
   refine id (qt (args := [zv2, ii (ws.getD j 0)]) call186 rfl (Index_spec (n := ws.getD j 0) hf1 (hbd := (by first | assumption | rfl | omega | simp))) ?_)
   rintro _ _ _ _ ⟨rfl, rfl, rfl⟩
   show XL _ _ _ _ _ _ _ (intsH 2 zv2 zs2 :: intsH 2 v1 ws :: slH 22 1 ov m ocs :: L)
   refine qg (ii (indexZ zs2 (ws.getD j 0))) rfl (qb (qc (qc (qa (qf (ii (indexZ zs2 (ws.getD j 0))) rfl (cX (qL rfl rfl (qb ?_))))))))
   refine qx (p := (indexZ zs2 (ws.getD j 0) : Int) < 0) rfl (fun h4 => ?_) (fun h4 => ?_)
   ·have hil := indexZ_le zs2 (ws.getD j 0)
    refine qc (qa (qf (zv2) rfl (cX (qC qd rfl (intsH.slv [] rfl) (qg (ii ((zs2.length : Int))) rfl (qb (qa (qf (zv2) rfl (qf (ii (ws.getD j 0)) rfl (cX (qM (s := 1) [ii (ws.getD j 0)] [ii (0)] [(0, [ii (ws.getD j 0)])] qd qo jk rfl (by decide) rfl (.cons rfl CellsAre.nil) rfl ?_)))))))))))
    intro v2 hv1
    refine cX (jW (u := ws.getD j 0) [_] _ qd typeInfo2 rfl rfl rfl rfl rfl rfl (SlV.own [] rfl) (Rd.sl [] rfl rfl) (by (try simp only [List.length_append, List.length_nil, List.length_cons, List.length_singleton, List.length_take, List.length_drop]); omega) ?_)
    intro v3 hs2 hn1
    refine qg (v3) rfl (qb (qa (qf (v1) rfl (qf (ii ((j : Int))) rfl (qf (ii ((zs2.length : Int))) rfl (cX (qY ((-1) - ((zs2.length : Int))) rfl rfl (by omega) (by omega) (cX (ql j qd qo rfl rfl rfl (intsH.slv [_, _] rfl) (by omega) (Nat.mul_one _) (cX (intsH.storeX (i := j) (v := v1) [_, _] _ (ws.set j ((-1) - ((zs2.length : Int)))) qo rfl rfl rfl (by omega) rfl (qb (qa (cX (qI (((j + 1 : Nat) : Int)) rfl rfl (by omega) (by omega) ?_)))))))))))))))
    refine qf (ii (((j + 1 : Nat) : Int))) rfl (qb ?_)
    exact ⟨(j + 1, (ws.set j ((-1) - ((zs2.length : Int)))), v3, zs2 ++ [ws.getD j 0]), _, FLe.refl _, rF, ⟨rfl, rfl, rfl, rfl, rfl, rfl, rfl, rfl, rfl, ⟨⟩⟩, (qO (qE (A := [_])) (qO (qE (A := [_, _, _])) (qO (qE (A := [_, _, _])) (sC (sC (sC (sD sR))))))), ⟨rfl, (by (try dsimp only) <;> omega), (hs2), ((by (try dsimp only); rw [hwj1]; exact hR.new (by omega) hj0 (fun hc => by have := indexZ_mem.2 hc; rw [← hwj1] at this; omega))), (by (try dsimp only); (try rw [List.length_append, List.length_singleton]); omega)⟩, (by omega)⟩
   have hil := indexZ_le zs2 (ws.getD j 0)
   refine qw (qa (qf (v1) rfl (qf (ii ((j : Int))) rfl (qf (ii (indexZ zs2 (ws.getD j 0))) rfl (cX (qY ((-1) - (indexZ zs2 (ws.getD j 0))) rfl rfl (by omega) (by omega) (cX (ql j qd qo rfl rfl rfl (intsH.slv [_] rfl) (by omega) (Nat.mul_one _) (cX (intsH.storeX (i := j) (v := v1) [_] _ (ws.set j ((-1) - (indexZ zs2 (ws.getD j 0)))) qo rfl rfl rfl (by omega) rfl (qb (qa (cX (qI (((j + 1 : Nat) : Int)) rfl rfl (by omega) (by omega) (qf (ii (((j + 1 : Nat) : Int))) rfl ?_)))))))))))))))
   refine qb ?_
   exact ⟨(j + 1, (ws.set j ((-1) - (indexZ zs2 (ws.getD j 0)))), zv2, zs2), _, FLe.refl _, rF, ⟨rfl, rfl, rfl, rfl, rfl, rfl, rfl, rfl, rfl, ⟨⟩⟩, (qO (qE (A := [_, _])) (qO (qE (A := [_, _])) (sC (sC (sC sR))))), ⟨rfl, (by (try dsimp only) <;> omega), (hzv2), ((by (try dsimp only); rw [hwj1]; exact hR.old (by omega) hj0 (indexZ_mem.1 (by rw [← hwj1]; omega)))), (by (try dsimp only); (try rw [List.length_append, List.length_singleton]); omega)⟩, (by omega)⟩
  refine ja (qu (qu (qJ (qa (qf (ov) rfl (qf (v1) rfl (cX (qM (s := 1) [v1] [sN] [(0, [v1])] qA qr jM rfl (by decide) rfl (.cons (cells_one hs1) CellsAre.nil) rfl ?_))))))))
  intro v4 hv2
  refine jY [_] _ _ rfl (fun F2 le2 hz2 => ?_)
  replace hC := hC.mono le2
  have hf2 : IntsF F2 v1 ws := intsH.fz (xs := ws) hz2.fz
  refine cX (XOp.append (m := 1) (bytes := 24) (cs := ocs) [_] _ [v1] qA typeInfo22 rfl rfl rfl rfl rfl rfl rfl (SlV.own [] rfl) rfl (Rd.lit [] rfl) (qv (qZ (qG hf2)) jf) (by (try simp only [List.length_append, List.length_nil, List.length_cons, List.length_singleton]); omega) (by (try simp only [List.length_append, List.length_nil, List.length_cons, List.length_singleton]); omega) ?_)
  intro v5 hs3 hn2 hm1
  have hc1 := RowsC.snoc hC hf2
  skip
  refine qg (v5) rfl (qb (qa (cX (qI (((k + 1 : Nat) : Int)) rfl rfl (by omega) (by omega) (qf (ii (((k + 1 : Nat) : Int))) rfl (qb ?_))))))
  exact ⟨(k + 1, v5, os ++ [ws], ocs ++ [v1], Us ++ [intsH 2 v1 ws], (m) + 1, zv2, zs2, F2), _, (qm leG1 le2), rF, ⟨rfl, rfl, rfl, rfl, rfl, ⟨⟩⟩, (sD (sC (sC sR))), ⟨rfl, (qm leG1 le2), (hs3), (by (try dsimp only) <;> omega), (hc1), (by (try dsimp only); rw [List.length_append, List.length_singleton]; omega), (DeepL.snoc hD rfl ⟨_, rfl, rfl⟩), ((Fresh.app hZ leG1 (Fresh.one hz2) le2)), (hzv2), (rn_next (by omega) hrn (hR.done (by omega))), (by (try dsimp only); have := orderGo_len (ts.getD k []) zs; rw [(hR.done (by omega)).1]; have := hrbk (by omega); omega)⟩, (by omega)⟩
 refine ja (qu (qu (qJ (qc (qa (qf (ov) rfl (qg (ov) rfl (qb (jA [] _ _ rfl (fun F3 le3 hz3 => ?_))))))))))
 replace hC := hC.mono le3
 have hf3 : RowsF F3 ov os := CO.fz hC (by first | rfl | omega | (rw [List.length_set]; omega) | (simp; done)) hz3.fz
 refine qy (qs (L' := L) [ov] (ov) (.tmp rfl .nil) rfl (qm leG1 le3) rF (sD sR) ?_)
 have e9 := rn_done (by omega) hrn
 rw [e9]
 subst hm
 exact ⟨ocs, Us, hz3.fz.sl, hC, hD, (hZ.mono le3), rfl⟩

/- (*impl.unifier).placeIn -/
theorem placeIn_spec {F : FH} {L : List HP} {ub : Nat} {arv : Value} {ar : List Int} {bs : List Value} {bl : RowL} (har : IntsF F arv ar) (hbc : BindC F bs bl) (hb : BOk ar bl) {σ : Sbs} {p : Nat} {tv : Value} {t : List Int} (ht : IntsF F tv t) (hσ : Sol bl σ) (ho : TermW ar t) (hp : p < t.length) (hlen : (ap σ t).length ≤ 60) :
    Does prog 230 [ptr ub 0, tv, ii ((p : Int))] F (cellsH ub (arv :: bs) 144 :: L) (fun v F' L' => (F = F' ∧ (ii (((ap σ (t.take p)).length : Nat) : Int) : Value) = v) ∧ cellsH ub (arv :: bs) 144 :: L = L') := by
 refine qD func230 rfl rfl rfl ?_
 have htl := ho.len
 have hrk := res_take hlen hp (σ := σ)
 refine qc (qa (qg (ii (0)) rfl (qb (qc (qa (qf (ptr ub 0) rfl (qf (tv) rfl (qf (ii ((p : Int))) rfl (cX (jX 0 p qd qo rfl ht rfl ⟨_, rfl⟩ (by omega) (by omega) ?_))))))))))
 intro v1 hv1 hn1
 obtain ⟨ρ9, hρ9⟩ := hb.acyc
 obtain ⟨k9, hk9⟩ := maxRank (((t.drop 0).take (p - 0))) ρ9
 have hw9 := take_ge ho (p := p)
 refine ji (intsH.addNil 2 none _) (ji (qE (A := [_])) ?_)
 show XL _ _ _ _ _ _ _ (cellsH ub (arv :: bs) 144 :: intsH 2 (sN) ([]) :: L)
 refine ji (qE (A := [_])) ?_
 show XL _ _ _ _ _ _ _ (intsH 2 (sN) ([]) :: cellsH ub (arv :: bs) 144 :: L)
 refine cX (qt (args := [ptr ub 0, sN, v1]) call229 rfl (resolve_spec k9 har hbc (by assumption) (os := []) hv1 ⟨_, _, _, rfl⟩ (Nat.zero_le _) hσ hρ9 (fun m hm _ => hk9 m hm) hw9.1 hw9.2) ?_)
 rintro _ _ _ _ ⟨v2, rfl, hs1, rfl, rfl⟩
 refine qf (.tuple #[v2, .bool (resOk σ ([] : List Int) (((t.drop 0).take (p - 0))))]) rfl (cX (qT (v2) rfl rfl (cX (qT (.bool (resOk σ ([] : List Int) (((t.drop 0).take (p - 0))))) rfl rfl (qg (v2) rfl (qg (.bool (resOk σ ([] : List Int) (((t.drop 0).take (p - 0))))) rfl (qb (qc (qa (qf (v2) rfl (cX (qC qd rfl (intsH.slv [] rfl) (qg (ii (((((resX σ ([] : List Int) (((t.drop 0).take (p - 0))))).length : Nat) : Int))) rfl (qb ?_))))))))))))))
 refine qy (qs (L' := cellsH ub (arv :: bs) 144 :: L) [ii (((((resX σ ([] : List Int) (((t.drop 0).take (p - 0))))).length : Nat) : Int))] (ii (((((resX σ ([] : List Int) (((t.drop 0).take (p - 0))))).length : Nat) : Int))) (.tmp rfl .nil) rfl rF rF (sD (sC sR)) ?_)
 have hr9 := of_decide_eq_true (show resOk σ [] (t.take p) = true from hrk)
 exact ⟨⟨rfl, congrArg (fun l : List Int => Value.int .i64 (l.length : Int)) (show ap σ (t.take p) = resX σ [] (t.take p) from by unfold resX; rw [if_pos hrk]; rfl)⟩, rfl⟩

/- impl.put -/
theorem putW_spec {F : FH} {L : List HP} {arv : Value} {ar : List Int} (har : IntsF F arv ar) {tv : Value} {t : List Int} (ht : IntsF F tv t) {p : Nat} {uv : Value} {u : List Int} (hu : IntsF F uv u) (ho : TermW ar t) (hp : p < t.length) (hul : 1 ≤ u.length ∧ u.length ≤ 4000000) :
    Does prog 60 [.agg #[arv], tv, ii ((p : Int)), uv] F (L) (fun v F' L' => ∃ (a : Value), (.tuple #[a, .bool ((putL ar t p u).isSome)] : Value) = v ∧ (IntsF F' a ((putL ar t p u).getD [])) ∧ ((putL ar t p u).isSome = true → isNil a = false) ∧ (Fresh F F' (intsH 2 a ((putL ar t p u).getD []))) ∧ L = L') := by
 refine qD func60 rfl rfl rfl ?_
 have hsl := sigOk_spec ho.sig
 have htl := ho.len
 have hsig := ho.sig
 have hee := ho.endN hp
 refine qc (qa (cX (qV [arv] rfl rfl ?_)))
 intro b1
 refine qg (sN) rfl (qg (.bool (false)) rfl (qb (qc ?_)))
 refine X.drawG [cellsH b1 [arv] 31] L 10 [] [[], [], [0, 1], [], [], [], [], [], [5, 6, 7], [4, 8]] [] (phiG [pe tv, pe (ii ((p : Int)) : Value), fun FF us v => (v : Value) = v ∧ (IntsF FF v ((t.drop 0).take (p - 0))) ∧ (isNil v = isNil tv), pe uv, pe tv, pe (.agg #[arv]), pe tv, pe (ii ((p : Int)) : Value), pe (ii (((endN ar t p : Nat) : Int)) : Value), fun FF us v => (v : Value) = v ∧ (IntsF FF v ((t.drop (endN ar t p)).take (((t).length) - (endN ar t p)))) ∧ (isNil v = isNil tv)]) (ownL []) mixed rfl rfl (by kernel_rfl) (by kernel_rfl) (MonoG.get (m1 (m1 (mC (fun le h => ⟨h.1, h.2.1.mono le, h.2.2⟩) (m1 (m1 (m1 (m1 (m1 (m1 (mC (fun le h => ⟨h.1, h.2.1.mono le, h.2.2⟩) MonoG.nil))))))))))) ?_ ?_
 ·refine gD (fun W Fs R lF z9 => ?_) ?_
  ·refine qh (qj (tv) rfl ?_)
   exact ⟨rfl, rfl⟩
  refine gD (fun W Fs R lF z9 => ?_) ?_
  ·refine qh (qj (ii ((p : Int))) rfl ?_)
   exact ⟨rfl, rfl⟩
  refine gD (fun W Fs R lF z9 => ?_) ?_
  ·replace har := har.mono lF
   replace ht := ht.mono lF
   replace hu := hu.mono lF
   rw [eS (l := [(0, _), (1, _)]) ⟨z9 0 rfl, z9 1 rfl, ⟨⟩⟩]
   refine qh (jX 0 p qd qo rfl ht rfl ⟨_, rfl⟩ (by omega) (by omega) ?_)
   intro v3 hv3 hn3
   exact ⟨⟨rfl, hv3, hn3⟩, rfl⟩
  refine gD (fun W Fs R lF z9 => ?_) ?_
  ·refine qh (qj (uv) rfl ?_)
   exact ⟨rfl, rfl⟩
  refine gD (fun W Fs R lF z9 => ?_) ?_
  ·refine qh (qj (tv) rfl ?_)
   exact ⟨rfl, rfl⟩
  refine gD (fun W Fs R lF z9 => ?_) ?_
  ·replace har := har.mono lF
   replace ht := ht.mono lF
   replace hu := hu.mono lF
   refine qh (qB [arv] je qN rfl rfl (Rd.ownN [] rfl rfl) ?_)
   exact ⟨rfl, rfl⟩
  refine gD (fun W Fs R lF z9 => ?_) ?_
  ·refine qh (qj (tv) rfl ?_)
   exact ⟨rfl, rfl⟩
  refine gD (fun W Fs R lF z9 => ?_) ?_
  ·refine qh (qj (ii ((p : Int))) rfl ?_)
   exact ⟨rfl, rfl⟩
  refine gD (fun W Fs R lF z9 => ?_) ?_
  ·replace har := har.mono lF
   replace ht := ht.mono lF
   replace hu := hu.mono lF
   rw [eS (l := [(5, _), (6, _), (7, _)]) ⟨z9 5 rfl, z9 6 rfl, z9 7 rfl, ⟨⟩⟩]
   refine qh (qt (args := [.agg #[arv], tv, ii (p : Int)]) call112 rfl (endAtW_ok (p := p) har ht (ho := (by first | assumption | rfl | omega | (left; simp; done) | (right; simp; done))) (hp := (by first | assumption | rfl | omega | (left; simp; done) | (right; simp; done)))) ?_)
   rintro _ _ _ _ ⟨rfl, rfl, rfl⟩
   exact ⟨rfl, rfl⟩
  refine gD (fun W Fs R lF z9 => ?_) ?_
  ·replace har := har.mono lF
   replace ht := ht.mono lF
   replace hu := hu.mono lF
   rw [eS (l := [(4, _), (8, _)]) ⟨z9 4 rfl, z9 8 rfl, ⟨⟩⟩]
   refine qh (jX (endN ar t p) ((t).length) qd qo rfl ht ⟨_, rfl⟩ rfl (by omega) (by omega) ?_)
   intro v4 hv4 hn4
   exact ⟨⟨rfl, hv4, hn4⟩, rfl⟩
  exact stepsG.nil
 intro W F1 le1 hphi
 obtain ⟨e2, f2_1hv, f2_1hn⟩ := hphi 2 (by decide)
 obtain ⟨e9, f9_1hv, f9_1hn⟩ := hphi 9 (by decide)
 generalize hu1 : (W 2) = u1 at e2 f2_1hv f2_1hn e9 f9_1hv f9_1hn
 generalize hu2 : (W 9) = u2 at e2 f2_1hv f2_1hn e9 f9_1hv f9_1hn
 rw [eS (l := [(2, u1), (3, _), (9, u2)]) ⟨hu1, (hphi 3 (by decide)), hu2, ⟨⟩⟩]
 replace hu := hu.mono le1
 show XL _ _ _ _ _ _ _ (cellsH b1 [arv] 31 :: L)
 refine cX (qM (s := 1) [u1, uv, u2] [sN] [(0, [u1]), (1, [uv]), (2, [u2])] qA qr jM rfl (by decide) rfl (.cons (cells_one (qG f2_1hv)) (.cons (cells_one (qG hu)) (.cons (cells_one (qG f9_1hv)) CellsAre.nil))) rfl ?_)
 intro v5 hv5
 have hc1 : RowsC F1 [u1, uv, u2] ([((t.drop 0).take (p - 0)), u, ((t.drop (endN ar t p)).take (((t).length) - (endN ar t p)))] : List (List Int)) := (RowsC.snoc (RowsC.snoc (RowsC.snoc (CO.nil : RowsC F1 [] []) f2_1hv) hu) f9_1hv)
 refine jY [] _ _ rfl (fun F2 le2 hz1 => ?_)
 replace hc1 := hc1.mono le2
 have hf1 : RowsF F2 v5 (([((t.drop 0).take (p - 0)), u, ((t.drop (endN ar t p)).take (((t).length) - (endN ar t p)))] : List (List Int))) := CO.fz hc1 (by first | rfl | omega | (rw [List.length_set]; omega) | (simp; done)) hz1.fz
 refine cX (jK <| qt (args := [v5]) call119 rfl (Concat_spec hf1 (hg1 := (by simp; omega)) (hn := (by first | assumption | rfl | omega | simp)) (hb := (fun i hi => by match i, hi with | 0, _ => simp; omega | 1, _ => simp; omega | 2, _ => simp; omega))) ?_)
 rintro v6 _ _ _ ⟨rfl, hs1, rfl⟩
 refine ⟨_, _, rfl, fun F3 le3 hz2 => ?_⟩
 have hf2 : IntsF F3 v6 (((([((t.drop 0).take (p - 0)), u, ((t.drop (endN ar t p)).take (((t).length) - (endN ar t p)))] : List (List Int))).flatten)) := intsH.fz (xs := ((([((t.drop 0).take (p - 0)), u, ((t.drop (endN ar t p)).take (((t).length) - (endN ar t p)))] : List (List Int))).flatten)) hz2.fz
 refine qg (v6) rfl (qb (qc (qc (qa (qf (v6) rfl (cX (qC qd rfl hf2.slv (cX (jH rfl rfl (qb ?_))))))))))
 refine qx (p := ((((((([((t.drop 0).take (p - 0)), u, ((t.drop (endN ar t p)).take (((t).length) - (endN ar t p)))] : List (List Int))).flatten)).length : Nat) : Int) : Int) > 60) rfl (fun h1 => ?_) (fun h1 => ?_)
 ·refine qc (qa (qg (sN) rfl (qg (.bool (false)) rfl (qb (qy (qk (qs (L' := L) [sN, .bool (false)] (.tuple #[sN, .bool (false)]) (.tmp rfl (.tmp rfl .nil)) rfl (qm (qm le1 le2) le3) rF (sD sR) ?_)))))))
  have hz : putL ar t p u = none := putL_none put_flat (by omega)
  exact ⟨_, by rw [hz]; rfl, by rw [hz]; exact IntsF.nilV, fun h => (by rw [hz] at h; cases h), by rw [hz]; exact Fresh.ofNil _, rfl⟩
 refine qw (qc (qa (qf (v6) rfl (qg (v6) rfl (qg (.bool (true)) rfl (qb (qy (qs (L' := L) [v6, .bool (true)] (.tuple #[v6, .bool (true)]) (.tmp rfl (.tmp rfl .nil)) rfl (qm (qm le1 le2) le3) rF (sD sR) ?_))))))))
 have hz := putL_some (ar := ar) (t := t) (p := p) (u := u) put_flat (by omega)
 exact ⟨_, by rw [hz]; rfl, by rw [hz]; exact hf2, fun _ => jO hf2 (by rw [put_flat]; simp; omega), by rw [hz]; exact (hz2.base (qm le1 le2)), rfl⟩

/- impl.peakAt -/
set_option maxHeartbeats 2000000 in
set_option maxRecDepth 20000 in
theorem peakAt_spec {F : FH} {L : List HP} {arv : Value} {ar : List Int} (har : IntsF F arv ar) {rsv : Value} {rs : List (List Int × List Int)} (hrs : PairsF F rsv rs) {o : Nat} {p : Nat} {u : Nat} (hsys : sysOk ar rs = true) (ho : o < rs.length) (hu : u < rs.length) (hp : p < (rs.getD o ([], [])).1.length) :
    Does prog 200 [.agg #[arv, rsv], ii ((o : Int)), ii ((p : Int)), ii ((u : Int))] F (L) (fun v F' L' => ∃ (a : Value), ∃ (b : Value), ∃ (c : Value), (.tuple #[.agg #[a, b, c, ii (((pkF ar rs o p u).getD P0).2.2.2.1), ii (((pkF ar rs o p u).getD P0).2.2.2.2.1), ii (((pkF ar rs o p u).getD P0).2.2.2.2.2)], .bool ((pkF ar rs o p u).isSome)] : Value) = v ∧ (IntsF F' a ((pkF ar rs o p u).getD P0).1) ∧ (IntsF F' b ((pkF ar rs o p u).getD P0).2.1) ∧ (IntsF F' c ((pkF ar rs o p u).getD P0).2.2.1) ∧ (Fresh F F' (star [intsH 2 a ((pkF ar rs o p u).getD P0).1, intsH 2 b ((pkF ar rs o p u).getD P0).2.1, intsH 2 c ((pkF ar rs o p u).getD P0).2.2.1])) ∧ L = L') := by
 refine qD func200 rfl rfl rfl ?_
 have hlo : termOk ar (rs.getD o ([], [])).1 = true := rule_L hsys ho
 have hllo : 1 ≤ (rs.getD o ([], [])).1.length ∧ (rs.getD o ([], [])).1.length ≤ 60 := termOk_len hlo
 have hglo : ∀ k, k < (rs.getD o ([], [])).1.length → -24 ≤ (rs.getD o ([], [])).1.getD k 0 := fun k h => termOk_ge hlo h
 have hlu : termOk ar (rs.getD u ([], [])).1 = true := rule_L hsys hu
 have hllu : 1 ≤ (rs.getD u ([], [])).1.length ∧ (rs.getD u ([], [])).1.length ≤ 60 := termOk_len hlu
 have hglu : ∀ k, k < (rs.getD u ([], [])).1.length → -24 ≤ (rs.getD u ([], [])).1.getD k 0 := fun k h => termOk_ge hlu h
 have hro : termOk ar (rs.getD o ([], [])).2 = true := rule_R hsys ho
 have hlro : 1 ≤ (rs.getD o ([], [])).2.length ∧ (rs.getD o ([], [])).2.length ≤ 60 := termOk_len hro
 have hgro : ∀ k, k < (rs.getD o ([], [])).2.length → -24 ≤ (rs.getD o ([], [])).2.getD k 0 := fun k h => termOk_ge hro h
 have hru : termOk ar (rs.getD u ([], [])).2 = true := rule_R hsys hu
 have hlru : 1 ≤ (rs.getD u ([], [])).2.length ∧ (rs.getD u ([], [])).2.length ≤ 60 := termOk_len hru
 have hgru : ∀ k, k < (rs.getD u ([], [])).2.length → -24 ≤ (rs.getD u ([], [])).2.getD k 0 := fun k h => termOk_ge hru h
 have hrl := (sysOk_iff.1 hsys).2.1
 have hsig := (sysOk_iff.1 hsys).1
 have hsl := sigOk_spec hsig
 refine qc (qa (cX (qV [arv, rsv] rfl rfl ?_)))
 intro b1
 refine cX (jo [sN, sN, sN, ii (0), ii (0), ii (0)] jr rfl ?_)
 intro b2
 refine qg (.bool (false)) rfl (qb (qc (qa (cX (qB [arv, rsv] jF jt rfl rfl (Rd.ownN [_] rfl rfl) (qf (ii ((o : Int))) rfl (qf (ii ((p : Int))) rfl (qf (ii ((u : Int))) rfl (cX (qt (args := [.agg #[arv, rsv], ii (o : Int), ii (p : Int), ii (u : Int)]) call228 rfl (overlap_spec (o := o) (p := p) (u := u) har hrs (hsys := (by first | assumption | rfl | omega | simp)) (ho := (by first | assumption | rfl | omega | simp)) (hu := (by first | assumption | rfl | omega | simp)) (hp := (by first | assumption | rfl | omega | simp))) ?_))))))))))
 rintro _ F1 _ le1 (⟨rfl, hmt1, rfl⟩ | ⟨b3, rfl, hmt1, rfl⟩ | ⟨b3, b4, l1, rfl, hmt1, hb1, hmg1, rfl⟩)
 ·replace har := har.mono le1
  replace hrs := hrs.mono le1
  refine qf (.tuple #[(.pointer none), .bool (false)]) rfl (cX (qT ((.pointer none)) rfl rfl (cX (qT (.bool (false)) rfl rfl (qg ((.pointer none)) rfl (qg (.bool (false)) rfl (qb (qc (qc (qa (qf (.bool (false)) rfl (cX (jp rfl (qb (jB rfl ?_)))))))))))))))
  refine qc (qa (cX (jw [sN, sN, sN, ii (0), ii (0), ii (0)] [sN, sN, sN, ii (0), ii (0), ii (0)] [(0, 1), (1, 1), (2, 1), (3, 1), (4, 1), (5, 1)] [] jv jr rfl (.cons rfl qr (.cons rfl qr (.cons rfl qr (.cons rfl qo (.cons rfl qo (.cons rfl qo PlacesAre.nil)))))) rfl CellsAre.nil (cX (jb [] _ [sN, sN, sN, ii (0), ii (0), ii (0)] jl rfl rfl rfl (qv rfl (qv rfl (qv rfl (qv rfl (qv rfl (qv rfl jf)))))) rfl rfl rfl (qg (.bool (false)) rfl (qb (qy (qk (qs (L' := L) [.agg #[sN, sN, sN, ii (0), ii (0), ii (0)], .bool (false)] (.tuple #[.agg #[sN, sN, sN, ii (0), ii (0), ii (0)], .bool (false)]) (.cell rfl (jP [sN, sN, sN, ii (0), ii (0), ii (0)] isAgg128 jl rfl (Rd.ownN [] rfl rfl)) (.tmp rfl .nil)) rfl le1 rF (sD (sD sR)) ?_))))))))))
  have e : pkF ar rs o p u = none := pk_nomeet hmt1
  exact ⟨_, _, _, by rw [e]; rfl, by rw [e]; exact IntsF.nilV, by rw [e]; exact IntsF.nilV, by rw [e]; exact IntsF.nilV, by rw [e]; exact Fresh.empty nil3, rfl⟩
 ·replace har := har.mono le1
  replace hrs := hrs.mono le1
  refine qf (.tuple #[ptr b3 0, .bool (false)]) rfl (cX (qT (ptr b3 0) rfl rfl (cX (qT (.bool (false)) rfl rfl (qg (ptr b3 0) rfl (qg (.bool (false)) rfl (qb (qc (qc (qa (qf (.bool (false)) rfl (cX (jp rfl (qb (jB rfl ?_)))))))))))))))
  refine qc (qa (cX (jw [sN, sN, sN, ii (0), ii (0), ii (0)] [sN, sN, sN, ii (0), ii (0), ii (0)] [(0, 1), (1, 1), (2, 1), (3, 1), (4, 1), (5, 1)] [] jv jr rfl (.cons rfl qr (.cons rfl qr (.cons rfl qr (.cons rfl qo (.cons rfl qo (.cons rfl qo PlacesAre.nil)))))) rfl CellsAre.nil (cX (jb [] _ [sN, sN, sN, ii (0), ii (0), ii (0)] jl rfl rfl rfl (qv rfl (qv rfl (qv rfl (qv rfl (qv rfl (qv rfl jf)))))) rfl rfl rfl (qg (.bool (false)) rfl (qb (qy (qk (qs (L' := L) [.agg #[sN, sN, sN, ii (0), ii (0), ii (0)], .bool (false)] (.tuple #[.agg #[sN, sN, sN, ii (0), ii (0), ii (0)], .bool (false)]) (.cell rfl (jP [sN, sN, sN, ii (0), ii (0), ii (0)] isAgg128 jl rfl (Rd.ownN [] rfl rfl)) (.tmp rfl .nil)) rfl le1 rF (sD (sD sR)) ?_))))))))))
  have e : pkF ar rs o p u = none := pk_nomeet hmt1
  exact ⟨_, _, _, by rw [e]; rfl, by rw [e]; exact IntsF.nilV, by rw [e]; exact IntsF.nilV, by rw [e]; exact IntsF.nilV, by rw [e]; exact Fresh.empty nil3, rfl⟩
 replace har := har.mono le1
 replace hrs := hrs.mono le1
 refine qf (.tuple #[ptr b3 0, .bool (true)]) rfl (cX (qT (ptr b3 0) rfl rfl (cX (qT (.bool (true)) rfl rfl (qg (ptr b3 0) rfl (qg (.bool (true)) rfl (qb (qc (qc (qa (qf (.bool (true)) rfl (cX (jp rfl (qb (jz rfl ?_)))))))))))))))
 refine qw (qc (qa ?_))
 have hmt : meetB ar rs o p u = true := hmt1
 have hmg := hmg1
 have hbo := hmg.ok
 obtain ⟨σ, hσ⟩ := hbo.sol
 have hgs := hσ.good hbo
 refine cX (qn (1) qH rfl jx (by decide) rfl rfl (cX (qi jG rfl (Rd.own [_, _] rfl rfl) (qf (ii ((o : Int))) rfl (cX (ql o qU jh rfl rfl rfl hrs.slv (by omega) rfl ?_))))))
 obtain ⟨a1, a2, ha1, ha2, hr1, hr2⟩ := hrs.rd (i := o) (by omega)
 refine cX (qB [a1, a2] isAgg136 jh rfl rfl (Rd.two (hr1 _) (hr2 _)) (cX (jo [sN, sN] zeroValue136 rfl ?_)))
 intro b5
 refine cX (jb [] _ [a1, a2] jh rfl rfl rfl (qv (qZ (qG ha1)) (qv (qZ (qG ha2)) jf)) rfl rfl rfl (qb (qc (qa (qf (ptr b3 0) rfl (cX (qn (0) qQ rfl qr (by decide) rfl rfl (cX (qi qP rfl (Rd.own [] rfl rfl) ?_)))))))))
 obtain ⟨ρ9, hρ9⟩ := hbo.acyc
 obtain ⟨k9, hk9⟩ := maxRank ((rs.getD o ([], [])).1) ρ9
 have hw9 := W_ge (termW_of hlo)
 refine ji (intsH.addNil 2 none _) (ji (qE (A := [_, _])) ?_)
 show XL _ _ _ _ _ _ _ (cellsH b3 (arv :: b4) 144 :: intsH 2 (sN) ([]) :: cellsH b5 [a1, a2] 136 :: cellsH b2 [sN, sN, sN, ii (0), ii (0), ii (0)] 128 :: cellsH b1 [arv, rsv] 66 :: L)
 refine ji (qE (A := [_])) ?_
 show XL _ _ _ _ _ _ _ (intsH 2 (sN) ([]) :: cellsH b3 (arv :: b4) 144 :: cellsH b5 [a1, a2] 136 :: cellsH b2 [sN, sN, sN, ii (0), ii (0), ii (0)] 128 :: cellsH b1 [arv, rsv] 66 :: L)
 refine cX (qt (args := [ptr b3 0, sN, a1]) call229 rfl (resolve_spec k9 har hb1 (by assumption) (os := []) ha1 ⟨_, _, _, rfl⟩ (Nat.zero_le _) hσ hρ9 (fun m hm _ => hk9 m hm) hw9.1 hw9.2) ?_)
 rintro _ _ _ _ ⟨v1, rfl, hs1, rfl, rfl⟩
 refine qf (.tuple #[v1, .bool (resOk σ ([] : List Int) ((rs.getD o ([], [])).1))]) rfl (cX (qT (v1) rfl rfl (cX (qT (.bool (resOk σ ([] : List Int) ((rs.getD o ([], [])).1))) rfl rfl (qg (v1) rfl (qg (.bool (resOk σ ([] : List Int) ((rs.getD o ([], [])).1))) rfl (qb (qc (qa (qf (ptr b3 0) rfl (cX (qn (1) qQ rfl qr (by decide) rfl rfl (cX (qi qP rfl (Rd.own [_, _] rfl rfl) ?_))))))))))))))
 obtain ⟨ρ9, hρ9⟩ := hbo.acyc
 obtain ⟨k9, hk9⟩ := maxRank ((rs.getD o ([], [])).2) ρ9
 have hw9 := W_ge (termW_of hro)
 refine ji (intsH.addNil 2 none _) (ji (qE (A := [_, _])) ?_)
 show XL _ _ _ _ _ _ _ (cellsH b3 (arv :: b4) 144 :: intsH 2 (sN) ([]) :: intsH 2 v1 ((resX σ ([] : List Int) ((rs.getD o ([], [])).1))) :: cellsH b5 [a1, a2] 136 :: cellsH b2 [sN, sN, sN, ii (0), ii (0), ii (0)] 128 :: cellsH b1 [arv, rsv] 66 :: L)
 refine ji (qE (A := [_])) ?_
 show XL _ _ _ _ _ _ _ (intsH 2 (sN) ([]) :: cellsH b3 (arv :: b4) 144 :: intsH 2 v1 ((resX σ ([] : List Int) ((rs.getD o ([], [])).1))) :: cellsH b5 [a1, a2] 136 :: cellsH b2 [sN, sN, sN, ii (0), ii (0), ii (0)] 128 :: cellsH b1 [arv, rsv] 66 :: L)
 refine cX (qt (args := [ptr b3 0, sN, a2]) call229 rfl (resolve_spec k9 har hb1 (by assumption) (os := []) ha2 ⟨_, _, _, rfl⟩ (Nat.zero_le _) hσ hρ9 (fun m hm _ => hk9 m hm) hw9.1 hw9.2) ?_)
 rintro _ _ _ _ ⟨v2, rfl, hs2, rfl, rfl⟩
 refine qf (.tuple #[v2, .bool (resOk σ ([] : List Int) ((rs.getD o ([], [])).2))]) rfl (cX (qT (v2) rfl rfl (cX (qT (.bool (resOk σ ([] : List Int) ((rs.getD o ([], [])).2))) rfl rfl (qg (v2) rfl (qg (.bool (resOk σ ([] : List Int) ((rs.getD o ([], [])).2))) rfl (qb (qc (qa (qf (ptr b3 0) rfl (cX (qn (1) qH rfl jx (by decide) rfl rfl (cX (qi jG rfl (Rd.own [_, _, _, _, _] rfl rfl) (qf (ii ((u : Int))) rfl ?_)))))))))))))))
 refine cX (ql u qU jh rfl rfl rfl hrs.slv (by omega) rfl (cX (jZ (u * 2 + 1) qQ rfl qr (by decide) rfl rfl ?_)))
 obtain ⟨a3, a4, ha3, ha4, hr3, hr4⟩ := hrs.rd (i := u) (by omega)
 refine cX (qi qP rfl (hr4 _) (cX (jK <| qt (args := [a4]) call96 rfl (away_spec ha4 (hlt := (by omega)) (htg := (fun i hi => by have := hgru i hi; omega))) ?_)))
 rintro v3 _ _ _ ⟨rfl, hs3, rfl⟩
 refine ⟨_, _, rfl, fun F2 le2 hz1 => ?_⟩
 replace har := har.mono le2
 replace hb1 := hb1.mono le2
 replace ha1 := ha1.mono le2
 have hf1 : IntsF F2 v3 ((awayL ((rs.getD u ([], [])).2))) := intsH.fz (xs := (awayL ((rs.getD u ([], [])).2))) hz1.fz
 obtain ⟨ρ9, hρ9⟩ := hbo.acyc
 obtain ⟨k9, hk9⟩ := maxRank ((awayL ((rs.getD u ([], [])).2))) ρ9
 have hw9 := W_ge (away_W hru)
 refine ji (intsH.addNil 2 none _) (ji (qE (A := [_, _])) ?_)
 show XL _ _ _ _ _ _ _ (cellsH b3 (arv :: b4) 144 :: intsH 2 (sN) ([]) :: intsH 2 v2 ((resX σ ([] : List Int) ((rs.getD o ([], [])).2))) :: intsH 2 v1 ((resX σ ([] : List Int) ((rs.getD o ([], [])).1))) :: cellsH b5 [a1, a2] 136 :: cellsH b2 [sN, sN, sN, ii (0), ii (0), ii (0)] 128 :: cellsH b1 [arv, rsv] 66 :: L)
 refine ji (qE (A := [_])) ?_
 show XL _ _ _ _ _ _ _ (intsH 2 (sN) ([]) :: cellsH b3 (arv :: b4) 144 :: intsH 2 v2 ((resX σ ([] : List Int) ((rs.getD o ([], [])).2))) :: intsH 2 v1 ((resX σ ([] : List Int) ((rs.getD o ([], [])).1))) :: cellsH b5 [a1, a2] 136 :: cellsH b2 [sN, sN, sN, ii (0), ii (0), ii (0)] 128 :: cellsH b1 [arv, rsv] 66 :: L)
 refine cX (qt (args := [ptr b3 0, sN, v3]) call229 rfl (resolve_spec k9 har hb1 (by assumption) (os := []) hf1 ⟨_, _, _, rfl⟩ (Nat.zero_le _) hσ hρ9 (fun m hm _ => hk9 m hm) hw9.1 hw9.2) ?_)
 rintro _ _ _ _ ⟨v4, rfl, hs4, rfl, rfl⟩
 refine qf (.tuple #[v4, .bool (resOk σ ([] : List Int) ((awayL ((rs.getD u ([], [])).2))))]) rfl (cX (qT (v4) rfl rfl (cX (qT (.bool (resOk σ ([] : List Int) ((awayL ((rs.getD u ([], [])).2))))) rfl rfl (qg (v4) rfl (qg (.bool (resOk σ ([] : List Int) ((awayL ((rs.getD u ([], [])).2))))) rfl (qb (qc (qc (qa (qf (.bool (resOk σ ([] : List Int) ((rs.getD o ([], [])).1))) rfl (cX (jp rfl (qf (.bool (!(resOk σ ([] : List Int) ((rs.getD o ([], [])).1)))) rfl ?_))))))))))))))
 by_cases h1 : (!(resOk σ ([] : List Int) ((rs.getD o ([], [])).1))) = true
 ·have hf9 : resOk σ [] (Lr rs o) = false ∨ resOk σ [] (Rr rs o) = false ∨ resOk σ [] (awayL (Rr rs u)) = false := .inl (Bool.not_inj (y := false) h1)
  refine qp (t := 65) rfl (vB h1) (qp (t := 65) rfl (vB h1) (cX (qR (.bool (true)) (vB h1) rfl (qf (.bool (true)) rfl (qp (t := 69) rfl rfl (qp (t := 69) rfl rfl (cX (qR (.bool (true)) rfl rfl (qb (jB rfl (qc (qa ?_))))))))))))
  refine cX (jw [sN, sN, sN, ii (0), ii (0), ii (0)] [sN, sN, sN, ii (0), ii (0), ii (0)] [(0, 1), (1, 1), (2, 1), (3, 1), (4, 1), (5, 1)] [] jv jr rfl (.cons rfl qr (.cons rfl qr (.cons rfl qr (.cons rfl qo (.cons rfl qo (.cons rfl qo PlacesAre.nil)))))) rfl CellsAre.nil (cX (jb [_, _, _, _, _] _ [sN, sN, sN, ii (0), ii (0), ii (0)] jl rfl rfl rfl (qv rfl (qv rfl (qv rfl (qv rfl (qv rfl (qv rfl jf)))))) rfl rfl rfl (qg (.bool (false)) rfl (qb (qy (qk (qs (L' := L) [.agg #[sN, sN, sN, ii (0), ii (0), ii (0)], .bool (false)] (.tuple #[.agg #[sN, sN, sN, ii (0), ii (0), ii (0)], .bool (false)]) (.cell rfl (jP [sN, sN, sN, ii (0), ii (0), ii (0)] isAgg128 jl rfl (Rd.ownN [_, _, _, _, _] rfl rfl)) (.tmp rfl .nil)) rfl (qm le1 le2) rF (sD (sD (sD (sD (sD (sD (sD sR))))))) ?_))))))))
  have e : pkF ar rs o p u = none := pk_long hsys ho hu hmt hmg hσ hf9
  exact ⟨_, _, _, by rw [e]; rfl, by rw [e]; exact IntsF.nilV, by rw [e]; exact IntsF.nilV, by rw [e]; exact IntsF.nilV, by rw [e]; exact Fresh.empty nil3, rfl⟩
 rw [Bool.not_eq_true] at h1
 have hkL : resOk σ [] (rs.getD o ([], [])).1 = true := Bool.not_inj (y := true) h1
 obtain ⟨eL, lL⟩ := resX_eq hkL
 refine qq (t := 65) rfl (vB h1) (qj (.bool (resOk σ ([] : List Int) ((rs.getD o ([], [])).2))) rfl (qq (t := 65) rfl (vB h1) (jp rfl (cX (qS (.bool (!(resOk σ ([] : List Int) ((rs.getD o ([], [])).2)))) (vB h1) rfl (qf (.bool (!(resOk σ ([] : List Int) ((rs.getD o ([], [])).2)))) rfl ?_))))))
 by_cases h2 : (!(resOk σ ([] : List Int) ((rs.getD o ([], [])).2))) = true
 ·have hf9 : resOk σ [] (Lr rs o) = false ∨ resOk σ [] (Rr rs o) = false ∨ resOk σ [] (awayL (Rr rs u)) = false := .inr <| .inl (Bool.not_inj (y := false) h2)
  refine qp (t := 69) rfl (vB h2) (qp (t := 69) rfl (vB h2) (cX (qR (.bool (true)) (vB h2) rfl (qb (jB rfl (qc (qa (cX (jw [sN, sN, sN, ii (0), ii (0), ii (0)] [sN, sN, sN, ii (0), ii (0), ii (0)] [(0, 1), (1, 1), (2, 1), (3, 1), (4, 1), (5, 1)] [] jv jr rfl (.cons rfl qr (.cons rfl qr (.cons rfl qr (.cons rfl qo (.cons rfl qo (.cons rfl qo PlacesAre.nil)))))) rfl CellsAre.nil (cX (jb [_, _, _, _, _] _ [sN, sN, sN, ii (0), ii (0), ii (0)] jl rfl rfl rfl (qv rfl (qv rfl (qv rfl (qv rfl (qv rfl (qv rfl jf)))))) rfl rfl rfl (qg (.bool (false)) rfl (qb ?_)))))))))))))
  refine qy (qk (qs (L' := L) [.agg #[sN, sN, sN, ii (0), ii (0), ii (0)], .bool (false)] (.tuple #[.agg #[sN, sN, sN, ii (0), ii (0), ii (0)], .bool (false)]) (.cell rfl (jP [sN, sN, sN, ii (0), ii (0), ii (0)] isAgg128 jl rfl (Rd.ownN [_, _, _, _, _] rfl rfl)) (.tmp rfl .nil)) rfl (qm le1 le2) rF (sD (sD (sD (sD (sD (sD (sD sR))))))) ?_))
  have e : pkF ar rs o p u = none := pk_long hsys ho hu hmt hmg hσ hf9
  exact ⟨_, _, _, by rw [e]; rfl, by rw [e]; exact IntsF.nilV, by rw [e]; exact IntsF.nilV, by rw [e]; exact IntsF.nilV, by rw [e]; exact Fresh.empty nil3, rfl⟩
 rw [Bool.not_eq_true] at h2
 have hkR : resOk σ [] (rs.getD o ([], [])).2 = true := Bool.not_inj (y := true) h2
 obtain ⟨eR, lR⟩ := resX_eq hkR
 refine qq (t := 69) rfl (vB h2) (qj (.bool (resOk σ ([] : List Int) ((awayL ((rs.getD u ([], [])).2))))) rfl (qq (t := 69) rfl (vB h2) (jp rfl (cX (qS (.bool (!(resOk σ ([] : List Int) ((awayL ((rs.getD u ([], [])).2)))))) (vB h2) rfl (qb ?_))))))
 refine X.cond (t := !(resOk σ ([] : List Int) ((awayL ((rs.getD u ([], [])).2))))) rfl (fun h3 => ?_) (fun h3 => ?_)
 ·have hf9 : resOk σ [] (Lr rs o) = false ∨ resOk σ [] (Rr rs o) = false ∨ resOk σ [] (awayL (Rr rs u)) = false := .inr <| .inr (Bool.not_inj (y := false) h3)
  refine qc (qa (cX (jw [sN, sN, sN, ii (0), ii (0), ii (0)] [sN, sN, sN, ii (0), ii (0), ii (0)] [(0, 1), (1, 1), (2, 1), (3, 1), (4, 1), (5, 1)] [] jv jr rfl (.cons rfl qr (.cons rfl qr (.cons rfl qr (.cons rfl qo (.cons rfl qo (.cons rfl qo PlacesAre.nil)))))) rfl CellsAre.nil (cX (jb [_, _, _, _, _] _ [sN, sN, sN, ii (0), ii (0), ii (0)] jl rfl rfl rfl (qv rfl (qv rfl (qv rfl (qv rfl (qv rfl (qv rfl jf)))))) rfl rfl rfl (qg (.bool (false)) rfl (qb (qy (qk (qs (L' := L) [.agg #[sN, sN, sN, ii (0), ii (0), ii (0)], .bool (false)] (.tuple #[.agg #[sN, sN, sN, ii (0), ii (0), ii (0)], .bool (false)]) (.cell rfl (jP [sN, sN, sN, ii (0), ii (0), ii (0)] isAgg128 jl rfl (Rd.ownN [_, _, _, _, _] rfl rfl)) (.tmp rfl .nil)) rfl (qm le1 le2) rF (sD (sD (sD (sD (sD (sD (sD sR))))))) ?_))))))))))
  have e : pkF ar rs o p u = none := pk_long hsys ho hu hmt hmg hσ hf9
  exact ⟨_, _, _, by rw [e]; rfl, by rw [e]; exact IntsF.nilV, by rw [e]; exact IntsF.nilV, by rw [e]; exact IntsF.nilV, by rw [e]; exact Fresh.empty nil3, rfl⟩
 have hkA : resOk σ [] (awayL (rs.getD u ([], [])).2) = true := Bool.not_inj (y := true) h3
 obtain ⟨eA, lA⟩ := resX_eq hkA
 have hTW : TermW ar (resX σ [] (rs.getD o ([], [])).1) := by rw [eL]; exact ap_W hbo hσ (termW_of hlo) lL
 have hpT : (ap σ ((rs.getD o ([], [])).1.take p)).length < (resX σ [] (rs.getD o ([], [])).1).length := by rw [eL]; exact take_lt hgs hp
 have hBl : 1 ≤ (resX σ [] (awayL (rs.getD u ([], [])).2)).length ∧ (resX σ [] (awayL (rs.getD u ([], [])).2)).length ≤ 4000000 := by rw [eA]; have := (ap_W hbo hσ (away_W hru) lA).len; omega
 refine qw (qc (jA [_, _, _] _ _ rfl (fun F3 le3 hz2 => ?_)))
 replace har := har.mono le3
 replace hb1 := hb1.mono le3
 replace ha1 := ha1.mono le3
 have hf2 : IntsF F3 v1 ((resX σ ([] : List Int) ((rs.getD o ([], [])).1))) := intsH.fz (xs := (resX σ ([] : List Int) ((rs.getD o ([], [])).1))) hz2.fz
 refine jA [_, _] _ _ rfl (fun F4 le4 hz3 => ?_)
 replace har := har.mono le4
 replace hb1 := hb1.mono le4
 replace ha1 := ha1.mono le4
 replace hf2 := hf2.mono le4
 have hf3 : IntsF F4 v2 ((resX σ ([] : List Int) ((rs.getD o ([], [])).2))) := intsH.fz (xs := (resX σ ([] : List Int) ((rs.getD o ([], [])).2))) hz3.fz
 refine jA [] _ _ rfl (fun F5 le5 hz4 => ?_)
 replace har := har.mono le5
 replace hb1 := hb1.mono le5
 replace ha1 := ha1.mono le5
 replace hf2 := hf2.mono le5
 replace hf3 := hf3.mono le5
 have hf4 : IntsF F5 v4 ((resX σ ([] : List Int) ((awayL ((rs.getD u ([], [])).2))))) := intsH.fz (xs := (resX σ ([] : List Int) ((awayL ((rs.getD u ([], [])).2))))) hz4.fz
 refine X.drawG [cellsH b3 (arv :: b4) 144, cellsH b5 [a1, a2] 136, cellsH b2 [sN, sN, sN, ii (0), ii (0), ii (0)] 128, cellsH b1 [arv, rsv] 66] L 14 [[], [], [], [], [], [], [], [], [], [], [9], [9], [], [9]] [[], [0], [], [], [], [4], [], [3, 5, 6], [], [1, 2, 7, 8], [9], [9, 10], [9, 10], [9, 11]] [] (phiG [pe (ptr b1 0), pe (.agg #[arv]), pe v1, pe (ptr b3 0), pe (ptr b5 0), pe a1, pe (ii ((p : Int)) : Value), pe (ii ((((ap σ (((rs.getD o ([], [])).1).take p)).length : Nat) : Int)) : Value), pe v4, fun FF us v => (.tuple #[((tupAt v 0)), .bool ((putL ar ((resX σ ([] : List Int) ((rs.getD o ([], [])).1))) ((ap σ (((rs.getD o ([], [])).1).take p)).length) ((resX σ ([] : List Int) ((awayL ((rs.getD u ([], [])).2)))))).isSome)] : Value) = v ∧ (IntsF FF ((tupAt v 0)) ((putL ar ((resX σ ([] : List Int) ((rs.getD o ([], [])).1))) ((ap σ (((rs.getD o ([], [])).1).take p)).length) ((resX σ ([] : List Int) ((awayL ((rs.getD u ([], [])).2)))))).getD [])) ∧ ((putL ar ((resX σ ([] : List Int) ((rs.getD o ([], [])).1))) ((ap σ (((rs.getD o ([], [])).1).take p)).length) ((resX σ ([] : List Int) ((awayL ((rs.getD u ([], [])).2)))))).isSome = true → isNil ((tupAt v 0)) = false), fun FF us v => v = (.tuple #[((tupAt (us.getD 0 undef) 0)), .bool ((putL ar ((resX σ ([] : List Int) ((rs.getD o ([], [])).1))) ((ap σ (((rs.getD o ([], [])).1).take p)).length) ((resX σ ([] : List Int) ((awayL ((rs.getD u ([], [])).2)))))).isSome)] : Value), fun FF us v => v = ((tupAt (us.getD 0 undef) 0)), pe (.bool ((putL ar ((resX σ ([] : List Int) ((rs.getD o ([], [])).1))) ((ap σ (((rs.getD o ([], [])).1).take p)).length) ((resX σ ([] : List Int) ((awayL ((rs.getD u ([], [])).2)))))).isSome) : Value), fun FF us v => v = ((tupAt (us.getD 0 undef) 0))]) (ownL []) mixed rfl rfl (by kernel_rfl) (by kernel_rfl) (MonoG.get (m1 (m1 (m1 (m1 (m1 (m1 (m1 (m1 (m1 (mC (fun le h => ⟨h.1, h.2.1.mono le, h.2.2⟩) (mC (fun le h => h) (mC (fun le h => h) (m1 (mC (fun le h => h) MonoG.nil))))))))))))))) ?_ ?_
 ·refine gD (fun W Fs R lF z9 => ?_) ?_
  ·refine qh (qn (0) qH rfl qN (by decide) rfl rfl ?_)
   exact ⟨rfl, rfl⟩
  refine gD (fun W Fs R lF z9 => ?_) ?_
  ·replace har := har.mono lF
   replace hb1 := hb1.mono lF
   replace ha1 := ha1.mono lF
   replace hf2 := hf2.mono lF
   replace hf3 := hf3.mono lF
   replace hf4 := hf4.mono lF
   rw [eS (l := [(0, _)]) ⟨z9 0 rfl, ⟨⟩⟩]
   refine qh (qB [arv] je qN rfl rfl (Rd.ownN [_, _, _] rfl rfl) ?_)
   exact ⟨rfl, rfl⟩
  refine gD (fun W Fs R lF z9 => ?_) ?_
  ·refine qh (qj (v1) rfl ?_)
   exact ⟨rfl, rfl⟩
  refine gD (fun W Fs R lF z9 => ?_) ?_
  ·refine qh (qj (ptr b3 0) rfl ?_)
   exact ⟨rfl, rfl⟩
  refine gD (fun W Fs R lF z9 => ?_) ?_
  ·refine qh (qn (0) qQ rfl qr (by decide) rfl rfl ?_)
   exact ⟨rfl, rfl⟩
  refine gD (fun W Fs R lF z9 => ?_) ?_
  ·replace har := har.mono lF
   replace hb1 := hb1.mono lF
   replace ha1 := ha1.mono lF
   replace hf2 := hf2.mono lF
   replace hf3 := hf3.mono lF
   replace hf4 := hf4.mono lF
   rw [eS (l := [(4, _)]) ⟨z9 4 rfl, ⟨⟩⟩]
   refine qh (qi qP rfl (Rd.own [_] rfl rfl) ?_)
   exact ⟨rfl, rfl⟩
  refine gD (fun W Fs R lF z9 => ?_) ?_
  ·refine qh (qj (ii ((p : Int))) rfl ?_)
   exact ⟨rfl, rfl⟩
  refine gD (fun W Fs R lF z9 => ?_) ?_
  ·replace har := har.mono lF
   replace hb1 := hb1.mono lF
   replace ha1 := ha1.mono lF
   replace hf2 := hf2.mono lF
   replace hf3 := hf3.mono lF
   replace hf4 := hf4.mono lF
   rw [eS (l := [(3, _), (5, _), (6, _)]) ⟨z9 3 rfl, z9 5 rfl, z9 6 rfl, ⟨⟩⟩]
   refine qh (qt (args := [ptr b3 0, a1, ii ((p : Int))]) call230 rfl (Does.at [] (placeIn_spec (p := p) har hb1 hbo ha1 hσ (termW_of hlo) (by first | assumption | omega) lL)) ?_)
   rintro _ _ _ _ ⟨⟨rfl, rfl⟩, rfl⟩
   exact ⟨rfl, rfl⟩
  refine gD (fun W Fs R lF z9 => ?_) ?_
  ·refine qh (qj (v4) rfl ?_)
   exact ⟨rfl, rfl⟩
  refine gD (fun W Fs R lF z9 => ?_) ?_
  ·replace har := har.mono lF
   replace hf2 := hf2.mono lF
   replace hf3 := hf3.mono lF
   replace hf4 := hf4.mono lF
   rw [eS (l := [(1, _), (2, _), (7, _), (8, _)]) ⟨z9 1 rfl, z9 2 rfl, z9 7 rfl, z9 8 rfl, ⟨⟩⟩]
   refine qh (qt (args := [.agg #[arv], v1, ii (((ap σ (((rs.getD o ([], [])).1).take p)).length : Nat) : Int), v4]) call60 rfl (putW_spec (p := (ap σ (((rs.getD o ([], [])).1).take p)).length) har hf2 hf4 (ho := (hTW)) (hp := (hpT)) (hul := (hBl))) ?_)
   rintro _ F7 _ le7 ⟨x2, rfl, hr8, hr9, hr10, rfl⟩
   replace hf2 := hf2.mono le7
   replace hf3 := hf3.mono le7
   exact ⟨⟨rfl, hr8, hr9⟩, rfl⟩
  refine gD (fun W Fs R lF z9 => ?_) ?_
  ·obtain ⟨e9, f9_1hr, f9_1hnz⟩ := z9 9 rfl
   rw [eS (l := [(9, (.tuple #[((tupAt (W 9) 0)), .bool ((putL ar ((resX σ ([] : List Int) ((rs.getD o ([], [])).1))) ((ap σ (((rs.getD o ([], [])).1).take p)).length) ((resX σ ([] : List Int) ((awayL ((rs.getD u ([], [])).2)))))).isSome)]))]) ⟨(e9).symm, ⟨⟩⟩]
   refine qh (qj (.tuple #[((tupAt (W 9) 0)), .bool ((putL ar ((resX σ ([] : List Int) ((rs.getD o ([], [])).1))) ((ap σ (((rs.getD o ([], [])).1).take p)).length) ((resX σ ([] : List Int) ((awayL ((rs.getD u ([], [])).2)))))).isSome)]) rfl ?_)
   exact ⟨rfl, rfl⟩
  refine gD (fun W Fs R lF z9 => ?_) ?_
  ·obtain ⟨e9, f9_1hr, f9_1hnz⟩ := z9 9 rfl
   have e10 : W 10 = (.tuple #[((tupAt (W 9) 0)), .bool ((putL ar ((resX σ ([] : List Int) ((rs.getD o ([], [])).1))) ((ap σ (((rs.getD o ([], [])).1).take p)).length) ((resX σ ([] : List Int) ((awayL ((rs.getD u ([], [])).2)))))).isSome)] : Value) := z9 10 rfl
   rw [eS (l := [(9, (.tuple #[((tupAt (W 9) 0)), .bool ((putL ar ((resX σ ([] : List Int) ((rs.getD o ([], [])).1))) ((ap σ (((rs.getD o ([], [])).1).take p)).length) ((resX σ ([] : List Int) ((awayL ((rs.getD u ([], [])).2)))))).isSome)])), (10, (.tuple #[((tupAt (W 9) 0)), .bool ((putL ar ((resX σ ([] : List Int) ((rs.getD o ([], [])).1))) ((ap σ (((rs.getD o ([], [])).1).take p)).length) ((resX σ ([] : List Int) ((awayL ((rs.getD u ([], [])).2)))))).isSome)]))]) ⟨(e9).symm, e10, ⟨⟩⟩]
   refine qh (qT (((tupAt (W 9) 0))) rfl rfl ?_)
   exact ⟨rfl, rfl⟩
  refine gD (fun W Fs R lF z9 => ?_) ?_
  ·obtain ⟨e9, f9_1hr, f9_1hnz⟩ := z9 9 rfl
   have e10 : W 10 = (.tuple #[((tupAt (W 9) 0)), .bool ((putL ar ((resX σ ([] : List Int) ((rs.getD o ([], [])).1))) ((ap σ (((rs.getD o ([], [])).1).take p)).length) ((resX σ ([] : List Int) ((awayL ((rs.getD u ([], [])).2)))))).isSome)] : Value) := z9 10 rfl
   rw [eS (l := [(9, (.tuple #[((tupAt (W 9) 0)), .bool ((putL ar ((resX σ ([] : List Int) ((rs.getD o ([], [])).1))) ((ap σ (((rs.getD o ([], [])).1).take p)).length) ((resX σ ([] : List Int) ((awayL ((rs.getD u ([], [])).2)))))).isSome)])), (10, (.tuple #[((tupAt (W 9) 0)), .bool ((putL ar ((resX σ ([] : List Int) ((rs.getD o ([], [])).1))) ((ap σ (((rs.getD o ([], [])).1).take p)).length) ((resX σ ([] : List Int) ((awayL ((rs.getD u ([], [])).2)))))).isSome)]))]) ⟨(e9).symm, e10, ⟨⟩⟩]
   refine qh (qT (.bool ((putL ar ((resX σ ([] : List Int) ((rs.getD o ([], [])).1))) ((ap σ (((rs.getD o ([], [])).1).take p)).length) ((resX σ ([] : List Int) ((awayL ((rs.getD u ([], [])).2)))))).isSome)) rfl rfl ?_)
   exact ⟨rfl, rfl⟩
  refine gD (fun W Fs R lF z9 => ?_) ?_
  ·obtain ⟨e9, f9_1hr, f9_1hnz⟩ := z9 9 rfl
   have e11 : W 11 = ((tupAt (W 9) 0)) := z9 11 rfl
   rw [eS (l := [(9, (.tuple #[((tupAt (W 9) 0)), .bool ((putL ar ((resX σ ([] : List Int) ((rs.getD o ([], [])).1))) ((ap σ (((rs.getD o ([], [])).1).take p)).length) ((resX σ ([] : List Int) ((awayL ((rs.getD u ([], [])).2)))))).isSome)])), (11, ((tupAt (W 9) 0)))]) ⟨(e9).symm, e11, ⟨⟩⟩]
   refine qh (XOp.assign (((tupAt (W 9) 0))) rfl ?_)
   exact ⟨rfl, rfl⟩
  exact stepsG.nil
 intro W F8 le8 hphi
 obtain ⟨e9, f9_1hr, f9_1hnz⟩ := hphi 9 (by decide)
 have e10 : W 10 = (.tuple #[((tupAt (W 9) 0)), .bool ((putL ar ((resX σ ([] : List Int) ((rs.getD o ([], [])).1))) ((ap σ (((rs.getD o ([], [])).1).take p)).length) ((resX σ ([] : List Int) ((awayL ((rs.getD u ([], [])).2)))))).isSome)] : Value) := hphi 10 (by decide)
 have e11 : W 11 = ((tupAt (W 9) 0)) := hphi 11 (by decide)
 have e13 : W 13 = ((tupAt (W 9) 0)) := hphi 13 (by decide)
 generalize hu1 : ((tupAt (W 9) 0)) = u1 at e9 f9_1hr f9_1hnz e10 e11 e13
 rw [eS (l := [(9, (.tuple #[u1, .bool ((putL ar ((resX σ ([] : List Int) ((rs.getD o ([], [])).1))) ((ap σ (((rs.getD o ([], [])).1).take p)).length) ((resX σ ([] : List Int) ((awayL ((rs.getD u ([], [])).2)))))).isSome)])), (12, _), (13, u1)]) ⟨(e9).symm, (hphi 12 (by decide)), e13, ⟨⟩⟩]
 replace hf2 := hf2.mono le8
 replace hf3 := hf3.mono le8
 show XL _ _ _ _ _ _ _ (cellsH b3 (arv :: b4) 144 :: cellsH b5 [a1, a2] 136 :: cellsH b2 [sN, sN, sN, ii (0), ii (0), ii (0)] 128 :: cellsH b1 [arv, rsv] 66 :: L)
 refine qg (.bool ((putL ar ((resX σ ([] : List Int) ((rs.getD o ([], [])).1))) ((ap σ (((rs.getD o ([], [])).1).take p)).length) ((resX σ ([] : List Int) ((awayL ((rs.getD u ([], [])).2)))))).isSome)) rfl (qb (qc (qc (qa (qf (.bool ((putL ar ((resX σ ([] : List Int) ((rs.getD o ([], [])).1))) ((ap σ (((rs.getD o ([], [])).1).take p)).length) ((resX σ ([] : List Int) ((awayL ((rs.getD u ([], [])).2)))))).isSome)) rfl (cX (jp rfl (qb ?_))))))))
 refine X.cond (t := !((putL ar ((resX σ ([] : List Int) ((rs.getD o ([], [])).1))) ((ap σ (((rs.getD o ([], [])).1).take p)).length) ((resX σ ([] : List Int) ((awayL ((rs.getD u ([], [])).2)))))).isSome)) rfl (fun h4 => ?_) (fun h4 => ?_)
 ·have hfP := Bool.not_inj (y := false) h4
  refine qc (qa (cX (jw [sN, sN, sN, ii (0), ii (0), ii (0)] [sN, sN, sN, ii (0), ii (0), ii (0)] [(0, 1), (1, 1), (2, 1), (3, 1), (4, 1), (5, 1)] [] jv jr rfl (.cons rfl qr (.cons rfl qr (.cons rfl qr (.cons rfl qo (.cons rfl qo (.cons rfl qo PlacesAre.nil)))))) rfl CellsAre.nil (cX (jb [_, _] _ [sN, sN, sN, ii (0), ii (0), ii (0)] jl rfl rfl rfl (qv rfl (qv rfl (qv rfl (qv rfl (qv rfl (qv rfl jf)))))) rfl rfl rfl (qg (.bool (false)) rfl (qb (qy (qk (qs (L' := L) [.agg #[sN, sN, sN, ii (0), ii (0), ii (0)], .bool (false)] (.tuple #[.agg #[sN, sN, sN, ii (0), ii (0), ii (0)], .bool (false)]) (.cell rfl (jP [sN, sN, sN, ii (0), ii (0), ii (0)] isAgg128 jl rfl (Rd.ownN [_, _] rfl rfl)) (.tmp rfl .nil)) rfl (qm (qm (qm (qm (qm le1 le2) le3) le4) le5) le8) rF (sD (sD (sD (sD sR)))) ?_))))))))))
  have e : pkF ar rs o p u = none := pk_left hsys ho hu hp hmt hmg hσ hkL hkA hfP
  exact ⟨_, _, _, by rw [e]; rfl, by rw [e]; exact IntsF.nilV, by rw [e]; exact IntsF.nilV, by rw [e]; exact IntsF.nilV, by rw [e]; exact Fresh.empty nil3, rfl⟩
 have hkP := Bool.not_inj (y := true) h4
 obtain ⟨eP, lP⟩ := put_some hsys ho hp hbo hσ hkL hkA hkP
 refine qw (qc (qa (qf (v1) rfl (qf (u1) rfl (qf (v2) rfl (cX (qM (s := 1) [v1, u1, v2] [sN] [(0, [v1]), (1, [u1]), (2, [v2])] qA qr jM rfl (by decide) rfl (.cons (cells_one (qG hf2)) (.cons (cells_one (qG f9_1hr)) (.cons (cells_one (qG hf3)) CellsAre.nil))) rfl ?_)))))))
 intro v5 hv1
 have hc1 : RowsC F8 [v1, u1, v2] ([(resX σ ([] : List Int) ((rs.getD o ([], [])).1)), (putL ar ((resX σ ([] : List Int) ((rs.getD o ([], [])).1))) ((ap σ (((rs.getD o ([], [])).1).take p)).length) ((resX σ ([] : List Int) ((awayL ((rs.getD u ([], [])).2)))))).getD [], (resX σ ([] : List Int) ((rs.getD o ([], [])).2))] : List (List Int)) := (RowsC.snoc (RowsC.snoc (RowsC.snoc (CO.nil : RowsC F8 [] []) hf2) f9_1hr) hf3)
 refine jY [] _ _ rfl (fun F9 le9 hz5 => ?_)
 replace hc1 := hc1.mono le9
 have hf5 : RowsF F9 v5 (([(resX σ ([] : List Int) ((rs.getD o ([], [])).1)), (putL ar ((resX σ ([] : List Int) ((rs.getD o ([], [])).1))) ((ap σ (((rs.getD o ([], [])).1).take p)).length) ((resX σ ([] : List Int) ((awayL ((rs.getD u ([], [])).2)))))).getD [], (resX σ ([] : List Int) ((rs.getD o ([], [])).2))] : List (List Int))) := CO.fz hc1 (by first | rfl | omega | (rw [List.length_set]; omega) | (simp; done)) hz5.fz
 refine cX (qt (args := [v5]) call221 rfl (renumber_spec hf5 (by simp) (fun i hi => by match i, hi with | 0, _ => (show (resX σ [] (rs.getD o ([], [])).1).length ≤ 60; rw [eL]; exact lL) | 1, _ => (show ((putL ar (resX σ [] (rs.getD o ([], [])).1) (ap σ ((rs.getD o ([], [])).1.take p)).length (resX σ [] (awayL (rs.getD u ([], [])).2))).getD []).length ≤ 60; rw [eP]; exact lP) | 2, _ => (show (resX σ [] (rs.getD o ([], [])).2).length ≤ 60; rw [eR]; exact lR))) ?_)
 rintro v6 F10 _ le10 ⟨cs1, Us1, hA1, hC1, hD1, hZ1, rfl⟩
 have he9 : rnL [] (([(resX σ ([] : List Int) ((rs.getD o ([], [])).1)), (putL ar ((resX σ ([] : List Int) ((rs.getD o ([], [])).1))) ((ap σ (((rs.getD o ([], [])).1).take p)).length) ((resX σ ([] : List Int) ((awayL ((rs.getD u ([], [])).2)))))).getD [], (resX σ ([] : List Int) ((rs.getD o ([], [])).2))] : List (List Int))) = [(byL (orderL (ap σ (rs.getD o ([], [])).1)) (ap σ (rs.getD o ([], [])).1)), (byL (orderL (ap σ (rs.getD o ([], [])).1)) (ap σ (leftT ar rs o p u))), (byL (orderL (ap σ (rs.getD o ([], [])).1)) (ap σ (rs.getD o ([], [])).2))] := by rw [eP, eL, eR]; exact pk_rn hsys ho hu hmg hσ
 rw [he9] at hA1 hC1 hD1
 obtain ⟨a5, a6, a7, rfl, rfl⟩ := hD1.three
 obtain ⟨ha5, ha6, ha7⟩ := RowsC.three hC1
 have hR1 : RowsF F10 v6 ([(byL (orderL (ap σ (rs.getD o ([], [])).1)) (ap σ (rs.getD o ([], [])).1)), (byL (orderL (ap σ (rs.getD o ([], [])).1)) (ap σ (leftT ar rs o p u))), (byL (orderL (ap σ (rs.getD o ([], [])).1)) (ap σ (rs.getD o ([], [])).2))] : RowL) := ⟨_, hA1, hC1.2⟩
 have hr11 : ∀ L, Rd F10 L (elemA v6 0) a5 := fun L => Rd.arr hA1 rfl
 have hr12 : ∀ L, Rd F10 L (elemA v6 1) a6 := fun L => Rd.arr hA1 rfl
 have hr13 : ∀ L, Rd F10 L (elemA v6 2) a7 := fun L => Rd.arr hA1 rfl
 refine qg (v6) rfl (qb (qc (qc (qa (qf (v6) rfl (cX (ql 0 qA qr rfl rfl rfl hR1.slv (by (try simp only [List.length_cons, List.length_nil]); omega) (Nat.mul_one _) (cX (qi qP rfl (hr11 _) (cX (qt (args := [a5]) call178 rfl (Min_spec ha5 (h1 := (by show 1 ≤ (byL (orderL (ap σ (rs.getD o ([], [])).1)) (ap σ (rs.getD o ([], [])).1)).length; rw [byL_len]; have := (ap_W hbo hσ (termW_of hlo) lL).len; omega)) (hbd := (by show (byL (orderL (ap σ (rs.getD o ([], [])).1)) (ap σ (rs.getD o ([], [])).1)).length ≤ _; rw [byL_len]; omega))) ?_)))))))))))
 rintro _ _ _ _ ⟨rfl, rfl, rfl⟩
 refine cX (qL rfl rfl (qb ?_))
 refine qx (p := (minL (((([(byL (orderL (ap σ (rs.getD o ([], [])).1)) (ap σ (rs.getD o ([], [])).1)), (byL (orderL (ap σ (rs.getD o ([], [])).1)) (ap σ (leftT ar rs o p u))), (byL (orderL (ap σ (rs.getD o ([], [])).1)) (ap σ (rs.getD o ([], [])).2))] : RowL)).getD 0 [])) : Int) < -24) rfl (fun h5 => ?_) (fun h5 => ?_)
 ·have h24 := (order_len (ap σ (rs.getD o ([], [])).1) (by have := (ap_W hbo hσ (termW_of hlo) lL).len; omega)).1 (show minL (byL (orderL (ap σ (rs.getD o ([], [])).1)) (ap σ (rs.getD o ([], [])).1)) < -24 from h5)
  refine qc (qa (cX (jw [sN, sN, sN, ii (0), ii (0), ii (0)] [sN, sN, sN, ii (0), ii (0), ii (0)] [(0, 1), (1, 1), (2, 1), (3, 1), (4, 1), (5, 1)] [] jv jr rfl (.cons rfl qr (.cons rfl qr (.cons rfl qr (.cons rfl qo (.cons rfl qo (.cons rfl qo PlacesAre.nil)))))) rfl CellsAre.nil (cX (jb [_, _] _ [sN, sN, sN, ii (0), ii (0), ii (0)] jl rfl rfl rfl (qv rfl (qv rfl (qv rfl (qv rfl (qv rfl (qv rfl jf)))))) rfl rfl rfl (qg (.bool (false)) rfl (qb (qy (qk (qs (L' := L) [.agg #[sN, sN, sN, ii (0), ii (0), ii (0)], .bool (false)] (.tuple #[.agg #[sN, sN, sN, ii (0), ii (0), ii (0)], .bool (false)]) (.cell rfl (jP [sN, sN, sN, ii (0), ii (0), ii (0)] isAgg128 jl rfl (Rd.ownN [_, _] rfl rfl)) (.tmp rfl .nil)) rfl (qm (qm (qm (qm (qm (qm (qm le1 le2) le3) le4) le5) le8) le9) le10) rF (sD (sD (sD (sD sR)))) ?_))))))))))
  have e : pkF ar rs o p u = none := pk_order hsys ho hu hmt hmg hσ h24
  exact ⟨_, _, _, by rw [e]; rfl, by rw [e]; exact IntsF.nilV, by rw [e]; exact IntsF.nilV, by rw [e]; exact IntsF.nilV, by rw [e]; exact Fresh.empty nil3, rfl⟩
 have h24 := Nat.le_of_not_lt (mt (order_len (ap σ (rs.getD o ([], [])).1) (by have := (ap_W hbo hσ (termW_of hlo) lL).len; omega)).2 (show ¬ minL (byL (orderL (ap σ (rs.getD o ([], [])).1)) (ap σ (rs.getD o ([], [])).1)) < -24 from h5))
 refine qw (qc ?_)
 refine jn [cellsH b3 (arv :: b4) 144, cellsH b5 [a1, a2] 136, cellsH b2 [sN, sN, sN, ii (0), ii (0), ii (0)] 128, cellsH b1 [arv, rsv] 66] L 12 [] [[], [0], [1], [], [3], [4], [], [6], [7]] (phiL [qe v6, qe (.pointer (some (elemA v6 (0)))), qe a5, qe v6, qe (.pointer (some (elemA v6 (1)))), qe a6, qe v6, qe (.pointer (some (elemA v6 (2)))), qe a7, qe (ii ((p : Int)) : Value), qe (ii ((u : Int)) : Value), qe (ii ((o : Int)) : Value)]) (ownL []) mixed rfl rfl (by kernel_rfl) ?_ ?_
 ·refine pD (fun W R z9 => ?_) ?_
  ·refine qh (qj (v6) rfl ?_)
   exact ⟨rfl, rfl, rfl⟩
  refine pD (fun W R z9 => ?_) ?_
  ·rw [eS (l := [(0, _)]) ⟨z9 0 rfl, ⟨⟩⟩]
   refine qh (ql 0 qA qr rfl rfl rfl hR1.slv (by (try simp only [List.length_cons, List.length_nil]); omega) (Nat.mul_one _) ?_)
   exact ⟨rfl, rfl, rfl⟩
  refine pD (fun W R z9 => ?_) ?_
  ·rw [eS (l := [(1, _)]) ⟨z9 1 rfl, ⟨⟩⟩]
   refine qh (qi qP rfl (hr11 _) ?_)
   exact ⟨rfl, rfl, rfl⟩
  refine pD (fun W R z9 => ?_) ?_
  ·refine qh (qj (v6) rfl ?_)
   exact ⟨rfl, rfl, rfl⟩
  refine pD (fun W R z9 => ?_) ?_
  ·rw [eS (l := [(3, _)]) ⟨z9 3 rfl, ⟨⟩⟩]
   refine qh (ql 1 qA qr rfl rfl rfl hR1.slv (by (try simp only [List.length_cons, List.length_nil]); omega) (Nat.mul_one _) ?_)
   exact ⟨rfl, rfl, rfl⟩
  refine pD (fun W R z9 => ?_) ?_
  ·rw [eS (l := [(4, _)]) ⟨z9 4 rfl, ⟨⟩⟩]
   refine qh (qi qP rfl (hr12 _) ?_)
   exact ⟨rfl, rfl, rfl⟩
  refine pD (fun W R z9 => ?_) ?_
  ·refine qh (qj (v6) rfl ?_)
   exact ⟨rfl, rfl, rfl⟩
  refine pD (fun W R z9 => ?_) ?_
  ·rw [eS (l := [(6, _)]) ⟨z9 6 rfl, ⟨⟩⟩]
   refine qh (ql 2 qA qr rfl rfl rfl hR1.slv (by (try simp only [List.length_cons, List.length_nil]); omega) (Nat.mul_one _) ?_)
   exact ⟨rfl, rfl, rfl⟩
  refine pD (fun W R z9 => ?_) ?_
  ·rw [eS (l := [(7, _)]) ⟨z9 7 rfl, ⟨⟩⟩]
   refine qh (qi qP rfl (hr13 _) ?_)
   exact ⟨rfl, rfl, rfl⟩
  refine pD (fun W R z9 => ?_) ?_
  ·refine qh (qj (ii ((p : Int))) rfl ?_)
   exact ⟨rfl, rfl, rfl⟩
  refine pD (fun W R z9 => ?_) ?_
  ·refine qh (qj (ii ((u : Int))) rfl ?_)
   exact ⟨rfl, rfl, rfl⟩
  refine pD (fun W R z9 => ?_) ?_
  ·refine qh (qj (ii ((o : Int))) rfl ?_)
   exact ⟨rfl, rfl, rfl⟩
  exact stepsP.nil
 intro W hphi
 rw [eS (l := [(2, _), (5, _), (8, _), (9, _), (10, _), (11, _)]) ⟨(hphi 2 (by decide)), (hphi 5 (by decide)), (hphi 8 (by decide)), (hphi 9 (by decide)), (hphi 10 (by decide)), (hphi 11 (by decide)), ⟨⟩⟩]
 show XL _ _ _ _ _ _ _ (cellsH b3 (arv :: b4) 144 :: cellsH b5 [a1, a2] 136 :: cellsH b2 [sN, sN, sN, ii (0), ii (0), ii (0)] 128 :: cellsH b1 [arv, rsv] 66 :: L)
 refine cX (jw [a5, a6, a7, ii ((p : Int)), ii ((u : Int)), ii ((o : Int))] [sN, sN, sN, ii (0), ii (0), ii (0)] [(0, 1), (1, 1), (2, 1), (3, 1), (4, 1), (5, 1)] [(0, [a5]), (1, [a6]), (2, [a7]), (3, [ii ((p : Int))]), (4, [ii ((u : Int))]), (5, [ii ((o : Int))])] jv jr rfl (.cons rfl qr (.cons rfl qr (.cons rfl qr (.cons rfl qo (.cons rfl qo (.cons rfl qo PlacesAre.nil)))))) rfl (.cons (cells_one (qG ha5)) (.cons (cells_one (qG ha6)) (.cons (cells_one (qG ha7)) (.cons rfl (.cons rfl (.cons rfl CellsAre.nil)))))) (cX (jb [_, _] _ [a5, a6, a7, ii ((p : Int)), ii ((u : Int)), ii ((o : Int))] jl rfl rfl rfl (qv (qZ (qG ha5)) (qv (qZ (qG ha6)) (qv (qZ (qG ha7)) (qv rfl (qv rfl (qv rfl jf)))))) rfl rfl rfl (qg (.bool (true)) rfl (qb (qy (qs (L' := L) [.agg #[a5, a6, a7, ii ((p : Int)), ii ((u : Int)), ii ((o : Int))], .bool (true)] (.tuple #[.agg #[a5, a6, a7, ii ((p : Int)), ii ((u : Int)), ii ((o : Int))], .bool (true)]) (.cell rfl (jP [a5, a6, a7, ii ((p : Int)), ii ((u : Int)), ii ((o : Int))] isAgg128 jl rfl (Rd.ownN [_, _] rfl rfl)) (.tmp rfl .nil)) rfl (qm (qm (qm (qm (qm (qm (qm le1 le2) le3) le4) le5) le8) le9) le10) rF (sD (sD (sD (sD sR)))) ?_)))))))
 have e := pk_yes hsys ho hu hmt hmg hσ lL lP lR h24
 exact ⟨_, _, _, by rw [e]; rfl, by rw [e]; exact ha5, by rw [e]; exact ha6, by rw [e]; exact ha7, by rw [e]; exact (hZ1.base (qm (qm (qm (qm (qm (qm le1 le2) le3) le4) le5) le8) le9)), rfl⟩

/- impl.meetings -/
theorem meetings_spec {F : FH} {L : List HP} {arv : Value} {ar : List Int} (har : IntsF F arv ar) {rsv : Value} {rs : List (List Int × List Int)} (hrs : PairsF F rsv rs) :
    Does prog 199 [.agg #[arv, rsv]] F (L) (fun v F' L' => ∃ (bs : Nat), (.func (.func 227) #[] #[ptr bs 0] : Value) = v ∧ FzC F' bs [arv, rsv] ∧ L = L') := by
 refine qD func199 rfl rfl rfl (qc (qa (cX (qV [arv, rsv] rfl rfl ?_))))
 intro b1
 refine qg (.nilFunc) rfl (qb (qc (qa (cX (XOp.makeFuncL [] [ptr b1 0] rfl rfl (qg (.func (.func 227) #[] #[ptr b1 0]) rfl (qb (X.freeze [] _ _ rfl (fun F1 le1 hz1 => ?_)))))))))
 have hf1 : FzC F1 b1 [arv, rsv] := Fz.cells hz1
 refine qy (qs (L' := L) [.func (.func 227) #[] #[ptr b1 0]] (.func (.func 227) #[] #[ptr b1 0]) (.tmp rfl .nil) rfl le1 rF sR ?_)
 exact ⟨_, rfl, hf1, rfl⟩

/- impl.meetings$1 -/
set_option maxHeartbeats 2000000 in
set_option maxRecDepth 20000 in
theorem meetIt_spec {F : FH} {L : List HP} {l bs : Nat} {R R2 : Loop} {arv : Value} {ar : List Int} (har : IntsF F arv ar) {rsv : Value} {rs : List (List Int × List Int)} (hrs : PairsF F rsv rs) (hcb : FzC F bs [arv, rsv]) (hsys : sysOk ar rs = true) {J : List Tr → FH → List HP → Prop} {Jx : FH → List HP → Prop} (hJ0 : J [] F L) (hJm : ∀ {ms : List Tr} {F F' : FH} {L : List HP}, J ms F L → F ≤ F' → J ms F' L) (hyes : ∀ (ms : List Tr) (o p u : Nat) (Fy : FH) (Ly : List HP), o < rs.length → p < (rs.getD o ([], [])).1.length → u < rs.length → meetB ar rs o p u = true → ms ++ [(o, p, u)] <+: meetsL ar rs → F ≤ Fy → J ms Fy Ly → Yld prog l [.agg #[ii (o : Int), ii (p : Int), ii (u : Int)]] Fy (objH l (.loop R) :: Ly) (fun v F' L' => (.bool true = v ∧ ∃ L2, J (ms ++ [(o, p, u)]) F' L2 ∧ objH l (.loop R) :: L2 = L') ∨ (.bool false = v ∧ ∃ L2, Jx F' L2 ∧ objH l (.loop R2) :: L2 = L'))) :
    Does prog 227 [(.func (.yield l) #[] #[]), ptr bs 0] F (objH l (.loop R) :: L) (fun v F' L' => (∃ L2, J (meetsL ar rs) F' L2 ∧ objH l (.loop R) :: L2 = L') ∨ (∃ L2, Jx F' L2 ∧ objH l (.loop R2) :: L2 = L')) := by
 refine qD func227 rfl rfl rfl ?_
 have hrl := (sysOk_iff.1 hsys).2.1
 have hsig := (sysOk_iff.1 hsys).1
 have hsl := sigOk_spec hsig
 have hll : ∀ i, i < rs.length → (rs.getD i ([], [])).1.length ≤ 60 := fun i hi => (termOk_len (rule_L hsys hi)).2
 refine qc (qa (cX (qn (1) qH rfl jx (by decide) rfl rfl (cX (qi jG rfl (FzC.rd1 hcb rfl) (cX (qC qU rfl hrs.slv (qf (ii (0)) rfl (qb (qF (jj (α := Nat × List HP × FH) (fun xQ => [(0, (.func (.yield l) #[] #[])), (1, ptr bs 0), (11, rsv), (12, ii ((rs.length : Int))), (13, ii (((xQ.1 : Nat) : Int)))]) (fun xQ => objH l (.loop R) :: xQ.2.1) (fun xQ F' => xQ.2.2 = F' ∧ F ≤ xQ.2.2 ∧ (xQ.1 ≤ rs.length) ∧ (J (mO ar rs xQ.1) xQ.2.2 xQ.2.1)) (fun xQ => rs.length - xQ.1) (0, L, F) ⟨rfl, rfl, rfl, rfl, rfl, ⟨⟩⟩ (sC sR) ⟨rfl, FLe.refl _, (Nat.zero_le _), (by (try dsimp only); simpa [mO] using hJ0)⟩ ?_)))))))))))
 rintro ⟨o, L1, G1⟩ rE _ _ ⟨rfl, leG, hk1, hJ1⟩
 show X _ _ _ _ (envs [(0, (.func (.yield l) #[] #[])), (1, ptr bs 0), (11, rsv), (12, ii ((rs.length : Int))), (13, ii ((o : Int)))] rE) _ (objH l (.loop R) :: L1)
 replace leG : F ≤ G1 := leG
 dsimp only at hk1 hJ1
 skip
 have hllo := hll o
 have leG1 := leG
 replace har := har.mono leG1
 replace hrs := hrs.mono leG1
 replace hcb := hcb.mono leG1
 refine qc (qa (cX (qL rfl rfl (qb (qc ?_)))))
 refine qx (p := (o : Int) < (rs.length : Int)) rfl (fun h1 => ?_) (fun h1 => ?_)
 ·have hol : o < rs.length := by omega
  refine qw (qc (qF (qc (qa (qf (ii ((o : Int))) rfl (cX (ql o qU jh rfl rfl rfl hrs.slv (by omega) rfl ?_)))))))
  obtain ⟨a1, a2, ha1, ha2, hr1, hr2⟩ := hrs.rd (i := o) (by omega)
  refine cX (qB [a1, a2] isAgg136 jh rfl rfl (Rd.two (hr1 _) (hr2 _)) (cX (jo [sN, sN] zeroValue136 rfl ?_)))
  intro b1
  refine qg (ii ((o : Int))) rfl (cX (jb [] _ [a1, a2] jh rfl rfl rfl (qv (qZ (qG ha1)) (qv (qZ (qG ha2)) jf)) rfl rfl rfl (qb (qc (qa (cX (qn (0) qQ rfl qr (by decide) rfl rfl (cX (qi qP rfl (Rd.own [] rfl rfl) (cX (qC qd rfl ha1.slv (qf (ii (0)) rfl (qb (qF (jj (α := Nat × List HP × FH) (fun xQ => [(0, (.func (.yield l) #[] #[])), (1, ptr bs 0), (3, ii ((o : Int))), (11, rsv), (12, ii ((rs.length : Int))), (13, ii ((o : Int))), (19, a1), (20, ii (((((rs.getD o ([], [])).1).length : Nat) : Int))), (21, ii (((xQ.1 : Nat) : Int)))]) (fun xQ => objH l (.loop R) :: xQ.2.1) (fun xQ F' => xQ.2.2 = F' ∧ G1 ≤ xQ.2.2 ∧ (xQ.1 ≤ (rs.getD o ([], [])).1.length) ∧ (J (mO ar rs o ++ mP ar rs o xQ.1) xQ.2.2 xQ.2.1)) (fun xQ => (rs.getD o ([], [])).1.length - xQ.1) (0, L1, G1) ⟨rfl, rfl, rfl, rfl, rfl, rfl, rfl, rfl, rfl, ⟨⟩⟩ (sD (sC sR)) ⟨rfl, FLe.refl _, (Nat.zero_le _), (by (try dsimp only); simp only [mP, List.append_nil]; exact hJm hJ1 rF)⟩ ?_)))))))))))))))
  rintro ⟨p, L2, G2⟩ rE _ _ ⟨rfl, leG, hk2, hJ2⟩
  show X _ _ _ _ (envs [(0, (.func (.yield l) #[] #[])), (1, ptr bs 0), (3, ii ((o : Int))), (11, rsv), (12, ii ((rs.length : Int))), (13, ii ((o : Int))), (19, a1), (20, ii (((((rs.getD o ([], [])).1).length : Nat) : Int))), (21, ii ((p : Int)))] rE) _ (objH l (.loop R) :: L2)
  replace leG : G1 ≤ G2 := leG
  dsimp only at hk2 hJ2
  skip
  have leG2 := leG
  replace har := har.mono leG2
  replace hrs := hrs.mono leG2
  replace hcb := hcb.mono leG2
  replace ha1 := ha1.mono leG2
  refine qc (qa (cX (qL rfl rfl (qb (qc ?_)))))
  refine qx (p := (p : Int) < ((((rs.getD o ([], [])).1).length : Nat) : Int)) rfl (fun h2 => ?_) (fun h2 => ?_)
  ·have hpl : p < (rs.getD o ([], [])).1.length := by omega
   refine qw (qc (qF (qc (qa (qf (ii ((p : Int))) rfl (cX (ql p qd qo rfl rfl rfl ha1.slv (by omega) (Nat.mul_one _) (cX (qi qK rfl (ha1.rd (by omega)) (qg (ii ((p : Int))) rfl (qg (ii (((rs.getD o ([], [])).1).getD p 0)) rfl (qb (qc (qa (cX (qn (1) qH rfl jx (by decide) rfl rfl (cX (qi jG rfl (FzC.rd1 hcb rfl) (cX (qC qU rfl hrs.slv ?_))))))))))))))))))))
   refine qf (ii (0)) rfl (qb (qF (jj (α := Nat × List HP × FH) (fun xQ => [(0, (.func (.yield l) #[] #[])), (1, ptr bs 0), (3, ii ((o : Int))), (5, ii ((p : Int))), (6, ii (((rs.getD o ([], [])).1).getD p 0)), (11, rsv), (12, ii ((rs.length : Int))), (13, ii ((o : Int))), (19, a1), (20, ii (((((rs.getD o ([], [])).1).length : Nat) : Int))), (21, ii ((p : Int))), (28, ii ((rs.length : Int))), (29, ii (((xQ.1 : Nat) : Int)))]) (fun xQ => objH l (.loop R) :: xQ.2.1) (fun xQ F' => xQ.2.2 = F' ∧ G2 ≤ xQ.2.2 ∧ (xQ.1 ≤ rs.length) ∧ (J (mO ar rs o ++ mP ar rs o p ++ mU ar rs o p xQ.1) xQ.2.2 xQ.2.1)) (fun xQ => rs.length - xQ.1) (0, L2, G2) ⟨rfl, rfl, rfl, rfl, rfl, rfl, rfl, rfl, rfl, rfl, rfl, rfl, rfl, ⟨⟩⟩ (sC sR) ⟨rfl, FLe.refl _, (Nat.zero_le _), (by (try dsimp only); simp only [mU, List.append_nil]; exact hJm hJ2 rF)⟩ ?_)))
   rintro ⟨u, L3, G3⟩ rE _ _ ⟨rfl, leG, hk3, hJ3⟩
   show X _ _ _ _ (envs [(0, (.func (.yield l) #[] #[])), (1, ptr bs 0), (3, ii ((o : Int))), (5, ii ((p : Int))), (6, ii (((rs.getD o ([], [])).1).getD p 0)), (11, rsv), (12, ii ((rs.length : Int))), (13, ii ((o : Int))), (19, a1), (20, ii (((((rs.getD o ([], [])).1).length : Nat) : Int))), (21, ii ((p : Int))), (28, ii ((rs.length : Int))), (29, ii ((u : Int)))] rE) _ (objH l (.loop R) :: L3)
   replace leG : G2 ≤ G3 := leG
   dsimp only at hk3 hJ3
   skip
   have leG3 := leG
   replace har := har.mono leG3
   replace hrs := hrs.mono leG3
   replace hcb := hcb.mono leG3
   refine qc (qa (cX (qL rfl rfl (qb (qc ?_)))))
   refine qx (p := (u : Int) < (rs.length : Int)) rfl (fun h3 => ?_) (fun h3 => ?_)
   ·refine qw (qc (qF (qc (qa (qf (ii ((u : Int))) rfl (qg (ii ((u : Int))) rfl (qb (qc (qc (qa (qf (ii (((rs.getD o ([], [])).1).getD p 0)) rfl (cX (qL rfl rfl (qb ?_))))))))))))))
    refine qx (p := (((rs.getD o ([], [])).1).getD p 0 : Int) < 0) rfl (fun h4 => ?_) (fun h4 => ?_)
    ·have hno9 : ¬ (0 ≤ (Lr rs o).getD p 0 ∧ meetB ar rs o p u = true) := fun h9 => absurd h9.1 (Int.not_le.2 h4)
     refine ja (qu (qJ (qa (cX (qI (((u + 1 : Nat) : Int)) rfl rfl (by omega) (by omega) (qf (ii (((u + 1 : Nat) : Int))) rfl (qb ?_)))))))
     exact ⟨(u + 1, L3, G3), _, leG3, rF, ⟨rfl, rfl, rfl, rfl, rfl, rfl, rfl, rfl, rfl, rfl, rfl, rfl, rfl, ⟨⟩⟩, (sC sR), ⟨rfl, leG3, (by (try dsimp only) <;> omega), (by (try dsimp only); rw [mU_no hno9]; exact hJm hJ3 rF)⟩, (by omega)⟩
    have hn0 : 0 ≤ (Lr rs o).getD p 0 := Int.not_lt.1 h4
    refine qw (qc (qa (cX (qB [arv, rsv] jF jt rfl rfl (FzC.rd hcb rfl) (qf (ii ((o : Int))) rfl (qf (ii ((p : Int))) rfl (qf (ii ((u : Int))) rfl (cX (qt (args := [.agg #[arv, rsv], ii (o : Int), ii (p : Int), ii (u : Int)]) call228 rfl (overlap_spec (o := o) (p := p) (u := u) har hrs (hsys := (by first | assumption | rfl | omega | simp)) (ho := (by omega)) (hu := (by omega)) (hp := (hpl))) ?_)))))))))
    rintro _ F1 _ le1 (⟨rfl, hmt1, rfl⟩ | ⟨b2, rfl, hmt1, rfl⟩ | ⟨b2, b3, l1, rfl, hmt1, hb1, hmg1, rfl⟩)
    ·replace har := har.mono le1
     have hno9 : ¬ (0 ≤ (Lr rs o).getD p 0 ∧ meetB ar rs o p u = true) := fun h9 => by rw [hmt1] at h9; exact absurd h9.2 (by simp)
     refine qf (.tuple #[(.pointer none), .bool (false)]) rfl (cX (qT ((.pointer none)) rfl rfl (cX (qT (.bool (false)) rfl rfl (qg ((.pointer none)) rfl (qg (.bool (false)) rfl (qb (qc (X.ofI (by kernel_rfl) (XI.region (jm (qj (.bool (false)) rfl (jm (qj (.bool (false)) rfl ?_))))))))))))))
     refine XIL.no (t := 43) rfl rfl (XIL.no (t := 43) rfl rfl (XIL.no (t := 43) rfl rfl (XIL.no (t := 43) rfl rfl (XIL.no (t := 43) rfl rfl (XIL.no (t := 43) rfl rfl (XIL.no (t := 43) rfl rfl (jm (qS (.bool (false)) rfl rfl (XIL.nil (jz rfl ?_))))))))))
     refine qw (qa (cX (qI (((u + 1 : Nat) : Int)) rfl rfl (by omega) (by omega) (qf (ii (((u + 1 : Nat) : Int))) rfl (qb ?_)))))
     exact ⟨(u + 1, L3, F1), _, (qm leG3 le1), rF, ⟨rfl, rfl, rfl, rfl, rfl, rfl, rfl, rfl, rfl, rfl, rfl, rfl, rfl, ⟨⟩⟩, (sC sR), ⟨rfl, (qm leG3 le1), (by (try dsimp only) <;> omega), (by (try dsimp only); rw [mU_no hno9]; exact hJm hJ3 le1)⟩, (by omega)⟩
    ·replace har := har.mono le1
     have hno9 : ¬ (0 ≤ (Lr rs o).getD p 0 ∧ meetB ar rs o p u = true) := fun h9 => by rw [hmt1] at h9; exact absurd h9.2 (by simp)
     refine qf (.tuple #[ptr b2 0, .bool (false)]) rfl (cX (qT (ptr b2 0) rfl rfl (cX (qT (.bool (false)) rfl rfl (qg (ptr b2 0) rfl (qg (.bool (false)) rfl (qb (qc (X.ofI (by kernel_rfl) (XI.region (jm (qj (.bool (false)) rfl (jm (qj (.bool (false)) rfl ?_))))))))))))))
     refine XIL.no (t := 43) rfl rfl (XIL.no (t := 43) rfl rfl (XIL.no (t := 43) rfl rfl (XIL.no (t := 43) rfl rfl (XIL.no (t := 43) rfl rfl (XIL.no (t := 43) rfl rfl (XIL.no (t := 43) rfl rfl (jm (qS (.bool (false)) rfl rfl (XIL.nil (jz rfl ?_))))))))))
     refine qw (qa (cX (qI (((u + 1 : Nat) : Int)) rfl rfl (by omega) (by omega) (qf (ii (((u + 1 : Nat) : Int))) rfl (qb ?_)))))
     exact ⟨(u + 1, L3, F1), _, (qm leG3 le1), rF, ⟨rfl, rfl, rfl, rfl, rfl, rfl, rfl, rfl, rfl, rfl, rfl, rfl, rfl, ⟨⟩⟩, (sC sR), ⟨rfl, (qm leG3 le1), (by (try dsimp only) <;> omega), (by (try dsimp only); rw [mU_no hno9]; exact hJm hJ3 le1)⟩, (by omega)⟩
    replace har := har.mono le1
    refine qf (.tuple #[ptr b2 0, .bool (true)]) rfl (cX (qT (ptr b2 0) rfl rfl (cX (qT (.bool (true)) rfl rfl (qg (ptr b2 0) rfl (qg (.bool (true)) rfl (qb (qc (X.ofI (by kernel_rfl) (XI.region (jm (qj (.bool (true)) rfl (jm (qj (.bool (true)) rfl ?_))))))))))))))
    refine XIL.yes (t := 43) rfl rfl (qj ((.func (.yield l) #[] #[])) rfl (XIL.yes (t := 43) rfl rfl (qj (ii ((o : Int))) rfl (XIL.yes (t := 43) rfl rfl (qj (ii ((p : Int))) rfl (XIL.yes (t := 43) rfl rfl (qj (ii ((u : Int))) rfl (XIL.yes (t := 43) rfl rfl (jw [ii ((o : Int)), ii ((p : Int)), ii ((u : Int))] [ii (0), ii (0), ii (0)] [(0, 1), (1, 1), (2, 1)] [(0, [ii ((o : Int))]), (1, [ii ((p : Int))]), (2, [ii ((u : Int))])] runUnderlying236 zeroValue236 rfl (.cons rfl ya (.cons rfl ya (.cons rfl ya PlacesAre.nil))) rfl (.cons rfl (.cons rfl (.cons rfl CellsAre.nil))) (XIL.yieldY (t := 43) (k := l) (args := [.agg #[ii ((o : Int)), ii ((p : Int)), ii ((u : Int))]]) rfl rfl rfl (by rfl) (Yld.weaken (sD (sC sR)) ((hyes (mO ar rs o ++ mP ar rs o p ++ mU ar rs o p u) o p u _ _ (by omega) hpl (by omega) hmt1 (by rw [List.append_assoc, ← mU_yes hn0 hmt1]; exact meets_pre (by omega) hpl (by omega)) (qm (qm (qm leG1 leG2) leG3) le1) (hJm hJ3 le1)).mono ?_))))))))))))
    rintro _ F2 _ le2 (⟨rfl, Lj1, hJ1, rfl⟩ | ⟨rfl, Lj1, hJ1, rfl⟩)
    ·replace har := har.mono le2
     show XIL _ _ _ _ _ _ _ _ _ (objH l (.loop R) :: Lj1)
     refine XIL.yes (t := 43) rfl rfl (jp rfl (jm (qR (.bool (false)) rfl rfl (XIL.nil (jz rfl (qw (qa (cX (qI (((u + 1 : Nat) : Int)) rfl rfl (by omega) (by omega) (qf (ii (((u + 1 : Nat) : Int))) rfl (qb ?_)))))))))))
     exact ⟨(u + 1, Lj1, F2), _, (qm (qm leG3 le1) le2), rF, ⟨rfl, rfl, rfl, rfl, rfl, rfl, rfl, rfl, rfl, rfl, rfl, rfl, rfl, ⟨⟩⟩, (sC sR), ⟨rfl, (qm (qm leG3 le1) le2), (by (try dsimp only) <;> omega), (by (try dsimp only); rw [mU_yes hn0 hmt1, ← List.append_assoc]; exact hJm hJ1 rF)⟩, (by omega)⟩
    replace har := har.mono le2
    show XIL _ _ _ _ _ _ _ _ _ (objH l (.loop R2) :: Lj1)
    refine XIL.yes (t := 43) rfl rfl (jp rfl (jm (qR (.bool (true)) rfl rfl (XIL.nil (jB rfl (qy (qz (qk (qk (qz (qz (qk (qk (qz (qz (qk (qk (qz (qs (L' := objH l (.loop R2) :: Lj1) [] (.tuple #[]) (by exact .nil) rfl (qm (qm (qm (qm leG1 leG2) leG3) le1) le2) rF (sC sR) ?_)))))))))))))))))))
    exact .inr ⟨_, hJ1, rfl⟩
   have hue : u = rs.length := by omega
   refine ja (qu (qu (qJ (qa (cX (qI (((p + 1 : Nat) : Int)) rfl rfl (by omega) (by omega) (qf (ii (((p + 1 : Nat) : Int))) rfl (qb ?_))))))))
   exact ⟨(p + 1, L3, G3), _, (qm leG2 leG3), rF, ⟨rfl, rfl, rfl, rfl, rfl, rfl, rfl, rfl, rfl, ⟨⟩⟩, (sC sR), ⟨rfl, (qm leG2 leG3), (by (try dsimp only) <;> omega), (by (try dsimp only); rw [mP, ← List.append_assoc, ← hue]; exact hJm hJ3 rF)⟩, (by omega)⟩
  have hpe : p = (rs.getD o ([], [])).1.length := by omega
  refine ja (qu (qu (qJ (qa (cX (qI (((o + 1 : Nat) : Int)) rfl rfl (by omega) (by omega) (qf (ii (((o + 1 : Nat) : Int))) rfl (qb ?_))))))))
  exact ⟨(o + 1, L2, G2), _, (qm leG1 leG2), rF, ⟨rfl, rfl, rfl, rfl, rfl, ⟨⟩⟩, (sC sR), ⟨rfl, (qm leG1 leG2), (by (try dsimp only) <;> omega), (by (try dsimp only); rw [mO, ← hpe]; exact hJm hJ2 rF)⟩, (by omega)⟩
 refine ja (qu (qu (qJ (id (retEndN (L' := objH l (.loop R) :: L1) [] (.tuple #[]) (by exact .nil) rfl leG1 rF (sC sR) ?_)))))
 have hoe : o = rs.length := by omega
 exact .inl ⟨_, by rw [meetsL, ← hoe]; exact hJ1, rfl⟩

/- impl.peaks -/
set_option maxHeartbeats 2000000 in
set_option maxRecDepth 20000 in
theorem peaks_spec {F : FH} {L : List HP} {arv : Value} {ar : List Int} (har : IntsF F arv ar) {rsv : Value} {rs : List (List Int × List Int)} (hrs : PairsF F rsv rs) (hsys : sysOk ar rs = true) :
    Does prog 152 [.agg #[arv, rsv]] F (L) (fun v F' L' => ∃ (a : Value), (.tuple #[a, .bool ((peaksF ar rs).isSome)] : Value) = v ∧ (PeaksF F' a ((peaksF ar rs).getD [])) ∧ (Fresh F F' (star [peaksD 2 128 a ((peaksF ar rs).getD [])])) ∧ L = L') := by
 refine Does.of_XF func152 rfl (by kernel_rfl) rfl (XF.seqR (qa (cX (qV [arv, rsv] rfl rfl ?_))))
 intro b1
 refine cX (jo [sN] zeroValue123 rfl ?_)
 intro b2
 refine cX (jo [.bool (false)] zeroValue4 rfl ?_)
 intro b3
 refine qb (XF.seqR (qa (cX (jo [sN] zeroValue123 rfl ?_))))
 intro b4
 refine qb (XF.ofR (XR.seq (qa (cX (qB [arv, rsv] jF jt rfl rfl (Rd.ownN [_, _, _] rfl rfl) (cX (qt (args := [.agg #[arv, rsv]]) call199 rfl (meetings_spec har hrs) ?_)))))))
 rintro _ F1 _ le1 ⟨x1, rfl, hcb1, rfl⟩
 replace har := har.mono le1
 replace hrs := hrs.mono le1
 refine qb (XR.rangeB2 (gf := 227) (lb := [ptr x1 0]) rfl call227 (fun l D R hRs hRp hRps hRa hRb hRz hRg => ?_))
 have hR0 : ({ R with state := .ready, pending := none } : Loop) = R := by
  cases R
  simp only at hRs hRp
  subst hRs hRp
  rfl
 have hyes : ∀ (ms : List Tr) (o p u : Nat) (Fy : FH) (Ly : List HP), o < rs.length → p < (rs.getD o ([], [])).1.length → u < rs.length → meetB ar rs o p u = true → ms ++ [(o, p, u)] <+: meetsL ar rs → F1 ≤ Fy → (PKJ F1 2 128 123 b4 (objH D (.deferred (some [])) :: cellsH b3 [.bool (false)] 4 :: cellsH b2 [sN] 123 :: cellsH b1 [arv, rsv] 66 :: L) (PkI ar rs)) ms Fy Ly → Yld prog l [.agg #[ii (o : Int), ii (p : Int), ii (u : Int)]] Fy (objH l (.loop R) :: Ly) (fun v F' L' => (.bool true = v ∧ ∃ L2, (PKJ F1 2 128 123 b4 (objH D (.deferred (some [])) :: cellsH b3 [.bool (false)] 4 :: cellsH b2 [sN] 123 :: cellsH b1 [arv, rsv] 66 :: L) (PkI ar rs)) (ms ++ [(o, p, u)]) F' L2 ∧ objH l (.loop R) :: L2 = L') ∨ (.bool false = v ∧ ∃ L2, (fun (_ : FH) (L2 : List HP) => peaksF ar rs = none ∧ cellsH b2 [sN] 123 :: cellsH b3 [.bool (false)] 4 :: objH D (.deferred (some [])) :: L = L2) F' L2 ∧ objH l (.loop { R with state := .done, pending := some .ret }) :: L2 = L')) := by
  intro ms o p u Fy Ly ho9 hp9 hu9 hmt9 hpre leF hJ
  obtain ⟨sv8, os8, cs8, Ls8, m8, hsv8, hC8, hm8, hDp, hZ, hI8, rfl⟩ := hJ
  have hol8 := hI8.len
  refine Yld.of_round2 hRs hRp hRps hRa hRb hRz hRg rfl (by kernel_rfl) (by kernel_rfl) (by kernel_rfl) ?_
  have hq1 := har.mono leF
  have hq2 := hrs.mono leF
  refine XI.slots [(10, .agg #[ii ((o : Int)), ii ((p : Int)), ii ((u : Int))]), (4, ptr b4 0), (2, ptr b2 0), (3, ptr b3 0), (1, ptr b1 0)] ⟨rfl, rfl, rfl, rfl, rfl, ⟨⟩⟩ (fun rE => (XI.region (jm (jo [ii (0), ii (0), ii (0)] zeroValue236 rfl ?_))))
  intro b5
  refine jm (jb [] _ [ii ((o : Int)), ii ((p : Int)), ii ((u : Int))] sizeOf236 rfl rfl rfl (qv rfl (qv rfl (qv rfl jf))) rfl rfl rfl (XIL.nil ?_))
  refine ⟨cellsH b5 [ii ((o : Int)), ii ((p : Int)), ii ((u : Int))] 236 :: cellsH b4 [sv8] 123 :: slH 128 6 sv8 m8 cs8 :: objH D (.deferred (some [])) :: cellsH b3 [.bool (false)] 4 :: cellsH b2 [sN] 123 :: cellsH b1 [arv, rsv] 66 :: L, (qO (qE (A := [_, _, _, _, _, _, _])) (qO (qE (A := [_, _, _, _, _, _, _])) (qO (qE (A := [_, _, _, _, _, _, _])) (qO (qE (A := [_, _, _, _, _, _, _])) (qO (qE (A := [_, _, _, _, _, _, _])) (qO (qE (A := [_, _, _, _, _, _, _])) (qO (qE (A := [_, _, _, _, _, _])) (qO (qE (A := [_, _, _, _, _, _, _])) (sC (sC (sC (sC (sC (sC (sC (sC sR)))))))))))))))), ?_⟩
  refine XI.block (XI.seq (XI.region (jm (qB [arv, rsv] jF jt rfl rfl (Rd.ownN [_, _, _, _, _, _, _] rfl rfl) (jm (qn (0) runUnderlying236 rfl ya (by decide) rfl rfl (jm (qi isAgg3 rfl (Rd.own [_] rfl rfl) (jm (qn (1) runUnderlying236 rfl ya (by decide) rfl rfl (jm (qi isAgg3 rfl (Rd.own [_] rfl rfl) (jm (qn (2) runUnderlying236 rfl ya (by decide) rfl rfl (jm (qi isAgg3 rfl (Rd.own [_] rfl rfl) ?_))))))))))))))))
  refine jm (qt (args := [.agg #[arv, rsv], ii (o : Int), ii (p : Int), ii (u : Int)]) call200 rfl (peakAt_spec (o := o) (p := p) (u := u) hq1 hq2 (hsys := (by first | assumption | rfl | omega | simp)) (ho := (ho9)) (hu := (hu9)) (hp := (hp9))) ?_)
  rintro _ F2 _ le2 ⟨x2, x3, x4, rfl, hr1, hr2, hr3, hr4, rfl⟩
  replace hC8 := hC8.mono le2
  refine jm (qj (.tuple #[.agg #[x2, x3, x4, ii (((pkF ar rs o p u).getD P0).2.2.2.1), ii (((pkF ar rs o p u).getD P0).2.2.2.2.1), ii (((pkF ar rs o p u).getD P0).2.2.2.2.2)], .bool ((pkF ar rs o p u).isSome)]) rfl (jm (qT (.agg #[x2, x3, x4, ii (((pkF ar rs o p u).getD P0).2.2.2.1), ii (((pkF ar rs o p u).getD P0).2.2.2.2.1), ii (((pkF ar rs o p u).getD P0).2.2.2.2.2)]) rfl rfl (jm (qT (.bool ((pkF ar rs o p u).isSome)) rfl rfl (jm (jo [sN, sN, sN, ii (0), ii (0), ii (0)] jr rfl ?_)))))))
  intro b6
  refine jm (jb [] _ [x2, x3, x4, ii (((pkF ar rs o p u).getD P0).2.2.2.1), ii (((pkF ar rs o p u).getD P0).2.2.2.2.1), ii (((pkF ar rs o p u).getD P0).2.2.2.2.2)] jl rfl rfl rfl (qv (qZ (qG hr1)) (qv (qZ (qG hr2)) (qv (qZ (qG hr3)) (qv rfl (qv rfl (qv rfl jf)))))) rfl rfl rfl (jm (XOp.assign (.bool ((pkF ar rs o p u).isSome)) rfl (XIL.nil (XI.seq (XI.seq (XI.region (jm (qj (.bool ((pkF ar rs o p u).isSome)) rfl (jm (jp rfl (jm (qj (.bool (!((pkF ar rs o p u).isSome))) rfl ?_)))))))))))))
  by_cases h1 : (!((pkF ar rs o p u).isSome)) = true
  ·have hf9 : (pkF ar rs o p u).isSome = false ∨ os8.length = 64 := .inl (Bool.not_inj (y := false) h1)
   refine XIL.no (t := 24) rfl (vB h1) (XIL.no (t := 24) rfl (vB h1) (XIL.no (t := 24) rfl (vB h1) (jm (qR (.bool (true)) (vB h1) rfl (XIL.nil (XI.condT rfl (XI.seq (XI.region (jm (jq [_, _, _, _, _, _, _] _ [sN] sizeOf123 rfl rfl rfl rfl rfl rfl (jm (jq [_, _, _, _, _, _] _ [.bool (false)] sizeOf4 rfl rfl rfl rfl rfl rfl ?_))))))))))))
   refine XIL.nil ?_
   refine XI.ret (qk (qz (roundR ⟨cellsH b2 [sN] 123 :: cellsH b3 [.bool (false)] 4 :: objH D (.deferred (some [])) :: L, (qO (qE (A := [_, _, _, _, _])) (qO (qE (A := [_, _, _, _, _, _])) (qO (qE (A := [_, _, _, _, _, _, _])) (qO (qE (A := [_, _, _, _])) (sC (sC (sC (sC (sD (sD (sD (sD (sD sR))))))))))))), ?_⟩)))
   exact .inr ⟨rfl, _, ⟨peaks_no hpre hI8 hf9, rfl⟩, rfl⟩
  rw [Bool.not_eq_true] at h1
  have hsm9 : (pkF ar rs o p u).isSome = true := Bool.not_inj (y := true) h1
  refine XIL.yes (t := 24) rfl (vB h1) (qi isAgg123 rfl (Rd.own [_, _, _] rfl rfl) (XIL.yes (t := 24) rfl (vB h1) (qC jy rfl (SlV.own [_, _, _, _] rfl) (XIL.yes (t := 24) rfl (vB h1) (jI rfl rfl (jm (qS (.bool (decide ((m8 : Int) = 64))) (vB h1) rfl (XIL.nil ?_))))))))
  refine XI.condD (p := (m8 : Int) = 64) rfl (fun h2 => ?_) (fun h2 => ?_)
  ·have hf9 : (pkF ar rs o p u).isSome = false ∨ os8.length = 64 := .inr (by omega)
   refine XI.seq (XI.region (jm (jq [_, _, _, _, _, _, _] _ [sN] sizeOf123 rfl rfl rfl rfl rfl rfl (jm (jq [_, _, _, _, _, _] _ [.bool (false)] sizeOf4 rfl rfl rfl rfl rfl rfl (XIL.nil ?_))))))
   refine XI.ret (qk (qz (roundR ⟨cellsH b2 [sN] 123 :: cellsH b3 [.bool (false)] 4 :: objH D (.deferred (some [])) :: L, (qO (qE (A := [_, _, _, _, _])) (qO (qE (A := [_, _, _, _, _, _])) (qO (qE (A := [_, _, _, _, _, _, _])) (qO (qE (A := [_, _, _, _])) (sC (sC (sC (sC (sD (sD (sD (sD (sD sR))))))))))))), ?_⟩)))
   exact .inr ⟨rfl, _, ⟨peaks_no hpre hI8 hf9, rfl⟩, rfl⟩
  have hne9 : os8.length ≠ 64 := by omega
  refine XI.skip (XI.region (jm (qi isAgg123 rfl (Rd.own [_, _, _] rfl rfl) (jm (qB [x2, x3, x4, ii (((pkF ar rs o p u).getD P0).2.2.2.1), ii (((pkF ar rs o p u).getD P0).2.2.2.2.1), ii (((pkF ar rs o p u).getD P0).2.2.2.2.2)] isAgg128 jl rfl rfl (Rd.ownN [] rfl rfl) (jm (qM (s := 6) [x2, x3, x4, ii (((pkF ar rs o p u).getD P0).2.2.2.1), ii (((pkF ar rs o p u).getD P0).2.2.2.2.1), ii (((pkF ar rs o p u).getD P0).2.2.2.2.2)] [sN, sN, sN, ii (0), ii (0), ii (0)] [(0, [x2, x3, x4, ii (((pkF ar rs o p u).getD P0).2.2.2.1), ii (((pkF ar rs o p u).getD P0).2.2.2.2.1), ii (((pkF ar rs o p u).getD P0).2.2.2.2.2)])] jy jl jr rfl (by decide) rfl (.cons rfl CellsAre.nil) rfl ?_)))))))
  intro v1 hv1
  refine jm (XOp.append (m := 1) (bytes := 96) (cs := cs8) [_, _, _, _, _] _ [x2, x3, x4, ii (((pkF ar rs o p u).getD P0).2.2.2.1), ii (((pkF ar rs o p u).getD P0).2.2.2.2.1), ii (((pkF ar rs o p u).getD P0).2.2.2.2.2)] jy typeInfo128 rfl rfl rfl rfl rfl rfl rfl (SlV.own [] rfl) rfl (Rd.lit [] rfl) (qv (qZ (qG hr1)) (qv (qZ (qG hr2)) (qv (qZ (qG hr3)) (qv rfl (qv rfl (qv rfl jf)))))) (by (try simp only [List.length_append, List.length_nil, List.length_cons, List.length_singleton]); omega) (by (try simp only [List.length_append, List.length_nil, List.length_cons, List.length_singleton]); omega) ?_)
  intro v2 hs1 hn1 hm1
  have hc1 := PeaksC.snoc hC8 (y0 := ((pkF ar rs o p u).getD P0).1) (y1 := ((pkF ar rs o p u).getD P0).2.1) (y2 := ((pkF ar rs o p u).getD P0).2.2.1) (y3 := ((pkF ar rs o p u).getD P0).2.2.2.1) (y4 := ((pkF ar rs o p u).getD P0).2.2.2.2.1) (y5 := ((pkF ar rs o p u).getD P0).2.2.2.2.2) hr1 hr2 hr3
  refine jm (jq [_, _, _, _] _ [v2] sizeOf123 rfl rfl (qZ hs1) rfl rfl rfl (XIL.nil ?_))
  refine roundNB ⟨cellsH b4 [v2] 123 :: slH 128 6 v2 ((m8) + 1) (cs8 ++ [x2, x3, x4, ii (((pkF ar rs o p u).getD P0).2.2.2.1), ii (((pkF ar rs o p u).getD P0).2.2.2.2.1), ii (((pkF ar rs o p u).getD P0).2.2.2.2.2)]) :: objH D (.deferred (some [])) :: cellsH b3 [.bool (false)] 4 :: cellsH b2 [sN] 123 :: cellsH b1 [arv, rsv] 66 :: L, (sD (sD (sC (sD (sC (sC (sC (sC (sC (sC sR)))))))))), ?_⟩
  rw [hR0]
  exact .inl ⟨rfl, _, ⟨_, _, _, _, _, hs1, hc1, by rw [List.length_append, List.length_singleton]; omega, DeepL.snoc hDp rfl ⟨_, _, _, rfl, rfl⟩, (Fresh.app hZ leF hr4 le2), hI8.next hsm9 hne9, rfl⟩, rfl⟩
 refine (Does.weaken (qO (Sub.addNil 128 6 none _) (qO (qE (A := [_, _, _, _, _, _])) (qO (qE (A := [_, _, _, _, _, _])) (qO (qE (A := [_, _, _, _, _, _])) (qO (qE (A := [_, _, _, _, _])) (qO (qE (A := [_, _, _, _])) (qO (qE (A := [_, _, _, _, _, _])) (qO (qE (A := [_, _, _, _, _, _])) (sC (sC (sC (sC (sC (sC (sC sR))))))))))))))) (meetIt_spec (R2 := { R with state := .done, pending := some .ret }) (J := (PKJ F1 2 128 123 b4 (objH D (.deferred (some [])) :: cellsH b3 [.bool (false)] 4 :: cellsH b2 [sN] 123 :: cellsH b1 [arv, rsv] 66 :: L) (PkI ar rs))) (Jx := (fun (_ : FH) (L2 : List HP) => peaksF ar rs = none ∧ cellsH b2 [sN] 123 :: cellsH b3 [.bool (false)] 4 :: objH D (.deferred (some [])) :: L = L2)) har hrs hcb1 hsys (PKJ.start PkI.start) PKJ.mono hyes)).mono ?_
 rintro _ F9 _ le9 (⟨L9, ⟨sv9, os9, cs9, Ls9, m9, hsv9, hC9, hm9, hD9, hZ9, hI9, rfl⟩, rfl⟩ | ⟨L9, ⟨hI9, rfl⟩, rfl⟩)
 ·have hl9 := hI9.len
  refine ⟨R, cellsH b4 [sv9] 123 :: slH 128 6 sv9 m9 cs9 :: cellsH b3 [.bool (false)] 4 :: cellsH b2 [sN] 123 :: cellsH b1 [arv, rsv] 66 :: L, by rw [hRs]; simp, (qO (qE (A := [_, _, _, _, _, _])) (qO (qE (A := [_, _, _, _, _, _])) (qO (qE (A := [_, _, _, _, _, _])) (qO (qE (A := [_, _, _, _, _])) (qO (qE (A := [_, _, _, _, _])) (qO (qE (A := [_, _, _, _, _, _])) (qO (qE (A := [_, _, _, _, _, _])) (sC (sC (sC (sC (sC (sC (sC sR)))))))))))))), .inl ⟨hRp, ?_⟩⟩
  refine XI.seq (XI.region (jm (qi isAgg123 rfl (Rd.own [_] rfl rfl) (jm (jq [_, _, _, _] _ [sv9] sizeOf123 rfl rfl (qZ hsv9) rfl rfl rfl (jm (jq [_, _, _] _ [.bool (true)] sizeOf4 rfl rfl rfl rfl rfl rfl (XIL.nil (XI.freezeF [_, _] _ _ rfl (fun F3 le3 hz1 => ?_))))))))))
  replace hC9 := hC9.mono le3
  have hf1 : PeaksF F3 sv9 os9 := CO.fz hC9 (by first | rfl | omega | (rw [List.length_set]; omega) | (simp; done)) hz1.fz
  refine XI.ret (retEndC (L' := L) (cellsH b4 [sv9] 123 :: cellsH b3 [.bool (true)] 4 :: cellsH b2 [sv9] 123 :: cellsH b1 [arv, rsv] 66 :: L) [sv9, .bool (true)] (.tuple #[sv9, .bool (true)]) (.cell rfl (load1V (v := sv9) isAgg123 (Rd.own [_, _, _] rfl rfl)) (.cell rfl (load1V (v := .bool (true)) isAgg4 (Rd.own [_, _] rfl rfl)) .nil)) rfl (qm (qm le1 le9) le3) rF (sC (sC (sC (sC (sC sR))))) (sD (sD (sD (sD sR)))) ?_)
  have e := peaks_yes hI9
  exact ⟨_, by rw [e]; rfl, by rw [e]; exact hf1, by rw [e]; exact ((Fresh.one (Fresh.deep hD9 hZ9 le9 hz1 (by omega) le3)).base le1), rfl⟩
 refine ⟨_, cellsH b2 [sN] 123 :: cellsH b3 [.bool (false)] 4 :: L, by simp, (qO (qE (A := [_, _])) (qO (qE (A := [_, _])) (qO (qE (A := [_, _, _])) (qO (qE (A := [_, _, _])) (sC (sC (sC (sC sR)))))))), .inr ⟨rfl, ?_⟩⟩
 refine (retEndC (L' := L) (cellsH b2 [sN] 123 :: cellsH b3 [.bool (false)] 4 :: L) [sN, .bool (false)] (.tuple #[sN, .bool (false)]) (.cell rfl (load1V (v := sN) isAgg123 (Rd.own [_] rfl rfl)) (.cell rfl (load1V (v := .bool (false)) isAgg4 (Rd.own [_, _] rfl rfl)) .nil)) rfl (qm le1 le9) rF (sC (sC (sC sR))) (sD (sD sR)) ?_)
 have e := hI9
 exact ⟨_, by rw [e]; rfl, by rw [e]; exact SlOf.nilV, by rw [e]; exact Fresh.empty ⟨[], [], nilPeaksD, rfl, rfl⟩, rfl⟩

/- spec.l13End -/
theorem l13End_spec {F : FH} {L : List HP} {arv : Value} {ar : List Int} (har : IntsF F arv ar) {tv : Value} {t : List Int} (ht : IntsF F tv t) {q : Nat} (ho : TermW ar t) (hp : q < t.length) :
    Does prog 197 [.agg #[arv], tv, ii ((q : Int))] F (L) (fun v F' L' => (ii (((endN ar t q : Nat) : Int)) : Value) = v ∧ F = F' ∧ L = L') := by
 refine qD func197 rfl rfl rfl ?_
 have hsl := sigOk_spec ho.sig
 have htl := ho.len
 have hsig := ho.sig
 have hee := ho.endN hp
 refine qc (qa (cX (qV [arv] rfl rfl ?_)))
 intro b1
 refine qg (ii (0)) rfl (qb (qc (qa (qg (ii (1)) rfl (qb (qc (qF (jj (α := Nat × Nat) (fun xQ => [(1, tv), (2, ii (((xQ.2 : Nat) : Int))), (3, ptr b1 0), (7, ii (((xQ.1 : Nat) : Int)))]) (fun xQ => cellsH b1 [arv] 31 :: L) (fun xQ F' => F = F' ∧ (endGo ar (t.drop xQ.2) xQ.1 = some (endN ar t q - xQ.2)) ∧ (q ≤ xQ.2 ∧ xQ.2 ≤ endN ar t q) ∧ (xQ.1 ≤ 1 + 3 * xQ.2)) (fun xQ => t.length - xQ.2) (1, q) ⟨rfl, rfl, rfl, rfl, ⟨⟩⟩ (sC sR) ⟨rfl, (endW_start ho hp), (by (try dsimp only) <;> omega), (by (try dsimp only) <;> omega)⟩ ?_))))))))
 rintro ⟨k, p⟩ rE _ _ ⟨rfl, hi, hpp, hk⟩
 show X _ _ _ _ (envs [(1, tv), (2, ii ((p : Int))), (3, ptr b1 0), (7, ii ((k : Int)))] rE) _ (cellsH b1 [arv] 31 :: L)
 dsimp only at hi hpp hk
 refine qc (qc (qa (qf (ii ((k : Int))) rfl (cX (jH rfl rfl (qb ?_))))))
 refine qx (p := (k : Int) > 0) rfl (fun h1 => ?_) (fun h1 => ?_)
 ·obtain ⟨hpe, hnx⟩ := endW_step ho hi hpp.2 hee.2 (by omega)
  have hpt : p < t.length := by omega
  have hA := arity_le hsig (ho.lt hpt)
  have hlt := ho.lt hpt
  refine qw (qF (qc (qc (qa (qf (tv) rfl (qf (ii ((p : Int))) rfl (cX (ql p qd qo rfl rfl rfl ht.slv (by omega) (Nat.mul_one _) (cX (qi qK rfl (ht.rd (by omega)) (cX (jT rfl rfl (qb ?_)))))))))))))
  refine qx (p := (t.getD p 0 : Int) ≥ 0) rfl (fun h2 => ?_) (fun h2 => ?_)
  ·have hare : arity ar (t.getD p 0) = ar.getD (t.getD p 0).toNat 0 := by unfold arity; rw [if_neg (by omega)]
   refine jn [cellsH b1 [arv] 31] L 9 [] [[], [], [1], [], [], [3, 4], [5], [2, 6], [7]] (phiL [qe (ii ((k : Int)) : Value), qe (ptr b1 0), qe arv, qe tv, qe (ii ((p : Int)) : Value), qe (.pointer (some (elemA tv (p)))), qe (ii (t.getD p 0)), qe (.pointer (some (elemA arv ((t.getD p 0).toNat)))), qe (ii (ar.getD ((t.getD p 0).toNat) 0))]) (ownL []) mixed rfl rfl (by kernel_rfl) ?_ ?_
   ·refine pD (fun W R z9 => ?_) ?_
    ·refine qh (qj (ii ((k : Int))) rfl ?_)
     exact ⟨rfl, rfl, rfl⟩
    refine pD (fun W R z9 => ?_) ?_
    ·refine qh (qn (0) jC rfl qr (by decide) rfl rfl ?_)
     exact ⟨rfl, rfl, rfl⟩
    refine pD (fun W R z9 => ?_) ?_
    ·rw [eS (l := [(1, _)]) ⟨z9 1 rfl, ⟨⟩⟩]
     refine qh (qi qP rfl (Rd.own [] rfl rfl) ?_)
     exact ⟨rfl, rfl, rfl⟩
    refine pD (fun W R z9 => ?_) ?_
    ·refine qh (qj (tv) rfl ?_)
     exact ⟨rfl, rfl, rfl⟩
    refine pD (fun W R z9 => ?_) ?_
    ·refine qh (qj (ii ((p : Int))) rfl ?_)
     exact ⟨rfl, rfl, rfl⟩
    refine pD (fun W R z9 => ?_) ?_
    ·rw [eS (l := [(3, _), (4, _)]) ⟨z9 3 rfl, z9 4 rfl, ⟨⟩⟩]
     refine qh (ql p qd qo rfl rfl rfl ht.slv (by omega) (Nat.mul_one _) ?_)
     exact ⟨rfl, rfl, rfl⟩
    refine pD (fun W R z9 => ?_) ?_
    ·rw [eS (l := [(5, _)]) ⟨z9 5 rfl, ⟨⟩⟩]
     refine qh (qi qK rfl (ht.rd (by omega)) ?_)
     exact ⟨rfl, rfl, rfl⟩
    refine pD (fun W R z9 => ?_) ?_
    ·rw [eS (l := [(2, _), (6, _)]) ⟨z9 2 rfl, z9 6 rfl, ⟨⟩⟩]
     refine qh (ql ((t.getD p 0).toNat) qd qo rfl rfl (by omega) har.slv (by omega) (Nat.mul_one _) ?_)
     exact ⟨rfl, rfl, rfl⟩
    refine pD (fun W R z9 => ?_) ?_
    ·rw [eS (l := [(7, _)]) ⟨z9 7 rfl, ⟨⟩⟩]
     refine qh (qi qK rfl (har.rd (by omega)) ?_)
     exact ⟨rfl, rfl, rfl⟩
    exact stepsP.nil
   intro W hphi
   rw [eS (l := [(0, _), (8, _)]) ⟨(hphi 0 (by decide)), (hphi 8 (by decide)), ⟨⟩⟩]
   show XL _ _ _ _ _ _ _ (cellsH b1 [arv] 31 :: L)
   refine cX (qI (((k : Int)) + (ar.getD ((t.getD p 0).toNat) 0)) rfl rfl (by omega) (by omega) (qg (ii (((k : Int)) + (ar.getD ((t.getD p 0).toNat) 0))) rfl (qb (qc (qa (qf (ii (((k : Int)) + (ar.getD ((t.getD p 0).toNat) 0))) rfl (cX (qY ((((k : Int)) + (ar.getD ((t.getD p 0).toNat) 0)) - 1) rfl rfl (by omega) (by omega) (qg (ii ((((k : Int)) + (ar.getD ((t.getD p 0).toNat) 0)) - 1)) rfl (qb (qa (qf (ii ((p : Int))) rfl (cX (qI (((p + 1 : Nat) : Int)) rfl rfl (by omega) (by omega) (qg (ii (((p + 1 : Nat) : Int))) rfl ?_)))))))))))))))
   refine qb ?_
   exact ⟨(k - 1 + (arity ar (t.getD p 0)).toNat, p + 1), _, FLe.refl _, rF, ⟨rfl, rfl, rfl, (vI (by omega)), ⟨⟩⟩, (sC sR), ⟨rfl, (hnx), (by (try dsimp only) <;> omega), (by (try dsimp only) <;> omega)⟩, (by omega)⟩
  have hare : arity ar (t.getD p 0) = 0 := by unfold arity; rw [if_pos (by omega)]
  refine qw (qc (qa (qf (ii ((k : Int))) rfl (cX (qY (((k : Int)) - 1) rfl rfl (by omega) (by omega) (qg (ii (((k : Int)) - 1)) rfl (qb (qa (qf (ii ((p : Int))) rfl (cX (qI (((p + 1 : Nat) : Int)) rfl rfl (by omega) (by omega) (qg (ii (((p + 1 : Nat) : Int))) rfl (qb ?_)))))))))))))
  exact ⟨(k - 1 + (arity ar (t.getD p 0)).toNat, p + 1), _, FLe.refl _, rF, ⟨rfl, rfl, rfl, (vI (by omega)), ⟨⟩⟩, (sC sR), ⟨rfl, (hnx), (by (try dsimp only) <;> omega), (by (try dsimp only) <;> omega)⟩, (by omega)⟩
 refine ja (qu (qu (qJ (qc (qa (qf (ii ((p : Int))) rfl (qg (ii ((p : Int))) rfl (qb (qy (qs (L' := L) [ii ((p : Int))] (ii ((p : Int))) (.tmp rfl .nil) rfl rF rF (sD sR) ?_))))))))))
 exact ⟨(congrArg (fun n : Nat => Value.int .i64 (n : Int)) (endW_stop hi hpp.2 (by omega)).symm), rfl, rfl⟩

/- spec.l13Parts -/
theorem l13Parts_spec {F : FH} {L : List HP} {arv : Value} {ar : List Int} (har : IntsF F arv ar) {tv : Value} {t : List Int} (ht : IntsF F tv t) (ho : TermW ar t) :
    Does prog 149 [.agg #[arv], tv] F (L) (fun v F' L' => ∃ (a : Value), (a : Value) = v ∧ (RowsF F' a (partsL ar t)) ∧ L = L') := by
 refine qD func149 rfl rfl rfl ?_
 have hsl := sigOk_spec ho.sig
 have htl := ho.len
 have hsig := ho.sig
 have hlt0 := ho.lt (p := 0) (by omega)
 refine qc (qa (cX (qV [arv] rfl rfl ?_)))
 intro b1
 refine qg (sN) rfl (qb (qc (qa (cX (qM (s := 1) [] [sN] [] qA qr jM rfl (by decide) rfl CellsAre.nil rfl ?_)))))
 intro v1 hv1
 refine qg (v1) rfl (qb (qc (qc (qa (qf (tv) rfl (cX (ql 0 qd qo rfl rfl rfl ht.slv (by omega) (Nat.mul_one _) (cX (qi qK rfl (ht.rd (by omega)) (cX (qL rfl rfl (qb ?_))))))))))))
 refine qx (p := (t.getD 0 0 : Int) < 0) rfl (fun h1 => ?_) (fun h1 => ?_)
 ·refine qc (qa (qf (v1) rfl (qg (v1) rfl (qb ?_))))
  have hc1 : RowsC F [] ([] : List (List Int)) := (CO.nil : RowsC F [] [])
  refine jA [] _ _ rfl (fun F1 le1 hz1 => ?_)
  replace har := har.mono le1
  replace ht := ht.mono le1
  replace hc1 := hc1.mono le1
  have hf1 : RowsF F1 v1 (([] : List (List Int))) := CO.fz hc1 (by first | rfl | omega | (rw [List.length_set]; omega) | (simp; done)) hz1.fz
  refine qy (qk (qs (L' := L) [v1] (v1) (.tmp rfl .nil) rfl le1 rF (sD sR) ?_))
  have e9 : partsL ar t = [] := List.eq_nil_of_length_eq_zero (by rw [parts_len]; unfold arity; rw [if_pos (by omega)]; rfl)
  rw [e9]
  exact ⟨_, rfl, hf1, rfl⟩
 obtain ⟨hpa, hp3, hpl⟩ := sArity_parts ho (by omega)
 refine qw (qc (qa (qg (ii (1)) rfl (qb (qc (qc (qa (qg (ii (0)) rfl (qb (qF (jj (α := Nat × Nat × Value × RowL × List Value × Nat × FH) (fun xQ => [(1, tv), (2, ptr b1 0), (5, xQ.2.2.1), (6, ii (((xQ.2.1 : Nat) : Int))), (7, ii (((xQ.1 : Nat) : Int)))]) (fun xQ => slH 22 1 xQ.2.2.1 xQ.2.2.2.2.2.1 xQ.2.2.2.2.1 :: cellsH b1 [arv] 31 :: L) (fun xQ F' => xQ.2.2.2.2.2.2 = F' ∧ F ≤ xQ.2.2.2.2.2.2 ∧ (IsSl xQ.2.2.1) ∧ (RowsC xQ.2.2.2.2.2.2 xQ.2.2.2.2.1 xQ.2.2.2.1) ∧ (xQ.2.2.2.2.2.1 = xQ.2.2.2.1.length) ∧ (xQ.2.2.2.1.length = xQ.1) ∧ (PartI ar t xQ.2.2.2.1 ((partsL ar t).length - xQ.1) xQ.2.1) ∧ (xQ.1 ≤ (partsL ar t).length)) (fun xQ => (partsL ar t).length - xQ.1) (0, 1, v1, [], [], 0, F) ⟨rfl, rfl, rfl, rfl, rfl, ⟨⟩⟩ (sC (sC sR)) ⟨rfl, FLe.refl _, ((jJ hv1)), (CO.nil), (rfl), (rfl), (PartI.start ho), (by (try dsimp only) <;> omega)⟩ ?_)))))))))))
 rintro ⟨k, q, ov, os, ocs, m9, G1⟩ rE _ _ ⟨rfl, leG, hov, hC, hm, hk, hPI, hk2⟩
 show X _ _ _ _ (envs [(1, tv), (2, ptr b1 0), (5, ov), (6, ii ((q : Int))), (7, ii ((k : Int)))] rE) _ (slH 22 1 ov m9 ocs :: cellsH b1 [arv] 31 :: L)
 replace leG : F ≤ G1 := leG
 dsimp only at hov hC hm hk hPI hk2
 have hPn := fun h : 1 ≤ (partsL ar t).length - k => hPI.next ho h
 have leG1 := leG
 replace har := har.mono leG1
 replace ht := ht.mono leG1
 refine qc (qc ?_)
 refine jn [slH 22 1 ov m9 ocs, cellsH b1 [arv] 31] L 8 [] [[], [], [1], [], [3], [4], [2, 5], [6]] (phiL [qe (ii ((k : Int)) : Value), qe (ptr b1 0), qe arv, qe tv, qe (.pointer (some (elemA tv (0)))), qe (ii (t.getD 0 0)), qe (.pointer (some (elemA arv ((t.getD 0 0).toNat)))), qe (ii (ar.getD ((t.getD 0 0).toNat) 0))]) (ownL []) mixed rfl rfl (by kernel_rfl) ?_ ?_
 ·refine pD (fun W R z9 => ?_) ?_
  ·refine qh (qj (ii ((k : Int))) rfl ?_)
   exact ⟨rfl, rfl, rfl⟩
  refine pD (fun W R z9 => ?_) ?_
  ·refine qh (qn (0) jC rfl qr (by decide) rfl rfl ?_)
   exact ⟨rfl, rfl, rfl⟩
  refine pD (fun W R z9 => ?_) ?_
  ·rw [eS (l := [(1, _)]) ⟨z9 1 rfl, ⟨⟩⟩]
   refine qh (qi qP rfl (Rd.own [_] rfl rfl) ?_)
   exact ⟨rfl, rfl, rfl⟩
  refine pD (fun W R z9 => ?_) ?_
  ·refine qh (qj (tv) rfl ?_)
   exact ⟨rfl, rfl, rfl⟩
  refine pD (fun W R z9 => ?_) ?_
  ·rw [eS (l := [(3, _)]) ⟨z9 3 rfl, ⟨⟩⟩]
   refine qh (ql 0 qd qo rfl rfl rfl ht.slv (by omega) (Nat.mul_one _) ?_)
   exact ⟨rfl, rfl, rfl⟩
  refine pD (fun W R z9 => ?_) ?_
  ·rw [eS (l := [(4, _)]) ⟨z9 4 rfl, ⟨⟩⟩]
   refine qh (qi qK rfl (ht.rd (by omega)) ?_)
   exact ⟨rfl, rfl, rfl⟩
  refine pD (fun W R z9 => ?_) ?_
  ·rw [eS (l := [(2, _), (5, _)]) ⟨z9 2 rfl, z9 5 rfl, ⟨⟩⟩]
   refine qh (ql ((t.getD 0 0).toNat) qd qo rfl rfl (by omega) har.slv (by omega) (Nat.mul_one _) ?_)
   exact ⟨rfl, rfl, rfl⟩
  refine pD (fun W R z9 => ?_) ?_
  ·rw [eS (l := [(6, _)]) ⟨z9 6 rfl, ⟨⟩⟩]
   refine qh (qi qK rfl (har.rd (by omega)) ?_)
   exact ⟨rfl, rfl, rfl⟩
  exact stepsP.nil
 intro W hphi
 rw [eS (l := [(0, _), (7, _)]) ⟨(hphi 0 (by decide)), (hphi 7 (by decide)), ⟨⟩⟩]
 show XL _ _ _ _ _ _ _ (slH 22 1 ov m9 ocs :: cellsH b1 [arv] 31 :: L)
 refine cX (qL rfl rfl (qb ?_))
 refine qx (p := (k : Int) < ar.getD ((t.getD 0 0).toNat) 0) rfl (fun h2 => ?_) (fun h2 => ?_)
 ·obtain ⟨hq1, hq2, hq3, hq4⟩ := hPn (by omega)
  refine qw (qc (qF (qc (qa (cX (qB [arv] je qN rfl rfl (Rd.ownN [_] rfl rfl) (qf (tv) rfl (qf (ii ((q : Int))) rfl (cX (qt (args := [.agg #[arv], tv, ii (q : Int)]) call197 rfl (l13End_spec (q := q) har ht (ho := (ho)) (hp := (hq1))) ?_))))))))))
  rintro _ _ _ _ ⟨rfl, rfl, rfl⟩
  refine qg (ii (((endN ar t q : Nat) : Int))) rfl (qb (qc (qa (qf (ov) rfl (qf (tv) rfl (qf (ii ((q : Int))) rfl (qf (ii (((endN ar t q : Nat) : Int))) rfl (cX (jX q (endN ar t q) qd qo rfl ht ⟨_, rfl⟩ ⟨_, rfl⟩ (by omega) (by omega) ?_)))))))))
  intro v2 hv2 hn1
  refine cX (qM (s := 1) [v2] [sN] [(0, [v2])] qA qr jM rfl (by decide) rfl (.cons (cells_one (qG hv2)) CellsAre.nil) rfl ?_)
  intro v3 hv3
  refine cX (XOp.append (m := 1) (bytes := 24) (cs := ocs) [_] _ [v2] qA typeInfo22 rfl rfl rfl rfl rfl rfl rfl (SlV.own [] rfl) rfl (Rd.lit [] rfl) (qv (qZ (qG hv2)) jf) (by (try simp only [List.length_append, List.length_nil, List.length_cons, List.length_singleton]); omega) (by (try simp only [List.length_append, List.length_nil, List.length_cons, List.length_singleton]); omega) ?_)
  intro v4 hs1 hn2 hm1
  have hc2 := RowsC.snoc hC hv2
  refine qg (v4) rfl (qb (qa (qf (ii (((endN ar t q : Nat) : Int))) rfl (qg (ii (((endN ar t q : Nat) : Int))) rfl (qb (qa (qf (ii ((k : Int))) rfl (cX (qI (((k + 1 : Nat) : Int)) rfl rfl (by omega) (by omega) (qg (ii (((k + 1 : Nat) : Int))) rfl (qb ?_)))))))))))
  exact ⟨(k + 1, endN ar t q, v4, os ++ [((t.drop q).take ((endN ar t q) - q))], ocs ++ [v2], (m9) + 1, G1), _, leG1, rF, ⟨rfl, rfl, rfl, rfl, rfl, ⟨⟩⟩, (sD (sC (sC sR))), ⟨rfl, leG1, (hs1), (hc2), (by (try dsimp only); rw [List.length_append, List.length_singleton]; omega), (by (try dsimp only); rw [List.length_append, List.length_singleton]; omega), (by have h9 := (hPn (by omega)).2.1; rwa [show (partsL ar t).length - k - 1 = (partsL ar t).length - (k + 1) from by omega] at h9), (by (try dsimp only) <;> omega)⟩, (by omega)⟩
 refine ja (qu (qu (qJ (qc (qa (qf (ov) rfl (qg (ov) rfl (qb (jA [] _ _ rfl (fun F2 le2 hz2 => ?_))))))))))
 replace hC := hC.mono le2
 have hf2 : RowsF F2 ov os := CO.fz hC (by first | rfl | omega | (rw [List.length_set]; omega) | (simp; done)) hz2.fz
 refine qy (qs (L' := L) [ov] (ov) (.tmp rfl .nil) rfl (qm leG1 le2) rF (sD sR) ?_)
 have e9 := hPI.done (by omega)
 rw [e9]
 exact ⟨_, rfl, hf2, rfl⟩

/- spec.l11Head -/
theorem head_spec {F : FH} {L : List HP} {ub : Nat} {ov : Value} {ocs : List Value} {ar : List Int} {bl : RowL} (hov : IsSl ov) (hC : RowsC F ocs bl) (hb : BOk ar bl) {tv : Value} {t : List Int} (ht : IntsF F tv t) (ho : TermW ar t) :
    Does prog 245 [ptr ub 0, tv] F (cellsH ub [ov] 282 :: slH 22 1 ov 48 ocs :: L) (fun v F' L' => ∃ u : List Int, IntsF F' v u ∧ Root ar bl t u ∧ WtLe bl t u ∧ F = F' ∧ cellsH ub [ov] 282 :: slH 22 1 ov 48 ocs :: L = L') := by
 refine qD func245 rfl rfl rfl ?_
 obtain ⟨ρ, hρ⟩ := hb.acyc
 have hbl := hb.len
 refine qc (qa (qg (sN) rfl (qb (qc (qF (jj (α := Value × List Int) (fun xQ => [(0, ptr ub 0), (1, xQ.1)]) (fun xQ => cellsH ub [ov] 282 :: slH 22 1 ov 48 ocs :: L) (fun xQ F' => F = F' ∧ (IntsF F xQ.1 xQ.2) ∧ (RootTo ar bl t xQ.2) ∧ (WtLe bl t xQ.2)) (fun xQ => rootMu ρ xQ.2) (tv, t) ⟨rfl, rfl, ⟨⟩⟩ (sC (sC sR)) ⟨rfl, (ht), (RootTo.refl ho), (WtLe.refl)⟩ ?_))))))
 rintro ⟨uv, u⟩ rE _ _ ⟨rfl, huv, hrt, hwt⟩
 show X _ _ _ _ (envs [(0, ptr ub 0), (1, uv)] rE) _ (cellsH ub [ov] 282 :: slH 22 1 ov 48 ocs :: L)
 dsimp only at huv hrt hwt
 have hul := hrt.1.len
 have hug := hrt.1.geD (p := 0) (by omega)
 refine qc (qc ?_)
 by_cases h1 : (u.getD 0 0 : Int) < 0
 ·have hx0 : u.getD 0 0 < 0 := h1
  refine jn [cellsH ub [ov] 282, slH 22 1 ov 48 ocs] L 13 [] [[], [0], [1], [2], [3], [4], [4, 5], [4, 6], [4, 7], [4], [4, 9], [4, 10], [4, 11]] (phiL [qe uv, qe (.pointer (some (elemA uv (0)))), qe (ii (u.getD 0 0)), qe (.bool (decide ((u.getD 0 0 : Int) < 0)) : Value), qe (.bool (decide ((u.getD 0 0 : Int) < 0)) : Value), qe (ptr ub 0), qe (ptr ub 0), qe (ptr ub 0), qe ov, qe uv, qe (.pointer (some (elemA uv (0)))), qe (ii (u.getD 0 0)), qe (ii ((-1) - (u.getD 0 0)))]) (ownL []) mixed rfl rfl (by kernel_rfl) ?_ ?_
  ·refine pD (fun W R z9 => ?_) ?_
   ·refine qh (qj (uv) rfl ?_)
    exact ⟨rfl, rfl, rfl⟩
   refine pD (fun W R z9 => ?_) ?_
   ·rw [eS (l := [(0, _)]) ⟨z9 0 rfl, ⟨⟩⟩]
    refine qh (ql 0 qd qo rfl rfl rfl huv.slv (by omega) (Nat.mul_one _) ?_)
    exact ⟨rfl, rfl, rfl⟩
   refine pD (fun W R z9 => ?_) ?_
   ·rw [eS (l := [(1, _)]) ⟨z9 1 rfl, ⟨⟩⟩]
    refine qh (qi qK rfl (huv.rd (by omega)) ?_)
    exact ⟨rfl, rfl, rfl⟩
   refine pD (fun W R z9 => ?_) ?_
   ·rw [eS (l := [(2, _)]) ⟨z9 2 rfl, ⟨⟩⟩]
    refine qh (qL rfl rfl ?_)
    exact ⟨rfl, rfl, rfl⟩
   refine pD (fun W R z9 => ?_) ?_
   ·rw [eS (l := [(3, _)]) ⟨z9 3 rfl, ⟨⟩⟩]
    refine qh (qj (.bool (decide ((u.getD 0 0 : Int) < 0))) rfl ?_)
    exact ⟨rfl, rfl, rfl⟩
   refine pD (fun W R z9 => ?_) ?_
   ·rw [eS (l := [(4, _)]) ⟨z9 4 rfl, ⟨⟩⟩]
    refine qW (t := 9) rfl (vT h1) (qj (ptr ub 0) rfl ?_)
    exact ⟨rfl, rfl, rfl⟩
   refine pD (fun W R z9 => ?_) ?_
   ·rw [eS (l := [(4, _), (5, _)]) ⟨z9 4 rfl, z9 5 rfl, ⟨⟩⟩]
    refine qW (t := 9) rfl (vT h1) (jc rfl ?_)
    exact ⟨rfl, rfl, rfl⟩
   refine pD (fun W R z9 => ?_) ?_
   ·rw [eS (l := [(4, _), (6, _)]) ⟨z9 4 rfl, z9 6 rfl, ⟨⟩⟩]
    refine qW (t := 9) rfl (vT h1) (qn (0) jS rfl jg (by decide) rfl rfl ?_)
    exact ⟨rfl, rfl, rfl⟩
   refine pD (fun W R z9 => ?_) ?_
   ·rw [eS (l := [(4, _), (7, _)]) ⟨z9 4 rfl, z9 7 rfl, ⟨⟩⟩]
    refine qW (t := 9) rfl (vT h1) (qi jE rfl (Rd.own [] rfl rfl) ?_)
    exact ⟨rfl, rfl, rfl⟩
   refine pD (fun W R z9 => ?_) ?_
   ·rw [eS (l := [(4, _)]) ⟨z9 4 rfl, ⟨⟩⟩]
    refine qW (t := 9) rfl (vT h1) (qj (uv) rfl ?_)
    exact ⟨rfl, rfl, rfl⟩
   refine pD (fun W R z9 => ?_) ?_
   ·rw [eS (l := [(4, _), (9, _)]) ⟨z9 4 rfl, z9 9 rfl, ⟨⟩⟩]
    refine qW (t := 9) rfl (vT h1) (ql 0 qd qo rfl rfl rfl huv.slv (by omega) (Nat.mul_one _) ?_)
    exact ⟨rfl, rfl, rfl⟩
   refine pD (fun W R z9 => ?_) ?_
   ·rw [eS (l := [(4, _), (10, _)]) ⟨z9 4 rfl, z9 10 rfl, ⟨⟩⟩]
    refine qW (t := 9) rfl (vT h1) (qi qK rfl (huv.rd (by omega)) ?_)
    exact ⟨rfl, rfl, rfl⟩
   refine pD (fun W R z9 => ?_) ?_
   ·rw [eS (l := [(4, _), (11, _)]) ⟨z9 4 rfl, z9 11 rfl, ⟨⟩⟩]
    refine qW (t := 9) rfl (vT h1) (qY ((-1) - (u.getD 0 0)) rfl rfl (by omega) (by omega) ?_)
    exact ⟨rfl, rfl, rfl⟩
   exact stepsP.nil
  intro W hphi
  rw [eS (l := [(4, _), (8, _), (12, _)]) ⟨(hphi 4 (by decide)), (hphi 8 (by decide)), (hphi 12 (by decide)), ⟨⟩⟩]
  show XL _ _ _ _ _ _ _ (cellsH ub [ov] 282 :: slH 22 1 ov 48 ocs :: L)
  refine qq (t := 9) rfl (vT h1) (ql (((-1) - (u.getD 0 0)).toNat) qA qr rfl rfl (by omega) (SlV.own [_] rfl) (by omega) (Nat.mul_one _) ?_)
  obtain ⟨a1, ha1, he1⟩ := hC.get (i := ((-1) - (u.getD 0 0)).toNat) (by omega)
  refine qq (t := 9) rfl (vT h1) (qi qP rfl (Rd.sl [_] rfl he1) (qq (t := 9) rfl (vT h1) (qC qd rfl ha1.slv (qq (t := 9) rfl (vT h1) (jH rfl rfl (cX (qR (.bool (decide ((((((bl.getD (((-1) - (u.getD 0 0)).toNat) [])).length : Nat) : Int) : Int) > 0))) (vT h1) rfl (qb ?_))))))))
  refine qx (p := (((((bl.getD (((-1) - (u.getD 0 0)).toNat) [])).length : Nat) : Int) : Int) > 0) rfl (fun h2 => ?_) (fun h2 => ?_)
  ·have hbn : bl.getD (varIx (u.getD 0 0)) [] ≠ [] := fun e => by (have e9 : (bl.getD (varIx (u.getD 0 0)) []).length = 0 := by rw [e]; rfl); unfold varIx at e9; omega
   refine qw (qF ?_)
   refine jn [cellsH ub [ov] 282, slH 22 1 ov 48 ocs] L 8 [] [[], [0], [1], [2], [], [4], [5], [6]] (phiL [qe (ptr ub 0), qe (ptr ub 0), qe (ptr ub 0), qe ov, qe uv, qe (.pointer (some (elemA uv (0)))), qe (ii (u.getD 0 0)), qe (ii ((-1) - (u.getD 0 0)))]) (ownL []) mixed rfl rfl (by kernel_rfl) ?_ ?_
   ·refine pD (fun W R z9 => ?_) ?_
    ·refine qh (qj (ptr ub 0) rfl ?_)
     exact ⟨rfl, rfl, rfl⟩
    refine pD (fun W R z9 => ?_) ?_
    ·rw [eS (l := [(0, _)]) ⟨z9 0 rfl, ⟨⟩⟩]
     refine qh (jc rfl ?_)
     exact ⟨rfl, rfl, rfl⟩
    refine pD (fun W R z9 => ?_) ?_
    ·rw [eS (l := [(1, _)]) ⟨z9 1 rfl, ⟨⟩⟩]
     refine qh (qn (0) jS rfl jg (by decide) rfl rfl ?_)
     exact ⟨rfl, rfl, rfl⟩
    refine pD (fun W R z9 => ?_) ?_
    ·rw [eS (l := [(2, _)]) ⟨z9 2 rfl, ⟨⟩⟩]
     refine qh (qi jE rfl (Rd.own [] rfl rfl) ?_)
     exact ⟨rfl, rfl, rfl⟩
    refine pD (fun W R z9 => ?_) ?_
    ·refine qh (qj (uv) rfl ?_)
     exact ⟨rfl, rfl, rfl⟩
    refine pD (fun W R z9 => ?_) ?_
    ·rw [eS (l := [(4, _)]) ⟨z9 4 rfl, ⟨⟩⟩]
     refine qh (ql 0 qd qo rfl rfl rfl huv.slv (by omega) (Nat.mul_one _) ?_)
     exact ⟨rfl, rfl, rfl⟩
    refine pD (fun W R z9 => ?_) ?_
    ·rw [eS (l := [(5, _)]) ⟨z9 5 rfl, ⟨⟩⟩]
     refine qh (qi qK rfl (huv.rd (by omega)) ?_)
     exact ⟨rfl, rfl, rfl⟩
    refine pD (fun W R z9 => ?_) ?_
    ·rw [eS (l := [(6, _)]) ⟨z9 6 rfl, ⟨⟩⟩]
     refine qh (qY ((-1) - (u.getD 0 0)) rfl rfl (by omega) (by omega) ?_)
     exact ⟨rfl, rfl, rfl⟩
    exact stepsP.nil
   intro W hphi
   rw [eS (l := [(3, _), (7, _)]) ⟨(hphi 3 (by decide)), (hphi 7 (by decide)), ⟨⟩⟩]
   show XL _ _ _ _ _ _ _ (cellsH ub [ov] 282 :: slH 22 1 ov 48 ocs :: L)
   refine cX (ql (((-1) - (u.getD 0 0)).toNat) qA qr rfl rfl (by omega) (SlV.own [_] rfl) (by omega) (Nat.mul_one _) (cX (qi qP rfl (Rd.sl [_] rfl he1) (qg (a1) rfl (qb ?_)))))
   exact ⟨(a1, (bl.getD (((-1) - (u.getD 0 0)).toNat) [])), _, FLe.refl _, rF, ⟨rfl, rfl, ⟨⟩⟩, (sC (sC sR)), ⟨rfl, (ha1), (hrt.next hb hx0 hbn), (hwt.next hb hrt.1 hx0 hbn)⟩, (rootMu_lt hρ hb hx0 hbn)⟩
  have htop : 0 ≤ u.getD 0 0 ∨ bl.getD (varIx (u.getD 0 0)) [] = [] := .inr (List.eq_nil_of_length_eq_zero (by unfold varIx; omega))
  refine ja (qu (qu (qJ (qc (qa (qf (uv) rfl (qg (uv) rfl (qb (qy (qs (L' := cellsH ub [ov] 282 :: slH 22 1 ov 48 ocs :: L) [uv] (uv) (.tmp rfl .nil) rfl rF rF (sC (sC sR)) ?_))))))))))
  exact ⟨_, huv, hrt.done htop, hwt, rfl, rfl⟩
 have htop : 0 ≤ u.getD 0 0 ∨ bl.getD (varIx (u.getD 0 0)) [] = [] := .inl (by omega)
 refine jn [cellsH ub [ov] 282, slH 22 1 ov 48 ocs] L 13 [] [[], [0], [1], [2], [3], [4], [4, 5], [4, 6], [4, 7], [4], [4, 9], [4, 10], [4, 11]] (phiL [qe uv, qe (.pointer (some (elemA uv (0)))), qe (ii (u.getD 0 0)), qe (.bool (decide ((u.getD 0 0 : Int) < 0)) : Value), qe (.bool (decide ((u.getD 0 0 : Int) < 0)) : Value), qe undef, qe undef, qe undef, qe undef, qe undef, qe undef, qe undef, qe undef]) (ownL []) mixed rfl rfl (by kernel_rfl) ?_ ?_
 ·refine pD (fun W R z9 => ?_) ?_
  ·refine qh (qj (uv) rfl ?_)
   exact ⟨rfl, rfl, rfl⟩
  refine pD (fun W R z9 => ?_) ?_
  ·rw [eS (l := [(0, _)]) ⟨z9 0 rfl, ⟨⟩⟩]
   refine qh (ql 0 qd qo rfl rfl rfl huv.slv (by omega) (Nat.mul_one _) ?_)
   exact ⟨rfl, rfl, rfl⟩
  refine pD (fun W R z9 => ?_) ?_
  ·rw [eS (l := [(1, _)]) ⟨z9 1 rfl, ⟨⟩⟩]
   refine qh (qi qK rfl (huv.rd (by omega)) ?_)
   exact ⟨rfl, rfl, rfl⟩
  refine pD (fun W R z9 => ?_) ?_
  ·rw [eS (l := [(2, _)]) ⟨z9 2 rfl, ⟨⟩⟩]
   refine qh (qL rfl rfl ?_)
   exact ⟨rfl, rfl, rfl⟩
  refine pD (fun W R z9 => ?_) ?_
  ·rw [eS (l := [(3, _)]) ⟨z9 3 rfl, ⟨⟩⟩]
   refine qh (qj (.bool (decide ((u.getD 0 0 : Int) < 0))) rfl ?_)
   exact ⟨rfl, rfl, rfl⟩
  refine pD (fun W R z9 => ?_) ?_
  ·rw [eS (l := [(4, _)]) ⟨z9 4 rfl, ⟨⟩⟩]
   exact jd (t := 9) rfl (vF h1) ⟨rfl, rfl, rfl⟩
  refine pD (fun W R z9 => ?_) ?_
  ·rw [eS (l := [(4, _), (5, undef)]) ⟨z9 4 rfl, z9 5 rfl, ⟨⟩⟩]
   exact jd (t := 9) rfl (vF h1) ⟨rfl, rfl, rfl⟩
  refine pD (fun W R z9 => ?_) ?_
  ·rw [eS (l := [(4, _), (6, undef)]) ⟨z9 4 rfl, z9 6 rfl, ⟨⟩⟩]
   exact jd (t := 9) rfl (vF h1) ⟨rfl, rfl, rfl⟩
  refine pD (fun W R z9 => ?_) ?_
  ·rw [eS (l := [(4, _), (7, undef)]) ⟨z9 4 rfl, z9 7 rfl, ⟨⟩⟩]
   exact jd (t := 9) rfl (vF h1) ⟨rfl, rfl, rfl⟩
  refine pD (fun W R z9 => ?_) ?_
  ·rw [eS (l := [(4, _)]) ⟨z9 4 rfl, ⟨⟩⟩]
   exact jd (t := 9) rfl (vF h1) ⟨rfl, rfl, rfl⟩
  refine pD (fun W R z9 => ?_) ?_
  ·rw [eS (l := [(4, _), (9, undef)]) ⟨z9 4 rfl, z9 9 rfl, ⟨⟩⟩]
   exact jd (t := 9) rfl (vF h1) ⟨rfl, rfl, rfl⟩
  refine pD (fun W R z9 => ?_) ?_
  ·rw [eS (l := [(4, _), (10, undef)]) ⟨z9 4 rfl, z9 10 rfl, ⟨⟩⟩]
   exact jd (t := 9) rfl (vF h1) ⟨rfl, rfl, rfl⟩
  refine pD (fun W R z9 => ?_) ?_
  ·rw [eS (l := [(4, _), (11, undef)]) ⟨z9 4 rfl, z9 11 rfl, ⟨⟩⟩]
   exact jd (t := 9) rfl (vF h1) ⟨rfl, rfl, rfl⟩
  exact stepsP.nil
 intro W hphi
 rw [eS (l := [(4, _), (8, undef), (12, undef)]) ⟨(hphi 4 (by decide)), (hphi 8 (by decide)), (hphi 12 (by decide)), ⟨⟩⟩]
 show XL _ _ _ _ _ _ _ (cellsH ub [ov] 282 :: slH 22 1 ov 48 ocs :: L)
 refine qp (t := 9) rfl (vF h1) (qp (t := 9) rfl (vF h1) (qp (t := 9) rfl (vF h1) (qp (t := 9) rfl (vF h1) (cX (qS (.bool (false)) (vF h1) rfl (qb (jz rfl (ja (qu (qu (qJ (qc (qa (qf (uv) rfl ?_))))))))))))))
 refine qg (uv) rfl (qb (qy (qs (L' := cellsH ub [ov] 282 :: slH 22 1 ov 48 ocs :: L) [uv] (uv) (.tmp rfl .nil) rfl rF rF (sC (sC sR)) ?_)))
 exact ⟨_, huv, hrt.done htop, hwt, rfl, rfl⟩

/- spec.l11Occurs -/
set_option maxHeartbeats 1000000 in
set_option maxRecDepth 20000 in
theorem occurs2_spec {F : FH} {L : List HP} {ub : Nat} {ov : Value} {ocs : List Value} {ar : List Int} {bl : RowL} (hov : IsSl ov) (hC : RowsC F ocs bl) (hb : BOk ar bl) {σ : Sbs} {n : Int} {tv : Value} {t : List Int} (ht : IntsF F tv t) (ho : TermW ar t) (hσ : Sol bl σ) (hn : n < 0) (hnf : lkN bl n = []) :
    Does prog 246 [ptr ub 0, ii (n), tv] F (cellsH ub [ov] 282 :: slH 22 1 ov 48 ocs :: L) (fun v F' L' => (.bool (decide (n ∈ ap σ t)) : Value) = v ∧ F = F' ∧ cellsH ub [ov] 282 :: slH 22 1 ov 48 ocs :: L = L') := by
 refine qD func246 rfl rfl rfl ?_
 have hbl := hb.len
 refine qc (qa (qg (.bool (false)) rfl (qb (qc (qa (qf (ptr ub 0) rfl (cX (jc rfl (cX (qn (0) jS rfl jg (by decide) rfl rfl (cX (qi jE rfl (Rd.own [] rfl rfl) (cX (qC qA rfl (SlV.own [_] rfl) (cX (XOp.makeSlice (n := 48) (bytes := 1) [.bool (false)] runUnderlying288 sizeOf4 typeInfo4 rfl zeroValue4 rfl rfl rfl rfl (by omega) (by omega) ?_))))))))))))))))
 intro v1 hv1
 rw [boolsH_zeros]
 refine qg (v1) rfl (qb (qc (qa (qf (tv) rfl (cX (qM (s := 1) [tv] [sN] [(0, [tv])] qA qr jM rfl (by decide) rfl (.cons (cells_one (qG ht)) CellsAre.nil) rfl ?_))))))
 intro v2 hv2
 refine qg (v2) rfl (qb (qc (qF ?_)))
 have hc1 : RowsC F [tv] ([t] : List (List Int)) := (RowsC.snoc (CO.nil : RowsC F [] []) ht)
 refine jj (α := List Bool × Value × RowL × List Value × Nat) (fun xQ => [(0, ptr ub 0), (1, ii (n)), (7, v1), (8, xQ.2.1)]) (fun xQ => slH 22 1 xQ.2.1 xQ.2.2.2.2 xQ.2.2.2.1 :: boolsH 4 v1 xQ.1 :: cellsH ub [ov] 282 :: slH 22 1 ov 48 ocs :: L) (fun xQ F' => F = F' ∧ (IsSl xQ.2.1) ∧ (RowsC F xQ.2.2.2.1 xQ.2.2.1) ∧ (xQ.2.2.2.2 = xQ.2.2.1.length) ∧ (OccI bl σ n t xQ.1 xQ.2.2.1) ∧ (∀ x ∈ xQ.2.2.1, TermW ar x) ∧ (unm xQ.1 + xQ.2.2.1.length ≤ 49)) (fun xQ => unm xQ.1 + xQ.2.2.1.length) ((List.replicate 48 false), v2, [t], [tv], 1) ⟨rfl, rfl, rfl, rfl, ⟨⟩⟩ (sC (sC (sC (sC sR)))) ⟨rfl, ((jJ hv2)), (hc1), (rfl), (OccI.start), (fun x hx => by rw [List.mem_singleton.1 hx]; exact ho), (by rw [unm_start]; exact Nat.le_refl _)⟩ ?_
 rintro ⟨sn, dv, td, dcs, m⟩ rE _ _ ⟨rfl, hdv, hD, hm, hOI, htw, hmu⟩
 show X _ _ _ _ (envs [(0, ptr ub 0), (1, ii (n)), (7, v1), (8, dv)] rE) _ (slH 22 1 dv m dcs :: boolsH 4 v1 sn :: cellsH ub [ov] 282 :: slH 22 1 ov 48 ocs :: L)
 dsimp only at hdv hD hm hOI htw hmu
 have hsl := hOI.len
 refine qc (qc (qa (qf (dv) rfl (cX (qC qA rfl (SlV.own [] rfl) (cX (jH rfl rfl (qb ?_))))))))
 refine qx (p := (m : Int) > 0) rfl (fun h1 => ?_) (fun h1 => ?_)
 ·refine qw (qF (qc (qa (qf (dv) rfl (qf (dv) rfl (cX (qC qA rfl (SlV.own [] rfl) (cX (qY (((m : Int)) - 1) rfl rfl (by omega) (by omega) (cX (ql ((((m : Int)) - 1).toNat) qA qr rfl rfl (by omega) (SlV.own [] rfl) (by omega) (Nat.mul_one _) ?_)))))))))))
  obtain ⟨a1, ha1, he1⟩ := hD.get (i := (((m : Int)) - 1).toNat) (by omega)
  refine cX (qi qP rfl (Rd.sl [] rfl he1) (qg (a1) rfl (qb (qc (qa (qf (dv) rfl (qf (dv) rfl (cX (qC qA rfl (SlV.own [] rfl) (cX (qY (((m : Int)) - 1) rfl rfl (by omega) (by omega) (cX (XOp.sliceOwn (cs := dcs) [] _ ((m - 1)) qA qr rfl rfl ⟨.i64, congrArg (Value.int .i64) (show ((m : Int)) - 1 = (((m - 1) : Nat) : Int) from by omega)⟩ (by omega) ?_)))))))))))))
  intro v3 hs1
  have hc2 : RowsC F _ _ := CO.take hD (k := (m - 1)) (by omega)
  refine qg (v3) rfl (qb (qc (qa (qg (ii (0)) rfl (qb (qF ?_))))))
  have hwu : TermW ar ((td.getD ((((m : Int)) - 1).toNat) [])) := htw _ (mem_rows (by omega))
  have hul := hwu.len
  refine jj (α := Nat × List Bool × Value × RowL × List Value × Nat) (fun xQ => [(0, ptr ub 0), (1, ii (n)), (7, v1), (8, xQ.2.2.1), (9, a1), (10, ii (((xQ.1 : Nat) : Int)))]) (fun xQ => slH 22 1 xQ.2.2.1 xQ.2.2.2.2.2 xQ.2.2.2.2.1 :: boolsH 4 v1 xQ.2.1 :: cellsH ub [ov] 282 :: slH 22 1 ov 48 ocs :: L) (fun xQ F' => F = F' ∧ (IsSl xQ.2.2.1) ∧ (RowsC F xQ.2.2.2.2.1 xQ.2.2.2.1) ∧ (xQ.2.2.2.2.2 = xQ.2.2.2.1.length) ∧ (OccJ bl σ n t ((td.getD ((((m : Int)) - 1).toNat) [])) xQ.1 xQ.2.1 xQ.2.2.2.1) ∧ (∀ x ∈ xQ.2.2.2.1, TermW ar x) ∧ (unm xQ.2.1 + xQ.2.2.2.1.length + 1 = unm sn + td.length) ∧ (xQ.1 ≤ ((td.getD ((((m : Int)) - 1).toNat) [])).length)) (fun xQ => ((td.getD ((((m : Int)) - 1).toNat) [])).length - xQ.1) (0, sn, v3, (td.take ((m - 1))), (dcs.take (((m - 1)) * 1)), (m - 1)) ⟨rfl, rfl, rfl, rfl, rfl, rfl, ⟨⟩⟩ (sC (sC (sC (sC sR)))) ⟨rfl, (hs1), (hc2), (by (try dsimp only); rw [List.length_take]; omega), (by have h9 := hOI.pop (by omega); rw [← hm] at h9; have e9 : ((m : Int) - 1).toNat = m - 1 := (by omega); rw [e9]; exact h9), (fun x hx => htw x (List.mem_of_mem_take hx)), (by (try dsimp only); rw [List.length_take]; omega), (by (try dsimp only) <;> omega)⟩ ?_
  rintro ⟨i, sm, ev, te, ecs, m2⟩ rE _ _ ⟨rfl, hev, hE, hm2, hOJ, htw2, hmu2, hi⟩
  show X _ _ _ _ (envs [(0, ptr ub 0), (1, ii (n)), (7, v1), (8, ev), (9, a1), (10, ii ((i : Int)))] rE) _ (slH 22 1 ev m2 ecs :: boolsH 4 v1 sm :: cellsH ub [ov] 282 :: slH 22 1 ov 48 ocs :: L)
  dsimp only at hev hE hm2 hOJ htw2 hmu2 hi
  have hsm := hOJ.len
  refine qc (qc (qa (qf (ii ((i : Int))) rfl (qf (a1) rfl (cX (qC qd rfl ha1.slv (cX (qL rfl rfl (qb ?_)))))))))
  refine qx (p := (i : Int) < ((((td.getD ((((m : Int)) - 1).toNat) [])).length : Nat) : Int)) rfl (fun h2 => ?_) (fun h2 => ?_)
  ·refine qw (qc (qF (qc (qc (qa (qf (a1) rfl (qf (ii ((i : Int))) rfl (cX (ql i qd qo rfl rfl rfl ha1.slv (by omega) (Nat.mul_one _) (cX (qi qK rfl (ha1.rd (by omega)) (qf (ii (n)) rfl (cX (jI rfl rfl (qb ?_)))))))))))))))
   refine qx (p := (((td.getD ((((m : Int)) - 1).toNat) [])).getD i 0 : Int) = n) rfl (fun h3 => ?_) (fun h3 => ?_)
   ·have heq : (((td.getD ((((m : Int)) - 1).toNat) [])).getD i 0) = n := h3
    refine qc (qa (qg (.bool (true)) rfl (qb (qy (qk (qz (qk (qk (qz (qz (qk (qz (qk (qs (L' := cellsH ub [ov] 282 :: slH 22 1 ov 48 ocs :: L) [.bool (true)] (.bool (true)) (.tmp rfl .nil) rfl rF rF (sD (sD (sC (sC sR)))) ?_))))))))))))))
    have e9 : decide (n ∈ ap σ t) = true := decide_eq_true (hOJ.found hσ hnf (by omega) heq)
    exact ⟨congrArg Value.bool e9, rfl, rfl⟩
   have hne : (((td.getD ((((m : Int)) - 1).toNat) [])).getD i 0) ≠ n := h3
   refine qw (qc ?_)
   by_cases h4 : (((td.getD ((((m : Int)) - 1).toNat) [])).getD i 0 : Int) < 0
   ·have hj0 : (((td.getD ((((m : Int)) - 1).toNat) [])).getD i 0) < 0 := h4
    have hgj := hwu.geD (p := i) (by omega)
    by_cases h5 : (!(sm.getD (((-1) - (((td.getD ((((m : Int)) - 1).toNat) [])).getD i 0)).toNat) false)) = true
    ·have hun : sm.getD (varIx (((td.getD ((((m : Int)) - 1).toNat) [])).getD i 0)) false = false := by simpa [varIx] using h5
     refine jn [slH 22 1 ev m2 ecs, boolsH 4 v1 sm, cellsH ub [ov] 282, slH 22 1 ov 48 ocs] L 26 [] [[], [], [0, 1], [2], [3], [4], [5], [5], [5], [5, 7, 8], [5, 9], [5, 10], [5, 6, 11], [5, 12], [5, 13], [5, 14], [15], [16], [16, 17], [16, 18], [16, 19], [16], [16], [16, 21, 22], [16, 23], [16, 24]] (phiL [qe a1, qe (ii ((i : Int)) : Value), qe (.pointer (some (elemA a1 (i)))), qe (ii (((td.getD ((((m : Int)) - 1).toNat) [])).getD i 0) : Value), qe (.bool (decide ((((td.getD ((((m : Int)) - 1).toNat) [])).getD i 0 : Int) < 0)) : Value), qe (.bool (decide ((((td.getD ((((m : Int)) - 1).toNat) [])).getD i 0 : Int) < 0)) : Value), qe v1, qe a1, qe (ii ((i : Int)) : Value), qe (.pointer (some (elemA a1 (i)))), qe (ii (((td.getD ((((m : Int)) - 1).toNat) [])).getD i 0) : Value), qe (ii ((-1) - (((td.getD ((((m : Int)) - 1).toNat) [])).getD i 0)) : Value), qe (.pointer (some (elemA v1 (((-1) - (((td.getD ((((m : Int)) - 1).toNat) [])).getD i 0)).toNat))) : Value), qe (.bool (sm.getD (((-1) - (((td.getD ((((m : Int)) - 1).toNat) [])).getD i 0)).toNat) false) : Value), qe (.bool (!(sm.getD (((-1) - (((td.getD ((((m : Int)) - 1).toNat) [])).getD i 0)).toNat) false)) : Value), qe (.bool (!(sm.getD (((-1) - (((td.getD ((((m : Int)) - 1).toNat) [])).getD i 0)).toNat) false)) : Value), qe (.bool (!(sm.getD (((-1) - (((td.getD ((((m : Int)) - 1).toNat) [])).getD i 0)).toNat) false)) : Value), qe (ptr ub 0), qe (ptr ub 0), qe (ptr ub 0), qe ov, qe a1, qe (ii ((i : Int)) : Value), qe (.pointer (some (elemA a1 (i)))), qe (ii (((td.getD ((((m : Int)) - 1).toNat) [])).getD i 0) : Value), qe (ii ((-1) - (((td.getD ((((m : Int)) - 1).toNat) [])).getD i 0)) : Value)]) (ownL []) mixed rfl rfl (by kernel_rfl) ?_ ?_
     ·refine pD (fun W R z9 => ?_) ?_
      ·refine qh (qj (a1) rfl ?_)
       exact ⟨rfl, rfl, rfl⟩
      refine pD (fun W R z9 => ?_) ?_
      ·refine qh (qj (ii ((i : Int))) rfl ?_)
       exact ⟨rfl, rfl, rfl⟩
      refine pD (fun W R z9 => ?_) ?_
      ·rw [eS (l := [(0, _), (1, _)]) ⟨z9 0 rfl, z9 1 rfl, ⟨⟩⟩]
       refine qh (ql i qd qo rfl rfl rfl ha1.slv (by omega) (Nat.mul_one _) ?_)
       exact ⟨rfl, rfl, rfl⟩
      refine pD (fun W R z9 => ?_) ?_
      ·rw [eS (l := [(2, _)]) ⟨z9 2 rfl, ⟨⟩⟩]
       refine qh (qi qK rfl (ha1.rd (by omega)) ?_)
       exact ⟨rfl, rfl, rfl⟩
      refine pD (fun W R z9 => ?_) ?_
      ·rw [eS (l := [(3, _)]) ⟨z9 3 rfl, ⟨⟩⟩]
       refine qh (qL rfl rfl ?_)
       exact ⟨rfl, rfl, rfl⟩
      refine pD (fun W R z9 => ?_) ?_
      ·rw [eS (l := [(4, _)]) ⟨z9 4 rfl, ⟨⟩⟩]
       refine qh (qj (.bool (decide ((((td.getD ((((m : Int)) - 1).toNat) [])).getD i 0 : Int) < 0))) rfl ?_)
       exact ⟨rfl, rfl, rfl⟩
      refine pD (fun W R z9 => ?_) ?_
      ·rw [eS (l := [(5, _)]) ⟨z9 5 rfl, ⟨⟩⟩]
       refine qW (t := 50) rfl (vT h4) (qj (v1) rfl ?_)
       exact ⟨rfl, rfl, rfl⟩
      refine pD (fun W R z9 => ?_) ?_
      ·rw [eS (l := [(5, _)]) ⟨z9 5 rfl, ⟨⟩⟩]
       refine qW (t := 50) rfl (vT h4) (qj (a1) rfl ?_)
       exact ⟨rfl, rfl, rfl⟩
      refine pD (fun W R z9 => ?_) ?_
      ·rw [eS (l := [(5, _)]) ⟨z9 5 rfl, ⟨⟩⟩]
       refine qW (t := 50) rfl (vT h4) (qj (ii ((i : Int))) rfl ?_)
       exact ⟨rfl, rfl, rfl⟩
      refine pD (fun W R z9 => ?_) ?_
      ·rw [eS (l := [(5, _), (7, _), (8, _)]) ⟨z9 5 rfl, z9 7 rfl, z9 8 rfl, ⟨⟩⟩]
       refine qW (t := 50) rfl (vT h4) (ql i qd qo rfl rfl rfl ha1.slv (by omega) (Nat.mul_one _) ?_)
       exact ⟨rfl, rfl, rfl⟩
      refine pD (fun W R z9 => ?_) ?_
      ·rw [eS (l := [(5, _), (9, _)]) ⟨z9 5 rfl, z9 9 rfl, ⟨⟩⟩]
       refine qW (t := 50) rfl (vT h4) (qi qK rfl (ha1.rd (by omega)) ?_)
       exact ⟨rfl, rfl, rfl⟩
      refine pD (fun W R z9 => ?_) ?_
      ·rw [eS (l := [(5, _), (10, _)]) ⟨z9 5 rfl, z9 10 rfl, ⟨⟩⟩]
       refine qW (t := 50) rfl (vT h4) (qY ((-1) - (((td.getD ((((m : Int)) - 1).toNat) [])).getD i 0)) rfl rfl (by omega) (by omega) ?_)
       exact ⟨rfl, rfl, rfl⟩
      refine pD (fun W R z9 => ?_) ?_
      ·rw [eS (l := [(5, _), (6, _), (11, _)]) ⟨z9 5 rfl, z9 6 rfl, z9 11 rfl, ⟨⟩⟩]
       refine qW (t := 50) rfl (vT h4) (ql (((-1) - (((td.getD ((((m : Int)) - 1).toNat) [])).getD i 0)).toNat) runUnderlying288 sizeOf4 rfl rfl (by omega) (boolsH.slv [_] rfl) (by omega) (Nat.mul_one _) ?_)
       exact ⟨rfl, rfl, rfl⟩
      refine pD (fun W R z9 => ?_) ?_
      ·rw [eS (l := [(5, _), (12, _)]) ⟨z9 5 rfl, z9 12 rfl, ⟨⟩⟩]
       refine qW (t := 50) rfl (vT h4) (qi isAgg4 rfl (boolsH.rd [_] rfl (by omega)) ?_)
       exact ⟨rfl, rfl, rfl⟩
      refine pD (fun W R z9 => ?_) ?_
      ·rw [eS (l := [(5, _), (13, _)]) ⟨z9 5 rfl, z9 13 rfl, ⟨⟩⟩]
       refine qW (t := 50) rfl (vT h4) (jp rfl ?_)
       exact ⟨rfl, rfl, rfl⟩
      refine pD (fun W R z9 => ?_) ?_
      ·rw [eS (l := [(5, _), (14, _)]) ⟨z9 5 rfl, z9 14 rfl, ⟨⟩⟩]
       refine qh (qR (.bool (!(sm.getD (((-1) - (((td.getD ((((m : Int)) - 1).toNat) [])).getD i 0)).toNat) false))) (vT h4) rfl ?_)
       exact ⟨rfl, rfl, rfl⟩
      refine pD (fun W R z9 => ?_) ?_
      ·rw [eS (l := [(15, _)]) ⟨z9 15 rfl, ⟨⟩⟩]
       refine qh (qj (.bool (!(sm.getD (((-1) - (((td.getD ((((m : Int)) - 1).toNat) [])).getD i 0)).toNat) false))) rfl ?_)
       exact ⟨rfl, rfl, rfl⟩
      refine pD (fun W R z9 => ?_) ?_
      ·rw [eS (l := [(16, _)]) ⟨z9 16 rfl, ⟨⟩⟩]
       refine qW (t := 61) rfl (vB h5) (qj (ptr ub 0) rfl ?_)
       exact ⟨rfl, rfl, rfl⟩
      refine pD (fun W R z9 => ?_) ?_
      ·rw [eS (l := [(16, _), (17, _)]) ⟨z9 16 rfl, z9 17 rfl, ⟨⟩⟩]
       refine qW (t := 61) rfl (vB h5) (jc rfl ?_)
       exact ⟨rfl, rfl, rfl⟩
      refine pD (fun W R z9 => ?_) ?_
      ·rw [eS (l := [(16, _), (18, _)]) ⟨z9 16 rfl, z9 18 rfl, ⟨⟩⟩]
       refine qW (t := 61) rfl (vB h5) (qn (0) jS rfl jg (by decide) rfl rfl ?_)
       exact ⟨rfl, rfl, rfl⟩
      refine pD (fun W R z9 => ?_) ?_
      ·rw [eS (l := [(16, _), (19, _)]) ⟨z9 16 rfl, z9 19 rfl, ⟨⟩⟩]
       refine qW (t := 61) rfl (vB h5) (qi jE rfl (Rd.own [_, _] rfl rfl) ?_)
       exact ⟨rfl, rfl, rfl⟩
      refine pD (fun W R z9 => ?_) ?_
      ·rw [eS (l := [(16, _)]) ⟨z9 16 rfl, ⟨⟩⟩]
       refine qW (t := 61) rfl (vB h5) (qj (a1) rfl ?_)
       exact ⟨rfl, rfl, rfl⟩
      refine pD (fun W R z9 => ?_) ?_
      ·rw [eS (l := [(16, _)]) ⟨z9 16 rfl, ⟨⟩⟩]
       refine qW (t := 61) rfl (vB h5) (qj (ii ((i : Int))) rfl ?_)
       exact ⟨rfl, rfl, rfl⟩
      refine pD (fun W R z9 => ?_) ?_
      ·rw [eS (l := [(16, _), (21, _), (22, _)]) ⟨z9 16 rfl, z9 21 rfl, z9 22 rfl, ⟨⟩⟩]
       refine qW (t := 61) rfl (vB h5) (ql i qd qo rfl rfl rfl ha1.slv (by omega) (Nat.mul_one _) ?_)
       exact ⟨rfl, rfl, rfl⟩
      refine pD (fun W R z9 => ?_) ?_
      ·rw [eS (l := [(16, _), (23, _)]) ⟨z9 16 rfl, z9 23 rfl, ⟨⟩⟩]
       refine qW (t := 61) rfl (vB h5) (qi qK rfl (ha1.rd (by omega)) ?_)
       exact ⟨rfl, rfl, rfl⟩
      refine pD (fun W R z9 => ?_) ?_
      ·rw [eS (l := [(16, _), (24, _)]) ⟨z9 16 rfl, z9 24 rfl, ⟨⟩⟩]
       refine qW (t := 61) rfl (vB h5) (qY ((-1) - (((td.getD ((((m : Int)) - 1).toNat) [])).getD i 0)) rfl rfl (by omega) (by omega) ?_)
       exact ⟨rfl, rfl, rfl⟩
      exact stepsP.nil
     intro W hphi
     rw [eS (l := [(16, _), (20, _), (25, _)]) ⟨(hphi 16 (by decide)), (hphi 20 (by decide)), (hphi 25 (by decide)), ⟨⟩⟩]
     show XL _ _ _ _ _ _ _ (slH 22 1 ev m2 ecs :: boolsH 4 v1 sm :: cellsH ub [ov] 282 :: slH 22 1 ov 48 ocs :: L)
     refine qq (t := 61) rfl (vB h5) (ql (((-1) - (((td.getD ((((m : Int)) - 1).toNat) [])).getD i 0)).toNat) qA qr rfl rfl (by omega) (SlV.own [_, _, _] rfl) (by omega) (Nat.mul_one _) ?_)
     obtain ⟨a2, ha2, he2⟩ := hC.get (i := ((-1) - (((td.getD ((((m : Int)) - 1).toNat) [])).getD i 0)).toNat) (by omega)
     refine qq (t := 61) rfl (vB h5) (qi qP rfl (Rd.sl [_, _, _] rfl he2) (qq (t := 61) rfl (vB h5) (qC qd rfl ha2.slv (qq (t := 61) rfl (vB h5) (jH rfl rfl (cX (qR (.bool (decide ((((((bl.getD (((-1) - (((td.getD ((((m : Int)) - 1).toNat) [])).getD i 0)).toNat) [])).length : Nat) : Int) : Int) > 0))) (vB h5) rfl (qb ?_))))))))
     refine qx (p := (((((bl.getD (((-1) - (((td.getD ((((m : Int)) - 1).toNat) [])).getD i 0)).toNat) [])).length : Nat) : Int) : Int) > 0) rfl (fun h6 => ?_) (fun h6 => ?_)
     ·have hlj : lkN bl (((td.getD ((((m : Int)) - 1).toNat) [])).getD i 0) ≠ [] := fun e => by (have e9 : (bl.getD (varIx (((td.getD ((((m : Int)) - 1).toNat) [])).getD i 0)) []).length = 0 := by rw [← lkN_get hj0, e]; rfl); unfold varIx at e9; omega
      refine qc (qa (qf (v1) rfl (qf (a1) rfl (qf (ii ((i : Int))) rfl (cX (ql i qd qo rfl rfl rfl ha1.slv (by omega) (Nat.mul_one _) (cX (qi qK rfl (ha1.rd (by omega)) (cX (qY ((-1) - (((td.getD ((((m : Int)) - 1).toNat) [])).getD i 0)) rfl rfl (by omega) (by omega) (cX (ql (((-1) - (((td.getD ((((m : Int)) - 1).toNat) [])).getD i 0)).toNat) runUnderlying288 sizeOf4 rfl rfl (by omega) (boolsH.slv [_] rfl) (by omega) (Nat.mul_one _) (cX (boolsH.storeX (i := ((-1) - (((td.getD ((((m : Int)) - 1).toNat) [])).getD i 0)).toNat) (v := v1) [_] _ (sm.set (((-1) - (((td.getD ((((m : Int)) - 1).toNat) [])).getD i 0)).toNat) true) sizeOf4 rfl rfl rfl (by rw [hsm]; omega) rfl (qb ?_)))))))))))))))
      refine jn [slH 22 1 ev m2 ecs, boolsH 4 v1 ((sm.set (((-1) - (((td.getD ((((m : Int)) - 1).toNat) [])).getD i 0)).toNat) true)), cellsH ub [ov] 282, slH 22 1 ov 48 ocs] L 13 [] [[], [], [1], [2], [3], [], [], [5, 6], [7], [8], [4, 9], [10], [11]] (phiL [qe ev, qe (ptr ub 0), qe (ptr ub 0), qe (ptr ub 0), qe ov, qe a1, qe (ii ((i : Int)) : Value), qe (.pointer (some (elemA a1 (i)))), qe (ii (((td.getD ((((m : Int)) - 1).toNat) [])).getD i 0) : Value), qe (ii ((-1) - (((td.getD ((((m : Int)) - 1).toNat) [])).getD i 0)) : Value), qe (.pointer (some (elemA ov (((-1) - (((td.getD ((((m : Int)) - 1).toNat) [])).getD i 0)).toNat))) : Value), qe a2, fun us v => ∃ b, v = .slice (some ⟨b, 0, none⟩) 1 1]) (ownL [o0, o0, o0, o0, o0, o0, o0, o0, o0, o0, o0, o0, fun us v => [slH 22 1 v 1 [a2]]]) mixed rfl rfl (by kernel_rfl) ?_ ?_
      ·refine pD (fun W R z9 => ?_) ?_
       ·refine qh (qj (ev) rfl ?_)
        exact ⟨rfl, rfl, rfl⟩
       refine pD (fun W R z9 => ?_) ?_
       ·refine qh (qj (ptr ub 0) rfl ?_)
        exact ⟨rfl, rfl, rfl⟩
       refine pD (fun W R z9 => ?_) ?_
       ·rw [eS (l := [(1, _)]) ⟨z9 1 rfl, ⟨⟩⟩]
        refine qh (jc rfl ?_)
        exact ⟨rfl, rfl, rfl⟩
       refine pD (fun W R z9 => ?_) ?_
       ·rw [eS (l := [(2, _)]) ⟨z9 2 rfl, ⟨⟩⟩]
        refine qh (qn (0) jS rfl jg (by decide) rfl rfl ?_)
        exact ⟨rfl, rfl, rfl⟩
       refine pD (fun W R z9 => ?_) ?_
       ·rw [eS (l := [(3, _)]) ⟨z9 3 rfl, ⟨⟩⟩]
        refine qh (qi jE rfl (Rd.own [_, _] rfl rfl) ?_)
        exact ⟨rfl, rfl, rfl⟩
       refine pD (fun W R z9 => ?_) ?_
       ·refine qh (qj (a1) rfl ?_)
        exact ⟨rfl, rfl, rfl⟩
       refine pD (fun W R z9 => ?_) ?_
       ·refine qh (qj (ii ((i : Int))) rfl ?_)
        exact ⟨rfl, rfl, rfl⟩
       refine pD (fun W R z9 => ?_) ?_
       ·rw [eS (l := [(5, _), (6, _)]) ⟨z9 5 rfl, z9 6 rfl, ⟨⟩⟩]
        refine qh (ql i qd qo rfl rfl rfl ha1.slv (by omega) (Nat.mul_one _) ?_)
        exact ⟨rfl, rfl, rfl⟩
       refine pD (fun W R z9 => ?_) ?_
       ·rw [eS (l := [(7, _)]) ⟨z9 7 rfl, ⟨⟩⟩]
        refine qh (qi qK rfl (ha1.rd (by omega)) ?_)
        exact ⟨rfl, rfl, rfl⟩
       refine pD (fun W R z9 => ?_) ?_
       ·rw [eS (l := [(8, _)]) ⟨z9 8 rfl, ⟨⟩⟩]
        refine qh (qY ((-1) - (((td.getD ((((m : Int)) - 1).toNat) [])).getD i 0)) rfl rfl (by omega) (by omega) ?_)
        exact ⟨rfl, rfl, rfl⟩
       refine pD (fun W R z9 => ?_) ?_
       ·rw [eS (l := [(4, _), (9, _)]) ⟨z9 4 rfl, z9 9 rfl, ⟨⟩⟩]
        refine qh (ql (((-1) - (((td.getD ((((m : Int)) - 1).toNat) [])).getD i 0)).toNat) qA qr rfl rfl (by omega) (SlV.own [_, _, _] rfl) (by omega) (Nat.mul_one _) ?_)
        exact ⟨rfl, rfl, rfl⟩
       refine pD (fun W R z9 => ?_) ?_
       ·rw [eS (l := [(10, _)]) ⟨z9 10 rfl, ⟨⟩⟩]
        refine qh (qi qP rfl (Rd.sl [_, _, _] rfl he2) ?_)
        exact ⟨rfl, rfl, rfl⟩
       refine pD (fun W R z9 => ?_) ?_
       ·rw [eS (l := [(11, _)]) ⟨z9 11 rfl, ⟨⟩⟩]
        refine qh (qM (s := 1) [a2] [sN] [(0, [a2])] qA qr jM rfl (by decide) rfl (.cons (cells_one (qG ha2)) CellsAre.nil) rfl ?_)
        intro v5 hv4
        exact ⟨rfl, hv4, rfl⟩
       exact stepsP.nil
      intro W hphi
      have f12 : ∃ b, (W 12) = .slice (some ⟨b, 0, none⟩) 1 1 := hphi 12 (by decide)
      generalize hu12 : W 12 = u1 at f12
      rw [eS (l := [(0, _), (12, u1)]) ⟨(hphi 0 (by decide)), hu12, ⟨⟩⟩]
      show XL _ _ _ _ _ _ _ (slH 22 1 u1 1 [a2] :: slH 22 1 ev m2 ecs :: boolsH 4 v1 ((sm.set (((-1) - (((td.getD ((((m : Int)) - 1).toNat) [])).getD i 0)).toNat) true)) :: cellsH ub [ov] 282 :: slH 22 1 ov 48 ocs :: L)
      refine cX (XOp.append (m := 1) (bytes := 24) (cs := ecs) [_] _ [a2] qA typeInfo22 rfl rfl rfl rfl rfl rfl rfl (SlV.own [] rfl) rfl (Rd.lit [] rfl) (qv (qZ (qG ha2)) jf) (by (try simp only [List.length_append, List.length_nil, List.length_cons, List.length_singleton]); omega) (by (try simp only [List.length_append, List.length_nil, List.length_cons, List.length_singleton]); omega) ?_)
      intro v6 hs2 hn1 hm1
      have hc3 := RowsC.snoc hE ha2
      refine qg (v6) rfl (qb (qa (qf (ii ((i : Int))) rfl (cX (qI (((i + 1 : Nat) : Int)) rfl rfl (by omega) (by omega) (qg (ii (((i + 1 : Nat) : Int))) rfl (qb ?_)))))))
      exact ⟨(i + 1, (sm.set (((-1) - (((td.getD ((((m : Int)) - 1).toNat) [])).getD i 0)).toNat) true), v6, te ++ [(bl.getD (((-1) - (((td.getD ((((m : Int)) - 1).toNat) [])).getD i 0)).toNat) [])], ecs ++ [a2], (m2) + 1), _, FLe.refl _, rF, ⟨rfl, rfl, rfl, rfl, rfl, rfl, ⟨⟩⟩, (sD (sC (sC (sC (sC sR))))), ⟨rfl, (hs2), (hc3), (by (try dsimp only); rw [List.length_append, List.length_singleton]; omega), (by have h9 := hOJ.push hσ (by omega) hne hj0 hgj hlj; rw [lkN_get hj0] at h9; exact h9), (fun x hx => (List.mem_append.1 hx).elim (htw2 x) (fun h => by rw [List.mem_singleton.1 h]; have := hb.wt _ hj0 hlj; rwa [lkN_get hj0] at this)), (by (try dsimp only); have h9 := unm_set (sn := sm) (i := varIx (((td.getD ((((m : Int)) - 1).toNat) [])).getD i 0)) (by rw [hsm]; unfold varIx; omega) hun; unfold varIx at h9; rw [List.length_append, List.length_singleton]; omega), (by (try dsimp only) <;> omega)⟩, (by omega)⟩
     have hjs : 0 ≤ (((td.getD ((((m : Int)) - 1).toNat) [])).getD i 0) ∨ Mk sm (((td.getD ((((m : Int)) - 1).toNat) [])).getD i 0) ∨ lkN bl (((td.getD ((((m : Int)) - 1).toNat) [])).getD i 0) = [] := .inr (.inr (by rw [lkN_get hj0]; exact List.eq_nil_of_length_eq_zero (by unfold varIx; omega)))
     refine qw (qa (qf (ii ((i : Int))) rfl (cX (qI (((i + 1 : Nat) : Int)) rfl rfl (by omega) (by omega) (qg (ii (((i + 1 : Nat) : Int))) rfl (qb ?_))))))
     exact ⟨(i + 1, sm, ev, te, ecs, m2), _, FLe.refl _, rF, ⟨rfl, rfl, rfl, rfl, rfl, rfl, ⟨⟩⟩, (sC (sC (sC (sC sR)))), ⟨rfl, (hev), (hE), (hm2), (hOJ.skip hne hjs), (htw2), (hmu2), (by (try dsimp only) <;> omega)⟩, (by omega)⟩
    rw [Bool.not_eq_true] at h5
    have hjs : 0 ≤ (((td.getD ((((m : Int)) - 1).toNat) [])).getD i 0) ∨ Mk sm (((td.getD ((((m : Int)) - 1).toNat) [])).getD i 0) ∨ lkN bl (((td.getD ((((m : Int)) - 1).toNat) [])).getD i 0) = [] := .inr (.inl (by unfold Mk varIx; simpa using h5))
    refine jn [slH 22 1 ev m2 ecs, boolsH 4 v1 sm, cellsH ub [ov] 282, slH 22 1 ov 48 ocs] L 26 [] [[], [], [0, 1], [2], [3], [4], [5], [5], [5], [5, 7, 8], [5, 9], [5, 10], [5, 6, 11], [5, 12], [5, 13], [5, 14], [15], [16], [16, 17], [16, 18], [16, 19], [16], [16], [16, 21, 22], [16, 23], [16, 24]] (phiL [qe a1, qe (ii ((i : Int)) : Value), qe (.pointer (some (elemA a1 (i)))), qe (ii (((td.getD ((((m : Int)) - 1).toNat) [])).getD i 0) : Value), qe (.bool (decide ((((td.getD ((((m : Int)) - 1).toNat) [])).getD i 0 : Int) < 0)) : Value), qe (.bool (decide ((((td.getD ((((m : Int)) - 1).toNat) [])).getD i 0 : Int) < 0)) : Value), qe v1, qe a1, qe (ii ((i : Int)) : Value), qe (.pointer (some (elemA a1 (i)))), qe (ii (((td.getD ((((m : Int)) - 1).toNat) [])).getD i 0) : Value), qe (ii ((-1) - (((td.getD ((((m : Int)) - 1).toNat) [])).getD i 0)) : Value), qe (.pointer (some (elemA v1 (((-1) - (((td.getD ((((m : Int)) - 1).toNat) [])).getD i 0)).toNat))) : Value), qe (.bool (sm.getD (((-1) - (((td.getD ((((m : Int)) - 1).toNat) [])).getD i 0)).toNat) false) : Value), qe (.bool (!(sm.getD (((-1) - (((td.getD ((((m : Int)) - 1).toNat) [])).getD i 0)).toNat) false)) : Value), qe (.bool (!(sm.getD (((-1) - (((td.getD ((((m : Int)) - 1).toNat) [])).getD i 0)).toNat) false)) : Value), qe (.bool (!(sm.getD (((-1) - (((td.getD ((((m : Int)) - 1).toNat) [])).getD i 0)).toNat) false)) : Value), qe undef, qe undef, qe undef, qe undef, qe undef, qe undef, qe undef, qe undef, qe undef]) (ownL []) mixed rfl rfl (by kernel_rfl) ?_ ?_
    ·refine pD (fun W R z9 => ?_) ?_
     ·refine qh (qj (a1) rfl ?_)
      exact ⟨rfl, rfl, rfl⟩
     refine pD (fun W R z9 => ?_) ?_
     ·refine qh (qj (ii ((i : Int))) rfl ?_)
      exact ⟨rfl, rfl, rfl⟩
     refine pD (fun W R z9 => ?_) ?_
     ·rw [eS (l := [(0, _), (1, _)]) ⟨z9 0 rfl, z9 1 rfl, ⟨⟩⟩]
      refine qh (ql i qd qo rfl rfl rfl ha1.slv (by omega) (Nat.mul_one _) ?_)
      exact ⟨rfl, rfl, rfl⟩
     refine pD (fun W R z9 => ?_) ?_
     ·rw [eS (l := [(2, _)]) ⟨z9 2 rfl, ⟨⟩⟩]
      refine qh (qi qK rfl (ha1.rd (by omega)) ?_)
      exact ⟨rfl, rfl, rfl⟩
     refine pD (fun W R z9 => ?_) ?_
     ·rw [eS (l := [(3, _)]) ⟨z9 3 rfl, ⟨⟩⟩]
      refine qh (qL rfl rfl ?_)
      exact ⟨rfl, rfl, rfl⟩
     refine pD (fun W R z9 => ?_) ?_
     ·rw [eS (l := [(4, _)]) ⟨z9 4 rfl, ⟨⟩⟩]
      refine qh (qj (.bool (decide ((((td.getD ((((m : Int)) - 1).toNat) [])).getD i 0 : Int) < 0))) rfl ?_)
      exact ⟨rfl, rfl, rfl⟩
     refine pD (fun W R z9 => ?_) ?_
     ·rw [eS (l := [(5, _)]) ⟨z9 5 rfl, ⟨⟩⟩]
      refine qW (t := 50) rfl (vT h4) (qj (v1) rfl ?_)
      exact ⟨rfl, rfl, rfl⟩
     refine pD (fun W R z9 => ?_) ?_
     ·rw [eS (l := [(5, _)]) ⟨z9 5 rfl, ⟨⟩⟩]
      refine qW (t := 50) rfl (vT h4) (qj (a1) rfl ?_)
      exact ⟨rfl, rfl, rfl⟩
     refine pD (fun W R z9 => ?_) ?_
     ·rw [eS (l := [(5, _)]) ⟨z9 5 rfl, ⟨⟩⟩]
      refine qW (t := 50) rfl (vT h4) (qj (ii ((i : Int))) rfl ?_)
      exact ⟨rfl, rfl, rfl⟩
     refine pD (fun W R z9 => ?_) ?_
     ·rw [eS (l := [(5, _), (7, _), (8, _)]) ⟨z9 5 rfl, z9 7 rfl, z9 8 rfl, ⟨⟩⟩]
      refine qW (t := 50) rfl (vT h4) (ql i qd qo rfl rfl rfl ha1.slv (by omega) (Nat.mul_one _) ?_)
      exact ⟨rfl, rfl, rfl⟩
     refine pD (fun W R z9 => ?_) ?_
     ·rw [eS (l := [(5, _), (9, _)]) ⟨z9 5 rfl, z9 9 rfl, ⟨⟩⟩]
      refine qW (t := 50) rfl (vT h4) (qi qK rfl (ha1.rd (by omega)) ?_)
      exact ⟨rfl, rfl, rfl⟩
     refine pD (fun W R z9 => ?_) ?_
     ·rw [eS (l := [(5, _), (10, _)]) ⟨z9 5 rfl, z9 10 rfl, ⟨⟩⟩]
      refine qW (t := 50) rfl (vT h4) (qY ((-1) - (((td.getD ((((m : Int)) - 1).toNat) [])).getD i 0)) rfl rfl (by omega) (by omega) ?_)
      exact ⟨rfl, rfl, rfl⟩
     refine pD (fun W R z9 => ?_) ?_
     ·rw [eS (l := [(5, _), (6, _), (11, _)]) ⟨z9 5 rfl, z9 6 rfl, z9 11 rfl, ⟨⟩⟩]
      refine qW (t := 50) rfl (vT h4) (ql (((-1) - (((td.getD ((((m : Int)) - 1).toNat) [])).getD i 0)).toNat) runUnderlying288 sizeOf4 rfl rfl (by omega) (boolsH.slv [_] rfl) (by omega) (Nat.mul_one _) ?_)
      exact ⟨rfl, rfl, rfl⟩
     refine pD (fun W R z9 => ?_) ?_
     ·rw [eS (l := [(5, _), (12, _)]) ⟨z9 5 rfl, z9 12 rfl, ⟨⟩⟩]
      refine qW (t := 50) rfl (vT h4) (qi isAgg4 rfl (boolsH.rd [_] rfl (by omega)) ?_)
      exact ⟨rfl, rfl, rfl⟩
     refine pD (fun W R z9 => ?_) ?_
     ·rw [eS (l := [(5, _), (13, _)]) ⟨z9 5 rfl, z9 13 rfl, ⟨⟩⟩]
      refine qW (t := 50) rfl (vT h4) (jp rfl ?_)
      exact ⟨rfl, rfl, rfl⟩
     refine pD (fun W R z9 => ?_) ?_
     ·rw [eS (l := [(5, _), (14, _)]) ⟨z9 5 rfl, z9 14 rfl, ⟨⟩⟩]
      refine qh (qR (.bool (!(sm.getD (((-1) - (((td.getD ((((m : Int)) - 1).toNat) [])).getD i 0)).toNat) false))) (vT h4) rfl ?_)
      exact ⟨rfl, rfl, rfl⟩
     refine pD (fun W R z9 => ?_) ?_
     ·rw [eS (l := [(15, _)]) ⟨z9 15 rfl, ⟨⟩⟩]
      refine qh (qj (.bool (!(sm.getD (((-1) - (((td.getD ((((m : Int)) - 1).toNat) [])).getD i 0)).toNat) false))) rfl ?_)
      exact ⟨rfl, rfl, rfl⟩
     refine pD (fun W R z9 => ?_) ?_
     ·rw [eS (l := [(16, _)]) ⟨z9 16 rfl, ⟨⟩⟩]
      exact jd (t := 61) rfl (vB h5) ⟨rfl, rfl, rfl⟩
     refine pD (fun W R z9 => ?_) ?_
     ·rw [eS (l := [(16, _), (17, undef)]) ⟨z9 16 rfl, z9 17 rfl, ⟨⟩⟩]
      exact jd (t := 61) rfl (vB h5) ⟨rfl, rfl, rfl⟩
     refine pD (fun W R z9 => ?_) ?_
     ·rw [eS (l := [(16, _), (18, undef)]) ⟨z9 16 rfl, z9 18 rfl, ⟨⟩⟩]
      exact jd (t := 61) rfl (vB h5) ⟨rfl, rfl, rfl⟩
     refine pD (fun W R z9 => ?_) ?_
     ·rw [eS (l := [(16, _), (19, undef)]) ⟨z9 16 rfl, z9 19 rfl, ⟨⟩⟩]
      exact jd (t := 61) rfl (vB h5) ⟨rfl, rfl, rfl⟩
     refine pD (fun W R z9 => ?_) ?_
     ·rw [eS (l := [(16, _)]) ⟨z9 16 rfl, ⟨⟩⟩]
      exact jd (t := 61) rfl (vB h5) ⟨rfl, rfl, rfl⟩
     refine pD (fun W R z9 => ?_) ?_
     ·rw [eS (l := [(16, _)]) ⟨z9 16 rfl, ⟨⟩⟩]
      exact jd (t := 61) rfl (vB h5) ⟨rfl, rfl, rfl⟩
     refine pD (fun W R z9 => ?_) ?_
     ·rw [eS (l := [(16, _), (21, undef), (22, undef)]) ⟨z9 16 rfl, z9 21 rfl, z9 22 rfl, ⟨⟩⟩]
      exact jd (t := 61) rfl (vB h5) ⟨rfl, rfl, rfl⟩
     refine pD (fun W R z9 => ?_) ?_
     ·rw [eS (l := [(16, _), (23, undef)]) ⟨z9 16 rfl, z9 23 rfl, ⟨⟩⟩]
      exact jd (t := 61) rfl (vB h5) ⟨rfl, rfl, rfl⟩
     refine pD (fun W R z9 => ?_) ?_
     ·rw [eS (l := [(16, _), (24, undef)]) ⟨z9 16 rfl, z9 24 rfl, ⟨⟩⟩]
      exact jd (t := 61) rfl (vB h5) ⟨rfl, rfl, rfl⟩
     exact stepsP.nil
    intro W hphi
    rw [eS (l := [(16, _), (20, undef), (25, undef)]) ⟨(hphi 16 (by decide)), (hphi 20 (by decide)), (hphi 25 (by decide)), ⟨⟩⟩]
    show XL _ _ _ _ _ _ _ (slH 22 1 ev m2 ecs :: boolsH 4 v1 sm :: cellsH ub [ov] 282 :: slH 22 1 ov 48 ocs :: L)
    refine qp (t := 61) rfl (vB h5) (qp (t := 61) rfl (vB h5) (qp (t := 61) rfl (vB h5) (qp (t := 61) rfl (vB h5) (cX (qS (.bool (false)) (vB h5) rfl (qb (jz rfl (qw (qa (qf (ii ((i : Int))) rfl (cX (qI (((i + 1 : Nat) : Int)) rfl rfl (by omega) (by omega) ?_))))))))))))
    refine qg (ii (((i + 1 : Nat) : Int))) rfl (qb ?_)
    exact ⟨(i + 1, sm, ev, te, ecs, m2), _, FLe.refl _, rF, ⟨rfl, rfl, rfl, rfl, rfl, rfl, ⟨⟩⟩, (sC (sC (sC (sC sR)))), ⟨rfl, (hev), (hE), (hm2), (hOJ.skip hne hjs), (htw2), (hmu2), (by (try dsimp only) <;> omega)⟩, (by omega)⟩
   have hjs : 0 ≤ (((td.getD ((((m : Int)) - 1).toNat) [])).getD i 0) ∨ Mk sm (((td.getD ((((m : Int)) - 1).toNat) [])).getD i 0) ∨ lkN bl (((td.getD ((((m : Int)) - 1).toNat) [])).getD i 0) = [] := .inl (by omega)
   refine jn [slH 22 1 ev m2 ecs, boolsH 4 v1 sm, cellsH ub [ov] 282, slH 22 1 ov 48 ocs] L 26 [] [[], [], [0, 1], [2], [3], [4], [5], [5], [5], [5, 7, 8], [5, 9], [5, 10], [5, 6, 11], [5, 12], [5, 13], [5, 14], [15], [16], [16, 17], [16, 18], [16, 19], [16], [16], [16, 21, 22], [16, 23], [16, 24]] (phiL [qe a1, qe (ii ((i : Int)) : Value), qe (.pointer (some (elemA a1 (i)))), qe (ii (((td.getD ((((m : Int)) - 1).toNat) [])).getD i 0) : Value), qe (.bool (decide ((((td.getD ((((m : Int)) - 1).toNat) [])).getD i 0 : Int) < 0)) : Value), qe (.bool (decide ((((td.getD ((((m : Int)) - 1).toNat) [])).getD i 0 : Int) < 0)) : Value), qe undef, qe undef, qe undef, qe undef, qe undef, qe undef, qe undef, qe undef, qe undef, qe (.bool (false)), qe (.bool (false)), qe undef, qe undef, qe undef, qe undef, qe undef, qe undef, qe undef, qe undef, qe undef]) (ownL []) mixed rfl rfl (by kernel_rfl) ?_ ?_
   ·refine pD (fun W R z9 => ?_) ?_
    ·refine qh (qj (a1) rfl ?_)
     exact ⟨rfl, rfl, rfl⟩
    refine pD (fun W R z9 => ?_) ?_
    ·refine qh (qj (ii ((i : Int))) rfl ?_)
     exact ⟨rfl, rfl, rfl⟩
    refine pD (fun W R z9 => ?_) ?_
    ·rw [eS (l := [(0, _), (1, _)]) ⟨z9 0 rfl, z9 1 rfl, ⟨⟩⟩]
     refine qh (ql i qd qo rfl rfl rfl ha1.slv (by omega) (Nat.mul_one _) ?_)
     exact ⟨rfl, rfl, rfl⟩
    refine pD (fun W R z9 => ?_) ?_
    ·rw [eS (l := [(2, _)]) ⟨z9 2 rfl, ⟨⟩⟩]
     refine qh (qi qK rfl (ha1.rd (by omega)) ?_)
     exact ⟨rfl, rfl, rfl⟩
    refine pD (fun W R z9 => ?_) ?_
    ·rw [eS (l := [(3, _)]) ⟨z9 3 rfl, ⟨⟩⟩]
     refine qh (qL rfl rfl ?_)
     exact ⟨rfl, rfl, rfl⟩
    refine pD (fun W R z9 => ?_) ?_
    ·rw [eS (l := [(4, _)]) ⟨z9 4 rfl, ⟨⟩⟩]
     refine qh (qj (.bool (decide ((((td.getD ((((m : Int)) - 1).toNat) [])).getD i 0 : Int) < 0))) rfl ?_)
     exact ⟨rfl, rfl, rfl⟩
    refine pD (fun W R z9 => ?_) ?_
    ·rw [eS (l := [(5, _)]) ⟨z9 5 rfl, ⟨⟩⟩]
     exact jd (t := 50) rfl (vF h4) ⟨rfl, rfl, rfl⟩
    refine pD (fun W R z9 => ?_) ?_
    ·rw [eS (l := [(5, _)]) ⟨z9 5 rfl, ⟨⟩⟩]
     exact jd (t := 50) rfl (vF h4) ⟨rfl, rfl, rfl⟩
    refine pD (fun W R z9 => ?_) ?_
    ·rw [eS (l := [(5, _)]) ⟨z9 5 rfl, ⟨⟩⟩]
     exact jd (t := 50) rfl (vF h4) ⟨rfl, rfl, rfl⟩
    refine pD (fun W R z9 => ?_) ?_
    ·rw [eS (l := [(5, _), (7, undef), (8, undef)]) ⟨z9 5 rfl, z9 7 rfl, z9 8 rfl, ⟨⟩⟩]
     exact jd (t := 50) rfl (vF h4) ⟨rfl, rfl, rfl⟩
    refine pD (fun W R z9 => ?_) ?_
    ·rw [eS (l := [(5, _), (9, undef)]) ⟨z9 5 rfl, z9 9 rfl, ⟨⟩⟩]
     exact jd (t := 50) rfl (vF h4) ⟨rfl, rfl, rfl⟩
    refine pD (fun W R z9 => ?_) ?_
    ·rw [eS (l := [(5, _), (10, undef)]) ⟨z9 5 rfl, z9 10 rfl, ⟨⟩⟩]
     exact jd (t := 50) rfl (vF h4) ⟨rfl, rfl, rfl⟩
    refine pD (fun W R z9 => ?_) ?_
    ·rw [eS (l := [(5, _), (6, undef), (11, undef)]) ⟨z9 5 rfl, z9 6 rfl, z9 11 rfl, ⟨⟩⟩]
     exact jd (t := 50) rfl (vF h4) ⟨rfl, rfl, rfl⟩
    refine pD (fun W R z9 => ?_) ?_
    ·rw [eS (l := [(5, _), (12, undef)]) ⟨z9 5 rfl, z9 12 rfl, ⟨⟩⟩]
     exact jd (t := 50) rfl (vF h4) ⟨rfl, rfl, rfl⟩
    refine pD (fun W R z9 => ?_) ?_
    ·rw [eS (l := [(5, _), (13, undef)]) ⟨z9 5 rfl, z9 13 rfl, ⟨⟩⟩]
     exact jd (t := 50) rfl (vF h4) ⟨rfl, rfl, rfl⟩
    refine pD (fun W R z9 => ?_) ?_
    ·rw [eS (l := [(5, _), (14, undef)]) ⟨z9 5 rfl, z9 14 rfl, ⟨⟩⟩]
     refine qh (qS (.bool (false)) (vF h4) rfl ?_)
     exact ⟨rfl, rfl, rfl⟩
    refine pD (fun W R z9 => ?_) ?_
    ·rw [eS (l := [(15, _)]) ⟨z9 15 rfl, ⟨⟩⟩]
     refine qh (qj (.bool (false)) rfl ?_)
     exact ⟨rfl, rfl, rfl⟩
    refine pD (fun W R z9 => ?_) ?_
    ·rw [eS (l := [(16, _)]) ⟨z9 16 rfl, ⟨⟩⟩]
     exact jd (t := 61) rfl rfl ⟨rfl, rfl, rfl⟩
    refine pD (fun W R z9 => ?_) ?_
    ·rw [eS (l := [(16, _), (17, undef)]) ⟨z9 16 rfl, z9 17 rfl, ⟨⟩⟩]
     exact jd (t := 61) rfl rfl ⟨rfl, rfl, rfl⟩
    refine pD (fun W R z9 => ?_) ?_
    ·rw [eS (l := [(16, _), (18, undef)]) ⟨z9 16 rfl, z9 18 rfl, ⟨⟩⟩]
     exact jd (t := 61) rfl rfl ⟨rfl, rfl, rfl⟩
    refine pD (fun W R z9 => ?_) ?_
    ·rw [eS (l := [(16, _), (19, undef)]) ⟨z9 16 rfl, z9 19 rfl, ⟨⟩⟩]
     exact jd (t := 61) rfl rfl ⟨rfl, rfl, rfl⟩
    refine pD (fun W R z9 => ?_) ?_
    ·rw [eS (l := [(16, _)]) ⟨z9 16 rfl, ⟨⟩⟩]
     exact jd (t := 61) rfl rfl ⟨rfl, rfl, rfl⟩
    refine pD (fun W R z9 => ?_) ?_
    ·rw [eS (l := [(16, _)]) ⟨z9 16 rfl, ⟨⟩⟩]
     exact jd (t := 61) rfl rfl ⟨rfl, rfl, rfl⟩
    refine pD (fun W R z9 => ?_) ?_
    ·rw [eS (l := [(16, _), (21, undef), (22, undef)]) ⟨z9 16 rfl, z9 21 rfl, z9 22 rfl, ⟨⟩⟩]
     exact jd (t := 61) rfl rfl ⟨rfl, rfl, rfl⟩
    refine pD (fun W R z9 => ?_) ?_
    ·rw [eS (l := [(16, _), (23, undef)]) ⟨z9 16 rfl, z9 23 rfl, ⟨⟩⟩]
     exact jd (t := 61) rfl rfl ⟨rfl, rfl, rfl⟩
    refine pD (fun W R z9 => ?_) ?_
    ·rw [eS (l := [(16, _), (24, undef)]) ⟨z9 16 rfl, z9 24 rfl, ⟨⟩⟩]
     exact jd (t := 61) rfl rfl ⟨rfl, rfl, rfl⟩
    exact stepsP.nil
   intro W hphi
   rw [eS (l := [(16, _), (20, undef), (25, undef)]) ⟨(hphi 16 (by decide)), (hphi 20 (by decide)), (hphi 25 (by decide)), ⟨⟩⟩]
   show XL _ _ _ _ _ _ _ (slH 22 1 ev m2 ecs :: boolsH 4 v1 sm :: cellsH ub [ov] 282 :: slH 22 1 ov 48 ocs :: L)
   refine qp (t := 61) rfl rfl (qp (t := 61) rfl rfl (qp (t := 61) rfl rfl (qp (t := 61) rfl rfl (cX (qS (.bool (false)) rfl rfl (qb (jz rfl (qw (qa (qf (ii ((i : Int))) rfl (cX (qI (((i + 1 : Nat) : Int)) rfl rfl (by omega) (by omega) ?_))))))))))))
   refine qg (ii (((i + 1 : Nat) : Int))) rfl (qb ?_)
   exact ⟨(i + 1, sm, ev, te, ecs, m2), _, FLe.refl _, rF, ⟨rfl, rfl, rfl, rfl, rfl, rfl, ⟨⟩⟩, (sC (sC (sC (sC sR)))), ⟨rfl, (hev), (hE), (hm2), (hOJ.skip hne hjs), (htw2), (hmu2), (by (try dsimp only) <;> omega)⟩, (by omega)⟩
  refine ja (qu (qu (qJ ?_)))
  exact ⟨(sm, ev, te, ecs, m2), _, FLe.refl _, rF, ⟨rfl, rfl, rfl, rfl, ⟨⟩⟩, (sC (sC (sC (sC sR)))), ⟨rfl, (hev), (hE), (hm2), (hOJ.stop (by omega)), (htw2), (by (try dsimp only) <;> omega)⟩, (by (try dsimp only); omega)⟩
 refine ja (qu (qu (qJ (qc (qa (qg (.bool (false)) rfl (qb (qy (qs (L' := cellsH ub [ov] 282 :: slH 22 1 ov 48 ocs :: L) [.bool (false)] (.bool (false)) (.tmp rfl .nil) rfl rF rF (sD (sD (sC (sC sR)))) ?_)))))))))
 have e8 : td = [] := List.eq_nil_of_length_eq_zero (by omega)
 rw [e8] at hOI
 obtain ⟨ρ, hρ⟩ := hb.acyc
 have e9 : decide (n ∈ ap σ t) = false := decide_eq_false (hOI.none hσ hρ hn)
 exact ⟨congrArg Value.bool e9, rfl, rfl⟩

/- spec.l11Meet -/
set_option maxHeartbeats 2000000 in
set_option maxRecDepth 20000 in
theorem meet_spec {F : FH} {L : List HP} {ub : Nat} {ov : Value} {ocs : List Value} {arv : Value} {ar : List Int} (har : IntsF F arv ar) (hov : IsSl ov) (hC : RowsC F ocs (List.replicate 48 ([] : List Int))) {av : Value} {a : List Int} (ha : IntsF F av a) {cv : Value} {c : List Int} (hc : IntsF F cv c) (hoa : TermW ar a) (hoc : TermW ar c) :
    Does prog 240 [.agg #[arv], ptr ub 0, av, cv] F (cellsH ub [ov] 282 :: slH 22 1 ov 48 ocs :: L) (fun v F' L' => ∃ (x : Bool) (bc : List Value) (b9 : RowL), (.bool x : Value) = v ∧ RowsC F' bc b9 ∧ (x = true → Mgu ar a c b9) ∧ (x = false → ∀ θ, GoodS ar θ → ap θ a ≠ ap θ c) ∧ cellsH ub [ov] 282 :: slH 22 1 ov 48 bc :: L = L') := by
 refine qD func240 rfl rfl rfl ?_
 have hsig := hoa.sig
 refine qc (qa (cX (qV [arv] rfl rfl ?_)))
 intro b1
 refine qg (.bool (false)) rfl (qb (qc (qa (qf (av) rfl (cX (qM (s := 1) [av] [sN] [(0, [av])] qA qr jM rfl (by decide) rfl (.cons (cells_one (qG ha)) CellsAre.nil) rfl ?_))))))
 intro v1 hv1
 refine qg (v1) rfl (qb (qc (qa (qf (cv) rfl (cX (qM (s := 1) [cv] [sN] [(0, [cv])] qA qr jM rfl (by decide) rfl (.cons (cells_one (qG hc)) CellsAre.nil) rfl ?_))))))
 intro v2 hv2
 refine qg (v2) rfl (qb (qc (qF ?_)))
 have hc1 : RowsC F [av] ([a] : List (List Int)) := (RowsC.snoc (CO.nil : RowsC F [] []) ha)
 have hc2 : RowsC F [cv] ([c] : List (List Int)) := (RowsC.snoc (CO.nil : RowsC F [] []) hc)
 obtain ⟨σ0, hσ0⟩ := (BOk.nils (ar := ar)).sol
 refine jj (α := List Value × RowL × Sbs × Value × RowL × List Value × Nat × Value × RowL × List Value × Nat × FH) (fun xQ => [(1, ptr ub 0), (4, ptr b1 0), (9, xQ.2.2.2.1), (10, xQ.2.2.2.2.2.2.2.1)]) (fun xQ => slH 22 1 xQ.2.2.2.2.2.2.2.1 xQ.2.2.2.2.2.2.2.2.2.2.1 xQ.2.2.2.2.2.2.2.2.2.1 :: slH 22 1 xQ.2.2.2.1 xQ.2.2.2.2.2.2.1 xQ.2.2.2.2.2.1 :: cellsH b1 [arv] 31 :: cellsH ub [ov] 282 :: slH 22 1 ov 48 xQ.1 :: L) (fun xQ F' => xQ.2.2.2.2.2.2.2.2.2.2.2 = F' ∧ F ≤ xQ.2.2.2.2.2.2.2.2.2.2.2 ∧ (RowsC xQ.2.2.2.2.2.2.2.2.2.2.2 xQ.1 xQ.2.1) ∧ (Sol xQ.2.1 xQ.2.2.1) ∧ (IsSl xQ.2.2.2.1) ∧ (RowsC xQ.2.2.2.2.2.2.2.2.2.2.2 xQ.2.2.2.2.2.1 xQ.2.2.2.2.1) ∧ (xQ.2.2.2.2.2.2.1 = xQ.2.2.2.2.1.length) ∧ (IsSl xQ.2.2.2.2.2.2.2.1) ∧ (RowsC xQ.2.2.2.2.2.2.2.2.2.2.2 xQ.2.2.2.2.2.2.2.2.2.1 xQ.2.2.2.2.2.2.2.2.1) ∧ (xQ.2.2.2.2.2.2.2.2.2.2.1 = xQ.2.2.2.2.2.2.2.2.1.length) ∧ (MeetI ar a c xQ.2.1 xQ.2.2.2.2.1 xQ.2.2.2.2.2.2.2.2.1) ∧ (StkI xQ.2.1 a xQ.2.2.2.2.1)) (fun xQ => muM xQ.2.1 xQ.2.2.2.2.1 xQ.2.2.2.2.2.2.2.2.1 xQ.2.2.1) (ocs, (List.replicate 48 ([] : List Int)), σ0, v1, [a], [av], 1, v2, [c], [cv], 1, F) ⟨rfl, rfl, rfl, rfl, ⟨⟩⟩ (sC (sC (sC (sC (sC sR))))) ⟨rfl, FLe.refl _, (hC), (hσ0), ((jJ hv1)), (hc1), (rfl), ((jJ hv2)), (hc2), (rfl), (MeetI.start hoa hoc), (StkI.start)⟩ ?_
 rintro ⟨bcs, b, σ, lv, l, lcs, ml, rv, r, rcs, mr, G1⟩ rE _ _ ⟨rfl, leG, hbC, hσ, hlv, hlC, hml, hrv, hrC, hmr, hMI, hSt⟩
 show X _ _ _ _ (envs [(1, ptr ub 0), (4, ptr b1 0), (9, lv), (10, rv)] rE) _ (slH 22 1 rv mr rcs :: slH 22 1 lv ml lcs :: cellsH b1 [arv] 31 :: cellsH ub [ov] 282 :: slH 22 1 ov 48 bcs :: L)
 replace leG : F ≤ G1 := leG
 dsimp only at hbC hσ hlv hlC hml hrv hrC hmr hMI hSt
 have hll := hSt.len hMI.ok hoa.len.2
 have hsame := hMI.same
 have leG1 := leG
 replace har := har.mono leG1
 refine qc (qc (qa (qf (lv) rfl (cX (qC qA rfl (SlV.own [_] rfl) (cX (jH rfl rfl (qb ?_))))))))
 refine qx (p := (((ml : Nat) : Int) : Int) > 0) rfl (fun h1 => ?_) (fun h1 => ?_)
 ·refine qw (qF (qc (qa (qf (ptr ub 0) rfl (qf (lv) rfl (qf (lv) rfl (cX (qC qA rfl (SlV.own [_] rfl) (cX (qY ((((ml : Nat) : Int)) - 1) rfl rfl (by omega) (by omega) (cX (ql (((((ml : Nat) : Int)) - 1).toNat) qA qr rfl rfl (by omega) (SlV.own [_] rfl) (by omega) (Nat.mul_one _) ?_))))))))))))
  obtain ⟨a1, ha1, he1⟩ := hlC.get (i := ((((ml : Nat) : Int)) - 1).toNat) (by omega)
  refine cX (qi qP rfl (Rd.sl [_] rfl he1) (ji (qE (A := [_, _, _, _])) ?_))
  show XL _ _ _ _ _ _ _ (slH 22 1 ov 48 bcs :: slH 22 1 rv mr rcs :: slH 22 1 lv ml lcs :: cellsH b1 [arv] 31 :: cellsH ub [ov] 282 :: L)
  refine ji (qE (A := [_, _, _, _])) ?_
  show XL _ _ _ _ _ _ _ (cellsH ub [ov] 282 :: slH 22 1 ov 48 bcs :: slH 22 1 rv mr rcs :: slH 22 1 lv ml lcs :: cellsH b1 [arv] 31 :: L)
  refine cX (qt (args := [ptr ub 0, a1]) call245 rfl (head_spec hov hbC (by first | assumption | exact hMI.ok) ha1 (ho := (by have h9 := hMI.lw; rw [show ((ml : Int) - 1).toNat = l.length - 1 from by omega]; exact h9 _ (mem_rows (by omega))))) ?_)
  rintro v3 _ _ _ ⟨u1, hv3, hru1, hwl1, rfl, rfl⟩
  refine qg (v3) rfl (qb (qc (qa (qf (ptr ub 0) rfl (qf (rv) rfl (qf (rv) rfl (cX (qC qA rfl (SlV.own [_, _] rfl) (cX (qY ((((mr : Nat) : Int)) - 1) rfl rfl (by omega) (by omega) (cX (ql (((((mr : Nat) : Int)) - 1).toNat) qA qr rfl rfl (by omega) (SlV.own [_, _] rfl) (by omega) (Nat.mul_one _) ?_))))))))))))
  obtain ⟨a2, ha2, he2⟩ := hrC.get (i := ((((mr : Nat) : Int)) - 1).toNat) (by omega)
  refine cX (qi qP rfl (Rd.sl [_, _] rfl he2) (ji (qE (A := [_])) ?_))
  show XL _ _ _ _ _ _ _ (slH 22 1 ov 48 bcs :: cellsH ub [ov] 282 :: slH 22 1 rv mr rcs :: slH 22 1 lv ml lcs :: cellsH b1 [arv] 31 :: L)
  refine ji (qE (A := [_])) ?_
  show XL _ _ _ _ _ _ _ (cellsH ub [ov] 282 :: slH 22 1 ov 48 bcs :: slH 22 1 rv mr rcs :: slH 22 1 lv ml lcs :: cellsH b1 [arv] 31 :: L)
  refine cX (qt (args := [ptr ub 0, a2]) call245 rfl (head_spec hov hbC (by first | assumption | exact hMI.ok) ha2 (ho := (by have h9 := hMI.rw'; rw [show ((mr : Int) - 1).toNat = r.length - 1 from by omega]; exact h9 _ (mem_rows (by omega))))) ?_)
  rintro v4 _ _ _ ⟨u2, hv4, hru2, hwl2, rfl, rfl⟩
  refine qg (v4) rfl (qb (qc (qa (qf (lv) rfl (qf (lv) rfl (cX (qC qA rfl (SlV.own [_, _, _] rfl) (cX (qY ((((ml : Nat) : Int)) - 1) rfl rfl (by omega) (by omega) (cX (XOp.sliceOwn (cs := lcs) [_, _, _] _ ((ml - 1)) qA qr rfl rfl ⟨.i64, congrArg (Value.int .i64) (show (((ml : Nat) : Int)) - 1 = (((ml - 1) : Nat) : Int) from by omega)⟩ (by omega) ?_)))))))))))
  intro v5 hs1
  have hc3 : RowsC G1 _ _ := CO.take hlC (k := (ml - 1)) (by omega)
  refine qg (v5) rfl (qb (qc (qa (qf (rv) rfl (qf (rv) rfl (cX (qC qA rfl (SlV.own [_, _] rfl) (cX (qY ((((mr : Nat) : Int)) - 1) rfl rfl (by omega) (by omega) (cX (XOp.sliceOwn (cs := rcs) [_, _] _ ((mr - 1)) qA qr rfl rfl ⟨.i64, congrArg (Value.int .i64) (show (((mr : Nat) : Int)) - 1 = (((mr - 1) : Nat) : Int) from by omega)⟩ (by omega) ?_)))))))))))
  intro v6 hs2
  have hc4 : RowsC G1 _ _ := CO.take hrC (k := (mr - 1)) (by omega)
  refine qg (v6) rfl ?_
  have el9 : ((ml : Int) - 1).toNat = l.length - 1 := by omega
  have er9 : ((mr : Int) - 1).toNat = r.length - 1 := by omega
  have hu : Root ar b (lst l) u1 := by have h9 := hru1; rwa [el9] at h9
  have hv : Root ar b (lst r) u2 := by have h9 := hru2; rwa [er9] at h9
  have hwu : WtLe b (lst l) u1 := by have h9 := hwl1; rwa [el9] at h9
  have hp : 0 < l.length := by omega
  have huw := hu.w
  have hvw := hv.w
  have hul := hu.w.len
  have hvl := hv.w.len
  have hug := hu.w.geD (p := 0) (by omega)
  have hvg := hv.w.geD (p := 0) (by omega)
  have ehl : ml - 1 = l.length - 1 := by omega
  have ehr : mr - 1 = r.length - 1 := by omega
  have hbl := hMI.ok.len
  refine qb (qF (qc ?_))
  refine jn [cellsH ub [ov] 282, slH 22 1 ov 48 bcs, slH 22 1 v6 ((mr - 1)) ((rcs.take (((mr - 1)) * 1))), slH 22 1 v5 ((ml - 1)) ((lcs.take (((ml - 1)) * 1))), cellsH b1 [arv] 31] L 6 [] [[], [0], [1], [], [3], [4]] (phiL [qe v3, qe (.pointer (some (elemA v3 (0)))), qe (ii (u1.getD 0 0)), qe v4, qe (.pointer (some (elemA v4 (0)))), qe (ii (u2.getD 0 0))]) (ownL []) mixed rfl rfl (by kernel_rfl) ?_ ?_
  ·refine pD (fun W R z9 => ?_) ?_
   ·refine qh (qj (v3) rfl ?_)
    exact ⟨rfl, rfl, rfl⟩
   refine pD (fun W R z9 => ?_) ?_
   ·rw [eS (l := [(0, _)]) ⟨z9 0 rfl, ⟨⟩⟩]
    refine qh (ql 0 qd qo rfl rfl rfl hv3.slv (by omega) (Nat.mul_one _) ?_)
    exact ⟨rfl, rfl, rfl⟩
   refine pD (fun W R z9 => ?_) ?_
   ·rw [eS (l := [(1, _)]) ⟨z9 1 rfl, ⟨⟩⟩]
    refine qh (qi qK rfl (hv3.rd (by omega)) ?_)
    exact ⟨rfl, rfl, rfl⟩
   refine pD (fun W R z9 => ?_) ?_
   ·refine qh (qj (v4) rfl ?_)
    exact ⟨rfl, rfl, rfl⟩
   refine pD (fun W R z9 => ?_) ?_
   ·rw [eS (l := [(3, _)]) ⟨z9 3 rfl, ⟨⟩⟩]
    refine qh (ql 0 qd qo rfl rfl rfl hv4.slv (by omega) (Nat.mul_one _) ?_)
    exact ⟨rfl, rfl, rfl⟩
   refine pD (fun W R z9 => ?_) ?_
   ·rw [eS (l := [(4, _)]) ⟨z9 4 rfl, ⟨⟩⟩]
    refine qh (qi qK rfl (hv4.rd (by omega)) ?_)
    exact ⟨rfl, rfl, rfl⟩
   exact stepsP.nil
  intro W hphi
  rw [eS (l := [(2, _), (5, _)]) ⟨(hphi 2 (by decide)), (hphi 5 (by decide)), ⟨⟩⟩]
  show XL _ _ _ _ _ _ _ (cellsH ub [ov] 282 :: slH 22 1 ov 48 bcs :: slH 22 1 v6 ((mr - 1)) ((rcs.take (((mr - 1)) * 1))) :: slH 22 1 v5 ((ml - 1)) ((lcs.take (((ml - 1)) * 1))) :: cellsH b1 [arv] 31 :: L)
  refine cX (jI rfl rfl (qf (.bool (decide ((u1.getD 0 0 : Int) = u2.getD 0 0))) rfl ?_))
  by_cases h2 : (u1.getD 0 0 : Int) = u2.getD 0 0
  ·refine qq (t := 64) rfl (vT h2) (qj (v3) rfl (qq (t := 64) rfl (vT h2) (ql 0 qd qo rfl rfl rfl hv3.slv (by omega) (Nat.mul_one _) (qq (t := 64) rfl (vT h2) (qi qK rfl (hv3.rd (by omega)) (qq (t := 64) rfl (vT h2) (qL rfl rfl (cX (qR (.bool (decide ((u1.getD 0 0 : Int) < 0))) (vT h2) rfl (qg (.bool (decide ((u1.getD 0 0 : Int) < 0))) rfl (qb ?_)))))))))))
   refine qx (p := (u1.getD 0 0 : Int) < 0) rfl (fun h3 => ?_) (fun h3 => ?_)
   ·refine ja (blockQ_other (by decide) (qJ ?_))
    exact ⟨(bcs, b, σ, v5, (l.take ((ml - 1))), (lcs.take (((ml - 1)) * 1)), (ml - 1), v6, (r.take ((mr - 1))), (rcs.take (((mr - 1)) * 1)), (mr - 1), G1), _, leG1, rF, ⟨rfl, rfl, rfl, rfl, ⟨⟩⟩, (qO (qE (A := [_])) (qO (qE (A := [_])) (qO (qE (A := [_, _, _, _])) (qO (qE (A := [_, _, _, _])) (qO (qE (A := [_, _, _, _])) (sC (sC (sC (sC (sC sR)))))))))), ⟨rfl, leG1, (hbC), (hσ), (hs1), (hc3), (by (try dsimp only); (try rw [List.length_append]); rw [List.length_take]; omega), (hs2), (hc4), (by (try dsimp only); (try rw [List.length_append]); rw [List.length_take]; omega), (by (try dsimp only); (try rw [ehl]); (try rw [ehr]); exact hMI.keep hp hu hv (by omega) (by omega)), (by (try dsimp only); (try rw [ehl]); (try rw [ehr]); exact hSt.cut)⟩, (by (try dsimp only); (try rw [ehl]); (try rw [ehr]); exact hMI.mu_keep hp hσ)⟩
   refine qc (qa (qf (v3) rfl (cX (ql 0 qd qo rfl rfl rfl hv3.slv (by omega) (Nat.mul_one _) (cX (qi qK rfl (hv3.rd (by omega)) (cX (qL rfl rfl (qg (.bool (decide ((u1.getD 0 0 : Int) < 0))) rfl (qb (jz (vF h3) (qc (qa (qf (v4) rfl ?_))))))))))))))
   refine cX (ql 0 qd qo rfl rfl rfl hv4.slv (by omega) (Nat.mul_one _) (cX (qi qK rfl (hv4.rd (by omega)) (cX (qL rfl rfl (qg (.bool (decide ((u2.getD 0 0 : Int) < 0))) rfl (qb ?_)))))))
   refine qx (p := (u2.getD 0 0 : Int) < 0) rfl (fun h4 => ?_) (fun h4 => ?_)
   ·refine qc (qc (qa ?_))
    skip
    refine qf (ptr ub 0) rfl (qf (v4) rfl (cX (ql 0 qd qo rfl rfl rfl hv4.slv (by omega) (Nat.mul_one _) (cX (qi qK rfl (hv4.rd (by omega)) (qf (v3) rfl (ji (qE (A := [_])) ?_)))))))
    show XL _ _ _ _ _ _ _ (slH 22 1 ov 48 bcs :: cellsH ub [ov] 282 :: slH 22 1 v6 ((mr - 1)) ((rcs.take (((mr - 1)) * 1))) :: slH 22 1 v5 ((ml - 1)) ((lcs.take (((ml - 1)) * 1))) :: cellsH b1 [arv] 31 :: L)
    refine ji (qE (A := [_])) ?_
    show XL _ _ _ _ _ _ _ (cellsH ub [ov] 282 :: slH 22 1 ov 48 bcs :: slH 22 1 v6 ((mr - 1)) ((rcs.take (((mr - 1)) * 1))) :: slH 22 1 v5 ((ml - 1)) ((lcs.take (((ml - 1)) * 1))) :: cellsH b1 [arv] 31 :: L)
    refine cX (qt (args := [ptr ub 0, ii (u2.getD 0 0), v3]) call246 rfl (occurs2_spec hov hbC hMI.ok hv3 hu.w hσ (by omega) (hv.top.resolve_left (by omega))) ?_)
    rintro _ _ _ _ ⟨rfl, rfl, rfl⟩
    refine qb ?_
    refine qx (p := u2.getD 0 0 ∈ ap σ u1) rfl (fun h5 => ?_) (fun h5 => ?_)
    ·have hocc := h5
     refine qc (qa (qg (.bool (false)) rfl (qb (qy (qk (qz (qz (qk (qz (qk (qs (L' := cellsH ub [ov] 282 :: slH 22 1 ov 48 bcs :: L) [.bool (false)] (.bool (false)) (.tmp rfl .nil) rfl leG1 rF (sC (sC (sD (sD (sD sR))))) ?_)))))))))))
     exact ⟨_, _, _, rfl, hbC, fun h => (by cases h), fun _ => hMI.occR hp hσ hu hv (by omega) (by omega) hocc, rfl⟩
    have hx0 : u2.getD 0 0 < 0 := by omega
    have hxf := hv.top.resolve_left (by omega : ¬ 0 ≤ u2.getD 0 0)
    have hMB := hMI.bindR hp hσ hu hv hx0 h5
    have hno9 := h5
    obtain ⟨σ1, hσ1⟩ := hMB.ok.sol
    refine qw ?_
    refine jn [cellsH ub [ov] 282, slH 22 1 ov 48 bcs, slH 22 1 v6 ((mr - 1)) ((rcs.take (((mr - 1)) * 1))), slH 22 1 v5 ((ml - 1)) ((lcs.take (((ml - 1)) * 1))), cellsH b1 [arv] 31] L 9 [] [[], [0], [1], [2], [], [4], [5], [6]] (phiL [qe (ptr ub 0), qe (ptr ub 0), qe (ptr ub 0), qe ov, qe v4, qe (.pointer (some (elemA v4 (0)))), qe (ii (u2.getD 0 0)), qe (ii ((-1) - (u2.getD 0 0))), qe v3]) (ownL []) mixed rfl rfl (by kernel_rfl) ?_ ?_
    ·refine pD (fun W R z9 => ?_) ?_
     ·refine qh (qj (ptr ub 0) rfl ?_)
      exact ⟨rfl, rfl, rfl⟩
     refine pD (fun W R z9 => ?_) ?_
     ·rw [eS (l := [(0, _)]) ⟨z9 0 rfl, ⟨⟩⟩]
      refine qh (jc rfl ?_)
      exact ⟨rfl, rfl, rfl⟩
     refine pD (fun W R z9 => ?_) ?_
     ·rw [eS (l := [(1, _)]) ⟨z9 1 rfl, ⟨⟩⟩]
      refine qh (qn (0) jS rfl jg (by decide) rfl rfl ?_)
      exact ⟨rfl, rfl, rfl⟩
     refine pD (fun W R z9 => ?_) ?_
     ·rw [eS (l := [(2, _)]) ⟨z9 2 rfl, ⟨⟩⟩]
      refine qh (qi jE rfl (Rd.own [] rfl rfl) ?_)
      exact ⟨rfl, rfl, rfl⟩
     refine pD (fun W R z9 => ?_) ?_
     ·refine qh (qj (v4) rfl ?_)
      exact ⟨rfl, rfl, rfl⟩
     refine pD (fun W R z9 => ?_) ?_
     ·rw [eS (l := [(4, _)]) ⟨z9 4 rfl, ⟨⟩⟩]
      refine qh (ql 0 qd qo rfl rfl rfl hv4.slv (by omega) (Nat.mul_one _) ?_)
      exact ⟨rfl, rfl, rfl⟩
     refine pD (fun W R z9 => ?_) ?_
     ·rw [eS (l := [(5, _)]) ⟨z9 5 rfl, ⟨⟩⟩]
      refine qh (qi qK rfl (hv4.rd (by omega)) ?_)
      exact ⟨rfl, rfl, rfl⟩
     refine pD (fun W R z9 => ?_) ?_
     ·rw [eS (l := [(6, _)]) ⟨z9 6 rfl, ⟨⟩⟩]
      refine qh (qY ((-1) - (u2.getD 0 0)) rfl rfl (by omega) (by omega) ?_)
      exact ⟨rfl, rfl, rfl⟩
     refine pD (fun W R z9 => ?_) ?_
     ·refine qh (qj (v3) rfl ?_)
      exact ⟨rfl, rfl, rfl⟩
     exact stepsP.nil
    intro W hphi
    rw [eS (l := [(3, _), (7, _), (8, _)]) ⟨(hphi 3 (by decide)), (hphi 7 (by decide)), (hphi 8 (by decide)), ⟨⟩⟩]
    show XL _ _ _ _ _ _ _ (cellsH ub [ov] 282 :: slH 22 1 ov 48 bcs :: slH 22 1 v6 ((mr - 1)) ((rcs.take (((mr - 1)) * 1))) :: slH 22 1 v5 ((ml - 1)) ((lcs.take (((ml - 1)) * 1))) :: cellsH b1 [arv] 31 :: L)
    refine cX (ql (((-1) - (u2.getD 0 0)).toNat) qA qr rfl rfl (by omega) (SlV.own [_] rfl) (by omega) (Nat.mul_one _) (cX (XOp.storeS (i := ((-1) - (u2.getD 0 0)).toNat) (cs := bcs) [_] _ qr rfl rfl (qZ (qG hv3)) rfl (by have h9 := CO.len hbC; (try simp only [List.length_set, List.length_replicate] at h9 ⊢) <;> omega) ?_)))
    have hc5 := hbC.set (((-1) - (u2.getD 0 0)).toNat) hv3
    refine qb ?_
    exact ⟨((bcs.set (((-1) - (u2.getD 0 0)).toNat) v3), (b.set (((-1) - (u2.getD 0 0)).toNat) u1), σ1, v5, (l.take ((ml - 1))), (lcs.take (((ml - 1)) * 1)), (ml - 1), v6, (r.take ((mr - 1))), (rcs.take (((mr - 1)) * 1)), (mr - 1), G1), _, leG1, rF, ⟨rfl, rfl, rfl, rfl, ⟨⟩⟩, (qO (qE (A := [_])) (qO (qE (A := [_])) (qO (qE (A := [_, _, _, _])) (qO (qE (A := [_, _, _, _])) (qO (qE (A := [_, _, _, _])) (sC (sC (sC (sC (sC sR)))))))))), ⟨rfl, leG1, (hc5), (hσ1), (hs1), (hc3), (by (try dsimp only); (try rw [List.length_append]); rw [List.length_take]; omega), (hs2), (hc4), (by (try dsimp only); (try rw [List.length_append]); rw [List.length_take]; omega), (by (try dsimp only); (try rw [ehl]); (try rw [ehr]); exact hMB), (by (try dsimp only); (try rw [ehl]); (try rw [ehr]); exact (hSt.bind hMI.ok hx0 (by omega) hxf).cut)⟩, (by (try dsimp only); (try rw [ehl]); (try rw [ehr]); exact hMI.mu_bind hp hσ hx0 (by omega) hxf hu.w hno9 hσ1 (.inl (by rw [hu.same σ hσ.sat])))⟩
   refine qc ?_
   refine jn [cellsH ub [ov] 282, slH 22 1 ov 48 bcs, slH 22 1 v6 ((mr - 1)) ((rcs.take (((mr - 1)) * 1))), slH 22 1 v5 ((ml - 1)) ((lcs.take (((ml - 1)) * 1))), cellsH b1 [arv] 31] L 6 [] [[], [0], [1], [], [3], [4]] (phiL [qe v3, qe (.pointer (some (elemA v3 (0)))), qe (ii (u1.getD 0 0)), qe v4, qe (.pointer (some (elemA v4 (0)))), qe (ii (u2.getD 0 0))]) (ownL []) mixed rfl rfl (by kernel_rfl) ?_ ?_
   ·refine pD (fun W R z9 => ?_) ?_
    ·refine qh (qj (v3) rfl ?_)
     exact ⟨rfl, rfl, rfl⟩
    refine pD (fun W R z9 => ?_) ?_
    ·rw [eS (l := [(0, _)]) ⟨z9 0 rfl, ⟨⟩⟩]
     refine qh (ql 0 qd qo rfl rfl rfl hv3.slv (by omega) (Nat.mul_one _) ?_)
     exact ⟨rfl, rfl, rfl⟩
    refine pD (fun W R z9 => ?_) ?_
    ·rw [eS (l := [(1, _)]) ⟨z9 1 rfl, ⟨⟩⟩]
     refine qh (qi qK rfl (hv3.rd (by omega)) ?_)
     exact ⟨rfl, rfl, rfl⟩
    refine pD (fun W R z9 => ?_) ?_
    ·refine qh (qj (v4) rfl ?_)
     exact ⟨rfl, rfl, rfl⟩
    refine pD (fun W R z9 => ?_) ?_
    ·rw [eS (l := [(3, _)]) ⟨z9 3 rfl, ⟨⟩⟩]
     refine qh (ql 0 qd qo rfl rfl rfl hv4.slv (by omega) (Nat.mul_one _) ?_)
     exact ⟨rfl, rfl, rfl⟩
    refine pD (fun W R z9 => ?_) ?_
    ·rw [eS (l := [(4, _)]) ⟨z9 4 rfl, ⟨⟩⟩]
     refine qh (qi qK rfl (hv4.rd (by omega)) ?_)
     exact ⟨rfl, rfl, rfl⟩
    exact stepsP.nil
   intro W hphi
   rw [eS (l := [(2, _), (5, _)]) ⟨(hphi 2 (by decide)), (hphi 5 (by decide)), ⟨⟩⟩]
   show XL _ _ _ _ _ _ _ (cellsH ub [ov] 282 :: slH 22 1 ov 48 bcs :: slH 22 1 v6 ((mr - 1)) ((rcs.take (((mr - 1)) * 1))) :: slH 22 1 v5 ((ml - 1)) ((lcs.take (((ml - 1)) * 1))) :: cellsH b1 [arv] 31 :: L)
   refine cX (XOp.neq rfl rfl (qg (.bool (decide ((u1.getD 0 0 : Int) ≠ u2.getD 0 0))) rfl (qb ?_)))
   refine qx (p := (u1.getD 0 0 : Int) ≠ u2.getD 0 0) rfl (fun h6 => ?_) (fun h6 => ?_)
   ·refine qc (qa (qg (.bool (false)) rfl (qb (qy (qz (qz (qk (qz (qk (qs (L' := cellsH ub [ov] 282 :: slH 22 1 ov 48 bcs :: L) [.bool (false)] (.bool (false)) (.tmp rfl .nil) rfl leG1 rF (sC (sC (sD (sD (sD sR))))) ?_))))))))))
    exact ⟨_, _, _, rfl, hbC, fun h => (by cases h), fun _ => hMI.heads hp hu hv (by omega) (by omega) (by omega), rfl⟩
   refine qc (qa ?_)
   have hpu3 := parts_le3 huw
   have hpv3 := parts_le3 hvw
   refine qf (v5) rfl (cX (qB [arv] je qN rfl rfl (Rd.ownN [_, _, _, _] rfl rfl) (qf (v3) rfl (cX (qt (args := [.agg #[arv], v3]) call149 rfl (l13Parts_spec har hv3 (ho := (by first | assumption | rfl | omega | simp))) ?_)))))
   rintro _ F1 _ le1 ⟨x1, rfl, hr1, rfl⟩
   replace har := har.mono le1
   replace hbC := hbC.mono le1
   replace hv3 := hv3.mono le1
   replace hv4 := hv4.mono le1
   replace hc3 := hc3.mono le1
   replace hc4 := hc4.mono le1
   refine cX (XOp.appendRows (bytes := 24) (cs := (lcs.take (((ml - 1)) * 1))) [_, _, _] _ qA typeInfo22 rfl rfl rfl rfl rfl rfl rfl hc3 hr1 (by omega) (by omega) ?_)
   intro v7 ds1 hs3 hc6
   refine qg (v7) rfl (qb (qa (qf (v6) rfl (cX (qB [arv] je qN rfl rfl (Rd.ownN [_, _, _, _] rfl rfl) (qf (v4) rfl (cX (qt (args := [.agg #[arv], v4]) call149 rfl (l13Parts_spec har hv4 (ho := (by first | assumption | rfl | omega | simp))) ?_))))))))
   rintro _ F2 _ le2 ⟨x2, rfl, hr2, rfl⟩
   replace har := har.mono le2
   replace hbC := hbC.mono le2
   replace hv3 := hv3.mono le2
   replace hv4 := hv4.mono le2
   replace hc3 := hc3.mono le2
   replace hc4 := hc4.mono le2
   replace hc6 := hc6.mono le2
   refine cX (XOp.appendRows (bytes := 24) (cs := (rcs.take (((mr - 1)) * 1))) [_, _] _ qA typeInfo22 rfl rfl rfl rfl rfl rfl rfl hc4 hr2 (by omega) (by omega) ?_)
   intro v8 ds2 hs4 hc7
   refine qg (v8) rfl (qb ?_)
   exact ⟨(bcs, b, σ, v7, ((l.take ((ml - 1))) ++ partsL ar u1), ((lcs.take (((ml - 1)) * 1)) ++ ds1), ((ml - 1)) + (partsL ar u1).length, v8, ((r.take ((mr - 1))) ++ partsL ar u2), ((rcs.take (((mr - 1)) * 1)) ++ ds2), ((mr - 1)) + (partsL ar u2).length, F2), _, (qm (qm leG1 le1) le2), rF, ⟨rfl, rfl, rfl, rfl, ⟨⟩⟩, (qO (qE (A := [_])) (qO (qE (A := [_])) (qO (qE (A := [_, _, _, _])) (qO (qE (A := [_, _, _, _])) (qO (qE (A := [_, _, _, _])) (sC (sC (sC (sC (sC sR)))))))))), ⟨rfl, (qm (qm leG1 le1) le2), (hbC), (hσ), (hs3), (hc6), (by (try dsimp only); (try rw [List.length_append]); rw [List.length_take]; omega), (hs4), (hc7), (by (try dsimp only); (try rw [List.length_append]); rw [List.length_take]; omega), (by (try dsimp only); (try rw [ehl]); (try rw [ehr]); exact hMI.parts hp hu hv (by omega) (by omega)), (by (try dsimp only); (try rw [ehl]); (try rw [ehr]); exact hSt.parts hp hwu hu.w)⟩, (by (try dsimp only); (try rw [ehl]); (try rw [ehr]); exact hMI.mu_parts hp hσ hu hv (by omega) (by omega))⟩
  refine qp (t := 64) rfl (vF h2) (qp (t := 64) rfl (vF h2) (qp (t := 64) rfl (vF h2) (qp (t := 64) rfl (vF h2) (cX (qS (.bool (false)) (vF h2) rfl (qg (.bool (false)) rfl (qb (jz rfl (qc (qa (qf (v3) rfl ?_)))))))))))
  refine cX (ql 0 qd qo rfl rfl rfl hv3.slv (by omega) (Nat.mul_one _) (cX (qi qK rfl (hv3.rd (by omega)) (cX (qL rfl rfl (qg (.bool (decide ((u1.getD 0 0 : Int) < 0))) rfl (qb ?_)))))))
  refine qx (p := (u1.getD 0 0 : Int) < 0) rfl (fun h7 => ?_) (fun h7 => ?_)
  ·refine qc (qc (qa ?_))
   skip
   refine qf (ptr ub 0) rfl (qf (v3) rfl (cX (ql 0 qd qo rfl rfl rfl hv3.slv (by omega) (Nat.mul_one _) (cX (qi qK rfl (hv3.rd (by omega)) (qf (v4) rfl (ji (qE (A := [_])) ?_)))))))
   show XL _ _ _ _ _ _ _ (slH 22 1 ov 48 bcs :: cellsH ub [ov] 282 :: slH 22 1 v6 ((mr - 1)) ((rcs.take (((mr - 1)) * 1))) :: slH 22 1 v5 ((ml - 1)) ((lcs.take (((ml - 1)) * 1))) :: cellsH b1 [arv] 31 :: L)
   refine ji (qE (A := [_])) ?_
   show XL _ _ _ _ _ _ _ (cellsH ub [ov] 282 :: slH 22 1 ov 48 bcs :: slH 22 1 v6 ((mr - 1)) ((rcs.take (((mr - 1)) * 1))) :: slH 22 1 v5 ((ml - 1)) ((lcs.take (((ml - 1)) * 1))) :: cellsH b1 [arv] 31 :: L)
   refine cX (qt (args := [ptr ub 0, ii (u1.getD 0 0), v4]) call246 rfl (occurs2_spec hov hbC hMI.ok hv4 hv.w hσ (by omega) (hu.top.resolve_left (by omega))) ?_)
   rintro _ _ _ _ ⟨rfl, rfl, rfl⟩
   refine qb ?_
   refine qx (p := u1.getD 0 0 ∈ ap σ u2) rfl (fun h8 => ?_) (fun h8 => ?_)
   ·have hocc := h8
    refine qc (qa (qg (.bool (false)) rfl (qb (qy (qk (qz (qz (qk (qz (qk (qs (L' := cellsH ub [ov] 282 :: slH 22 1 ov 48 bcs :: L) [.bool (false)] (.bool (false)) (.tmp rfl .nil) rfl leG1 rF (sC (sC (sD (sD (sD sR))))) ?_)))))))))))
    exact ⟨_, _, _, rfl, hbC, fun h => (by cases h), fun _ => hMI.occL hp hσ hu hv (by omega) (by omega) hocc, rfl⟩
   have hx0 : u1.getD 0 0 < 0 := by omega
   have hxf := hu.top.resolve_left (by omega : ¬ 0 ≤ u1.getD 0 0)
   have hMB := hMI.bindL hp hσ hu hv hx0 h8
   have hno9 := h8
   obtain ⟨σ1, hσ1⟩ := hMB.ok.sol
   refine qw ?_
   refine jn [cellsH ub [ov] 282, slH 22 1 ov 48 bcs, slH 22 1 v6 ((mr - 1)) ((rcs.take (((mr - 1)) * 1))), slH 22 1 v5 ((ml - 1)) ((lcs.take (((ml - 1)) * 1))), cellsH b1 [arv] 31] L 9 [] [[], [0], [1], [2], [], [4], [5], [6]] (phiL [qe (ptr ub 0), qe (ptr ub 0), qe (ptr ub 0), qe ov, qe v3, qe (.pointer (some (elemA v3 (0)))), qe (ii (u1.getD 0 0)), qe (ii ((-1) - (u1.getD 0 0))), qe v4]) (ownL []) mixed rfl rfl (by kernel_rfl) ?_ ?_
   ·refine pD (fun W R z9 => ?_) ?_
    ·refine qh (qj (ptr ub 0) rfl ?_)
     exact ⟨rfl, rfl, rfl⟩
    refine pD (fun W R z9 => ?_) ?_
    ·rw [eS (l := [(0, _)]) ⟨z9 0 rfl, ⟨⟩⟩]
     refine qh (jc rfl ?_)
     exact ⟨rfl, rfl, rfl⟩
    refine pD (fun W R z9 => ?_) ?_
    ·rw [eS (l := [(1, _)]) ⟨z9 1 rfl, ⟨⟩⟩]
     refine qh (qn (0) jS rfl jg (by decide) rfl rfl ?_)
     exact ⟨rfl, rfl, rfl⟩
    refine pD (fun W R z9 => ?_) ?_
    ·rw [eS (l := [(2, _)]) ⟨z9 2 rfl, ⟨⟩⟩]
     refine qh (qi jE rfl (Rd.own [] rfl rfl) ?_)
     exact ⟨rfl, rfl, rfl⟩
    refine pD (fun W R z9 => ?_) ?_
    ·refine qh (qj (v3) rfl ?_)
     exact ⟨rfl, rfl, rfl⟩
    refine pD (fun W R z9 => ?_) ?_
    ·rw [eS (l := [(4, _)]) ⟨z9 4 rfl, ⟨⟩⟩]
     refine qh (ql 0 qd qo rfl rfl rfl hv3.slv (by omega) (Nat.mul_one _) ?_)
     exact ⟨rfl, rfl, rfl⟩
    refine pD (fun W R z9 => ?_) ?_
    ·rw [eS (l := [(5, _)]) ⟨z9 5 rfl, ⟨⟩⟩]
     refine qh (qi qK rfl (hv3.rd (by omega)) ?_)
     exact ⟨rfl, rfl, rfl⟩
    refine pD (fun W R z9 => ?_) ?_
    ·rw [eS (l := [(6, _)]) ⟨z9 6 rfl, ⟨⟩⟩]
     refine qh (qY ((-1) - (u1.getD 0 0)) rfl rfl (by omega) (by omega) ?_)
     exact ⟨rfl, rfl, rfl⟩
    refine pD (fun W R z9 => ?_) ?_
    ·refine qh (qj (v4) rfl ?_)
     exact ⟨rfl, rfl, rfl⟩
    exact stepsP.nil
   intro W hphi
   rw [eS (l := [(3, _), (7, _), (8, _)]) ⟨(hphi 3 (by decide)), (hphi 7 (by decide)), (hphi 8 (by decide)), ⟨⟩⟩]
   show XL _ _ _ _ _ _ _ (cellsH ub [ov] 282 :: slH 22 1 ov 48 bcs :: slH 22 1 v6 ((mr - 1)) ((rcs.take (((mr - 1)) * 1))) :: slH 22 1 v5 ((ml - 1)) ((lcs.take (((ml - 1)) * 1))) :: cellsH b1 [arv] 31 :: L)
   refine cX (ql (((-1) - (u1.getD 0 0)).toNat) qA qr rfl rfl (by omega) (SlV.own [_] rfl) (by omega) (Nat.mul_one _) (cX (XOp.storeS (i := ((-1) - (u1.getD 0 0)).toNat) (cs := bcs) [_] _ qr rfl rfl (qZ (qG hv4)) rfl (by have h9 := CO.len hbC; (try simp only [List.length_set, List.length_replicate] at h9 ⊢) <;> omega) ?_)))
   have hc8 := hbC.set (((-1) - (u1.getD 0 0)).toNat) hv4
   refine qb ?_
   exact ⟨((bcs.set (((-1) - (u1.getD 0 0)).toNat) v4), (b.set (((-1) - (u1.getD 0 0)).toNat) u2), σ1, v5, (l.take ((ml - 1))), (lcs.take (((ml - 1)) * 1)), (ml - 1), v6, (r.take ((mr - 1))), (rcs.take (((mr - 1)) * 1)), (mr - 1), G1), _, leG1, rF, ⟨rfl, rfl, rfl, rfl, ⟨⟩⟩, (qO (qE (A := [_])) (qO (qE (A := [_])) (qO (qE (A := [_, _, _, _])) (qO (qE (A := [_, _, _, _])) (qO (qE (A := [_, _, _, _])) (sC (sC (sC (sC (sC sR)))))))))), ⟨rfl, leG1, (hc8), (hσ1), (hs1), (hc3), (by (try dsimp only); (try rw [List.length_append]); rw [List.length_take]; omega), (hs2), (hc4), (by (try dsimp only); (try rw [List.length_append]); rw [List.length_take]; omega), (by (try dsimp only); (try rw [ehl]); (try rw [ehr]); exact hMB), (by (try dsimp only); (try rw [ehl]); (try rw [ehr]); exact (hSt.bind hMI.ok hx0 (by omega) hxf).cut)⟩, (by (try dsimp only); (try rw [ehl]); (try rw [ehr]); exact hMI.mu_bind hp hσ hx0 (by omega) hxf hv.w hno9 hσ1 (.inr (by rw [hv.same σ hσ.sat])))⟩
  refine qc (qa (qf (v4) rfl (cX (ql 0 qd qo rfl rfl rfl hv4.slv (by omega) (Nat.mul_one _) (cX (qi qK rfl (hv4.rd (by omega)) (cX (qL rfl rfl (qg (.bool (decide ((u2.getD 0 0 : Int) < 0))) rfl (qb ?_))))))))))
  refine qx (p := (u2.getD 0 0 : Int) < 0) rfl (fun h9 => ?_) (fun h9 => ?_)
  ·refine qc (qc (qa ?_))
   skip
   refine qf (ptr ub 0) rfl (qf (v4) rfl (cX (ql 0 qd qo rfl rfl rfl hv4.slv (by omega) (Nat.mul_one _) (cX (qi qK rfl (hv4.rd (by omega)) (qf (v3) rfl (ji (qE (A := [_])) ?_)))))))
   show XL _ _ _ _ _ _ _ (slH 22 1 ov 48 bcs :: cellsH ub [ov] 282 :: slH 22 1 v6 ((mr - 1)) ((rcs.take (((mr - 1)) * 1))) :: slH 22 1 v5 ((ml - 1)) ((lcs.take (((ml - 1)) * 1))) :: cellsH b1 [arv] 31 :: L)
   refine ji (qE (A := [_])) ?_
   show XL _ _ _ _ _ _ _ (cellsH ub [ov] 282 :: slH 22 1 ov 48 bcs :: slH 22 1 v6 ((mr - 1)) ((rcs.take (((mr - 1)) * 1))) :: slH 22 1 v5 ((ml - 1)) ((lcs.take (((ml - 1)) * 1))) :: cellsH b1 [arv] 31 :: L)
   refine cX (qt (args := [ptr ub 0, ii (u2.getD 0 0), v3]) call246 rfl (occurs2_spec hov hbC hMI.ok hv3 hu.w hσ (by omega) (hv.top.resolve_left (by omega))) ?_)
   rintro _ _ _ _ ⟨rfl, rfl, rfl⟩
   refine qb ?_
   refine qx (p := u2.getD 0 0 ∈ ap σ u1) rfl (fun h10 => ?_) (fun h10 => ?_)
   ·have hocc := h10
    refine qc (qa (qg (.bool (false)) rfl (qb (qy (qk (qz (qz (qk (qz (qk (qs (L' := cellsH ub [ov] 282 :: slH 22 1 ov 48 bcs :: L) [.bool (false)] (.bool (false)) (.tmp rfl .nil) rfl leG1 rF (sC (sC (sD (sD (sD sR))))) ?_)))))))))))
    exact ⟨_, _, _, rfl, hbC, fun h => (by cases h), fun _ => hMI.occR hp hσ hu hv (by omega) (by omega) hocc, rfl⟩
   have hx0 : u2.getD 0 0 < 0 := by omega
   have hxf := hv.top.resolve_left (by omega : ¬ 0 ≤ u2.getD 0 0)
   have hMB := hMI.bindR hp hσ hu hv hx0 h10
   have hno9 := h10
   obtain ⟨σ1, hσ1⟩ := hMB.ok.sol
   refine qw ?_
   refine jn [cellsH ub [ov] 282, slH 22 1 ov 48 bcs, slH 22 1 v6 ((mr - 1)) ((rcs.take (((mr - 1)) * 1))), slH 22 1 v5 ((ml - 1)) ((lcs.take (((ml - 1)) * 1))), cellsH b1 [arv] 31] L 9 [] [[], [0], [1], [2], [], [4], [5], [6]] (phiL [qe (ptr ub 0), qe (ptr ub 0), qe (ptr ub 0), qe ov, qe v4, qe (.pointer (some (elemA v4 (0)))), qe (ii (u2.getD 0 0)), qe (ii ((-1) - (u2.getD 0 0))), qe v3]) (ownL []) mixed rfl rfl (by kernel_rfl) ?_ ?_
   ·refine pD (fun W R z9 => ?_) ?_
    ·refine qh (qj (ptr ub 0) rfl ?_)
     exact ⟨rfl, rfl, rfl⟩
    refine pD (fun W R z9 => ?_) ?_
    ·rw [eS (l := [(0, _)]) ⟨z9 0 rfl, ⟨⟩⟩]
     refine qh (jc rfl ?_)
     exact ⟨rfl, rfl, rfl⟩
    refine pD (fun W R z9 => ?_) ?_
    ·rw [eS (l := [(1, _)]) ⟨z9 1 rfl, ⟨⟩⟩]
     refine qh (qn (0) jS rfl jg (by decide) rfl rfl ?_)
     exact ⟨rfl, rfl, rfl⟩
    refine pD (fun W R z9 => ?_) ?_
    ·rw [eS (l := [(2, _)]) ⟨z9 2 rfl, ⟨⟩⟩]
     refine qh (qi jE rfl (Rd.own [] rfl rfl) ?_)
     exact ⟨rfl, rfl, rfl⟩
    refine pD (fun W R z9 => ?_) ?_
    ·refine qh (qj (v4) rfl ?_)
     exact ⟨rfl, rfl, rfl⟩
    refine pD (fun W R z9 => ?_) ?_
    ·rw [eS (l := [(4, _)]) ⟨z9 4 rfl, ⟨⟩⟩]
     refine qh (ql 0 qd qo rfl rfl rfl hv4.slv (by omega) (Nat.mul_one _) ?_)
     exact ⟨rfl, rfl, rfl⟩
    refine pD (fun W R z9 => ?_) ?_
    ·rw [eS (l := [(5, _)]) ⟨z9 5 rfl, ⟨⟩⟩]
     refine qh (qi qK rfl (hv4.rd (by omega)) ?_)
     exact ⟨rfl, rfl, rfl⟩
    refine pD (fun W R z9 => ?_) ?_
    ·rw [eS (l := [(6, _)]) ⟨z9 6 rfl, ⟨⟩⟩]
     refine qh (qY ((-1) - (u2.getD 0 0)) rfl rfl (by omega) (by omega) ?_)
     exact ⟨rfl, rfl, rfl⟩
    refine pD (fun W R z9 => ?_) ?_
    ·refine qh (qj (v3) rfl ?_)
     exact ⟨rfl, rfl, rfl⟩
    exact stepsP.nil
   intro W hphi
   rw [eS (l := [(3, _), (7, _), (8, _)]) ⟨(hphi 3 (by decide)), (hphi 7 (by decide)), (hphi 8 (by decide)), ⟨⟩⟩]
   show XL _ _ _ _ _ _ _ (cellsH ub [ov] 282 :: slH 22 1 ov 48 bcs :: slH 22 1 v6 ((mr - 1)) ((rcs.take (((mr - 1)) * 1))) :: slH 22 1 v5 ((ml - 1)) ((lcs.take (((ml - 1)) * 1))) :: cellsH b1 [arv] 31 :: L)
   refine cX (ql (((-1) - (u2.getD 0 0)).toNat) qA qr rfl rfl (by omega) (SlV.own [_] rfl) (by omega) (Nat.mul_one _) (cX (XOp.storeS (i := ((-1) - (u2.getD 0 0)).toNat) (cs := bcs) [_] _ qr rfl rfl (qZ (qG hv3)) rfl (by have h9 := CO.len hbC; (try simp only [List.length_set, List.length_replicate] at h9 ⊢) <;> omega) ?_)))
   have hc9 := hbC.set (((-1) - (u2.getD 0 0)).toNat) hv3
   refine qb ?_
   exact ⟨((bcs.set (((-1) - (u2.getD 0 0)).toNat) v3), (b.set (((-1) - (u2.getD 0 0)).toNat) u1), σ1, v5, (l.take ((ml - 1))), (lcs.take (((ml - 1)) * 1)), (ml - 1), v6, (r.take ((mr - 1))), (rcs.take (((mr - 1)) * 1)), (mr - 1), G1), _, leG1, rF, ⟨rfl, rfl, rfl, rfl, ⟨⟩⟩, (qO (qE (A := [_])) (qO (qE (A := [_])) (qO (qE (A := [_, _, _, _])) (qO (qE (A := [_, _, _, _])) (qO (qE (A := [_, _, _, _])) (sC (sC (sC (sC (sC sR)))))))))), ⟨rfl, leG1, (hc9), (hσ1), (hs1), (hc3), (by (try dsimp only); (try rw [List.length_append]); rw [List.length_take]; omega), (hs2), (hc4), (by (try dsimp only); (try rw [List.length_append]); rw [List.length_take]; omega), (by (try dsimp only); (try rw [ehl]); (try rw [ehr]); exact hMB), (by (try dsimp only); (try rw [ehl]); (try rw [ehr]); exact (hSt.bind hMI.ok hx0 (by omega) hxf).cut)⟩, (by (try dsimp only); (try rw [ehl]); (try rw [ehr]); exact hMI.mu_bind hp hσ hx0 (by omega) hxf hu.w hno9 hσ1 (.inl (by rw [hu.same σ hσ.sat])))⟩
  refine qc ?_
  refine jn [cellsH ub [ov] 282, slH 22 1 ov 48 bcs, slH 22 1 v6 ((mr - 1)) ((rcs.take (((mr - 1)) * 1))), slH 22 1 v5 ((ml - 1)) ((lcs.take (((ml - 1)) * 1))), cellsH b1 [arv] 31] L 6 [] [[], [0], [1], [], [3], [4]] (phiL [qe v3, qe (.pointer (some (elemA v3 (0)))), qe (ii (u1.getD 0 0)), qe v4, qe (.pointer (some (elemA v4 (0)))), qe (ii (u2.getD 0 0))]) (ownL []) mixed rfl rfl (by kernel_rfl) ?_ ?_
  ·refine pD (fun W R z9 => ?_) ?_
   ·refine qh (qj (v3) rfl ?_)
    exact ⟨rfl, rfl, rfl⟩
   refine pD (fun W R z9 => ?_) ?_
   ·rw [eS (l := [(0, _)]) ⟨z9 0 rfl, ⟨⟩⟩]
    refine qh (ql 0 qd qo rfl rfl rfl hv3.slv (by omega) (Nat.mul_one _) ?_)
    exact ⟨rfl, rfl, rfl⟩
   refine pD (fun W R z9 => ?_) ?_
   ·rw [eS (l := [(1, _)]) ⟨z9 1 rfl, ⟨⟩⟩]
    refine qh (qi qK rfl (hv3.rd (by omega)) ?_)
    exact ⟨rfl, rfl, rfl⟩
   refine pD (fun W R z9 => ?_) ?_
   ·refine qh (qj (v4) rfl ?_)
    exact ⟨rfl, rfl, rfl⟩
   refine pD (fun W R z9 => ?_) ?_
   ·rw [eS (l := [(3, _)]) ⟨z9 3 rfl, ⟨⟩⟩]
    refine qh (ql 0 qd qo rfl rfl rfl hv4.slv (by omega) (Nat.mul_one _) ?_)
    exact ⟨rfl, rfl, rfl⟩
   refine pD (fun W R z9 => ?_) ?_
   ·rw [eS (l := [(4, _)]) ⟨z9 4 rfl, ⟨⟩⟩]
    refine qh (qi qK rfl (hv4.rd (by omega)) ?_)
    exact ⟨rfl, rfl, rfl⟩
   exact stepsP.nil
  intro W hphi
  rw [eS (l := [(2, _), (5, _)]) ⟨(hphi 2 (by decide)), (hphi 5 (by decide)), ⟨⟩⟩]
  show XL _ _ _ _ _ _ _ (cellsH ub [ov] 282 :: slH 22 1 ov 48 bcs :: slH 22 1 v6 ((mr - 1)) ((rcs.take (((mr - 1)) * 1))) :: slH 22 1 v5 ((ml - 1)) ((lcs.take (((ml - 1)) * 1))) :: cellsH b1 [arv] 31 :: L)
  refine cX (XOp.neq rfl rfl (qg (.bool (decide ((u1.getD 0 0 : Int) ≠ u2.getD 0 0))) rfl (qb ?_)))
  refine qx (p := (u1.getD 0 0 : Int) ≠ u2.getD 0 0) rfl (fun h11 => ?_) (fun h11 => ?_)
  ·refine qc (qa (qg (.bool (false)) rfl (qb (qy (qz (qz (qk (qz (qk (qs (L' := cellsH ub [ov] 282 :: slH 22 1 ov 48 bcs :: L) [.bool (false)] (.bool (false)) (.tmp rfl .nil) rfl leG1 rF (sC (sC (sD (sD (sD sR))))) ?_))))))))))
   exact ⟨_, _, _, rfl, hbC, fun h => (by cases h), fun _ => hMI.heads hp hu hv (by omega) (by omega) (by omega), rfl⟩
  refine qc (qa ?_)
  have hpu3 := parts_le3 huw
  have hpv3 := parts_le3 hvw
  refine qf (v5) rfl (cX (qB [arv] je qN rfl rfl (Rd.ownN [_, _, _, _] rfl rfl) (qf (v3) rfl (cX (qt (args := [.agg #[arv], v3]) call149 rfl (l13Parts_spec har hv3 (ho := (by first | assumption | rfl | omega | simp))) ?_)))))
  rintro _ F3 _ le3 ⟨x3, rfl, hr3, rfl⟩
  replace har := har.mono le3
  replace hbC := hbC.mono le3
  replace hv4 := hv4.mono le3
  replace hc3 := hc3.mono le3
  replace hc4 := hc4.mono le3
  refine cX (XOp.appendRows (bytes := 24) (cs := (lcs.take (((ml - 1)) * 1))) [_, _, _] _ qA typeInfo22 rfl rfl rfl rfl rfl rfl rfl hc3 hr3 (by omega) (by omega) ?_)
  intro v9 ds3 hs5 hc10
  refine qg (v9) rfl (qb (qa (qf (v6) rfl (cX (qB [arv] je qN rfl rfl (Rd.ownN [_, _, _, _] rfl rfl) (qf (v4) rfl (cX (qt (args := [.agg #[arv], v4]) call149 rfl (l13Parts_spec har hv4 (ho := (by first | assumption | rfl | omega | simp))) ?_))))))))
  rintro _ F4 _ le4 ⟨x4, rfl, hr4, rfl⟩
  replace hbC := hbC.mono le4
  replace hc4 := hc4.mono le4
  replace hc10 := hc10.mono le4
  refine cX (XOp.appendRows (bytes := 24) (cs := (rcs.take (((mr - 1)) * 1))) [_, _] _ qA typeInfo22 rfl rfl rfl rfl rfl rfl rfl hc4 hr4 (by omega) (by omega) ?_)
  intro v10 ds4 hs6 hc11
  refine qg (v10) rfl (qb ?_)
  exact ⟨(bcs, b, σ, v9, ((l.take ((ml - 1))) ++ partsL ar u1), ((lcs.take (((ml - 1)) * 1)) ++ ds3), ((ml - 1)) + (partsL ar u1).length, v10, ((r.take ((mr - 1))) ++ partsL ar u2), ((rcs.take (((mr - 1)) * 1)) ++ ds4), ((mr - 1)) + (partsL ar u2).length, F4), _, (qm (qm leG1 le3) le4), rF, ⟨rfl, rfl, rfl, rfl, ⟨⟩⟩, (qO (qE (A := [_])) (qO (qE (A := [_])) (qO (qE (A := [_, _, _, _])) (qO (qE (A := [_, _, _, _])) (qO (qE (A := [_, _, _, _])) (sC (sC (sC (sC (sC sR)))))))))), ⟨rfl, (qm (qm leG1 le3) le4), (hbC), (hσ), (hs5), (hc10), (by (try dsimp only); (try rw [List.length_append]); rw [List.length_take]; omega), (hs6), (hc11), (by (try dsimp only); (try rw [List.length_append]); rw [List.length_take]; omega), (by (try dsimp only); (try rw [ehl]); (try rw [ehr]); exact hMI.parts hp hu hv (by omega) (by omega)), (by (try dsimp only); (try rw [ehl]); (try rw [ehr]); exact hSt.parts hp hwu hu.w)⟩, (by (try dsimp only); (try rw [ehl]); (try rw [ehr]); exact hMI.mu_parts hp hσ hu hv (by omega) (by omega))⟩
 refine ja (qu (qu (qJ (qc (qa (qg (.bool (true)) rfl (qb (qy (qs (L' := cellsH ub [ov] 282 :: slH 22 1 ov 48 bcs :: L) [.bool (true)] (.bool (true)) (.tmp rfl .nil) rfl leG1 rF (sD (sD (sD (sC (sC sR))))) ?_)))))))))
 exact ⟨_, _, _, rfl, hbC, fun _ => (by have e9 : l = [] := List.eq_nil_of_length_eq_zero (by omega); rw [e9] at hMI; exact hMI.done), fun h => (by cases h), rfl⟩
end Go.Proofs.YtcdjpapjjoldeaaGreat
