/-
  Walks, one after the other (part 3).
-/
import Derived.Test.YtcdjpapjjoldeaaQRL2
import Derived.Test.YtcdjpapjjoldeaaQRB1
import Derived.Test.YtcdjpapjjoldeaaQRB0
set_option linter.unusedSimpArgs false
set_option linter.unusedVariables false
namespace Go.Proofs.Ytcdjpapjjoldeaa
open Go X M Try

/- impl.overlap -/
set_option maxHeartbeats 1000000 in
set_option maxRecDepth 20000 in
theorem overlap_spec {F : FH} {L : List HP} {arv : Value} {ar : List Int} (har : IntsF F arv ar) {rsv : Value} {rs : List (List Int × List Int)} (hrs : PairsF F rsv rs) {o : Nat} {p : Nat} {u : Nat} (hsys : sysOk ar rs = true) (ho : o < rs.length) (hu : u < rs.length) (hp : p < (rs.getD o ([], [])).1.length) :
    Does prog 181 [.agg #[arv, rsv], ii ((o : Int)), ii ((p : Int)), ii ((u : Int))] F (L) (fun v F' L' => ((.tuple #[.pointer none, .bool false] : Value) = v ∧ meetB ar rs o p u = false ∧ L = L') ∨ (∃ b7 : Nat, (.tuple #[ptr b7 0, .bool false] : Value) = v ∧ meetB ar rs o p u = false ∧ L = L') ∨ (∃ (b7 : Nat) (b9 : List Value) (l9 : RowL), (.tuple #[ptr b7 0, .bool true] : Value) = v ∧ meetB ar rs o p u = true ∧ BindC F' b9 l9 ∧ MguP ar rs o p u l9 ∧ cellsH b7 (arv :: b9) 200 :: L = L')) := by
 refine ym func181 rfl rfl rfl ?_
 have hlo : termOk ar (rs.getD o ([], [])).1 = true := rule_L hsys ho
 have hllo : 1 ≤ (rs.getD o ([], [])).1.length ∧ (rs.getD o ([], [])).1.length ≤ 60 := termOk_len hlo
 have hglo : ∀ k, k < (rs.getD o ([], [])).1.length → -24 ≤ (rs.getD o ([], [])).1.getD k 0 := fun k h => termOk_ge hlo h
 have hlu : termOk ar (rs.getD u ([], [])).1 = true := rule_L hsys hu
 have hllu : 1 ≤ (rs.getD u ([], [])).1.length ∧ (rs.getD u ([], [])).1.length ≤ 60 := termOk_len hlu
 have hglu : ∀ k, k < (rs.getD u ([], [])).1.length → -24 ≤ (rs.getD u ([], [])).1.getD k 0 := fun k h => termOk_ge hlu h
 have hro : termOk ar (rs.getD o ([], [])).2 = true := rule_R hsys ho
 have hlro : 1 ≤ (rs.getD o ([], [])).2.length ∧ (rs.getD o ([], [])).2.length ≤ 60 := termOk_len hro
 have hgro : ∀ k, k < (rs.getD o ([], [])).2.length → -24 ≤ (rs.getD o ([], [])).2.getD k 0 := fun k h => termOk_ge hro h
 have hru : termOk ar (rs.getD u ([], [])).2 = true := rule_R hsys hu
 have hlru : 1 ≤ (rs.getD u ([], [])).2.length ∧ (rs.getD u ([], [])).2.length ≤ 60 := termOk_len hru
 have hgru : ∀ k, k < (rs.getD u ([], [])).2.length → -24 ≤ (rs.getD u ([], [])).2.getD k 0 := fun k h => termOk_ge hru h
 have hrl := (sysOk_iff.1 hsys).2.1
 have hsig := (sysOk_iff.1 hsys).1
 have hsl := sigOk_spec hsig
 refine qX (qH (cX (yD [arv, rsv] rfl rfl ?_)))
 intro b1
 refine jc ((.pointer none)) rfl (jc (.bool (false)) rfl (qI (qX (qX (qH (jb (ii ((o : Int))) rfl (jb (ii ((u : Int))) rfl (cX (yU rfl rfl (jb (.bool (decide ((o : Int) = (u : Int)))) rfl ?_))))))))))
 by_cases h1 : (o : Int) = (u : Int)
 ·refine jB (t := 14) rfl (vT h1) (jk (ii ((p : Int))) rfl (jB (t := 14) rfl (vT h1) (yU rfl rfl (cX (yp (.bool (decide ((p : Int) = 0))) (vT h1) rfl (qI ?_))))))
  refine jV (p := (p : Int) = 0) rfl (fun h2 => ?_) (fun h2 => ?_)
  ·refine qX (qH (jc ((.pointer none)) rfl (jc (.bool (false)) rfl (qI (jW (jw (jR (L' := L) [(.pointer none), .bool (false)] (.tuple #[(.pointer none), .bool (false)]) (.tmp rfl (.tmp rfl .nil)) rfl rF rF (sD sR) ?_)))))))
   exact .inl ⟨rfl, meet_self (by omega), rfl⟩
  refine jU (qX (qH (cX (jE (0) yq rfl ys (by decide) rfl rfl (cX (yc [arv] yF ys rfl rfl (Rd.ownN [] rfl rfl) (cX (yJ [arv, sN, sN, sN, sN, sN, sN, sN, sN, sN, sN, sN, sN, sN, sN, sN, sN, sN, sN, sN, sN, sN, sN, sN, sN, sN, sN, sN, sN, sN, sN, sN, sN, sN, sN, sN, sN, sN, sN, sN, sN, sN, sN, sN, sN, sN, sN, sN, sN] [sN, sN, sN, sN, sN, sN, sN, sN, sN, sN, sN, sN, sN, sN, sN, sN, sN, sN, sN, sN, sN, sN, sN, sN, sN, sN, sN, sN, sN, sN, sN, sN, sN, sN, sN, sN, sN, sN, sN, sN, sN, sN, sN, sN, sN, sN, sN, sN, sN] [(0, 1), (1, 48)] [(0, [arv])] Qa zeroValue200 rfl (.cons rfl ys (.cons rfl sizeOf198 PlacesAre.nil)) rfl (.cons rfl CellsAre.nil) (cX (yD [arv, sN, sN, sN, sN, sN, sN, sN, sN, sN, sN, sN, sN, sN, sN, sN, sN, sN, sN, sN, sN, sN, sN, sN, sN, sN, sN, sN, sN, sN, sN, sN, sN, sN, sN, sN, sN, sN, sN, sN, sN, sN, sN, sN, sN, sN, sN, sN, sN] rfl rfl ?_))))))))))
  intro b2
  refine jc (ptr b2 0) rfl ?_
  have hc1 : BindC F _ _ := BindC.nils 48
  show XL _ _ _ _ _ _ _ (cellsH b2 (arv :: ((List.replicate 48 (sN)))) 200 :: cellsH b1 [arv, rsv] 32 :: L)
  skip
  refine qI (qX (X.free0 mixed (by kernel_rfl) (by kernel_rfl) (fun _ _ _ _ _ h => by obtain ⟨h1 | h1, _⟩ := h <;> cases h1) (fun _ _ _ h => by obtain ⟨h1 | h1, _⟩ := h <;> cases h1) ?_))
  obtain ⟨a1, a2, ha1, ha2, hr1, hr2⟩ := hrs.rd (i := o) (by omega)
  obtain ⟨a3, a4, ha3, ha4, hr3, hr4⟩ := hrs.rd (i := u) (by omega)
  refine XA.drawG [cellsH b2 (arv :: ((List.replicate 48 (sN)))) 200, cellsH b1 [arv, rsv] 32] L 19 [[], [], [], [], [], [], [], [], [], [], [], [], [], [], [], [], [], [], []] [[], [], [], [2], [], [4], [], [5, 6], [7], [8], [], [3, 9, 10], [], [12], [], [13, 14], [15], [16], [17]] [[], [], [], [], [], [], [], [], [], [], [], [], [], [], [], [], [], [], []] (phiG [fun FF us v => v = ptr b2 0, fun FF us v => v = ptr b2 0, fun FF us v => v = ptr b1 0, fun FF us v => v = (.agg #[arv] : Value), fun FF us v => v = ptr b1 1, fun FF us v => v = rsv, fun FF us v => v = (ii ((o : Int)) : Value), fun FF us v => v = (.pointer (some (elemA rsv (o * 2))) : Value), fun FF us v => v = (.pointer (some (elemA rsv (o * 2))) : Value), fun FF us v => v = a1, fun FF us v => v = (ii ((p : Int)) : Value), fun FF us v => ((v) : Value) = v ∧ (IntsF FF (v) (sub ar ((rs.getD o ([], [])).1) p)) ∧ (isNil (v) = false), fun FF us v => v = ptr b1 1, fun FF us v => v = rsv, fun FF us v => v = (ii ((u : Int)) : Value), fun FF us v => v = (.pointer (some (elemA rsv (u * 2))) : Value), fun FF us v => v = (.pointer (some (elemA rsv (u * 2))) : Value), fun FF us v => v = a3, fun FF us v => ((v) : Value) = v ∧ (IntsF FF (v) (awayL ((rs.getD u ([], [])).1)))]) (ownL [fun us v => [], fun us v => [], fun us v => [], fun us v => [], fun us v => [], fun us v => [], fun us v => [], fun us v => [], fun us v => [], fun us v => [], fun us v => [], fun us v => [], fun us v => [], fun us v => [], fun us v => [], fun us v => [], fun us v => [], fun us v => [], fun us v => []]) rfl rfl (by kernel_rfl) (by kernel_rfl) (MonoG.get (mC (fun le h => h) (mC (fun le h => h) (mC (fun le h => h) (mC (fun le h => h) (mC (fun le h => h) (mC (fun le h => h) (mC (fun le h => h) (mC (fun le h => h) (mC (fun le h => h) (mC (fun le h => h) (mC (fun le h => h) (mC (fun le h => ⟨h.1, h.2.1.mono le, h.2.2⟩) (mC (fun le h => h) (mC (fun le h => h) (mC (fun le h => h) (mC (fun le h => h) (mC (fun le h => h) (mC (fun le h => h) (mC (fun le h => ⟨h.1, h.2.mono le⟩) MonoG.nil)))))))))))))))))))) ?_ ?_
  ·refine gD (fun W Fs R lF z9 => ?_) ?_
   ·refine je (jk (ptr b2 0) rfl ?_)
    exact ⟨rfl, rfl⟩
   refine gD (fun W Fs R lF z9 => ?_) ?_
   ·refine je (jk (ptr b2 0) rfl ?_)
    exact ⟨rfl, rfl⟩
   refine gD (fun W Fs R lF z9 => ?_) ?_
   ·refine je (jE (0) yq rfl ys (by decide) rfl rfl ?_)
    exact ⟨rfl, rfl⟩
   refine gD (fun W Fs R lF z9 => ?_) ?_
   ·replace har := har.mono lF
    replace hrs := hrs.mono lF
    replace hc1 := hc1.mono lF
    replace ha1 := ha1.mono lF
    replace ha3 := ha3.mono lF
    replace hr1 := Rd.monoA hr1 lF
    replace hr3 := Rd.monoA hr3 lF
    rw [eS (l := [(2, _)]) ⟨z9 2 rfl, ⟨⟩⟩]
    refine je (yc [arv] yF ys rfl rfl (Rd.ownN [_] rfl rfl) ?_)
    exact ⟨rfl, rfl⟩
   refine gD (fun W Fs R lF z9 => ?_) ?_
   ·refine je (jE (1) yq rfl yZ (by decide) rfl rfl ?_)
    exact ⟨rfl, rfl⟩
   refine gD (fun W Fs R lF z9 => ?_) ?_
   ·replace har := har.mono lF
    replace hrs := hrs.mono lF
    replace hc1 := hc1.mono lF
    replace ha1 := ha1.mono lF
    replace ha3 := ha3.mono lF
    replace hr1 := Rd.monoA hr1 lF
    replace hr3 := Rd.monoA hr3 lF
    rw [eS (l := [(4, _)]) ⟨z9 4 rfl, ⟨⟩⟩]
    refine je (jj Qj rfl (Rd.own [_] rfl rfl) ?_)
    exact ⟨rfl, rfl⟩
   refine gD (fun W Fs R lF z9 => ?_) ?_
   ·refine je (jk (ii ((o : Int))) rfl ?_)
    exact ⟨rfl, rfl⟩
   refine gD (fun W Fs R lF z9 => ?_) ?_
   ·replace har := har.mono lF
    replace hrs := hrs.mono lF
    replace hc1 := hc1.mono lF
    replace ha1 := ha1.mono lF
    replace ha3 := ha3.mono lF
    replace hr1 := Rd.monoA hr1 lF
    replace hr3 := Rd.monoA hr3 lF
    rw [eS (l := [(5, _), (6, _)]) ⟨z9 5 rfl, z9 6 rfl, ⟨⟩⟩]
    refine je (jq o yy yS rfl rfl rfl hrs.slv (by omega) rfl ?_)
    exact ⟨rfl, rfl⟩
   refine gD (fun W Fs R lF z9 => ?_) ?_
   ·rw [eS (l := [(7, _)]) ⟨z9 7 rfl, ⟨⟩⟩]
    refine je (Qh (o * 2) yu rfl jF (by decide) rfl rfl ?_)
    exact ⟨rfl, rfl⟩
   refine gD (fun W Fs R lF z9 => ?_) ?_
   ·replace har := har.mono lF
    replace hrs := hrs.mono lF
    replace hc1 := hc1.mono lF
    replace ha1 := ha1.mono lF
    replace ha3 := ha3.mono lF
    replace hr1 := Rd.monoA hr1 lF
    replace hr3 := Rd.monoA hr3 lF
    rw [eS (l := [(8, _)]) ⟨z9 8 rfl, ⟨⟩⟩]
    refine je (jj yt rfl (hr1 _) ?_)
    exact ⟨rfl, rfl⟩
   refine gD (fun W Fs R lF z9 => ?_) ?_
   ·refine je (jk (ii ((p : Int))) rfl ?_)
    exact ⟨rfl, rfl⟩
   refine gD (fun W Fs R lF z9 => ?_) ?_
   ·replace har := har.mono lF
    replace hrs := hrs.mono lF
    replace hc1 := hc1.mono lF
    replace ha1 := ha1.mono lF
    replace ha3 := ha3.mono lF
    replace hr3 := Rd.monoA hr3 lF
    rw [eS (l := [(3, _), (9, _), (10, _)]) ⟨z9 3 rfl, z9 9 rfl, z9 10 rfl, ⟨⟩⟩]
    refine je (jL (args := [.agg #[arv], a1, ii (p : Int)]) call224 rfl (subAtW_spec (p := p) har ha1 (ho := (termW_of hlo)) (hp := (hp)) (hnn := (by first | assumption | exact notNil_of_pos (by assumption) (by omega)))) ?_)
    rintro v3 _ _ _ ⟨rfl, rfl, hv2, hn2⟩
    exact ⟨⟨rfl, hv2, hn2⟩, rfl⟩
   refine gD (fun W Fs R lF z9 => ?_) ?_
   ·refine je (jE (1) yq rfl yZ (by decide) rfl rfl ?_)
    exact ⟨rfl, rfl⟩
   refine gD (fun W Fs R lF z9 => ?_) ?_
   ·replace har := har.mono lF
    replace hrs := hrs.mono lF
    replace hc1 := hc1.mono lF
    replace ha3 := ha3.mono lF
    replace hr3 := Rd.monoA hr3 lF
    rw [eS (l := [(12, _)]) ⟨z9 12 rfl, ⟨⟩⟩]
    refine je (jj Qj rfl (Rd.own [_] rfl rfl) ?_)
    exact ⟨rfl, rfl⟩
   refine gD (fun W Fs R lF z9 => ?_) ?_
   ·refine je (jk (ii ((u : Int))) rfl ?_)
    exact ⟨rfl, rfl⟩
   refine gD (fun W Fs R lF z9 => ?_) ?_
   ·replace har := har.mono lF
    replace hrs := hrs.mono lF
    replace hc1 := hc1.mono lF
    replace ha3 := ha3.mono lF
    replace hr3 := Rd.monoA hr3 lF
    rw [eS (l := [(13, _), (14, _)]) ⟨z9 13 rfl, z9 14 rfl, ⟨⟩⟩]
    refine je (jq u yy yS rfl rfl rfl hrs.slv (by omega) rfl ?_)
    exact ⟨rfl, rfl⟩
   refine gD (fun W Fs R lF z9 => ?_) ?_
   ·rw [eS (l := [(15, _)]) ⟨z9 15 rfl, ⟨⟩⟩]
    refine je (Qh (u * 2) yu rfl jF (by decide) rfl rfl ?_)
    exact ⟨rfl, rfl⟩
   refine gD (fun W Fs R lF z9 => ?_) ?_
   ·replace har := har.mono lF
    replace hrs := hrs.mono lF
    replace hc1 := hc1.mono lF
    replace ha3 := ha3.mono lF
    replace hr3 := Rd.monoA hr3 lF
    rw [eS (l := [(16, _)]) ⟨z9 16 rfl, ⟨⟩⟩]
    refine je (jj yt rfl (hr3 _) ?_)
    exact ⟨rfl, rfl⟩
   refine gD (fun W Fs R lF z9 => ?_) ?_
   ·replace har := har.mono lF
    replace hrs := hrs.mono lF
    replace hc1 := hc1.mono lF
    replace ha3 := ha3.mono lF
    rw [eS (l := [(17, _)]) ⟨z9 17 rfl, ⟨⟩⟩]
    refine je (Qo <| jL (args := [a3]) call183 rfl (away_spec ha3 (hlt := (by omega)) (htg := (fun i hi => by have := hglu i hi; omega))) ?_)
    rintro v4 _ _ _ ⟨rfl, hs2, rfl⟩
    refine ⟨_, _, rfl, fun F1 le1 hz1 => ?_⟩
    replace har := har.mono le1
    replace hrs := hrs.mono le1
    replace hc1 := hc1.mono le1
    have hf1 : IntsF F1 v4 ((awayL ((rs.getD u ([], [])).1))) := intsH.fz (xs := (awayL ((rs.getD u ([], [])).1))) hz1.fz
    exact ⟨⟨rfl, hf1⟩, rfl⟩
   exact stepsG.nil
  intro W F2 le2 hphi
  obtain ⟨e11, f11_1ha, f11_1hn⟩ := hphi 11 (by decide)
  obtain ⟨e18, f18_1ha⟩ := hphi 18 (by decide)
  generalize hu1 : ((W 11)) = u1 at e11 f11_1ha f11_1hn e18 f18_1ha
  generalize hu2 : ((W 18)) = u2 at e11 f11_1ha f11_1hn e18 f18_1ha
  rw [eS (l := [(0, _), (1, _), (11, u1), (18, u2)]) ⟨(hphi 0 (by decide)), (hphi 1 (by decide)), hu1, hu2, ⟨⟩⟩]
  replace har := har.mono le2
  replace hrs := hrs.mono le2
  replace hc1 := hc1.mono le2
  show XL _ _ _ _ _ _ _ (cellsH b2 (arv :: ((List.replicate 48 (sN)))) 200 :: cellsH b1 [arv, rsv] 32 :: L)
  refine cX (jL (args := [ptr b2 0, u1, u2]) call208 rfl (solve_spec har hc1 BOk.nils f11_1ha f18_1ha (termW_of (sub_ok hlo hp)) (away_W hlu) (by first | assumption | exact notNil_of_pos f11_1ha (by have := termOk_len (sub_ok hlo hp); omega)) (notNil_of_pos f18_1ha (by rw [away_len]; omega))) ?_)
  rintro _ F3 _ le3 ⟨ok9, b3, l1, rfl, hb1, hy1, hn3, rfl⟩
  cases ok9
  ·replace har := har.mono le3
   replace hrs := hrs.mono le3
   refine jc (ptr b2 0) rfl (jc (.bool (false)) rfl (qI (jW (jR (L' := L) [ptr b2 0, .bool (false)] (.tuple #[ptr b2 0, .bool (false)]) (.tmp rfl (.tmp rfl .nil)) rfl (jl le2 le3) rF (sD (sD sR)) ?_))))
   exact .inr (.inl ⟨_, rfl, meet_no (nils_no (hn3 rfl)), rfl⟩)
  replace har := har.mono le3
  replace hrs := hrs.mono le3
  refine jc (ptr b2 0) rfl (jc (.bool (true)) rfl (qI (jW (jR (L' := cellsH b2 (arv :: b3) 200 :: L) [ptr b2 0, .bool (true)] (.tuple #[ptr b2 0, .bool (true)]) (.tmp rfl (.tmp rfl .nil)) rfl (jl le2 le3) rF (sC (sD sR)) ?_))))
  have hm9 := Mgu.of (hy1 rfl)
  exact .inr (.inr ⟨_, _, _, rfl, meet_yes (by omega) hm9, hb1, hm9, rfl⟩)
 refine jA (t := 14) rfl (vF h1) (jA (t := 14) rfl (vF h1) (cX (yl (.bool (false)) (vF h1) rfl (qI (yV rfl (jU (qX (qH (cX (jE (0) yq rfl ys (by decide) rfl rfl (cX (yc [arv] yF ys rfl rfl (Rd.ownN [] rfl rfl) (cX (yJ [arv, sN, sN, sN, sN, sN, sN, sN, sN, sN, sN, sN, sN, sN, sN, sN, sN, sN, sN, sN, sN, sN, sN, sN, sN, sN, sN, sN, sN, sN, sN, sN, sN, sN, sN, sN, sN, sN, sN, sN, sN, sN, sN, sN, sN, sN, sN, sN, sN] [sN, sN, sN, sN, sN, sN, sN, sN, sN, sN, sN, sN, sN, sN, sN, sN, sN, sN, sN, sN, sN, sN, sN, sN, sN, sN, sN, sN, sN, sN, sN, sN, sN, sN, sN, sN, sN, sN, sN, sN, sN, sN, sN, sN, sN, sN, sN, sN, sN] [(0, 1), (1, 48)] [(0, [arv])] Qa zeroValue200 rfl (.cons rfl ys (.cons rfl sizeOf198 PlacesAre.nil)) rfl (.cons rfl CellsAre.nil) (cX (yD [arv, sN, sN, sN, sN, sN, sN, sN, sN, sN, sN, sN, sN, sN, sN, sN, sN, sN, sN, sN, sN, sN, sN, sN, sN, sN, sN, sN, sN, sN, sN, sN, sN, sN, sN, sN, sN, sN, sN, sN, sN, sN, sN, sN, sN, sN, sN, sN, sN] rfl rfl ?_))))))))))))))))
 intro b4
 refine jc (ptr b4 0) rfl ?_
 have hc2 : BindC F _ _ := BindC.nils 48
 show XL _ _ _ _ _ _ _ (cellsH b4 (arv :: ((List.replicate 48 (sN)))) 200 :: cellsH b1 [arv, rsv] 32 :: L)
 skip
 refine qI (qX (X.free0 mixed (by kernel_rfl) (by kernel_rfl) (fun _ _ _ _ _ h => by obtain ⟨h1 | h1, _⟩ := h <;> cases h1) (fun _ _ _ h => by obtain ⟨h1 | h1, _⟩ := h <;> cases h1) ?_))
 obtain ⟨a5, a6, ha5, ha6, hr5, hr6⟩ := hrs.rd (i := o) (by omega)
 obtain ⟨a7, a8, ha7, ha8, hr7, hr8⟩ := hrs.rd (i := u) (by omega)
 refine XA.drawG [cellsH b4 (arv :: ((List.replicate 48 (sN)))) 200, cellsH b1 [arv, rsv] 32] L 19 [[], [], [], [], [], [], [], [], [], [], [], [], [], [], [], [], [], [], []] [[], [], [], [2], [], [4], [], [5, 6], [7], [8], [], [3, 9, 10], [], [12], [], [13, 14], [15], [16], [17]] [[], [], [], [], [], [], [], [], [], [], [], [], [], [], [], [], [], [], []] (phiG [fun FF us v => v = ptr b4 0, fun FF us v => v = ptr b4 0, fun FF us v => v = ptr b1 0, fun FF us v => v = (.agg #[arv] : Value), fun FF us v => v = ptr b1 1, fun FF us v => v = rsv, fun FF us v => v = (ii ((o : Int)) : Value), fun FF us v => v = (.pointer (some (elemA rsv (o * 2))) : Value), fun FF us v => v = (.pointer (some (elemA rsv (o * 2))) : Value), fun FF us v => v = a5, fun FF us v => v = (ii ((p : Int)) : Value), fun FF us v => ((v) : Value) = v ∧ (IntsF FF (v) (sub ar ((rs.getD o ([], [])).1) p)) ∧ (isNil (v) = false), fun FF us v => v = ptr b1 1, fun FF us v => v = rsv, fun FF us v => v = (ii ((u : Int)) : Value), fun FF us v => v = (.pointer (some (elemA rsv (u * 2))) : Value), fun FF us v => v = (.pointer (some (elemA rsv (u * 2))) : Value), fun FF us v => v = a7, fun FF us v => ((v) : Value) = v ∧ (IntsF FF (v) (awayL ((rs.getD u ([], [])).1)))]) (ownL [fun us v => [], fun us v => [], fun us v => [], fun us v => [], fun us v => [], fun us v => [], fun us v => [], fun us v => [], fun us v => [], fun us v => [], fun us v => [], fun us v => [], fun us v => [], fun us v => [], fun us v => [], fun us v => [], fun us v => [], fun us v => [], fun us v => []]) rfl rfl (by kernel_rfl) (by kernel_rfl) (MonoG.get (mC (fun le h => h) (mC (fun le h => h) (mC (fun le h => h) (mC (fun le h => h) (mC (fun le h => h) (mC (fun le h => h) (mC (fun le h => h) (mC (fun le h => h) (mC (fun le h => h) (mC (fun le h => h) (mC (fun le h => h) (mC (fun le h => ⟨h.1, h.2.1.mono le, h.2.2⟩) (mC (fun le h => h) (mC (fun le h => h) (mC (fun le h => h) (mC (fun le h => h) (mC (fun le h => h) (mC (fun le h => h) (mC (fun le h => ⟨h.1, h.2.mono le⟩) MonoG.nil)))))))))))))))))))) ?_ ?_
 ·refine gD (fun W Fs R lF z9 => ?_) ?_
  ·refine je (jk (ptr b4 0) rfl ?_)
   exact ⟨rfl, rfl⟩
  refine gD (fun W Fs R lF z9 => ?_) ?_
  ·refine je (jk (ptr b4 0) rfl ?_)
   exact ⟨rfl, rfl⟩
  refine gD (fun W Fs R lF z9 => ?_) ?_
  ·refine je (jE (0) yq rfl ys (by decide) rfl rfl ?_)
   exact ⟨rfl, rfl⟩
  refine gD (fun W Fs R lF z9 => ?_) ?_
  ·replace har := har.mono lF
   replace hrs := hrs.mono lF
   replace hc2 := hc2.mono lF
   replace ha5 := ha5.mono lF
   replace ha7 := ha7.mono lF
   replace hr5 := Rd.monoA hr5 lF
   replace hr7 := Rd.monoA hr7 lF
   rw [eS (l := [(2, _)]) ⟨z9 2 rfl, ⟨⟩⟩]
   refine je (yc [arv] yF ys rfl rfl (Rd.ownN [_] rfl rfl) ?_)
   exact ⟨rfl, rfl⟩
  refine gD (fun W Fs R lF z9 => ?_) ?_
  ·refine je (jE (1) yq rfl yZ (by decide) rfl rfl ?_)
   exact ⟨rfl, rfl⟩
  refine gD (fun W Fs R lF z9 => ?_) ?_
  ·replace har := har.mono lF
   replace hrs := hrs.mono lF
   replace hc2 := hc2.mono lF
   replace ha5 := ha5.mono lF
   replace ha7 := ha7.mono lF
   replace hr5 := Rd.monoA hr5 lF
   replace hr7 := Rd.monoA hr7 lF
   rw [eS (l := [(4, _)]) ⟨z9 4 rfl, ⟨⟩⟩]
   refine je (jj Qj rfl (Rd.own [_] rfl rfl) ?_)
   exact ⟨rfl, rfl⟩
  refine gD (fun W Fs R lF z9 => ?_) ?_
  ·refine je (jk (ii ((o : Int))) rfl ?_)
   exact ⟨rfl, rfl⟩
  refine gD (fun W Fs R lF z9 => ?_) ?_
  ·replace har := har.mono lF
   replace hrs := hrs.mono lF
   replace hc2 := hc2.mono lF
   replace ha5 := ha5.mono lF
   replace ha7 := ha7.mono lF
   replace hr5 := Rd.monoA hr5 lF
   replace hr7 := Rd.monoA hr7 lF
   rw [eS (l := [(5, _), (6, _)]) ⟨z9 5 rfl, z9 6 rfl, ⟨⟩⟩]
   refine je (jq o yy yS rfl rfl rfl hrs.slv (by omega) rfl ?_)
   exact ⟨rfl, rfl⟩
  refine gD (fun W Fs R lF z9 => ?_) ?_
  ·rw [eS (l := [(7, _)]) ⟨z9 7 rfl, ⟨⟩⟩]
   refine je (Qh (o * 2) yu rfl jF (by decide) rfl rfl ?_)
   exact ⟨rfl, rfl⟩
  refine gD (fun W Fs R lF z9 => ?_) ?_
  ·replace har := har.mono lF
   replace hrs := hrs.mono lF
   replace hc2 := hc2.mono lF
   replace ha5 := ha5.mono lF
   replace ha7 := ha7.mono lF
   replace hr5 := Rd.monoA hr5 lF
   replace hr7 := Rd.monoA hr7 lF
   rw [eS (l := [(8, _)]) ⟨z9 8 rfl, ⟨⟩⟩]
   refine je (jj yt rfl (hr5 _) ?_)
   exact ⟨rfl, rfl⟩
  refine gD (fun W Fs R lF z9 => ?_) ?_
  ·refine je (jk (ii ((p : Int))) rfl ?_)
   exact ⟨rfl, rfl⟩
  refine gD (fun W Fs R lF z9 => ?_) ?_
  ·replace har := har.mono lF
   replace hrs := hrs.mono lF
   replace hc2 := hc2.mono lF
   replace ha5 := ha5.mono lF
   replace ha7 := ha7.mono lF
   replace hr7 := Rd.monoA hr7 lF
   rw [eS (l := [(3, _), (9, _), (10, _)]) ⟨z9 3 rfl, z9 9 rfl, z9 10 rfl, ⟨⟩⟩]
   refine je (jL (args := [.agg #[arv], a5, ii (p : Int)]) call224 rfl (subAtW_spec (p := p) har ha5 (ho := (termW_of hlo)) (hp := (hp)) (hnn := (by first | assumption | exact notNil_of_pos (by assumption) (by omega)))) ?_)
   rintro v7 _ _ _ ⟨rfl, rfl, hv4, hn5⟩
   exact ⟨⟨rfl, hv4, hn5⟩, rfl⟩
  refine gD (fun W Fs R lF z9 => ?_) ?_
  ·refine je (jE (1) yq rfl yZ (by decide) rfl rfl ?_)
   exact ⟨rfl, rfl⟩
  refine gD (fun W Fs R lF z9 => ?_) ?_
  ·replace har := har.mono lF
   replace hrs := hrs.mono lF
   replace hc2 := hc2.mono lF
   replace ha7 := ha7.mono lF
   replace hr7 := Rd.monoA hr7 lF
   rw [eS (l := [(12, _)]) ⟨z9 12 rfl, ⟨⟩⟩]
   refine je (jj Qj rfl (Rd.own [_] rfl rfl) ?_)
   exact ⟨rfl, rfl⟩
  refine gD (fun W Fs R lF z9 => ?_) ?_
  ·refine je (jk (ii ((u : Int))) rfl ?_)
   exact ⟨rfl, rfl⟩
  refine gD (fun W Fs R lF z9 => ?_) ?_
  ·replace har := har.mono lF
   replace hrs := hrs.mono lF
   replace hc2 := hc2.mono lF
   replace ha7 := ha7.mono lF
   replace hr7 := Rd.monoA hr7 lF
   rw [eS (l := [(13, _), (14, _)]) ⟨z9 13 rfl, z9 14 rfl, ⟨⟩⟩]
   refine je (jq u yy yS rfl rfl rfl hrs.slv (by omega) rfl ?_)
   exact ⟨rfl, rfl⟩
  refine gD (fun W Fs R lF z9 => ?_) ?_
  ·rw [eS (l := [(15, _)]) ⟨z9 15 rfl, ⟨⟩⟩]
   refine je (Qh (u * 2) yu rfl jF (by decide) rfl rfl ?_)
   exact ⟨rfl, rfl⟩
  refine gD (fun W Fs R lF z9 => ?_) ?_
  ·replace har := har.mono lF
   replace hc2 := hc2.mono lF
   replace ha7 := ha7.mono lF
   replace hr7 := Rd.monoA hr7 lF
   rw [eS (l := [(16, _)]) ⟨z9 16 rfl, ⟨⟩⟩]
   refine je (jj yt rfl (hr7 _) ?_)
   exact ⟨rfl, rfl⟩
  refine gD (fun W Fs R lF z9 => ?_) ?_
  ·replace har := har.mono lF
   replace hc2 := hc2.mono lF
   replace ha7 := ha7.mono lF
   rw [eS (l := [(17, _)]) ⟨z9 17 rfl, ⟨⟩⟩]
   refine je (Qo <| jL (args := [a7]) call183 rfl (away_spec ha7 (hlt := (by omega)) (htg := (fun i hi => by have := hglu i hi; omega))) ?_)
   rintro v8 _ _ _ ⟨rfl, hs4, rfl⟩
   refine ⟨_, _, rfl, fun F4 le4 hz2 => ?_⟩
   replace har := har.mono le4
   replace hc2 := hc2.mono le4
   have hf2 : IntsF F4 v8 ((awayL ((rs.getD u ([], [])).1))) := intsH.fz (xs := (awayL ((rs.getD u ([], [])).1))) hz2.fz
   exact ⟨⟨rfl, hf2⟩, rfl⟩
  exact stepsG.nil
 intro W F5 le5 hphi
 obtain ⟨e11, f11_2ha, f11_2hn⟩ := hphi 11 (by decide)
 obtain ⟨e18, f18_2ha⟩ := hphi 18 (by decide)
 generalize hu3 : ((W 11)) = u3 at e11 f11_2ha f11_2hn e18 f18_2ha
 generalize hu4 : ((W 18)) = u4 at e11 f11_2ha f11_2hn e18 f18_2ha
 rw [eS (l := [(0, _), (1, _), (11, u3), (18, u4)]) ⟨(hphi 0 (by decide)), (hphi 1 (by decide)), hu3, hu4, ⟨⟩⟩]
 replace har := har.mono le5
 replace hc2 := hc2.mono le5
 show XL _ _ _ _ _ _ _ (cellsH b4 (arv :: ((List.replicate 48 (sN)))) 200 :: cellsH b1 [arv, rsv] 32 :: L)
 refine cX (jL (args := [ptr b4 0, u3, u4]) call208 rfl (solve_spec har hc2 BOk.nils f11_2ha f18_2ha (termW_of (sub_ok hlo hp)) (away_W hlu) (by first | assumption | exact notNil_of_pos f11_2ha (by have := termOk_len (sub_ok hlo hp); omega)) (notNil_of_pos f18_2ha (by rw [away_len]; omega))) ?_)
 rintro _ F6 _ le6 ⟨ok9, b5, l2, rfl, hb2, hy2, hn6, rfl⟩
 cases ok9
 ·replace har := har.mono le6
  refine jc (ptr b4 0) rfl (jc (.bool (false)) rfl (qI (jW (jR (L' := L) [ptr b4 0, .bool (false)] (.tuple #[ptr b4 0, .bool (false)]) (.tmp rfl (.tmp rfl .nil)) rfl (jl le5 le6) rF (sD (sD sR)) ?_))))
  exact .inr (.inl ⟨_, rfl, meet_no (nils_no (hn6 rfl)), rfl⟩)
 replace har := har.mono le6
 refine jc (ptr b4 0) rfl (jc (.bool (true)) rfl (qI (jW (jR (L' := cellsH b4 (arv :: b5) 200 :: L) [ptr b4 0, .bool (true)] (.tuple #[ptr b4 0, .bool (true)]) (.tmp rfl (.tmp rfl .nil)) rfl (jl le5 le6) rF (sC (sD sR)) ?_))))
 have hm9 := Mgu.of (hy2 rfl)
 exact .inr (.inr ⟨_, _, _, rfl, meet_yes (by omega) hm9, hb2, hm9, rfl⟩)

/- impl.renumber -/
set_option maxHeartbeats 1000000 in
set_option maxRecDepth 20000 in
theorem renumber_spec {F : FH} {L : List HP} {tsv : Value} {ts : List (List Int)} (hts : RowsF F tsv ts) (htl : ts.length ≤ 100) (hrb : ∀ i, i < ts.length → (ts.getD i []).length ≤ 60) :
    Does prog 142 [tsv] F (L) (fun v F' L' => ∃ (cs : List Value) (Us : List HP), ArrF F' 1 v (rnL [] ts).length cs ∧ RowsC F' cs (rnL [] ts) ∧ DeepL 1 (RowO 2) cs (rnL [] ts) Us ∧ Fresh F F' (star Us) ∧ L = L') := by
 refine ym func142 rfl rfl rfl (qX (qH (jc (sN) rfl (qI (qX (qH (jc (sN) rfl (qI (qX (qH (jc (sN) rfl (qI (qX (qX (qH (jb (tsv) rfl (cX (jZ jX rfl hts.slv ?_))))))))))))))))))
 refine jb (ii (0)) rfl (qI (yf (yI (α := Nat × Value × RowL × List Value × List HP × Nat × Value × List Int × FH) (fun xQ => [(3, xQ.2.2.2.2.2.2.1), (4, xQ.2.1), (11, tsv), (12, ii ((ts.length : Int))), (13, ii (((xQ.1 : Nat) : Int)))]) (fun xQ => slH 27 1 xQ.2.1 xQ.2.2.2.2.2.1 xQ.2.2.2.1 :: intsH 2 xQ.2.2.2.2.2.2.1 xQ.2.2.2.2.2.2.2.1 :: L) (fun xQ F' => xQ.2.2.2.2.2.2.2.2 = F' ∧ F ≤ xQ.2.2.2.2.2.2.2.2 ∧ (IsSl xQ.2.1) ∧ (xQ.1 ≤ ts.length) ∧ (RowsC xQ.2.2.2.2.2.2.2.2 xQ.2.2.2.1 xQ.2.2.1) ∧ (xQ.2.2.2.2.2.1 = xQ.2.2.1.length) ∧ (DeepL 1 (RowO 2) xQ.2.2.2.1 xQ.2.2.1 xQ.2.2.2.2.1) ∧ (Fresh F xQ.2.2.2.2.2.2.2.2 (star xQ.2.2.2.2.1)) ∧ (IsSl xQ.2.2.2.2.2.2.1) ∧ (rnL [] ts = xQ.2.2.1 ++ rnL xQ.2.2.2.2.2.2.2.1 (ts.drop xQ.1)) ∧ (xQ.2.2.2.2.2.2.2.1.length ≤ xQ.1 * 60)) (fun xQ => ts.length - xQ.1) (0, sN, [], [], [], 0, sN, [], F) ⟨rfl, rfl, rfl, rfl, rfl, ⟨⟩⟩ (yn (Sub.addNil 27 1 _ _) (sC (yn (intsH.addNil 2 none _) (sC sR)))) ⟨rfl, FLe.refl _, (⟨_, _, _, rfl⟩), (by (try dsimp only) <;> omega), (CO.nil), (rfl), (DeepL.nil), (Fresh.nilL), (⟨_, _, _, rfl⟩), (rfl), (Nat.zero_le _)⟩ ?_)))
 rintro ⟨k, ov, os, ocs, Us, m, zv, zs, G1⟩ rE _ _ ⟨rfl, leG, hov, hk, hC, hm, hD, hZ, hzv, hrn, hzl⟩
 show X _ _ _ _ (envs [(3, zv), (4, ov), (11, tsv), (12, ii ((ts.length : Int))), (13, ii ((k : Int)))] rE) _ (slH 27 1 ov m ocs :: intsH 2 zv zs :: L)
 replace leG : F ≤ G1 := leG
 dsimp only at hov hk hC hm hD hZ hzv hrn hzl
 have hrbk := hrb k
 have hol : os.length ≤ ts.length := by have h9 := congrArg List.length hrn; rw [List.length_append, rnL_len] at h9; omega
 have leG1 := leG
 replace hts := hts.mono leG1
 refine qX (qH (cX (yo rfl rfl (qI (qX ?_)))))
 refine jV (p := (k : Int) < (ts.length : Int)) rfl (fun h1 => ?_) (fun h1 => ?_)
 ·refine jU (qX (yf (qX (qH (cX (jq k jX jF rfl rfl rfl hts.slv (by omega) (Nat.mul_one _) ?_))))))
  obtain ⟨a1, ha1, hr1⟩ := hts.rd (i := k) (by omega)
  refine cX (jj yt rfl (hr1 _) (jc (a1) rfl (qI (qX (qH (jb (a1) rfl (cX (jL (args := [a1]) call188 rfl (Clone_spec ha1 (hlt := (by have := hrbk (by omega); omega))) ?_))))))))
  rintro v1 _ _ _ ⟨rfl, hs1, rfl⟩
  refine jc (v1) rfl (qI (qX (qX (qH (jb (v1) rfl (cX (jZ qU rfl (intsH.slv [] rfl) (jb (ii (0)) rfl (qI (yf (yI (α := Nat × List Int × Value × List Int) (fun xQ => [(3, xQ.2.2.1), (4, ov), (7, v1), (11, tsv), (12, ii ((ts.length : Int))), (13, ii ((k : Int))), (19, v1), (20, ii (((((((ts.getD k [])))).length : Nat) : Int))), (21, ii (((xQ.1 : Nat) : Int)))]) (fun xQ => intsH 2 v1 xQ.2.1 :: slH 27 1 ov m ocs :: intsH 2 xQ.2.2.1 xQ.2.2.2 :: L) (fun xQ F' => G1 = F' ∧ (xQ.1 ≤ (ts.getD k []).length) ∧ (IsSl xQ.2.2.1) ∧ (RnAt zs (ts.getD k []) xQ.2.2.2 xQ.2.1 xQ.1) ∧ (xQ.2.2.2.length ≤ k * 60 + xQ.1)) (fun xQ => (ts.getD k []).length - xQ.1) (0, (ts.getD k []), zv, zs) ⟨rfl, rfl, rfl, rfl, rfl, rfl, rfl, rfl, rfl, ⟨⟩⟩ (sC (sC (sC sR))) ⟨rfl, (by (try dsimp only) <;> omega), (hzv), (RnAt.start), (by (try dsimp only); omega)⟩ ?_)))))))))))
  rintro ⟨j, ws, zv2, zs2⟩ rE _ _ ⟨rfl, hj, hzv2, hR, hzl2⟩
  show X _ _ _ _ (envs [(3, zv2), (4, ov), (7, v1), (11, tsv), (12, ii ((ts.length : Int))), (13, ii ((k : Int))), (19, v1), (20, ii (((((((ts.getD k [])))).length : Nat) : Int))), (21, ii ((j : Int)))] rE) _ (intsH 2 v1 ws :: slH 27 1 ov m ocs :: intsH 2 zv2 zs2 :: L)
  dsimp only at hj hzv2 hR hzl2
  have hwl := hR.len
  have hwj := fun h : j < (ts.getD k []).length => hR.at h
  refine qX (qH (cX (yo rfl rfl (qI (qX ?_)))))
  refine jV (p := (j : Int) < ((((((ts.getD k [])))).length : Nat) : Int)) rfl (fun h2 => ?_) (fun h2 => ?_)
  ·refine jU (qX (yf (qX (qH (jb (ii ((j : Int))) rfl (cX (jq j qU js rfl rfl rfl (intsH.slv [] rfl) (by omega) (Nat.mul_one _) (cX (jj yd rfl (intsH.rd [] rfl (by omega)) (jc (ii ((j : Int))) rfl (jc (ii (ws.getD j 0)) rfl (qI (qX (qX (qH (jb (ii (ws.getD j 0)) rfl (cX (XOp.geq rfl rfl (qI ?_)))))))))))))))))))
   refine jV (p := (ws.getD j 0 : Int) ≥ 0) rfl (fun h3 => ?_) (fun h3 => ?_)
   ·refine yB (jO (yk (qH (cX (yj (((j + 1 : Nat) : Int)) rfl rfl (by omega) (by omega) (jb (ii (((j + 1 : Nat) : Int))) rfl (qI ?_)))))))
    exact ⟨(j + 1, ws, zv2, zs2), _, FLe.refl _, rF, ⟨rfl, rfl, rfl, rfl, rfl, rfl, rfl, rfl, rfl, ⟨⟩⟩, (sC (sC (sC sR))), ⟨rfl, (by (try dsimp only) <;> omega), (hzv2), (hR.sym (by omega) (by have := hwj (by omega); omega)), (by (try dsimp only); (try rw [List.length_append, List.length_singleton]); omega)⟩, (by omega)⟩
   have hwj1 := hwj (by omega)
   have hj0 : (ts.getD k []).getD j 0 < 0 := by omega
   refine jU (qX (qH (jb (zv2) rfl (jb (ii (ws.getD j 0)) rfl (cX (XOp.lend [_, _] _ _ rfl (fun F1 le1 hz1 => ?_)))))))
   have hf1 : IntsF _ zv2 zs2 := intsH.fz (xs := zs2) hz1
   refine id (jL (args := [zv2, ii (ws.getD j 0)]) call204 rfl (Index_spec (n := ws.getD j 0) hf1 (hbd := (by first | assumption | rfl | omega | simp))) ?_)
   rintro _ _ _ _ ⟨rfl, rfl, rfl⟩
   show XL _ _ _ _ _ _ _ (intsH 2 zv2 zs2 :: intsH 2 v1 ws :: slH 27 1 ov m ocs :: L)
   refine jc (ii (indexZ zs2 (ws.getD j 0))) rfl (qI (qX (qX (qH (jb (ii (indexZ zs2 (ws.getD j 0))) rfl (cX (yo rfl rfl (qI ?_))))))))
   refine jV (p := (indexZ zs2 (ws.getD j 0) : Int) < 0) rfl (fun h4 => ?_) (fun h4 => ?_)
   ·have hil := indexZ_le zs2 (ws.getD j 0)
    refine qX (qH (jb (zv2) rfl (cX (jZ qU rfl (intsH.slv [] rfl) (jc (ii ((zs2.length : Int))) rfl (qI (qH (jb (zv2) rfl (jb (ii (ws.getD j 0)) rfl (cX (jQ (s := 1) [ii (ws.getD j 0)] [ii (0)] [(0, [ii (ws.getD j 0)])] qU js yv rfl (by decide) rfl (.cons rfl CellsAre.nil) rfl ?_)))))))))))
    intro v2 hv1
    refine cX (Qi (u := ws.getD j 0) [_] _ qU typeInfo2 rfl rfl rfl rfl rfl rfl (SlV.own [] rfl) (Rd.sl [] rfl rfl) (by (try simp only [List.length_append, List.length_nil, List.length_cons, List.length_singleton, List.length_take, List.length_drop]); omega) ?_)
    intro v3 hs2 hn1
    refine jc (v3) rfl (qI (qH (jb (v1) rfl (jb (ii ((j : Int))) rfl (jb (ii ((zs2.length : Int))) rfl (cX (yx ((-1) - ((zs2.length : Int))) rfl rfl (by omega) (by omega) (cX (jq j qU js rfl rfl rfl (intsH.slv [_, _] rfl) (by omega) (Nat.mul_one _) (cX (intsH.storeX (i := j) (v := v1) [_, _] _ (ws.set j ((-1) - ((zs2.length : Int)))) js rfl rfl rfl (by omega) rfl (qI (qH (cX (yj (((j + 1 : Nat) : Int)) rfl rfl (by omega) (by omega) ?_)))))))))))))))
    refine jb (ii (((j + 1 : Nat) : Int))) rfl (qI ?_)
    exact ⟨(j + 1, (ws.set j ((-1) - ((zs2.length : Int)))), v3, zs2 ++ [ws.getD j 0]), _, FLe.refl _, rF, ⟨rfl, rfl, rfl, rfl, rfl, rfl, rfl, rfl, rfl, ⟨⟩⟩, (yn (ye (A := [_])) (yn (ye (A := [_, _, _])) (yn (ye (A := [_, _, _])) (sC (sC (sC (sD sR))))))), ⟨rfl, (by (try dsimp only) <;> omega), (hs2), ((by (try dsimp only); rw [hwj1]; exact hR.new (by omega) hj0 (fun hc => by have := indexZ_mem.2 hc; rw [← hwj1] at this; omega))), (by (try dsimp only); (try rw [List.length_append, List.length_singleton]); omega)⟩, (by omega)⟩
   have hil := indexZ_le zs2 (ws.getD j 0)
   refine jU (qH (jb (v1) rfl (jb (ii ((j : Int))) rfl (jb (ii (indexZ zs2 (ws.getD j 0))) rfl (cX (yx ((-1) - (indexZ zs2 (ws.getD j 0))) rfl rfl (by omega) (by omega) (cX (jq j qU js rfl rfl rfl (intsH.slv [_] rfl) (by omega) (Nat.mul_one _) (cX (intsH.storeX (i := j) (v := v1) [_] _ (ws.set j ((-1) - (indexZ zs2 (ws.getD j 0)))) js rfl rfl rfl (by omega) rfl (qI (qH (cX (yj (((j + 1 : Nat) : Int)) rfl rfl (by omega) (by omega) (jb (ii (((j + 1 : Nat) : Int))) rfl ?_)))))))))))))))
   refine qI ?_
   exact ⟨(j + 1, (ws.set j ((-1) - (indexZ zs2 (ws.getD j 0)))), zv2, zs2), _, FLe.refl _, rF, ⟨rfl, rfl, rfl, rfl, rfl, rfl, rfl, rfl, rfl, ⟨⟩⟩, (yn (ye (A := [_, _])) (yn (ye (A := [_, _])) (sC (sC (sC sR))))), ⟨rfl, (by (try dsimp only) <;> omega), (hzv2), ((by (try dsimp only); rw [hwj1]; exact hR.old (by omega) hj0 (indexZ_mem.1 (by rw [← hwj1]; omega)))), (by (try dsimp only); (try rw [List.length_append, List.length_singleton]); omega)⟩, (by omega)⟩
  refine yB (jO (jO (yk (qH (jb (ov) rfl (jb (v1) rfl (cX (jQ (s := 1) [v1] [sN] [(0, [v1])] jX jF Qn rfl (by decide) rfl (.cons (cells_one hs1) CellsAre.nil) rfl ?_))))))))
  intro v4 hv2
  refine Qd [_] _ _ rfl (fun F2 le2 hz2 => ?_)
  replace hC := hC.mono le2
  have hf2 : IntsF F2 v1 ws := intsH.fz (xs := ws) hz2.fz
  refine cX (XOp.append (m := 1) (bytes := 24) (cs := ocs) [_] _ [v1] jX typeInfo27 rfl rfl rfl rfl rfl rfl rfl (SlV.own [] rfl) rfl (Rd.lit [] rfl) (jT (yE (yi hf2)) yM) (by (try simp only [List.length_append, List.length_nil, List.length_cons, List.length_singleton]); omega) (by (try simp only [List.length_append, List.length_nil, List.length_cons, List.length_singleton]); omega) ?_)
  intro v5 hs3 hn2 hm1
  have hc1 := RowsC.snoc hC hf2
  skip
  refine jc (v5) rfl (qI (qH (cX (yj (((k + 1 : Nat) : Int)) rfl rfl (by omega) (by omega) (jb (ii (((k + 1 : Nat) : Int))) rfl (qI ?_))))))
  exact ⟨(k + 1, v5, os ++ [ws], ocs ++ [v1], Us ++ [intsH 2 v1 ws], (m) + 1, zv2, zs2, F2), _, (jl leG1 le2), rF, ⟨rfl, rfl, rfl, rfl, rfl, ⟨⟩⟩, (sD (sC (sC sR))), ⟨rfl, (jl leG1 le2), (hs3), (by (try dsimp only) <;> omega), (hc1), (by (try dsimp only); rw [List.length_append, List.length_singleton]; omega), (DeepL.snoc hD rfl ⟨_, rfl, rfl⟩), ((Fresh.app hZ leG1 (Fresh.one hz2) le2)), (hzv2), (rn_next (by omega) hrn (hR.done (by omega))), (by (try dsimp only); have := orderGo_len (ts.getD k []) zs; rw [(hR.done (by omega)).1]; have := hrbk (by omega); omega)⟩, (by omega)⟩
 refine yB (jO (jO (yk (qX (qH (jb (ov) rfl (jc (ov) rfl (qI (yz [] _ _ rfl (fun F3 le3 hz3 => ?_))))))))))
 replace hC := hC.mono le3
 have hf3 : RowsF F3 ov os := CO.fz hC (by first | rfl | omega | (rw [List.length_set]; omega) | (simp; done)) hz3.fz
 refine jW (jR (L' := L) [ov] (ov) (.tmp rfl .nil) rfl (jl leG1 le3) rF (sD sR) ?_)
 have e9 := rn_done (by omega) hrn
 rw [e9]
 subst hm
 exact ⟨ocs, Us, hz3.fz.sl, hC, hD, (hZ.mono le3), rfl⟩

/- (*impl.unifier).placeIn -/
theorem placeIn_spec {F : FH} {L : List HP} {ub : Nat} {arv : Value} {ar : List Int} {bs : List Value} {bl : RowL} (har : IntsF F arv ar) (hbc : BindC F bs bl) (hb : BOk ar bl) {σ : Sbs} {p : Nat} {tv : Value} {t : List Int} (ht : IntsF F tv t) (hσ : Sol bl σ) (ho : TermW ar t) (hp : p < t.length) (hlen : (ap σ t).length ≤ 60) :
    Does prog 185 [ptr ub 0, tv, ii ((p : Int))] F (cellsH ub (arv :: bs) 200 :: L) (fun v F' L' => (F = F' ∧ (ii (((ap σ (t.take p)).length : Nat) : Int) : Value) = v) ∧ cellsH ub (arv :: bs) 200 :: L = L') := by
 refine ym func185 rfl rfl rfl ?_
 have htl := ho.len
 have hrk := res_take hlen hp (σ := σ)
 refine qX (qH (jc (ii (0)) rfl (qI (qX (qH (jb (ptr ub 0) rfl (jb (tv) rfl (jb (ii ((p : Int))) rfl (cX (Qp 0 p qU js rfl ht rfl ⟨_, rfl⟩ (by omega) (by omega) ?_))))))))))
 intro v1 hv1 hn1
 obtain ⟨ρ9, hρ9⟩ := hb.acyc
 obtain ⟨k9, hk9⟩ := maxRank (((t.drop 0).take (p - 0))) ρ9
 have hw9 := take_ge ho (p := p)
 refine yK (intsH.addNil 2 none _) (yK (ye (A := [_])) ?_)
 show XL _ _ _ _ _ _ _ (cellsH ub (arv :: bs) 200 :: intsH 2 (sN) ([]) :: L)
 refine yK (ye (A := [_])) ?_
 show XL _ _ _ _ _ _ _ (intsH 2 (sN) ([]) :: cellsH ub (arv :: bs) 200 :: L)
 refine cX (jL (args := [ptr ub 0, sN, v1]) call182 rfl (resolve_spec k9 har hbc (by assumption) (os := []) hv1 ⟨_, _, _, rfl⟩ (Nat.zero_le _) hσ hρ9 (fun m hm _ => hk9 m hm) hw9.1 hw9.2) ?_)
 rintro _ _ _ _ ⟨v2, rfl, hs1, rfl, rfl⟩
 refine jb (.tuple #[v2, .bool (resOk σ ([] : List Int) (((t.drop 0).take (p - 0))))]) rfl (cX (yr (v2) rfl rfl (cX (yr (.bool (resOk σ ([] : List Int) (((t.drop 0).take (p - 0))))) rfl rfl (jc (v2) rfl (jc (.bool (resOk σ ([] : List Int) (((t.drop 0).take (p - 0))))) rfl (qI (qX (qH (jb (v2) rfl (cX (jZ qU rfl (intsH.slv [] rfl) (jc (ii (((((resX σ ([] : List Int) (((t.drop 0).take (p - 0))))).length : Nat) : Int))) rfl (qI ?_))))))))))))))
 refine jW (jR (L' := cellsH ub (arv :: bs) 200 :: L) [ii (((((resX σ ([] : List Int) (((t.drop 0).take (p - 0))))).length : Nat) : Int))] (ii (((((resX σ ([] : List Int) (((t.drop 0).take (p - 0))))).length : Nat) : Int))) (.tmp rfl .nil) rfl rF rF (sD (sC sR)) ?_)
 have hr9 := of_decide_eq_true (show resOk σ [] (t.take p) = true from hrk)
 exact ⟨⟨rfl, congrArg (fun l : List Int => Value.int .i64 (l.length : Int)) (show ap σ (t.take p) = resX σ [] (t.take p) from by unfold resX; rw [if_pos hrk]; rfl)⟩, rfl⟩

/- impl.put -/
theorem putW_spec {F : FH} {L : List HP} {arv : Value} {ar : List Int} (har : IntsF F arv ar) {tv : Value} {t : List Int} (ht : IntsF F tv t) {p : Nat} {uv : Value} {u : List Int} (hu : IntsF F uv u) (ho : TermW ar t) (hp : p < t.length) (hul : 1 ≤ u.length ∧ u.length ≤ 4000000) :
    Does prog 184 [.agg #[arv], tv, ii ((p : Int)), uv] F (L) (fun v F' L' => ∃ (a : Value), (.tuple #[a, .bool ((putL ar t p u).isSome)] : Value) = v ∧ (IntsF F' a ((putL ar t p u).getD [])) ∧ ((putL ar t p u).isSome = true → isNil a = false) ∧ (Fresh F F' (intsH 2 a ((putL ar t p u).getD []))) ∧ L = L') := by
 refine ym func184 rfl rfl rfl ?_
 have hsl := sigOk_spec ho.sig
 have htl := ho.len
 have hsig := ho.sig
 have hee := ho.endN hp
 refine qX (qH (cX (yD [arv] rfl rfl ?_)))
 intro b1
 refine jc (sN) rfl (jc (.bool (false)) rfl (qI (qX ?_)))
 refine X.drawG [cellsH b1 [arv] 29] L 10 [] [[], [], [0, 1], [], [], [], [], [], [5, 6, 7], [4, 8]] [] (phiG [pe tv, pe (ii ((p : Int)) : Value), fun FF us v => (v : Value) = v ∧ (IntsF FF v ((t.drop 0).take (p - 0))) ∧ (isNil v = isNil tv), pe uv, pe tv, pe (.agg #[arv]), pe tv, pe (ii ((p : Int)) : Value), pe (ii (((endN ar t p : Nat) : Int)) : Value), fun FF us v => (v : Value) = v ∧ (IntsF FF v ((t.drop (endN ar t p)).take (((t).length) - (endN ar t p)))) ∧ (isNil v = isNil tv)]) (ownL []) mixed rfl rfl (by kernel_rfl) (by kernel_rfl) (MonoG.get (m1 (m1 (mC (fun le h => ⟨h.1, h.2.1.mono le, h.2.2⟩) (m1 (m1 (m1 (m1 (m1 (m1 (mC (fun le h => ⟨h.1, h.2.1.mono le, h.2.2⟩) MonoG.nil))))))))))) ?_ ?_
 ·refine gD (fun W Fs R lF z9 => ?_) ?_
  ·refine je (jk (tv) rfl ?_)
   exact ⟨rfl, rfl⟩
  refine gD (fun W Fs R lF z9 => ?_) ?_
  ·refine je (jk (ii ((p : Int))) rfl ?_)
   exact ⟨rfl, rfl⟩
  refine gD (fun W Fs R lF z9 => ?_) ?_
  ·replace har := har.mono lF
   replace ht := ht.mono lF
   replace hu := hu.mono lF
   rw [eS (l := [(0, _), (1, _)]) ⟨z9 0 rfl, z9 1 rfl, ⟨⟩⟩]
   refine je (Qp 0 p qU js rfl ht rfl ⟨_, rfl⟩ (by omega) (by omega) ?_)
   intro v3 hv3 hn3
   exact ⟨⟨rfl, hv3, hn3⟩, rfl⟩
  refine gD (fun W Fs R lF z9 => ?_) ?_
  ·refine je (jk (uv) rfl ?_)
   exact ⟨rfl, rfl⟩
  refine gD (fun W Fs R lF z9 => ?_) ?_
  ·refine je (jk (tv) rfl ?_)
   exact ⟨rfl, rfl⟩
  refine gD (fun W Fs R lF z9 => ?_) ?_
  ·replace har := har.mono lF
   replace ht := ht.mono lF
   replace hu := hu.mono lF
   refine je (yc [arv] yF ys rfl rfl (Rd.ownN [] rfl rfl) ?_)
   exact ⟨rfl, rfl⟩
  refine gD (fun W Fs R lF z9 => ?_) ?_
  ·refine je (jk (tv) rfl ?_)
   exact ⟨rfl, rfl⟩
  refine gD (fun W Fs R lF z9 => ?_) ?_
  ·refine je (jk (ii ((p : Int))) rfl ?_)
   exact ⟨rfl, rfl⟩
  refine gD (fun W Fs R lF z9 => ?_) ?_
  ·replace har := har.mono lF
   replace ht := ht.mono lF
   replace hu := hu.mono lF
   rw [eS (l := [(5, _), (6, _), (7, _)]) ⟨z9 5 rfl, z9 6 rfl, z9 7 rfl, ⟨⟩⟩]
   refine je (jL (args := [.agg #[arv], tv, ii (p : Int)]) call150 rfl (endAtW_ok (p := p) har ht (ho := (by first | assumption | rfl | omega | (left; simp; done) | (right; simp; done))) (hp := (by first | assumption | rfl | omega | (left; simp; done) | (right; simp; done)))) ?_)
   rintro _ _ _ _ ⟨rfl, rfl, rfl⟩
   exact ⟨rfl, rfl⟩
  refine gD (fun W Fs R lF z9 => ?_) ?_
  ·replace har := har.mono lF
   replace ht := ht.mono lF
   replace hu := hu.mono lF
   rw [eS (l := [(4, _), (8, _)]) ⟨z9 4 rfl, z9 8 rfl, ⟨⟩⟩]
   refine je (Qp (endN ar t p) ((t).length) qU js rfl ht ⟨_, rfl⟩ rfl (by omega) (by omega) ?_)
   intro v4 hv4 hn4
   exact ⟨⟨rfl, hv4, hn4⟩, rfl⟩
  exact stepsG.nil
 intro W F1 le1 hphi
 obtain ⟨e2, f2_1hv, f2_1hn⟩ := hphi 2 (by decide)
 obtain ⟨e9, f9_1hv, f9_1hn⟩ := hphi 9 (by decide)
 generalize hu1 : (W 2) = u1 at e2 f2_1hv f2_1hn e9 f9_1hv f9_1hn
 generalize hu2 : (W 9) = u2 at e2 f2_1hv f2_1hn e9 f9_1hv f9_1hn
 rw [eS (l := [(2, u1), (3, _), (9, u2)]) ⟨hu1, (hphi 3 (by decide)), hu2, ⟨⟩⟩]
 replace hu := hu.mono le1
 show XL _ _ _ _ _ _ _ (cellsH b1 [arv] 29 :: L)
 refine cX (jQ (s := 1) [u1, uv, u2] [sN] [(0, [u1]), (1, [uv]), (2, [u2])] jX jF Qn rfl (by decide) rfl (.cons (cells_one (yi f2_1hv)) (.cons (cells_one (yi hu)) (.cons (cells_one (yi f9_1hv)) CellsAre.nil))) rfl ?_)
 intro v5 hv5
 have hc1 : RowsC F1 [u1, uv, u2] ([((t.drop 0).take (p - 0)), u, ((t.drop (endN ar t p)).take (((t).length) - (endN ar t p)))] : List (List Int)) := (RowsC.snoc (RowsC.snoc (RowsC.snoc (CO.nil : RowsC F1 [] []) f2_1hv) hu) f9_1hv)
 refine Qd [] _ _ rfl (fun F2 le2 hz1 => ?_)
 replace hc1 := hc1.mono le2
 have hf1 : RowsF F2 v5 (([((t.drop 0).take (p - 0)), u, ((t.drop (endN ar t p)).take (((t).length) - (endN ar t p)))] : List (List Int))) := CO.fz hc1 (by first | rfl | omega | (rw [List.length_set]; omega) | (simp; done)) hz1.fz
 refine cX (Qo <| jL (args := [v5]) call225 rfl (Concat_spec hf1 (hg1 := (by simp; omega)) (hn := (by first | assumption | rfl | omega | simp)) (hb := (fun i hi => by match i, hi with | 0, _ => simp; omega | 1, _ => simp; omega | 2, _ => simp; omega))) ?_)
 rintro v6 _ _ _ ⟨rfl, hs1, rfl⟩
 refine ⟨_, _, rfl, fun F3 le3 hz2 => ?_⟩
 have hf2 : IntsF F3 v6 (((([((t.drop 0).take (p - 0)), u, ((t.drop (endN ar t p)).take (((t).length) - (endN ar t p)))] : List (List Int))).flatten)) := intsH.fz (xs := ((([((t.drop 0).take (p - 0)), u, ((t.drop (endN ar t p)).take (((t).length) - (endN ar t p)))] : List (List Int))).flatten)) hz2.fz
 refine jc (v6) rfl (qI (qX (qX (qH (jb (v6) rfl (cX (jZ qU rfl hf2.slv (cX (Qf rfl rfl (qI ?_))))))))))
 refine jV (p := ((((((([((t.drop 0).take (p - 0)), u, ((t.drop (endN ar t p)).take (((t).length) - (endN ar t p)))] : List (List Int))).flatten)).length : Nat) : Int) : Int) > 60) rfl (fun h1 => ?_) (fun h1 => ?_)
 ·refine qX (qH (jc (sN) rfl (jc (.bool (false)) rfl (qI (jW (jw (jR (L' := L) [sN, .bool (false)] (.tuple #[sN, .bool (false)]) (.tmp rfl (.tmp rfl .nil)) rfl (jl (jl le1 le2) le3) rF (sD sR) ?_)))))))
  have hz : putL ar t p u = none := putL_none put_flat (by omega)
  exact ⟨_, by rw [hz]; rfl, by rw [hz]; exact IntsF.nilV, fun h => (by rw [hz] at h; cases h), by rw [hz]; exact Fresh.ofNil _, rfl⟩
 refine jU (qX (qH (jb (v6) rfl (jc (v6) rfl (jc (.bool (true)) rfl (qI (jW (jR (L' := L) [v6, .bool (true)] (.tuple #[v6, .bool (true)]) (.tmp rfl (.tmp rfl .nil)) rfl (jl (jl le1 le2) le3) rF (sD sR) ?_))))))))
 have hz := putL_some (ar := ar) (t := t) (p := p) (u := u) put_flat (by omega)
 exact ⟨_, by rw [hz]; rfl, by rw [hz]; exact hf2, fun _ => notNil_of_pos hf2 (by rw [put_flat]; simp; omega), by rw [hz]; exact (hz2.base (jl le1 le2)), rfl⟩

/- impl.peakAt -/
set_option maxHeartbeats 2000000 in
set_option maxRecDepth 20000 in
theorem peakAt_spec {F : FH} {L : List HP} {arv : Value} {ar : List Int} (har : IntsF F arv ar) {rsv : Value} {rs : List (List Int × List Int)} (hrs : PairsF F rsv rs) {o : Nat} {p : Nat} {u : Nat} (hsys : sysOk ar rs = true) (ho : o < rs.length) (hu : u < rs.length) (hp : p < (rs.getD o ([], [])).1.length) :
    Does prog 119 [.agg #[arv, rsv], ii ((o : Int)), ii ((p : Int)), ii ((u : Int))] F (L) (fun v F' L' => ∃ (a : Value), ∃ (b : Value), ∃ (c : Value), (.tuple #[.agg #[a, b, c, ii (((pkF ar rs o p u).getD P0).2.2.2.1), ii (((pkF ar rs o p u).getD P0).2.2.2.2.1), ii (((pkF ar rs o p u).getD P0).2.2.2.2.2)], .bool ((pkF ar rs o p u).isSome)] : Value) = v ∧ (IntsF F' a ((pkF ar rs o p u).getD P0).1) ∧ (IntsF F' b ((pkF ar rs o p u).getD P0).2.1) ∧ (IntsF F' c ((pkF ar rs o p u).getD P0).2.2.1) ∧ (Fresh F F' (star [intsH 2 a ((pkF ar rs o p u).getD P0).1, intsH 2 b ((pkF ar rs o p u).getD P0).2.1, intsH 2 c ((pkF ar rs o p u).getD P0).2.2.1])) ∧ L = L') := by
 refine ym func119 rfl rfl rfl ?_
 have hlo : termOk ar (rs.getD o ([], [])).1 = true := rule_L hsys ho
 have hllo : 1 ≤ (rs.getD o ([], [])).1.length ∧ (rs.getD o ([], [])).1.length ≤ 60 := termOk_len hlo
 have hglo : ∀ k, k < (rs.getD o ([], [])).1.length → -24 ≤ (rs.getD o ([], [])).1.getD k 0 := fun k h => termOk_ge hlo h
 have hlu : termOk ar (rs.getD u ([], [])).1 = true := rule_L hsys hu
 have hllu : 1 ≤ (rs.getD u ([], [])).1.length ∧ (rs.getD u ([], [])).1.length ≤ 60 := termOk_len hlu
 have hglu : ∀ k, k < (rs.getD u ([], [])).1.length → -24 ≤ (rs.getD u ([], [])).1.getD k 0 := fun k h => termOk_ge hlu h
 have hro : termOk ar (rs.getD o ([], [])).2 = true := rule_R hsys ho
 have hlro : 1 ≤ (rs.getD o ([], [])).2.length ∧ (rs.getD o ([], [])).2.length ≤ 60 := termOk_len hro
 have hgro : ∀ k, k < (rs.getD o ([], [])).2.length → -24 ≤ (rs.getD o ([], [])).2.getD k 0 := fun k h => termOk_ge hro h
 have hru : termOk ar (rs.getD u ([], [])).2 = true := rule_R hsys hu
 have hlru : 1 ≤ (rs.getD u ([], [])).2.length ∧ (rs.getD u ([], [])).2.length ≤ 60 := termOk_len hru
 have hgru : ∀ k, k < (rs.getD u ([], [])).2.length → -24 ≤ (rs.getD u ([], [])).2.getD k 0 := fun k h => termOk_ge hru h
 have hrl := (sysOk_iff.1 hsys).2.1
 have hsig := (sysOk_iff.1 hsys).1
 have hsl := sigOk_spec hsig
 refine qX (qH (cX (yD [arv, rsv] rfl rfl ?_)))
 intro b1
 refine cX (Qe [sN, sN, sN, ii (0), ii (0), ii (0)] Qc rfl ?_)
 intro b2
 refine jc (.bool (false)) rfl (qI (qX (qH (cX (yc [arv, rsv] yY yP rfl rfl (Rd.ownN [_] rfl rfl) (jb (ii ((o : Int))) rfl (jb (ii ((p : Int))) rfl (jb (ii ((u : Int))) rfl (cX (jL (args := [.agg #[arv, rsv], ii (o : Int), ii (p : Int), ii (u : Int)]) call181 rfl (overlap_spec (o := o) (p := p) (u := u) har hrs (hsys := (by first | assumption | rfl | omega | simp)) (ho := (by first | assumption | rfl | omega | simp)) (hu := (by first | assumption | rfl | omega | simp)) (hp := (by first | assumption | rfl | omega | simp))) ?_))))))))))
 rintro _ F1 _ le1 (⟨rfl, hmt1, rfl⟩ | ⟨b3, rfl, hmt1, rfl⟩ | ⟨b3, b4, l1, rfl, hmt1, hb1, hmg1, rfl⟩)
 ·replace har := har.mono le1
  replace hrs := hrs.mono le1
  refine jb (.tuple #[(.pointer none), .bool (false)]) rfl (cX (yr ((.pointer none)) rfl rfl (cX (yr (.bool (false)) rfl rfl (jc ((.pointer none)) rfl (jc (.bool (false)) rfl (qI (qX (qX (qH (jb (.bool (false)) rfl (cX (yR rfl (qI (yX rfl ?_)))))))))))))))
  refine qX (qH (cX (yJ [sN, sN, sN, ii (0), ii (0), ii (0)] [sN, sN, sN, ii (0), ii (0), ii (0)] [(0, 1), (1, 1), (2, 1), (3, 1), (4, 1), (5, 1)] [] yg Qc rfl (.cons rfl jF (.cons rfl jF (.cons rfl jF (.cons rfl js (.cons rfl js (.cons rfl js PlacesAre.nil)))))) rfl CellsAre.nil (cX (yL [] _ [sN, sN, sN, ii (0), ii (0), ii (0)] yC rfl rfl rfl (jT rfl (jT rfl (jT rfl (jT rfl (jT rfl (jT rfl yM)))))) rfl rfl rfl (jc (.bool (false)) rfl (qI (jW (jw (jR (L' := L) [.agg #[sN, sN, sN, ii (0), ii (0), ii (0)], .bool (false)] (.tuple #[.agg #[sN, sN, sN, ii (0), ii (0), ii (0)], .bool (false)]) (.cell rfl (loadNV [sN, sN, sN, ii (0), ii (0), ii (0)] Qy yC rfl (Rd.ownN [] rfl rfl)) (.tmp rfl .nil)) rfl le1 rF (sD (sD sR)) ?_))))))))))
  have e : pkF ar rs o p u = none := pk_nomeet hmt1
  exact ⟨_, _, _, by rw [e]; rfl, by rw [e]; exact IntsF.nilV, by rw [e]; exact IntsF.nilV, by rw [e]; exact IntsF.nilV, by rw [e]; exact Fresh.empty nil3, rfl⟩
 ·replace har := har.mono le1
  replace hrs := hrs.mono le1
  refine jb (.tuple #[ptr b3 0, .bool (false)]) rfl (cX (yr (ptr b3 0) rfl rfl (cX (yr (.bool (false)) rfl rfl (jc (ptr b3 0) rfl (jc (.bool (false)) rfl (qI (qX (qX (qH (jb (.bool (false)) rfl (cX (yR rfl (qI (yX rfl ?_)))))))))))))))
  refine qX (qH (cX (yJ [sN, sN, sN, ii (0), ii (0), ii (0)] [sN, sN, sN, ii (0), ii (0), ii (0)] [(0, 1), (1, 1), (2, 1), (3, 1), (4, 1), (5, 1)] [] yg Qc rfl (.cons rfl jF (.cons rfl jF (.cons rfl jF (.cons rfl js (.cons rfl js (.cons rfl js PlacesAre.nil)))))) rfl CellsAre.nil (cX (yL [] _ [sN, sN, sN, ii (0), ii (0), ii (0)] yC rfl rfl rfl (jT rfl (jT rfl (jT rfl (jT rfl (jT rfl (jT rfl yM)))))) rfl rfl rfl (jc (.bool (false)) rfl (qI (jW (jw (jR (L' := L) [.agg #[sN, sN, sN, ii (0), ii (0), ii (0)], .bool (false)] (.tuple #[.agg #[sN, sN, sN, ii (0), ii (0), ii (0)], .bool (false)]) (.cell rfl (loadNV [sN, sN, sN, ii (0), ii (0), ii (0)] Qy yC rfl (Rd.ownN [] rfl rfl)) (.tmp rfl .nil)) rfl le1 rF (sD (sD sR)) ?_))))))))))
  have e : pkF ar rs o p u = none := pk_nomeet hmt1
  exact ⟨_, _, _, by rw [e]; rfl, by rw [e]; exact IntsF.nilV, by rw [e]; exact IntsF.nilV, by rw [e]; exact IntsF.nilV, by rw [e]; exact Fresh.empty nil3, rfl⟩
 replace har := har.mono le1
 replace hrs := hrs.mono le1
 refine jb (.tuple #[ptr b3 0, .bool (true)]) rfl (cX (yr (ptr b3 0) rfl rfl (cX (yr (.bool (true)) rfl rfl (jc (ptr b3 0) rfl (jc (.bool (true)) rfl (qI (qX (qX (qH (jb (.bool (true)) rfl (cX (yR rfl (qI (yV rfl ?_)))))))))))))))
 refine jU (qX (qH ?_))
 have hmt : meetB ar rs o p u = true := hmt1
 have hmg := hmg1
 have hbo := hmg.ok
 obtain ⟨σ, hσ⟩ := hbo.sol
 have hgs := hσ.good hbo
 refine cX (jE (1) yq rfl yZ (by decide) rfl rfl (cX (jj Qj rfl (Rd.own [_, _] rfl rfl) (jb (ii ((o : Int))) rfl (cX (jq o yy yS rfl rfl rfl hrs.slv (by omega) rfl ?_))))))
 obtain ⟨a1, a2, ha1, ha2, hr1, hr2⟩ := hrs.rd (i := o) (by omega)
 refine cX (yc [a1, a2] isAgg72 yS rfl rfl (Rd.two (hr1 _) (hr2 _)) (cX (Qe [sN, sN] yW rfl ?_)))
 intro b5
 refine cX (yL [] _ [a1, a2] yS rfl rfl rfl (jT (yE (yi ha1)) (jT (yE (yi ha2)) yM)) rfl rfl rfl (qI (qX (qH (jb (ptr b3 0) rfl (cX (jE (0) yu rfl jF (by decide) rfl rfl (cX (jj yt rfl (Rd.own [] rfl rfl) ?_)))))))))
 obtain ⟨ρ9, hρ9⟩ := hbo.acyc
 obtain ⟨k9, hk9⟩ := maxRank ((rs.getD o ([], [])).1) ρ9
 have hw9 := W_ge (termW_of hlo)
 refine yK (intsH.addNil 2 none _) (yK (ye (A := [_, _])) ?_)
 show XL _ _ _ _ _ _ _ (cellsH b3 (arv :: b4) 200 :: intsH 2 (sN) ([]) :: cellsH b5 [a1, a2] 72 :: cellsH b2 [sN, sN, sN, ii (0), ii (0), ii (0)] 76 :: cellsH b1 [arv, rsv] 32 :: L)
 refine yK (ye (A := [_])) ?_
 show XL _ _ _ _ _ _ _ (intsH 2 (sN) ([]) :: cellsH b3 (arv :: b4) 200 :: cellsH b5 [a1, a2] 72 :: cellsH b2 [sN, sN, sN, ii (0), ii (0), ii (0)] 76 :: cellsH b1 [arv, rsv] 32 :: L)
 refine cX (jL (args := [ptr b3 0, sN, a1]) call182 rfl (resolve_spec k9 har hb1 (by assumption) (os := []) ha1 ⟨_, _, _, rfl⟩ (Nat.zero_le _) hσ hρ9 (fun m hm _ => hk9 m hm) hw9.1 hw9.2) ?_)
 rintro _ _ _ _ ⟨v1, rfl, hs1, rfl, rfl⟩
 refine jb (.tuple #[v1, .bool (resOk σ ([] : List Int) ((rs.getD o ([], [])).1))]) rfl (cX (yr (v1) rfl rfl (cX (yr (.bool (resOk σ ([] : List Int) ((rs.getD o ([], [])).1))) rfl rfl (jc (v1) rfl (jc (.bool (resOk σ ([] : List Int) ((rs.getD o ([], [])).1))) rfl (qI (qX (qH (jb (ptr b3 0) rfl (cX (jE (1) yu rfl jF (by decide) rfl rfl (cX (jj yt rfl (Rd.own [_, _] rfl rfl) ?_))))))))))))))
 obtain ⟨ρ9, hρ9⟩ := hbo.acyc
 obtain ⟨k9, hk9⟩ := maxRank ((rs.getD o ([], [])).2) ρ9
 have hw9 := W_ge (termW_of hro)
 refine yK (intsH.addNil 2 none _) (yK (ye (A := [_, _])) ?_)
 show XL _ _ _ _ _ _ _ (cellsH b3 (arv :: b4) 200 :: intsH 2 (sN) ([]) :: intsH 2 v1 ((resX σ ([] : List Int) ((rs.getD o ([], [])).1))) :: cellsH b5 [a1, a2] 72 :: cellsH b2 [sN, sN, sN, ii (0), ii (0), ii (0)] 76 :: cellsH b1 [arv, rsv] 32 :: L)
 refine yK (ye (A := [_])) ?_
 show XL _ _ _ _ _ _ _ (intsH 2 (sN) ([]) :: cellsH b3 (arv :: b4) 200 :: intsH 2 v1 ((resX σ ([] : List Int) ((rs.getD o ([], [])).1))) :: cellsH b5 [a1, a2] 72 :: cellsH b2 [sN, sN, sN, ii (0), ii (0), ii (0)] 76 :: cellsH b1 [arv, rsv] 32 :: L)
 refine cX (jL (args := [ptr b3 0, sN, a2]) call182 rfl (resolve_spec k9 har hb1 (by assumption) (os := []) ha2 ⟨_, _, _, rfl⟩ (Nat.zero_le _) hσ hρ9 (fun m hm _ => hk9 m hm) hw9.1 hw9.2) ?_)
 rintro _ _ _ _ ⟨v2, rfl, hs2, rfl, rfl⟩
 refine jb (.tuple #[v2, .bool (resOk σ ([] : List Int) ((rs.getD o ([], [])).2))]) rfl (cX (yr (v2) rfl rfl (cX (yr (.bool (resOk σ ([] : List Int) ((rs.getD o ([], [])).2))) rfl rfl (jc (v2) rfl (jc (.bool (resOk σ ([] : List Int) ((rs.getD o ([], [])).2))) rfl (qI (qX (qH (jb (ptr b3 0) rfl (cX (jE (1) yq rfl yZ (by decide) rfl rfl (cX (jj Qj rfl (Rd.own [_, _, _, _, _] rfl rfl) (jb (ii ((u : Int))) rfl ?_)))))))))))))))
 refine cX (jq u yy yS rfl rfl rfl hrs.slv (by omega) rfl (cX (Qh (u * 2 + 1) yu rfl jF (by decide) rfl rfl ?_)))
 obtain ⟨a3, a4, ha3, ha4, hr3, hr4⟩ := hrs.rd (i := u) (by omega)
 refine cX (jj yt rfl (hr4 _) (cX (Qo <| jL (args := [a4]) call183 rfl (away_spec ha4 (hlt := (by omega)) (htg := (fun i hi => by have := hgru i hi; omega))) ?_)))
 rintro v3 _ _ _ ⟨rfl, hs3, rfl⟩
 refine ⟨_, _, rfl, fun F2 le2 hz1 => ?_⟩
 replace har := har.mono le2
 replace hb1 := hb1.mono le2
 replace ha1 := ha1.mono le2
 have hf1 : IntsF F2 v3 ((awayL ((rs.getD u ([], [])).2))) := intsH.fz (xs := (awayL ((rs.getD u ([], [])).2))) hz1.fz
 obtain ⟨ρ9, hρ9⟩ := hbo.acyc
 obtain ⟨k9, hk9⟩ := maxRank ((awayL ((rs.getD u ([], [])).2))) ρ9
 have hw9 := W_ge (away_W hru)
 refine yK (intsH.addNil 2 none _) (yK (ye (A := [_, _])) ?_)
 show XL _ _ _ _ _ _ _ (cellsH b3 (arv :: b4) 200 :: intsH 2 (sN) ([]) :: intsH 2 v2 ((resX σ ([] : List Int) ((rs.getD o ([], [])).2))) :: intsH 2 v1 ((resX σ ([] : List Int) ((rs.getD o ([], [])).1))) :: cellsH b5 [a1, a2] 72 :: cellsH b2 [sN, sN, sN, ii (0), ii (0), ii (0)] 76 :: cellsH b1 [arv, rsv] 32 :: L)
 refine yK (ye (A := [_])) ?_
 show XL _ _ _ _ _ _ _ (intsH 2 (sN) ([]) :: cellsH b3 (arv :: b4) 200 :: intsH 2 v2 ((resX σ ([] : List Int) ((rs.getD o ([], [])).2))) :: intsH 2 v1 ((resX σ ([] : List Int) ((rs.getD o ([], [])).1))) :: cellsH b5 [a1, a2] 72 :: cellsH b2 [sN, sN, sN, ii (0), ii (0), ii (0)] 76 :: cellsH b1 [arv, rsv] 32 :: L)
 refine cX (jL (args := [ptr b3 0, sN, v3]) call182 rfl (resolve_spec k9 har hb1 (by assumption) (os := []) hf1 ⟨_, _, _, rfl⟩ (Nat.zero_le _) hσ hρ9 (fun m hm _ => hk9 m hm) hw9.1 hw9.2) ?_)
 rintro _ _ _ _ ⟨v4, rfl, hs4, rfl, rfl⟩
 refine jb (.tuple #[v4, .bool (resOk σ ([] : List Int) ((awayL ((rs.getD u ([], [])).2))))]) rfl (cX (yr (v4) rfl rfl (cX (yr (.bool (resOk σ ([] : List Int) ((awayL ((rs.getD u ([], [])).2))))) rfl rfl (jc (v4) rfl (jc (.bool (resOk σ ([] : List Int) ((awayL ((rs.getD u ([], [])).2))))) rfl (qI (qX (qX (qH (jb (.bool (resOk σ ([] : List Int) ((rs.getD o ([], [])).1))) rfl (cX (yR rfl (jb (.bool (!(resOk σ ([] : List Int) ((rs.getD o ([], [])).1)))) rfl ?_))))))))))))))
 by_cases h1 : (!(resOk σ ([] : List Int) ((rs.getD o ([], [])).1))) = true
 ·have hf9 : resOk σ [] (Lr rs o) = false ∨ resOk σ [] (Rr rs o) = false ∨ resOk σ [] (awayL (Rr rs u)) = false := .inl (Bool.not_inj (y := false) h1)
  refine jA (t := 65) rfl (vB h1) (jA (t := 65) rfl (vB h1) (cX (yp (.bool (true)) (vB h1) rfl (jb (.bool (true)) rfl (jA (t := 69) rfl rfl (jA (t := 69) rfl rfl (cX (yp (.bool (true)) rfl rfl (qI (yX rfl (qX (qH ?_))))))))))))
  refine cX (yJ [sN, sN, sN, ii (0), ii (0), ii (0)] [sN, sN, sN, ii (0), ii (0), ii (0)] [(0, 1), (1, 1), (2, 1), (3, 1), (4, 1), (5, 1)] [] yg Qc rfl (.cons rfl jF (.cons rfl jF (.cons rfl jF (.cons rfl js (.cons rfl js (.cons rfl js PlacesAre.nil)))))) rfl CellsAre.nil (cX (yL [_, _, _, _, _] _ [sN, sN, sN, ii (0), ii (0), ii (0)] yC rfl rfl rfl (jT rfl (jT rfl (jT rfl (jT rfl (jT rfl (jT rfl yM)))))) rfl rfl rfl (jc (.bool (false)) rfl (qI (jW (jw (jR (L' := L) [.agg #[sN, sN, sN, ii (0), ii (0), ii (0)], .bool (false)] (.tuple #[.agg #[sN, sN, sN, ii (0), ii (0), ii (0)], .bool (false)]) (.cell rfl (loadNV [sN, sN, sN, ii (0), ii (0), ii (0)] Qy yC rfl (Rd.ownN [_, _, _, _, _] rfl rfl)) (.tmp rfl .nil)) rfl (jl le1 le2) rF (sD (sD (sD (sD (sD (sD (sD sR))))))) ?_))))))))
  have e : pkF ar rs o p u = none := pk_long hsys ho hu hmt hmg hσ hf9
  exact ⟨_, _, _, by rw [e]; rfl, by rw [e]; exact IntsF.nilV, by rw [e]; exact IntsF.nilV, by rw [e]; exact IntsF.nilV, by rw [e]; exact Fresh.empty nil3, rfl⟩
 rw [Bool.not_eq_true] at h1
 have hkL : resOk σ [] (rs.getD o ([], [])).1 = true := Bool.not_inj (y := true) h1
 obtain ⟨eL, lL⟩ := resX_eq hkL
 refine jB (t := 65) rfl (vB h1) (jk (.bool (resOk σ ([] : List Int) ((rs.getD o ([], [])).2))) rfl (jB (t := 65) rfl (vB h1) (yR rfl (cX (yl (.bool (!(resOk σ ([] : List Int) ((rs.getD o ([], [])).2)))) (vB h1) rfl (jb (.bool (!(resOk σ ([] : List Int) ((rs.getD o ([], [])).2)))) rfl ?_))))))
 by_cases h2 : (!(resOk σ ([] : List Int) ((rs.getD o ([], [])).2))) = true
 ·have hf9 : resOk σ [] (Lr rs o) = false ∨ resOk σ [] (Rr rs o) = false ∨ resOk σ [] (awayL (Rr rs u)) = false := .inr <| .inl (Bool.not_inj (y := false) h2)
  refine jA (t := 69) rfl (vB h2) (jA (t := 69) rfl (vB h2) (cX (yp (.bool (true)) (vB h2) rfl (qI (yX rfl (qX (qH (cX (yJ [sN, sN, sN, ii (0), ii (0), ii (0)] [sN, sN, sN, ii (0), ii (0), ii (0)] [(0, 1), (1, 1), (2, 1), (3, 1), (4, 1), (5, 1)] [] yg Qc rfl (.cons rfl jF (.cons rfl jF (.cons rfl jF (.cons rfl js (.cons rfl js (.cons rfl js PlacesAre.nil)))))) rfl CellsAre.nil (cX (yL [_, _, _, _, _] _ [sN, sN, sN, ii (0), ii (0), ii (0)] yC rfl rfl rfl (jT rfl (jT rfl (jT rfl (jT rfl (jT rfl (jT rfl yM)))))) rfl rfl rfl (jc (.bool (false)) rfl (qI ?_)))))))))))))
  refine jW (jw (jR (L' := L) [.agg #[sN, sN, sN, ii (0), ii (0), ii (0)], .bool (false)] (.tuple #[.agg #[sN, sN, sN, ii (0), ii (0), ii (0)], .bool (false)]) (.cell rfl (loadNV [sN, sN, sN, ii (0), ii (0), ii (0)] Qy yC rfl (Rd.ownN [_, _, _, _, _] rfl rfl)) (.tmp rfl .nil)) rfl (jl le1 le2) rF (sD (sD (sD (sD (sD (sD (sD sR))))))) ?_))
  have e : pkF ar rs o p u = none := pk_long hsys ho hu hmt hmg hσ hf9
  exact ⟨_, _, _, by rw [e]; rfl, by rw [e]; exact IntsF.nilV, by rw [e]; exact IntsF.nilV, by rw [e]; exact IntsF.nilV, by rw [e]; exact Fresh.empty nil3, rfl⟩
 rw [Bool.not_eq_true] at h2
 have hkR : resOk σ [] (rs.getD o ([], [])).2 = true := Bool.not_inj (y := true) h2
 obtain ⟨eR, lR⟩ := resX_eq hkR
 refine jB (t := 69) rfl (vB h2) (jk (.bool (resOk σ ([] : List Int) ((awayL ((rs.getD u ([], [])).2))))) rfl (jB (t := 69) rfl (vB h2) (yR rfl (cX (yl (.bool (!(resOk σ ([] : List Int) ((awayL ((rs.getD u ([], [])).2)))))) (vB h2) rfl (qI ?_))))))
 refine X.cond (t := !(resOk σ ([] : List Int) ((awayL ((rs.getD u ([], [])).2))))) rfl (fun h3 => ?_) (fun h3 => ?_)
 ·have hf9 : resOk σ [] (Lr rs o) = false ∨ resOk σ [] (Rr rs o) = false ∨ resOk σ [] (awayL (Rr rs u)) = false := .inr <| .inr (Bool.not_inj (y := false) h3)
  refine qX (qH (cX (yJ [sN, sN, sN, ii (0), ii (0), ii (0)] [sN, sN, sN, ii (0), ii (0), ii (0)] [(0, 1), (1, 1), (2, 1), (3, 1), (4, 1), (5, 1)] [] yg Qc rfl (.cons rfl jF (.cons rfl jF (.cons rfl jF (.cons rfl js (.cons rfl js (.cons rfl js PlacesAre.nil)))))) rfl CellsAre.nil (cX (yL [_, _, _, _, _] _ [sN, sN, sN, ii (0), ii (0), ii (0)] yC rfl rfl rfl (jT rfl (jT rfl (jT rfl (jT rfl (jT rfl (jT rfl yM)))))) rfl rfl rfl (jc (.bool (false)) rfl (qI (jW (jw (jR (L' := L) [.agg #[sN, sN, sN, ii (0), ii (0), ii (0)], .bool (false)] (.tuple #[.agg #[sN, sN, sN, ii (0), ii (0), ii (0)], .bool (false)]) (.cell rfl (loadNV [sN, sN, sN, ii (0), ii (0), ii (0)] Qy yC rfl (Rd.ownN [_, _, _, _, _] rfl rfl)) (.tmp rfl .nil)) rfl (jl le1 le2) rF (sD (sD (sD (sD (sD (sD (sD sR))))))) ?_))))))))))
  have e : pkF ar rs o p u = none := pk_long hsys ho hu hmt hmg hσ hf9
  exact ⟨_, _, _, by rw [e]; rfl, by rw [e]; exact IntsF.nilV, by rw [e]; exact IntsF.nilV, by rw [e]; exact IntsF.nilV, by rw [e]; exact Fresh.empty nil3, rfl⟩
 have hkA : resOk σ [] (awayL (rs.getD u ([], [])).2) = true := Bool.not_inj (y := true) h3
 obtain ⟨eA, lA⟩ := resX_eq hkA
 have hTW : TermW ar (resX σ [] (rs.getD o ([], [])).1) := by rw [eL]; exact ap_W hbo hσ (termW_of hlo) lL
 have hpT : (ap σ ((rs.getD o ([], [])).1.take p)).length < (resX σ [] (rs.getD o ([], [])).1).length := by rw [eL]; exact take_lt hgs hp
 have hBl : 1 ≤ (resX σ [] (awayL (rs.getD u ([], [])).2)).length ∧ (resX σ [] (awayL (rs.getD u ([], [])).2)).length ≤ 4000000 := by rw [eA]; have := (ap_W hbo hσ (away_W hru) lA).len; omega
 refine jU (qX (yz [_, _, _] _ _ rfl (fun F3 le3 hz2 => ?_)))
 replace har := har.mono le3
 replace hb1 := hb1.mono le3
 replace ha1 := ha1.mono le3
 have hf2 : IntsF F3 v1 ((resX σ ([] : List Int) ((rs.getD o ([], [])).1))) := intsH.fz (xs := (resX σ ([] : List Int) ((rs.getD o ([], [])).1))) hz2.fz
 refine yz [_, _] _ _ rfl (fun F4 le4 hz3 => ?_)
 replace har := har.mono le4
 replace hb1 := hb1.mono le4
 replace ha1 := ha1.mono le4
 replace hf2 := hf2.mono le4
 have hf3 : IntsF F4 v2 ((resX σ ([] : List Int) ((rs.getD o ([], [])).2))) := intsH.fz (xs := (resX σ ([] : List Int) ((rs.getD o ([], [])).2))) hz3.fz
 refine yz [] _ _ rfl (fun F5 le5 hz4 => ?_)
 replace har := har.mono le5
 replace hb1 := hb1.mono le5
 replace ha1 := ha1.mono le5
 replace hf2 := hf2.mono le5
 replace hf3 := hf3.mono le5
 have hf4 : IntsF F5 v4 ((resX σ ([] : List Int) ((awayL ((rs.getD u ([], [])).2))))) := intsH.fz (xs := (resX σ ([] : List Int) ((awayL ((rs.getD u ([], [])).2))))) hz4.fz
 refine X.drawG [cellsH b3 (arv :: b4) 200, cellsH b5 [a1, a2] 72, cellsH b2 [sN, sN, sN, ii (0), ii (0), ii (0)] 76, cellsH b1 [arv, rsv] 32] L 14 [[], [], [], [], [], [], [], [], [], [], [9], [9], [], [9]] [[], [0], [], [], [], [4], [], [3, 5, 6], [], [1, 2, 7, 8], [9], [9, 10], [9, 10], [9, 11]] [] (phiG [pe (ptr b1 0), pe (.agg #[arv]), pe v1, pe (ptr b3 0), pe (ptr b5 0), pe a1, pe (ii ((p : Int)) : Value), pe (ii ((((ap σ (((rs.getD o ([], [])).1).take p)).length : Nat) : Int)) : Value), pe v4, fun FF us v => (.tuple #[((tupAt v 0)), .bool ((putL ar ((resX σ ([] : List Int) ((rs.getD o ([], [])).1))) ((ap σ (((rs.getD o ([], [])).1).take p)).length) ((resX σ ([] : List Int) ((awayL ((rs.getD u ([], [])).2)))))).isSome)] : Value) = v ∧ (IntsF FF ((tupAt v 0)) ((putL ar ((resX σ ([] : List Int) ((rs.getD o ([], [])).1))) ((ap σ (((rs.getD o ([], [])).1).take p)).length) ((resX σ ([] : List Int) ((awayL ((rs.getD u ([], [])).2)))))).getD [])) ∧ ((putL ar ((resX σ ([] : List Int) ((rs.getD o ([], [])).1))) ((ap σ (((rs.getD o ([], [])).1).take p)).length) ((resX σ ([] : List Int) ((awayL ((rs.getD u ([], [])).2)))))).isSome = true → isNil ((tupAt v 0)) = false), fun FF us v => v = (.tuple #[((tupAt (us.getD 0 undef) 0)), .bool ((putL ar ((resX σ ([] : List Int) ((rs.getD o ([], [])).1))) ((ap σ (((rs.getD o ([], [])).1).take p)).length) ((resX σ ([] : List Int) ((awayL ((rs.getD u ([], [])).2)))))).isSome)] : Value), fun FF us v => v = ((tupAt (us.getD 0 undef) 0)), pe (.bool ((putL ar ((resX σ ([] : List Int) ((rs.getD o ([], [])).1))) ((ap σ (((rs.getD o ([], [])).1).take p)).length) ((resX σ ([] : List Int) ((awayL ((rs.getD u ([], [])).2)))))).isSome) : Value), fun FF us v => v = ((tupAt (us.getD 0 undef) 0))]) (ownL []) mixed rfl rfl (by kernel_rfl) (by kernel_rfl) (MonoG.get (m1 (m1 (m1 (m1 (m1 (m1 (m1 (m1 (m1 (mC (fun le h => ⟨h.1, h.2.1.mono le, h.2.2⟩) (mC (fun le h => h) (mC (fun le h => h) (m1 (mC (fun le h => h) MonoG.nil))))))))))))))) ?_ ?_
 ·refine gD (fun W Fs R lF z9 => ?_) ?_
  ·refine je (jE (0) yq rfl ys (by decide) rfl rfl ?_)
   exact ⟨rfl, rfl⟩
  refine gD (fun W Fs R lF z9 => ?_) ?_
  ·replace har := har.mono lF
   replace hb1 := hb1.mono lF
   replace ha1 := ha1.mono lF
   replace hf2 := hf2.mono lF
   replace hf3 := hf3.mono lF
   replace hf4 := hf4.mono lF
   rw [eS (l := [(0, _)]) ⟨z9 0 rfl, ⟨⟩⟩]
   refine je (yc [arv] yF ys rfl rfl (Rd.ownN [_, _, _] rfl rfl) ?_)
   exact ⟨rfl, rfl⟩
  refine gD (fun W Fs R lF z9 => ?_) ?_
  ·refine je (jk (v1) rfl ?_)
   exact ⟨rfl, rfl⟩
  refine gD (fun W Fs R lF z9 => ?_) ?_
  ·refine je (jk (ptr b3 0) rfl ?_)
   exact ⟨rfl, rfl⟩
  refine gD (fun W Fs R lF z9 => ?_) ?_
  ·refine je (jE (0) yu rfl jF (by decide) rfl rfl ?_)
   exact ⟨rfl, rfl⟩
  refine gD (fun W Fs R lF z9 => ?_) ?_
  ·replace har := har.mono lF
   replace hb1 := hb1.mono lF
   replace ha1 := ha1.mono lF
   replace hf2 := hf2.mono lF
   replace hf3 := hf3.mono lF
   replace hf4 := hf4.mono lF
   rw [eS (l := [(4, _)]) ⟨z9 4 rfl, ⟨⟩⟩]
   refine je (jj yt rfl (Rd.own [_] rfl rfl) ?_)
   exact ⟨rfl, rfl⟩
  refine gD (fun W Fs R lF z9 => ?_) ?_
  ·refine je (jk (ii ((p : Int))) rfl ?_)
   exact ⟨rfl, rfl⟩
  refine gD (fun W Fs R lF z9 => ?_) ?_
  ·replace har := har.mono lF
   replace hb1 := hb1.mono lF
   replace ha1 := ha1.mono lF
   replace hf2 := hf2.mono lF
   replace hf3 := hf3.mono lF
   replace hf4 := hf4.mono lF
   rw [eS (l := [(3, _), (5, _), (6, _)]) ⟨z9 3 rfl, z9 5 rfl, z9 6 rfl, ⟨⟩⟩]
   refine je (jL (args := [ptr b3 0, a1, ii ((p : Int))]) call185 rfl (Does.at [] (placeIn_spec (p := p) har hb1 hbo ha1 hσ (termW_of hlo) (by first | assumption | omega) lL)) ?_)
   rintro _ _ _ _ ⟨⟨rfl, rfl⟩, rfl⟩
   exact ⟨rfl, rfl⟩
  refine gD (fun W Fs R lF z9 => ?_) ?_
  ·refine je (jk (v4) rfl ?_)
   exact ⟨rfl, rfl⟩
  refine gD (fun W Fs R lF z9 => ?_) ?_
  ·replace har := har.mono lF
   replace hf2 := hf2.mono lF
   replace hf3 := hf3.mono lF
   replace hf4 := hf4.mono lF
   rw [eS (l := [(1, _), (2, _), (7, _), (8, _)]) ⟨z9 1 rfl, z9 2 rfl, z9 7 rfl, z9 8 rfl, ⟨⟩⟩]
   refine je (jL (args := [.agg #[arv], v1, ii (((ap σ (((rs.getD o ([], [])).1).take p)).length : Nat) : Int), v4]) call184 rfl (putW_spec (p := (ap σ (((rs.getD o ([], [])).1).take p)).length) har hf2 hf4 (ho := (hTW)) (hp := (hpT)) (hul := (hBl))) ?_)
   rintro _ F7 _ le7 ⟨x2, rfl, hr8, hr9, hr10, rfl⟩
   replace hf2 := hf2.mono le7
   replace hf3 := hf3.mono le7
   exact ⟨⟨rfl, hr8, hr9⟩, rfl⟩
  refine gD (fun W Fs R lF z9 => ?_) ?_
  ·obtain ⟨e9, f9_1hr, f9_1hnz⟩ := z9 9 rfl
   rw [eS (l := [(9, (.tuple #[((tupAt (W 9) 0)), .bool ((putL ar ((resX σ ([] : List Int) ((rs.getD o ([], [])).1))) ((ap σ (((rs.getD o ([], [])).1).take p)).length) ((resX σ ([] : List Int) ((awayL ((rs.getD u ([], [])).2)))))).isSome)]))]) ⟨(e9).symm, ⟨⟩⟩]
   refine je (jk (.tuple #[((tupAt (W 9) 0)), .bool ((putL ar ((resX σ ([] : List Int) ((rs.getD o ([], [])).1))) ((ap σ (((rs.getD o ([], [])).1).take p)).length) ((resX σ ([] : List Int) ((awayL ((rs.getD u ([], [])).2)))))).isSome)]) rfl ?_)
   exact ⟨rfl, rfl⟩
  refine gD (fun W Fs R lF z9 => ?_) ?_
  ·obtain ⟨e9, f9_1hr, f9_1hnz⟩ := z9 9 rfl
   have e10 : W 10 = (.tuple #[((tupAt (W 9) 0)), .bool ((putL ar ((resX σ ([] : List Int) ((rs.getD o ([], [])).1))) ((ap σ (((rs.getD o ([], [])).1).take p)).length) ((resX σ ([] : List Int) ((awayL ((rs.getD u ([], [])).2)))))).isSome)] : Value) := z9 10 rfl
   rw [eS (l := [(9, (.tuple #[((tupAt (W 9) 0)), .bool ((putL ar ((resX σ ([] : List Int) ((rs.getD o ([], [])).1))) ((ap σ (((rs.getD o ([], [])).1).take p)).length) ((resX σ ([] : List Int) ((awayL ((rs.getD u ([], [])).2)))))).isSome)])), (10, (.tuple #[((tupAt (W 9) 0)), .bool ((putL ar ((resX σ ([] : List Int) ((rs.getD o ([], [])).1))) ((ap σ (((rs.getD o ([], [])).1).take p)).length) ((resX σ ([] : List Int) ((awayL ((rs.getD u ([], [])).2)))))).isSome)]))]) ⟨(e9).symm, e10, ⟨⟩⟩]
   refine je (yr (((tupAt (W 9) 0))) rfl rfl ?_)
   exact ⟨rfl, rfl⟩
  refine gD (fun W Fs R lF z9 => ?_) ?_
  ·obtain ⟨e9, f9_1hr, f9_1hnz⟩ := z9 9 rfl
   have e10 : W 10 = (.tuple #[((tupAt (W 9) 0)), .bool ((putL ar ((resX σ ([] : List Int) ((rs.getD o ([], [])).1))) ((ap σ (((rs.getD o ([], [])).1).take p)).length) ((resX σ ([] : List Int) ((awayL ((rs.getD u ([], [])).2)))))).isSome)] : Value) := z9 10 rfl
   rw [eS (l := [(9, (.tuple #[((tupAt (W 9) 0)), .bool ((putL ar ((resX σ ([] : List Int) ((rs.getD o ([], [])).1))) ((ap σ (((rs.getD o ([], [])).1).take p)).length) ((resX σ ([] : List Int) ((awayL ((rs.getD u ([], [])).2)))))).isSome)])), (10, (.tuple #[((tupAt (W 9) 0)), .bool ((putL ar ((resX σ ([] : List Int) ((rs.getD o ([], [])).1))) ((ap σ (((rs.getD o ([], [])).1).take p)).length) ((resX σ ([] : List Int) ((awayL ((rs.getD u ([], [])).2)))))).isSome)]))]) ⟨(e9).symm, e10, ⟨⟩⟩]
   refine je (yr (.bool ((putL ar ((resX σ ([] : List Int) ((rs.getD o ([], [])).1))) ((ap σ (((rs.getD o ([], [])).1).take p)).length) ((resX σ ([] : List Int) ((awayL ((rs.getD u ([], [])).2)))))).isSome)) rfl rfl ?_)
   exact ⟨rfl, rfl⟩
  refine gD (fun W Fs R lF z9 => ?_) ?_
  ·obtain ⟨e9, f9_1hr, f9_1hnz⟩ := z9 9 rfl
   have e11 : W 11 = ((tupAt (W 9) 0)) := z9 11 rfl
   rw [eS (l := [(9, (.tuple #[((tupAt (W 9) 0)), .bool ((putL ar ((resX σ ([] : List Int) ((rs.getD o ([], [])).1))) ((ap σ (((rs.getD o ([], [])).1).take p)).length) ((resX σ ([] : List Int) ((awayL ((rs.getD u ([], [])).2)))))).isSome)])), (11, ((tupAt (W 9) 0)))]) ⟨(e9).symm, e11, ⟨⟩⟩]
   refine je (XOp.assign (((tupAt (W 9) 0))) rfl ?_)
   exact ⟨rfl, rfl⟩
  exact stepsG.nil
 intro W F8 le8 hphi
 obtain ⟨e9, f9_1hr, f9_1hnz⟩ := hphi 9 (by decide)
 have e10 : W 10 = (.tuple #[((tupAt (W 9) 0)), .bool ((putL ar ((resX σ ([] : List Int) ((rs.getD o ([], [])).1))) ((ap σ (((rs.getD o ([], [])).1).take p)).length) ((resX σ ([] : List Int) ((awayL ((rs.getD u ([], [])).2)))))).isSome)] : Value) := hphi 10 (by decide)
 have e11 : W 11 = ((tupAt (W 9) 0)) := hphi 11 (by decide)
 have e13 : W 13 = ((tupAt (W 9) 0)) := hphi 13 (by decide)
 generalize hu1 : ((tupAt (W 9) 0)) = u1 at e9 f9_1hr f9_1hnz e10 e11 e13
 rw [eS (l := [(9, (.tuple #[u1, .bool ((putL ar ((resX σ ([] : List Int) ((rs.getD o ([], [])).1))) ((ap σ (((rs.getD o ([], [])).1).take p)).length) ((resX σ ([] : List Int) ((awayL ((rs.getD u ([], [])).2)))))).isSome)])), (12, _), (13, u1)]) ⟨(e9).symm, (hphi 12 (by decide)), e13, ⟨⟩⟩]
 replace hf2 := hf2.mono le8
 replace hf3 := hf3.mono le8
 show XL _ _ _ _ _ _ _ (cellsH b3 (arv :: b4) 200 :: cellsH b5 [a1, a2] 72 :: cellsH b2 [sN, sN, sN, ii (0), ii (0), ii (0)] 76 :: cellsH b1 [arv, rsv] 32 :: L)
 refine jc (.bool ((putL ar ((resX σ ([] : List Int) ((rs.getD o ([], [])).1))) ((ap σ (((rs.getD o ([], [])).1).take p)).length) ((resX σ ([] : List Int) ((awayL ((rs.getD u ([], [])).2)))))).isSome)) rfl (qI (qX (qX (qH (jb (.bool ((putL ar ((resX σ ([] : List Int) ((rs.getD o ([], [])).1))) ((ap σ (((rs.getD o ([], [])).1).take p)).length) ((resX σ ([] : List Int) ((awayL ((rs.getD u ([], [])).2)))))).isSome)) rfl (cX (yR rfl (qI ?_))))))))
 refine X.cond (t := !((putL ar ((resX σ ([] : List Int) ((rs.getD o ([], [])).1))) ((ap σ (((rs.getD o ([], [])).1).take p)).length) ((resX σ ([] : List Int) ((awayL ((rs.getD u ([], [])).2)))))).isSome)) rfl (fun h4 => ?_) (fun h4 => ?_)
 ·have hfP := Bool.not_inj (y := false) h4
  refine qX (qH (cX (yJ [sN, sN, sN, ii (0), ii (0), ii (0)] [sN, sN, sN, ii (0), ii (0), ii (0)] [(0, 1), (1, 1), (2, 1), (3, 1), (4, 1), (5, 1)] [] yg Qc rfl (.cons rfl jF (.cons rfl jF (.cons rfl jF (.cons rfl js (.cons rfl js (.cons rfl js PlacesAre.nil)))))) rfl CellsAre.nil (cX (yL [_, _] _ [sN, sN, sN, ii (0), ii (0), ii (0)] yC rfl rfl rfl (jT rfl (jT rfl (jT rfl (jT rfl (jT rfl (jT rfl yM)))))) rfl rfl rfl (jc (.bool (false)) rfl (qI (jW (jw (jR (L' := L) [.agg #[sN, sN, sN, ii (0), ii (0), ii (0)], .bool (false)] (.tuple #[.agg #[sN, sN, sN, ii (0), ii (0), ii (0)], .bool (false)]) (.cell rfl (loadNV [sN, sN, sN, ii (0), ii (0), ii (0)] Qy yC rfl (Rd.ownN [_, _] rfl rfl)) (.tmp rfl .nil)) rfl (jl (jl (jl (jl (jl le1 le2) le3) le4) le5) le8) rF (sD (sD (sD (sD sR)))) ?_))))))))))
  have e : pkF ar rs o p u = none := pk_left hsys ho hu hp hmt hmg hσ hkL hkA hfP
  exact ⟨_, _, _, by rw [e]; rfl, by rw [e]; exact IntsF.nilV, by rw [e]; exact IntsF.nilV, by rw [e]; exact IntsF.nilV, by rw [e]; exact Fresh.empty nil3, rfl⟩
 have hkP := Bool.not_inj (y := true) h4
 obtain ⟨eP, lP⟩ := put_some hsys ho hp hbo hσ hkL hkA hkP
 refine jU (qX (qH (jb (v1) rfl (jb (u1) rfl (jb (v2) rfl (cX (jQ (s := 1) [v1, u1, v2] [sN] [(0, [v1]), (1, [u1]), (2, [v2])] jX jF Qn rfl (by decide) rfl (.cons (cells_one (yi hf2)) (.cons (cells_one (yi f9_1hr)) (.cons (cells_one (yi hf3)) CellsAre.nil))) rfl ?_)))))))
 intro v5 hv1
 have hc1 : RowsC F8 [v1, u1, v2] ([(resX σ ([] : List Int) ((rs.getD o ([], [])).1)), (putL ar ((resX σ ([] : List Int) ((rs.getD o ([], [])).1))) ((ap σ (((rs.getD o ([], [])).1).take p)).length) ((resX σ ([] : List Int) ((awayL ((rs.getD u ([], [])).2)))))).getD [], (resX σ ([] : List Int) ((rs.getD o ([], [])).2))] : List (List Int)) := (RowsC.snoc (RowsC.snoc (RowsC.snoc (CO.nil : RowsC F8 [] []) hf2) f9_1hr) hf3)
 refine Qd [] _ _ rfl (fun F9 le9 hz5 => ?_)
 replace hc1 := hc1.mono le9
 have hf5 : RowsF F9 v5 (([(resX σ ([] : List Int) ((rs.getD o ([], [])).1)), (putL ar ((resX σ ([] : List Int) ((rs.getD o ([], [])).1))) ((ap σ (((rs.getD o ([], [])).1).take p)).length) ((resX σ ([] : List Int) ((awayL ((rs.getD u ([], [])).2)))))).getD [], (resX σ ([] : List Int) ((rs.getD o ([], [])).2))] : List (List Int))) := CO.fz hc1 (by first | rfl | omega | (rw [List.length_set]; omega) | (simp; done)) hz5.fz
 refine cX (jL (args := [v5]) call142 rfl (renumber_spec hf5 (by simp) (fun i hi => by match i, hi with | 0, _ => (show (resX σ [] (rs.getD o ([], [])).1).length ≤ 60; rw [eL]; exact lL) | 1, _ => (show ((putL ar (resX σ [] (rs.getD o ([], [])).1) (ap σ ((rs.getD o ([], [])).1.take p)).length (resX σ [] (awayL (rs.getD u ([], [])).2))).getD []).length ≤ 60; rw [eP]; exact lP) | 2, _ => (show (resX σ [] (rs.getD o ([], [])).2).length ≤ 60; rw [eR]; exact lR))) ?_)
 rintro v6 F10 _ le10 ⟨cs1, Us1, hA1, hC1, hD1, hZ1, rfl⟩
 have he9 : rnL [] (([(resX σ ([] : List Int) ((rs.getD o ([], [])).1)), (putL ar ((resX σ ([] : List Int) ((rs.getD o ([], [])).1))) ((ap σ (((rs.getD o ([], [])).1).take p)).length) ((resX σ ([] : List Int) ((awayL ((rs.getD u ([], [])).2)))))).getD [], (resX σ ([] : List Int) ((rs.getD o ([], [])).2))] : List (List Int))) = [(byL (orderL (ap σ (rs.getD o ([], [])).1)) (ap σ (rs.getD o ([], [])).1)), (byL (orderL (ap σ (rs.getD o ([], [])).1)) (ap σ (leftT ar rs o p u))), (byL (orderL (ap σ (rs.getD o ([], [])).1)) (ap σ (rs.getD o ([], [])).2))] := by rw [eP, eL, eR]; exact pk_rn hsys ho hu hmg hσ
 rw [he9] at hA1 hC1 hD1
 obtain ⟨a5, a6, a7, rfl, rfl⟩ := hD1.three
 obtain ⟨ha5, ha6, ha7⟩ := RowsC.three hC1
 have hR1 : RowsF F10 v6 ([(byL (orderL (ap σ (rs.getD o ([], [])).1)) (ap σ (rs.getD o ([], [])).1)), (byL (orderL (ap σ (rs.getD o ([], [])).1)) (ap σ (leftT ar rs o p u))), (byL (orderL (ap σ (rs.getD o ([], [])).1)) (ap σ (rs.getD o ([], [])).2))] : RowL) := ⟨_, hA1, hC1.2⟩
 have hr11 : ∀ L, Rd F10 L (elemA v6 0) a5 := fun L => Rd.arr hA1 rfl
 have hr12 : ∀ L, Rd F10 L (elemA v6 1) a6 := fun L => Rd.arr hA1 rfl
 have hr13 : ∀ L, Rd F10 L (elemA v6 2) a7 := fun L => Rd.arr hA1 rfl
 refine jc (v6) rfl (qI (qX (qX (qH (jb (v6) rfl (cX (jq 0 jX jF rfl rfl rfl hR1.slv (by (try simp only [List.length_cons, List.length_nil]); omega) (Nat.mul_one _) (cX (jj yt rfl (hr11 _) (cX (jL (args := [a5]) call149 rfl (Min_spec ha5 (h1 := (by show 1 ≤ (byL (orderL (ap σ (rs.getD o ([], [])).1)) (ap σ (rs.getD o ([], [])).1)).length; rw [byL_len]; have := (ap_W hbo hσ (termW_of hlo) lL).len; omega)) (hbd := (by show (byL (orderL (ap σ (rs.getD o ([], [])).1)) (ap σ (rs.getD o ([], [])).1)).length ≤ _; rw [byL_len]; omega))) ?_)))))))))))
 rintro _ _ _ _ ⟨rfl, rfl, rfl⟩
 refine cX (yo rfl rfl (qI ?_))
 refine jV (p := (minL (((([(byL (orderL (ap σ (rs.getD o ([], [])).1)) (ap σ (rs.getD o ([], [])).1)), (byL (orderL (ap σ (rs.getD o ([], [])).1)) (ap σ (leftT ar rs o p u))), (byL (orderL (ap σ (rs.getD o ([], [])).1)) (ap σ (rs.getD o ([], [])).2))] : RowL)).getD 0 [])) : Int) < -24) rfl (fun h5 => ?_) (fun h5 => ?_)
 ·have h24 := (order_len (ap σ (rs.getD o ([], [])).1) (by have := (ap_W hbo hσ (termW_of hlo) lL).len; omega)).1 (show minL (byL (orderL (ap σ (rs.getD o ([], [])).1)) (ap σ (rs.getD o ([], [])).1)) < -24 from h5)
  refine qX (qH (cX (yJ [sN, sN, sN, ii (0), ii (0), ii (0)] [sN, sN, sN, ii (0), ii (0), ii (0)] [(0, 1), (1, 1), (2, 1), (3, 1), (4, 1), (5, 1)] [] yg Qc rfl (.cons rfl jF (.cons rfl jF (.cons rfl jF (.cons rfl js (.cons rfl js (.cons rfl js PlacesAre.nil)))))) rfl CellsAre.nil (cX (yL [_, _] _ [sN, sN, sN, ii (0), ii (0), ii (0)] yC rfl rfl rfl (jT rfl (jT rfl (jT rfl (jT rfl (jT rfl (jT rfl yM)))))) rfl rfl rfl (jc (.bool (false)) rfl (qI (jW (jw (jR (L' := L) [.agg #[sN, sN, sN, ii (0), ii (0), ii (0)], .bool (false)] (.tuple #[.agg #[sN, sN, sN, ii (0), ii (0), ii (0)], .bool (false)]) (.cell rfl (loadNV [sN, sN, sN, ii (0), ii (0), ii (0)] Qy yC rfl (Rd.ownN [_, _] rfl rfl)) (.tmp rfl .nil)) rfl (jl (jl (jl (jl (jl (jl (jl le1 le2) le3) le4) le5) le8) le9) le10) rF (sD (sD (sD (sD sR)))) ?_))))))))))
  have e : pkF ar rs o p u = none := pk_order hsys ho hu hmt hmg hσ h24
  exact ⟨_, _, _, by rw [e]; rfl, by rw [e]; exact IntsF.nilV, by rw [e]; exact IntsF.nilV, by rw [e]; exact IntsF.nilV, by rw [e]; exact Fresh.empty nil3, rfl⟩
 have h24 := Nat.le_of_not_lt (mt (order_len (ap σ (rs.getD o ([], [])).1) (by have := (ap_W hbo hσ (termW_of hlo) lL).len; omega)).2 (show ¬ minL (byL (orderL (ap σ (rs.getD o ([], [])).1)) (ap σ (rs.getD o ([], [])).1)) < -24 from h5))
 refine jU (qX ?_)
 refine yN [cellsH b3 (arv :: b4) 200, cellsH b5 [a1, a2] 72, cellsH b2 [sN, sN, sN, ii (0), ii (0), ii (0)] 76, cellsH b1 [arv, rsv] 32] L 12 [] [[], [0], [1], [], [3], [4], [], [6], [7]] (phiL [qe v6, qe (.pointer (some (elemA v6 (0)))), qe a5, qe v6, qe (.pointer (some (elemA v6 (1)))), qe a6, qe v6, qe (.pointer (some (elemA v6 (2)))), qe a7, qe (ii ((p : Int)) : Value), qe (ii ((u : Int)) : Value), qe (ii ((o : Int)) : Value)]) (ownL []) mixed rfl rfl (by kernel_rfl) ?_ ?_
 ·refine pD (fun W R z9 => ?_) ?_
  ·refine je (jk (v6) rfl ?_)
   exact ⟨rfl, rfl, rfl⟩
  refine pD (fun W R z9 => ?_) ?_
  ·rw [eS (l := [(0, _)]) ⟨z9 0 rfl, ⟨⟩⟩]
   refine je (jq 0 jX jF rfl rfl rfl hR1.slv (by (try simp only [List.length_cons, List.length_nil]); omega) (Nat.mul_one _) ?_)
   exact ⟨rfl, rfl, rfl⟩
  refine pD (fun W R z9 => ?_) ?_
  ·rw [eS (l := [(1, _)]) ⟨z9 1 rfl, ⟨⟩⟩]
   refine je (jj yt rfl (hr11 _) ?_)
   exact ⟨rfl, rfl, rfl⟩
  refine pD (fun W R z9 => ?_) ?_
  ·refine je (jk (v6) rfl ?_)
   exact ⟨rfl, rfl, rfl⟩
  refine pD (fun W R z9 => ?_) ?_
  ·rw [eS (l := [(3, _)]) ⟨z9 3 rfl, ⟨⟩⟩]
   refine je (jq 1 jX jF rfl rfl rfl hR1.slv (by (try simp only [List.length_cons, List.length_nil]); omega) (Nat.mul_one _) ?_)
   exact ⟨rfl, rfl, rfl⟩
  refine pD (fun W R z9 => ?_) ?_
  ·rw [eS (l := [(4, _)]) ⟨z9 4 rfl, ⟨⟩⟩]
   refine je (jj yt rfl (hr12 _) ?_)
   exact ⟨rfl, rfl, rfl⟩
  refine pD (fun W R z9 => ?_) ?_
  ·refine je (jk (v6) rfl ?_)
   exact ⟨rfl, rfl, rfl⟩
  refine pD (fun W R z9 => ?_) ?_
  ·rw [eS (l := [(6, _)]) ⟨z9 6 rfl, ⟨⟩⟩]
   refine je (jq 2 jX jF rfl rfl rfl hR1.slv (by (try simp only [List.length_cons, List.length_nil]); omega) (Nat.mul_one _) ?_)
   exact ⟨rfl, rfl, rfl⟩
  refine pD (fun W R z9 => ?_) ?_
  ·rw [eS (l := [(7, _)]) ⟨z9 7 rfl, ⟨⟩⟩]
   refine je (jj yt rfl (hr13 _) ?_)
   exact ⟨rfl, rfl, rfl⟩
  refine pD (fun W R z9 => ?_) ?_
  ·refine je (jk (ii ((p : Int))) rfl ?_)
   exact ⟨rfl, rfl, rfl⟩
  refine pD (fun W R z9 => ?_) ?_
  ·refine je (jk (ii ((u : Int))) rfl ?_)
   exact ⟨rfl, rfl, rfl⟩
  refine pD (fun W R z9 => ?_) ?_
  ·refine je (jk (ii ((o : Int))) rfl ?_)
   exact ⟨rfl, rfl, rfl⟩
  exact stepsP.nil
 intro W hphi
 rw [eS (l := [(2, _), (5, _), (8, _), (9, _), (10, _), (11, _)]) ⟨(hphi 2 (by decide)), (hphi 5 (by decide)), (hphi 8 (by decide)), (hphi 9 (by decide)), (hphi 10 (by decide)), (hphi 11 (by decide)), ⟨⟩⟩]
 show XL _ _ _ _ _ _ _ (cellsH b3 (arv :: b4) 200 :: cellsH b5 [a1, a2] 72 :: cellsH b2 [sN, sN, sN, ii (0), ii (0), ii (0)] 76 :: cellsH b1 [arv, rsv] 32 :: L)
 refine cX (yJ [a5, a6, a7, ii ((p : Int)), ii ((u : Int)), ii ((o : Int))] [sN, sN, sN, ii (0), ii (0), ii (0)] [(0, 1), (1, 1), (2, 1), (3, 1), (4, 1), (5, 1)] [(0, [a5]), (1, [a6]), (2, [a7]), (3, [ii ((p : Int))]), (4, [ii ((u : Int))]), (5, [ii ((o : Int))])] yg Qc rfl (.cons rfl jF (.cons rfl jF (.cons rfl jF (.cons rfl js (.cons rfl js (.cons rfl js PlacesAre.nil)))))) rfl (.cons (cells_one (yi ha5)) (.cons (cells_one (yi ha6)) (.cons (cells_one (yi ha7)) (.cons rfl (.cons rfl (.cons rfl CellsAre.nil)))))) (cX (yL [_, _] _ [a5, a6, a7, ii ((p : Int)), ii ((u : Int)), ii ((o : Int))] yC rfl rfl rfl (jT (yE (yi ha5)) (jT (yE (yi ha6)) (jT (yE (yi ha7)) (jT rfl (jT rfl (jT rfl yM)))))) rfl rfl rfl (jc (.bool (true)) rfl (qI (jW (jR (L' := L) [.agg #[a5, a6, a7, ii ((p : Int)), ii ((u : Int)), ii ((o : Int))], .bool (true)] (.tuple #[.agg #[a5, a6, a7, ii ((p : Int)), ii ((u : Int)), ii ((o : Int))], .bool (true)]) (.cell rfl (loadNV [a5, a6, a7, ii ((p : Int)), ii ((u : Int)), ii ((o : Int))] Qy yC rfl (Rd.ownN [_, _] rfl rfl)) (.tmp rfl .nil)) rfl (jl (jl (jl (jl (jl (jl (jl le1 le2) le3) le4) le5) le8) le9) le10) rF (sD (sD (sD (sD sR)))) ?_)))))))
 have e := pk_yes hsys ho hu hmt hmg hσ lL lP lR h24
 exact ⟨_, _, _, by rw [e]; rfl, by rw [e]; exact ha5, by rw [e]; exact ha6, by rw [e]; exact ha7, by rw [e]; exact (hZ1.base (jl (jl (jl (jl (jl (jl le1 le2) le3) le4) le5) le8) le9)), rfl⟩

/- impl.meetings -/
theorem meetings_spec {F : FH} {L : List HP} {arv : Value} {ar : List Int} (har : IntsF F arv ar) {rsv : Value} {rs : List (List Int × List Int)} (hrs : PairsF F rsv rs) :
    Does prog 171 [.agg #[arv, rsv]] F (L) (fun v F' L' => ∃ (bs : Nat), (.func (.func 219) #[] #[ptr bs 0] : Value) = v ∧ FzC F' bs [arv, rsv] ∧ L = L') := by
 refine ym func171 rfl rfl rfl (qX (qH (cX (yD [arv, rsv] rfl rfl ?_))))
 intro b1
 refine jc (.nilFunc) rfl (qI (qX (qH (cX (XOp.makeFuncL [] [ptr b1 0] rfl rfl (jc (.func (.func 219) #[] #[ptr b1 0]) rfl (qI (X.freeze [] _ _ rfl (fun F1 le1 hz1 => ?_)))))))))
 have hf1 : FzC F1 b1 [arv, rsv] := Fz.cells hz1
 refine jW (jR (L' := L) [.func (.func 219) #[] #[ptr b1 0]] (.func (.func 219) #[] #[ptr b1 0]) (.tmp rfl .nil) rfl le1 rF sR ?_)
 exact ⟨_, rfl, hf1, rfl⟩

/- impl.meetings$1 -/
set_option maxHeartbeats 2000000 in
set_option maxRecDepth 20000 in
theorem meetIt_spec {F : FH} {L : List HP} {l bs : Nat} {R R2 : Loop} {arv : Value} {ar : List Int} (har : IntsF F arv ar) {rsv : Value} {rs : List (List Int × List Int)} (hrs : PairsF F rsv rs) (hcb : FzC F bs [arv, rsv]) (hsys : sysOk ar rs = true) {J : List Tr → FH → List HP → Prop} {Jx : FH → List HP → Prop} (hJ0 : J [] F L) (hJm : ∀ {ms : List Tr} {F F' : FH} {L : List HP}, J ms F L → F ≤ F' → J ms F' L) (hyes : ∀ (ms : List Tr) (o p u : Nat) (Fy : FH) (Ly : List HP), o < rs.length → p < (rs.getD o ([], [])).1.length → u < rs.length → meetB ar rs o p u = true → ms ++ [(o, p, u)] <+: meetsL ar rs → F ≤ Fy → J ms Fy Ly → Yld prog l [.agg #[ii (o : Int), ii (p : Int), ii (u : Int)]] Fy (objH l (.loop R) :: Ly) (fun v F' L' => (.bool true = v ∧ ∃ L2, J (ms ++ [(o, p, u)]) F' L2 ∧ objH l (.loop R) :: L2 = L') ∨ (.bool false = v ∧ ∃ L2, Jx F' L2 ∧ objH l (.loop R2) :: L2 = L'))) :
    Does prog 219 [(.func (.yield l) #[] #[]), ptr bs 0] F (objH l (.loop R) :: L) (fun v F' L' => (∃ L2, J (meetsL ar rs) F' L2 ∧ objH l (.loop R) :: L2 = L') ∨ (∃ L2, Jx F' L2 ∧ objH l (.loop R2) :: L2 = L')) := by
 refine ym func219 rfl rfl rfl ?_
 have hrl := (sysOk_iff.1 hsys).2.1
 have hsig := (sysOk_iff.1 hsys).1
 have hsl := sigOk_spec hsig
 have hll : ∀ i, i < rs.length → (rs.getD i ([], [])).1.length ≤ 60 := fun i hi => (termOk_len (rule_L hsys hi)).2
 refine qX (qH (cX (jE (1) yq rfl yZ (by decide) rfl rfl (cX (jj Qj rfl (FzC.rd1 hcb rfl) (cX (jZ yy rfl hrs.slv (jb (ii (0)) rfl (qI (yf (yI (α := Nat × List HP × FH) (fun xQ => [(0, (.func (.yield l) #[] #[])), (1, ptr bs 0), (11, rsv), (12, ii ((rs.length : Int))), (13, ii (((xQ.1 : Nat) : Int)))]) (fun xQ => objH l (.loop R) :: xQ.2.1) (fun xQ F' => xQ.2.2 = F' ∧ F ≤ xQ.2.2 ∧ (xQ.1 ≤ rs.length) ∧ (J (mO ar rs xQ.1) xQ.2.2 xQ.2.1)) (fun xQ => rs.length - xQ.1) (0, L, F) ⟨rfl, rfl, rfl, rfl, rfl, ⟨⟩⟩ (sC sR) ⟨rfl, FLe.refl _, (Nat.zero_le _), (by (try dsimp only); simpa [mO] using hJ0)⟩ ?_)))))))))))
 rintro ⟨o, L1, G1⟩ rE _ _ ⟨rfl, leG, hk1, hJ1⟩
 show X _ _ _ _ (envs [(0, (.func (.yield l) #[] #[])), (1, ptr bs 0), (11, rsv), (12, ii ((rs.length : Int))), (13, ii ((o : Int)))] rE) _ (objH l (.loop R) :: L1)
 replace leG : F ≤ G1 := leG
 dsimp only at hk1 hJ1
 skip
 have hllo := hll o
 have leG1 := leG
 replace har := har.mono leG1
 replace hrs := hrs.mono leG1
 replace hcb := hcb.mono leG1
 refine qX (qH (cX (yo rfl rfl (qI (qX ?_)))))
 refine jV (p := (o : Int) < (rs.length : Int)) rfl (fun h1 => ?_) (fun h1 => ?_)
 ·have hol : o < rs.length := by omega
  refine jU (qX (yf (qX (qH (jb (ii ((o : Int))) rfl (cX (jq o yy yS rfl rfl rfl hrs.slv (by omega) rfl ?_)))))))
  obtain ⟨a1, a2, ha1, ha2, hr1, hr2⟩ := hrs.rd (i := o) (by omega)
  refine cX (yc [a1, a2] isAgg72 yS rfl rfl (Rd.two (hr1 _) (hr2 _)) (cX (Qe [sN, sN] yW rfl ?_)))
  intro b1
  refine jc (ii ((o : Int))) rfl (cX (yL [] _ [a1, a2] yS rfl rfl rfl (jT (yE (yi ha1)) (jT (yE (yi ha2)) yM)) rfl rfl rfl (qI (qX (qH (cX (jE (0) yu rfl jF (by decide) rfl rfl (cX (jj yt rfl (Rd.own [] rfl rfl) (cX (jZ qU rfl ha1.slv (jb (ii (0)) rfl (qI (yf (yI (α := Nat × List HP × FH) (fun xQ => [(0, (.func (.yield l) #[] #[])), (1, ptr bs 0), (3, ii ((o : Int))), (11, rsv), (12, ii ((rs.length : Int))), (13, ii ((o : Int))), (19, a1), (20, ii (((((rs.getD o ([], [])).1).length : Nat) : Int))), (21, ii (((xQ.1 : Nat) : Int)))]) (fun xQ => objH l (.loop R) :: xQ.2.1) (fun xQ F' => xQ.2.2 = F' ∧ G1 ≤ xQ.2.2 ∧ (xQ.1 ≤ (rs.getD o ([], [])).1.length) ∧ (J (mO ar rs o ++ mP ar rs o xQ.1) xQ.2.2 xQ.2.1)) (fun xQ => (rs.getD o ([], [])).1.length - xQ.1) (0, L1, G1) ⟨rfl, rfl, rfl, rfl, rfl, rfl, rfl, rfl, rfl, ⟨⟩⟩ (sD (sC sR)) ⟨rfl, FLe.refl _, (Nat.zero_le _), (by (try dsimp only); simp only [mP, List.append_nil]; exact hJm hJ1 rF)⟩ ?_)))))))))))))))
  rintro ⟨p, L2, G2⟩ rE _ _ ⟨rfl, leG, hk2, hJ2⟩
  show X _ _ _ _ (envs [(0, (.func (.yield l) #[] #[])), (1, ptr bs 0), (3, ii ((o : Int))), (11, rsv), (12, ii ((rs.length : Int))), (13, ii ((o : Int))), (19, a1), (20, ii (((((rs.getD o ([], [])).1).length : Nat) : Int))), (21, ii ((p : Int)))] rE) _ (objH l (.loop R) :: L2)
  replace leG : G1 ≤ G2 := leG
  dsimp only at hk2 hJ2
  skip
  have leG2 := leG
  replace har := har.mono leG2
  replace hrs := hrs.mono leG2
  replace hcb := hcb.mono leG2
  replace ha1 := ha1.mono leG2
  refine qX (qH (cX (yo rfl rfl (qI (qX ?_)))))
  refine jV (p := (p : Int) < ((((rs.getD o ([], [])).1).length : Nat) : Int)) rfl (fun h2 => ?_) (fun h2 => ?_)
  ·have hpl : p < (rs.getD o ([], [])).1.length := by omega
   refine jU (qX (yf (qX (qH (jb (ii ((p : Int))) rfl (cX (jq p qU js rfl rfl rfl ha1.slv (by omega) (Nat.mul_one _) (cX (jj yd rfl (ha1.rd (by omega)) (jc (ii ((p : Int))) rfl (jc (ii (((rs.getD o ([], [])).1).getD p 0)) rfl (qI (qX (qH (cX (jE (1) yq rfl yZ (by decide) rfl rfl (cX (jj Qj rfl (FzC.rd1 hcb rfl) (cX (jZ yy rfl hrs.slv ?_))))))))))))))))))))
   refine jb (ii (0)) rfl (qI (yf (yI (α := Nat × List HP × FH) (fun xQ => [(0, (.func (.yield l) #[] #[])), (1, ptr bs 0), (3, ii ((o : Int))), (5, ii ((p : Int))), (6, ii (((rs.getD o ([], [])).1).getD p 0)), (11, rsv), (12, ii ((rs.length : Int))), (13, ii ((o : Int))), (19, a1), (20, ii (((((rs.getD o ([], [])).1).length : Nat) : Int))), (21, ii ((p : Int))), (28, ii ((rs.length : Int))), (29, ii (((xQ.1 : Nat) : Int)))]) (fun xQ => objH l (.loop R) :: xQ.2.1) (fun xQ F' => xQ.2.2 = F' ∧ G2 ≤ xQ.2.2 ∧ (xQ.1 ≤ rs.length) ∧ (J (mO ar rs o ++ mP ar rs o p ++ mU ar rs o p xQ.1) xQ.2.2 xQ.2.1)) (fun xQ => rs.length - xQ.1) (0, L2, G2) ⟨rfl, rfl, rfl, rfl, rfl, rfl, rfl, rfl, rfl, rfl, rfl, rfl, rfl, ⟨⟩⟩ (sC sR) ⟨rfl, FLe.refl _, (Nat.zero_le _), (by (try dsimp only); simp only [mU, List.append_nil]; exact hJm hJ2 rF)⟩ ?_)))
   rintro ⟨u, L3, G3⟩ rE _ _ ⟨rfl, leG, hk3, hJ3⟩
   show X _ _ _ _ (envs [(0, (.func (.yield l) #[] #[])), (1, ptr bs 0), (3, ii ((o : Int))), (5, ii ((p : Int))), (6, ii (((rs.getD o ([], [])).1).getD p 0)), (11, rsv), (12, ii ((rs.length : Int))), (13, ii ((o : Int))), (19, a1), (20, ii (((((rs.getD o ([], [])).1).length : Nat) : Int))), (21, ii ((p : Int))), (28, ii ((rs.length : Int))), (29, ii ((u : Int)))] rE) _ (objH l (.loop R) :: L3)
   replace leG : G2 ≤ G3 := leG
   dsimp only at hk3 hJ3
   skip
   have leG3 := leG
   replace har := har.mono leG3
   replace hrs := hrs.mono leG3
   replace hcb := hcb.mono leG3
   refine qX (qH (cX (yo rfl rfl (qI (qX ?_)))))
   refine jV (p := (u : Int) < (rs.length : Int)) rfl (fun h3 => ?_) (fun h3 => ?_)
   ·refine jU (qX (yf (qX (qH (jb (ii ((u : Int))) rfl (jc (ii ((u : Int))) rfl (qI (qX (qX (qH (jb (ii (((rs.getD o ([], [])).1).getD p 0)) rfl (cX (yo rfl rfl (qI ?_))))))))))))))
    refine jV (p := (((rs.getD o ([], [])).1).getD p 0 : Int) < 0) rfl (fun h4 => ?_) (fun h4 => ?_)
    ·have hno9 : ¬ (0 ≤ (Lr rs o).getD p 0 ∧ meetB ar rs o p u = true) := fun h9 => absurd h9.1 (Int.not_le.2 h4)
     refine yB (jO (yk (qH (cX (yj (((u + 1 : Nat) : Int)) rfl rfl (by omega) (by omega) (jb (ii (((u + 1 : Nat) : Int))) rfl (qI ?_)))))))
     exact ⟨(u + 1, L3, G3), _, leG3, rF, ⟨rfl, rfl, rfl, rfl, rfl, rfl, rfl, rfl, rfl, rfl, rfl, rfl, rfl, ⟨⟩⟩, (sC sR), ⟨rfl, leG3, (by (try dsimp only) <;> omega), (by (try dsimp only); rw [mU_no hno9]; exact hJm hJ3 rF)⟩, (by omega)⟩
    have hn0 : 0 ≤ (Lr rs o).getD p 0 := Int.not_lt.1 h4
    refine jU (qX (qH (cX (yc [arv, rsv] yY yP rfl rfl (FzC.rd hcb rfl) (jb (ii ((o : Int))) rfl (jb (ii ((p : Int))) rfl (jb (ii ((u : Int))) rfl (cX (jL (args := [.agg #[arv, rsv], ii (o : Int), ii (p : Int), ii (u : Int)]) call181 rfl (overlap_spec (o := o) (p := p) (u := u) har hrs (hsys := (by first | assumption | rfl | omega | simp)) (ho := (by omega)) (hu := (by omega)) (hp := (hpl))) ?_)))))))))
    rintro _ F1 _ le1 (⟨rfl, hmt1, rfl⟩ | ⟨b2, rfl, hmt1, rfl⟩ | ⟨b2, b3, l1, rfl, hmt1, hb1, hmg1, rfl⟩)
    ·replace har := har.mono le1
     have hno9 : ¬ (0 ≤ (Lr rs o).getD p 0 ∧ meetB ar rs o p u = true) := fun h9 => by rw [hmt1] at h9; exact absurd h9.2 (by simp)
     refine jb (.tuple #[(.pointer none), .bool (false)]) rfl (cX (yr ((.pointer none)) rfl rfl (cX (yr (.bool (false)) rfl rfl (jc ((.pointer none)) rfl (jc (.bool (false)) rfl (qI (qX (X.ofI (by kernel_rfl) (XI.region (yQ (jk (.bool (false)) rfl (yQ (jk (.bool (false)) rfl ?_))))))))))))))
     refine XIL.no (t := 43) rfl rfl (XIL.no (t := 43) rfl rfl (XIL.no (t := 43) rfl rfl (XIL.no (t := 43) rfl rfl (XIL.no (t := 43) rfl rfl (XIL.no (t := 43) rfl rfl (XIL.no (t := 43) rfl rfl (yQ (yl (.bool (false)) rfl rfl (XIL.nil (yV rfl ?_))))))))))
     refine jU (qH (cX (yj (((u + 1 : Nat) : Int)) rfl rfl (by omega) (by omega) (jb (ii (((u + 1 : Nat) : Int))) rfl (qI ?_)))))
     exact ⟨(u + 1, L3, F1), _, (jl leG3 le1), rF, ⟨rfl, rfl, rfl, rfl, rfl, rfl, rfl, rfl, rfl, rfl, rfl, rfl, rfl, ⟨⟩⟩, (sC sR), ⟨rfl, (jl leG3 le1), (by (try dsimp only) <;> omega), (by (try dsimp only); rw [mU_no hno9]; exact hJm hJ3 le1)⟩, (by omega)⟩
    ·replace har := har.mono le1
     have hno9 : ¬ (0 ≤ (Lr rs o).getD p 0 ∧ meetB ar rs o p u = true) := fun h9 => by rw [hmt1] at h9; exact absurd h9.2 (by simp)
     refine jb (.tuple #[ptr b2 0, .bool (false)]) rfl (cX (yr (ptr b2 0) rfl rfl (cX (yr (.bool (false)) rfl rfl (jc (ptr b2 0) rfl (jc (.bool (false)) rfl (qI (qX (X.ofI (by kernel_rfl) (XI.region (yQ (jk (.bool (false)) rfl (yQ (jk (.bool (false)) rfl ?_))))))))))))))
     refine XIL.no (t := 43) rfl rfl (XIL.no (t := 43) rfl rfl (XIL.no (t := 43) rfl rfl (XIL.no (t := 43) rfl rfl (XIL.no (t := 43) rfl rfl (XIL.no (t := 43) rfl rfl (XIL.no (t := 43) rfl rfl (yQ (yl (.bool (false)) rfl rfl (XIL.nil (yV rfl ?_))))))))))
     refine jU (qH (cX (yj (((u + 1 : Nat) : Int)) rfl rfl (by omega) (by omega) (jb (ii (((u + 1 : Nat) : Int))) rfl (qI ?_)))))
     exact ⟨(u + 1, L3, F1), _, (jl leG3 le1), rF, ⟨rfl, rfl, rfl, rfl, rfl, rfl, rfl, rfl, rfl, rfl, rfl, rfl, rfl, ⟨⟩⟩, (sC sR), ⟨rfl, (jl leG3 le1), (by (try dsimp only) <;> omega), (by (try dsimp only); rw [mU_no hno9]; exact hJm hJ3 le1)⟩, (by omega)⟩
    replace har := har.mono le1
    refine jb (.tuple #[ptr b2 0, .bool (true)]) rfl (cX (yr (ptr b2 0) rfl rfl (cX (yr (.bool (true)) rfl rfl (jc (ptr b2 0) rfl (jc (.bool (true)) rfl (qI (qX (X.ofI (by kernel_rfl) (XI.region (yQ (jk (.bool (true)) rfl (yQ (jk (.bool (true)) rfl ?_))))))))))))))
    refine XIL.yes (t := 43) rfl rfl (jk ((.func (.yield l) #[] #[])) rfl (XIL.yes (t := 43) rfl rfl (jk (ii ((o : Int))) rfl (XIL.yes (t := 43) rfl rfl (jk (ii ((p : Int))) rfl (XIL.yes (t := 43) rfl rfl (jk (ii ((u : Int))) rfl (XIL.yes (t := 43) rfl rfl (yJ [ii ((o : Int)), ii ((p : Int)), ii ((u : Int))] [ii (0), ii (0), ii (0)] [(0, 1), (1, 1), (2, 1)] [(0, [ii ((o : Int))]), (1, [ii ((p : Int))]), (2, [ii ((u : Int))])] runUnderlying171 zeroValue171 rfl (.cons rfl Qm (.cons rfl Qm (.cons rfl Qm PlacesAre.nil))) rfl (.cons rfl (.cons rfl (.cons rfl CellsAre.nil))) (XIL.yieldY (t := 43) (k := l) (args := [.agg #[ii ((o : Int)), ii ((p : Int)), ii ((u : Int))]]) rfl rfl rfl (by rfl) (Yld.weaken (sD (sC sR)) ((hyes (mO ar rs o ++ mP ar rs o p ++ mU ar rs o p u) o p u _ _ (by omega) hpl (by omega) hmt1 (by rw [List.append_assoc, ← mU_yes hn0 hmt1]; exact meets_pre (by omega) hpl (by omega)) (jl (jl (jl leG1 leG2) leG3) le1) (hJm hJ3 le1)).mono ?_))))))))))))
    rintro _ F2 _ le2 (⟨rfl, Lj1, hJ1, rfl⟩ | ⟨rfl, Lj1, hJ1, rfl⟩)
    ·replace har := har.mono le2
     show XIL _ _ _ _ _ _ _ _ _ (objH l (.loop R) :: Lj1)
     refine XIL.yes (t := 43) rfl rfl (yR rfl (yQ (yp (.bool (false)) rfl rfl (XIL.nil (yV rfl (jU (qH (cX (yj (((u + 1 : Nat) : Int)) rfl rfl (by omega) (by omega) (jb (ii (((u + 1 : Nat) : Int))) rfl (qI ?_)))))))))))
     exact ⟨(u + 1, Lj1, F2), _, (jl (jl leG3 le1) le2), rF, ⟨rfl, rfl, rfl, rfl, rfl, rfl, rfl, rfl, rfl, rfl, rfl, rfl, rfl, ⟨⟩⟩, (sC sR), ⟨rfl, (jl (jl leG3 le1) le2), (by (try dsimp only) <;> omega), (by (try dsimp only); rw [mU_yes hn0 hmt1, ← List.append_assoc]; exact hJm hJ1 rF)⟩, (by omega)⟩
    replace har := har.mono le2
    show XIL _ _ _ _ _ _ _ _ _ (objH l (.loop R2) :: Lj1)
    refine XIL.yes (t := 43) rfl rfl (yR rfl (yQ (yp (.bool (true)) rfl rfl (XIL.nil (yX rfl (jW (ya (jw (jw (ya (ya (jw (jw (ya (ya (jw (jw (ya (jR (L' := objH l (.loop R2) :: Lj1) [] (.tuple #[]) (by exact .nil) rfl (jl (jl (jl (jl leG1 leG2) leG3) le1) le2) rF (sC sR) ?_)))))))))))))))))))
    exact .inr ⟨_, hJ1, rfl⟩
   have hue : u = rs.length := by omega
   refine yB (jO (jO (yk (qH (cX (yj (((p + 1 : Nat) : Int)) rfl rfl (by omega) (by omega) (jb (ii (((p + 1 : Nat) : Int))) rfl (qI ?_))))))))
   exact ⟨(p + 1, L3, G3), _, (jl leG2 leG3), rF, ⟨rfl, rfl, rfl, rfl, rfl, rfl, rfl, rfl, rfl, ⟨⟩⟩, (sC sR), ⟨rfl, (jl leG2 leG3), (by (try dsimp only) <;> omega), (by (try dsimp only); rw [mP, ← List.append_assoc, ← hue]; exact hJm hJ3 rF)⟩, (by omega)⟩
  have hpe : p = (rs.getD o ([], [])).1.length := by omega
  refine yB (jO (jO (yk (qH (cX (yj (((o + 1 : Nat) : Int)) rfl rfl (by omega) (by omega) (jb (ii (((o + 1 : Nat) : Int))) rfl (qI ?_))))))))
  exact ⟨(o + 1, L2, G2), _, (jl leG1 leG2), rF, ⟨rfl, rfl, rfl, rfl, rfl, ⟨⟩⟩, (sC sR), ⟨rfl, (jl leG1 leG2), (by (try dsimp only) <;> omega), (by (try dsimp only); rw [mO, ← hpe]; exact hJm hJ2 rF)⟩, (by omega)⟩
 refine yB (jO (jO (yk (id (retEndN (L' := objH l (.loop R) :: L1) [] (.tuple #[]) (by exact .nil) rfl leG1 rF (sC sR) ?_)))))
 have hoe : o = rs.length := by omega
 exact .inl ⟨_, by rw [meetsL, ← hoe]; exact hJ1, rfl⟩

/- impl.peaks -/
set_option maxHeartbeats 2000000 in
set_option maxRecDepth 20000 in
theorem peaks_spec {F : FH} {L : List HP} {arv : Value} {ar : List Int} (har : IntsF F arv ar) {rsv : Value} {rs : List (List Int × List Int)} (hrs : PairsF F rsv rs) (hsys : sysOk ar rs = true) :
    Does prog 98 [.agg #[arv, rsv]] F (L) (fun v F' L' => ∃ (a : Value), (.tuple #[a, .bool ((peaksF ar rs).isSome)] : Value) = v ∧ (PeaksF F' a ((peaksF ar rs).getD [])) ∧ (Fresh F F' (star [peaksD 2 76 a ((peaksF ar rs).getD [])])) ∧ L = L') := by
 refine Does.of_XF func98 rfl (by kernel_rfl) rfl (XF.seqR (qH (cX (yD [arv, rsv] rfl rfl ?_))))
 intro b1
 refine cX (Qe [sN] zeroValue64 rfl ?_)
 intro b2
 refine cX (Qe [.bool (false)] zeroValue4 rfl ?_)
 intro b3
 refine qI (XF.seqR (qH (cX (Qe [sN] zeroValue64 rfl ?_))))
 intro b4
 refine qI (XF.ofR (XR.seq (qH (cX (yc [arv, rsv] yY yP rfl rfl (Rd.ownN [_, _, _] rfl rfl) (cX (jL (args := [.agg #[arv, rsv]]) call171 rfl (meetings_spec har hrs) ?_)))))))
 rintro _ F1 _ le1 ⟨x1, rfl, hcb1, rfl⟩
 replace har := har.mono le1
 replace hrs := hrs.mono le1
 refine qI (XR.rangeB2 (gf := 219) (lb := [ptr x1 0]) rfl call219 (fun l D R hRs hRp hRps hRa hRb hRz hRg => ?_))
 have hR0 : ({ R with state := .ready, pending := none } : Loop) = R := by
  cases R
  simp only at hRs hRp
  subst hRs hRp
  rfl
 have hyes : ∀ (ms : List Tr) (o p u : Nat) (Fy : FH) (Ly : List HP), o < rs.length → p < (rs.getD o ([], [])).1.length → u < rs.length → meetB ar rs o p u = true → ms ++ [(o, p, u)] <+: meetsL ar rs → F1 ≤ Fy → (PKJ F1 2 76 64 b4 (objH D (.deferred (some [])) :: cellsH b3 [.bool (false)] 4 :: cellsH b2 [sN] 64 :: cellsH b1 [arv, rsv] 32 :: L) (PkI ar rs)) ms Fy Ly → Yld prog l [.agg #[ii (o : Int), ii (p : Int), ii (u : Int)]] Fy (objH l (.loop R) :: Ly) (fun v F' L' => (.bool true = v ∧ ∃ L2, (PKJ F1 2 76 64 b4 (objH D (.deferred (some [])) :: cellsH b3 [.bool (false)] 4 :: cellsH b2 [sN] 64 :: cellsH b1 [arv, rsv] 32 :: L) (PkI ar rs)) (ms ++ [(o, p, u)]) F' L2 ∧ objH l (.loop R) :: L2 = L') ∨ (.bool false = v ∧ ∃ L2, (fun (_ : FH) (L2 : List HP) => peaksF ar rs = none ∧ cellsH b2 [sN] 64 :: cellsH b3 [.bool (false)] 4 :: objH D (.deferred (some [])) :: L = L2) F' L2 ∧ objH l (.loop { R with state := .done, pending := some .ret }) :: L2 = L')) := by
  intro ms o p u Fy Ly ho9 hp9 hu9 hmt9 hpre leF hJ
  obtain ⟨sv8, os8, cs8, Ls8, m8, hsv8, hC8, hm8, hDp, hZ, hI8, rfl⟩ := hJ
  have hol8 := hI8.len
  refine Yld.of_round2 hRs hRp hRps hRa hRb hRz hRg rfl (by kernel_rfl) (by kernel_rfl) (by kernel_rfl) ?_
  have hq1 := har.mono leF
  have hq2 := hrs.mono leF
  refine XI.slots [(10, .agg #[ii ((o : Int)), ii ((p : Int)), ii ((u : Int))]), (4, ptr b4 0), (2, ptr b2 0), (3, ptr b3 0), (1, ptr b1 0)] ⟨rfl, rfl, rfl, rfl, rfl, ⟨⟩⟩ (fun rE => (XI.region (yQ (Qe [ii (0), ii (0), ii (0)] zeroValue171 rfl ?_))))
  intro b5
  refine yQ (yL [] _ [ii ((o : Int)), ii ((p : Int)), ii ((u : Int))] sizeOf171 rfl rfl rfl (jT rfl (jT rfl (jT rfl yM))) rfl rfl rfl (XIL.nil ?_))
  refine ⟨cellsH b5 [ii ((o : Int)), ii ((p : Int)), ii ((u : Int))] 171 :: cellsH b4 [sv8] 64 :: slH 76 6 sv8 m8 cs8 :: objH D (.deferred (some [])) :: cellsH b3 [.bool (false)] 4 :: cellsH b2 [sN] 64 :: cellsH b1 [arv, rsv] 32 :: L, (yn (ye (A := [_, _, _, _, _, _, _])) (yn (ye (A := [_, _, _, _, _, _, _])) (yn (ye (A := [_, _, _, _, _, _, _])) (yn (ye (A := [_, _, _, _, _, _, _])) (yn (ye (A := [_, _, _, _, _, _, _])) (yn (ye (A := [_, _, _, _, _, _, _])) (yn (ye (A := [_, _, _, _, _, _])) (yn (ye (A := [_, _, _, _, _, _, _])) (sC (sC (sC (sC (sC (sC (sC (sC sR)))))))))))))))), ?_⟩
  refine XI.block (XI.seq (XI.region (yQ (yc [arv, rsv] yY yP rfl rfl (Rd.ownN [_, _, _, _, _, _, _] rfl rfl) (yQ (jE (0) runUnderlying171 rfl Qm (by decide) rfl rfl (yQ (jj isAgg3 rfl (Rd.own [_] rfl rfl) (yQ (jE (1) runUnderlying171 rfl Qm (by decide) rfl rfl (yQ (jj isAgg3 rfl (Rd.own [_] rfl rfl) (yQ (jE (2) runUnderlying171 rfl Qm (by decide) rfl rfl (yQ (jj isAgg3 rfl (Rd.own [_] rfl rfl) ?_))))))))))))))))
  refine yQ (jL (args := [.agg #[arv, rsv], ii (o : Int), ii (p : Int), ii (u : Int)]) call119 rfl (peakAt_spec (o := o) (p := p) (u := u) hq1 hq2 (hsys := (by first | assumption | rfl | omega | simp)) (ho := (ho9)) (hu := (hu9)) (hp := (hp9))) ?_)
  rintro _ F2 _ le2 ⟨x2, x3, x4, rfl, hr1, hr2, hr3, hr4, rfl⟩
  replace hC8 := hC8.mono le2
  refine yQ (jk (.tuple #[.agg #[x2, x3, x4, ii (((pkF ar rs o p u).getD P0).2.2.2.1), ii (((pkF ar rs o p u).getD P0).2.2.2.2.1), ii (((pkF ar rs o p u).getD P0).2.2.2.2.2)], .bool ((pkF ar rs o p u).isSome)]) rfl (yQ (yr (.agg #[x2, x3, x4, ii (((pkF ar rs o p u).getD P0).2.2.2.1), ii (((pkF ar rs o p u).getD P0).2.2.2.2.1), ii (((pkF ar rs o p u).getD P0).2.2.2.2.2)]) rfl rfl (yQ (yr (.bool ((pkF ar rs o p u).isSome)) rfl rfl (yQ (Qe [sN, sN, sN, ii (0), ii (0), ii (0)] Qc rfl ?_)))))))
  intro b6
  refine yQ (yL [] _ [x2, x3, x4, ii (((pkF ar rs o p u).getD P0).2.2.2.1), ii (((pkF ar rs o p u).getD P0).2.2.2.2.1), ii (((pkF ar rs o p u).getD P0).2.2.2.2.2)] yC rfl rfl rfl (jT (yE (yi hr1)) (jT (yE (yi hr2)) (jT (yE (yi hr3)) (jT rfl (jT rfl (jT rfl yM)))))) rfl rfl rfl (yQ (XOp.assign (.bool ((pkF ar rs o p u).isSome)) rfl (XIL.nil (XI.seq (XI.seq (XI.region (yQ (jk (.bool ((pkF ar rs o p u).isSome)) rfl (yQ (yR rfl (yQ (jk (.bool (!((pkF ar rs o p u).isSome))) rfl ?_)))))))))))))
  by_cases h1 : (!((pkF ar rs o p u).isSome)) = true
  ·have hf9 : (pkF ar rs o p u).isSome = false ∨ os8.length = 64 := .inl (Bool.not_inj (y := false) h1)
   refine XIL.no (t := 24) rfl (vB h1) (XIL.no (t := 24) rfl (vB h1) (XIL.no (t := 24) rfl (vB h1) (yQ (yp (.bool (true)) (vB h1) rfl (XIL.nil (XI.condT rfl (XI.seq (XI.region (yQ (Qb [_, _, _, _, _, _, _] _ [sN] sizeOf64 rfl rfl rfl rfl rfl rfl (yQ (Qb [_, _, _, _, _, _] _ [.bool (false)] sizeOf4 rfl rfl rfl rfl rfl rfl ?_))))))))))))
   refine XIL.nil ?_
   refine XI.ret (jw (ya (roundR ⟨cellsH b2 [sN] 64 :: cellsH b3 [.bool (false)] 4 :: objH D (.deferred (some [])) :: L, (yn (ye (A := [_, _, _, _, _])) (yn (ye (A := [_, _, _, _, _, _])) (yn (ye (A := [_, _, _, _, _, _, _])) (yn (ye (A := [_, _, _, _])) (sC (sC (sC (sC (sD (sD (sD (sD (sD sR))))))))))))), ?_⟩)))
   exact .inr ⟨rfl, _, ⟨peaks_no hpre hI8 hf9, rfl⟩, rfl⟩
  rw [Bool.not_eq_true] at h1
  have hsm9 : (pkF ar rs o p u).isSome = true := Bool.not_inj (y := true) h1
  refine XIL.yes (t := 24) rfl (vB h1) (jj isAgg64 rfl (Rd.own [_, _, _] rfl rfl) (XIL.yes (t := 24) rfl (vB h1) (jZ yG rfl (SlV.own [_, _, _, _] rfl) (XIL.yes (t := 24) rfl (vB h1) (yU rfl rfl (yQ (yl (.bool (decide ((m8 : Int) = 64))) (vB h1) rfl (XIL.nil ?_))))))))
  refine XI.condD (p := (m8 : Int) = 64) rfl (fun h2 => ?_) (fun h2 => ?_)
  ·have hf9 : (pkF ar rs o p u).isSome = false ∨ os8.length = 64 := .inr (by omega)
   refine XI.seq (XI.region (yQ (Qb [_, _, _, _, _, _, _] _ [sN] sizeOf64 rfl rfl rfl rfl rfl rfl (yQ (Qb [_, _, _, _, _, _] _ [.bool (false)] sizeOf4 rfl rfl rfl rfl rfl rfl (XIL.nil ?_))))))
   refine XI.ret (jw (ya (roundR ⟨cellsH b2 [sN] 64 :: cellsH b3 [.bool (false)] 4 :: objH D (.deferred (some [])) :: L, (yn (ye (A := [_, _, _, _, _])) (yn (ye (A := [_, _, _, _, _, _])) (yn (ye (A := [_, _, _, _, _, _, _])) (yn (ye (A := [_, _, _, _])) (sC (sC (sC (sC (sD (sD (sD (sD (sD sR))))))))))))), ?_⟩)))
   exact .inr ⟨rfl, _, ⟨peaks_no hpre hI8 hf9, rfl⟩, rfl⟩
  have hne9 : os8.length ≠ 64 := by omega
  refine XI.skip (XI.region (yQ (jj isAgg64 rfl (Rd.own [_, _, _] rfl rfl) (yQ (yc [x2, x3, x4, ii (((pkF ar rs o p u).getD P0).2.2.2.1), ii (((pkF ar rs o p u).getD P0).2.2.2.2.1), ii (((pkF ar rs o p u).getD P0).2.2.2.2.2)] Qy yC rfl rfl (Rd.ownN [] rfl rfl) (yQ (jQ (s := 6) [x2, x3, x4, ii (((pkF ar rs o p u).getD P0).2.2.2.1), ii (((pkF ar rs o p u).getD P0).2.2.2.2.1), ii (((pkF ar rs o p u).getD P0).2.2.2.2.2)] [sN, sN, sN, ii (0), ii (0), ii (0)] [(0, [x2, x3, x4, ii (((pkF ar rs o p u).getD P0).2.2.2.1), ii (((pkF ar rs o p u).getD P0).2.2.2.2.1), ii (((pkF ar rs o p u).getD P0).2.2.2.2.2)])] yG yC Qc rfl (by decide) rfl (.cons rfl CellsAre.nil) rfl ?_)))))))
  intro v1 hv1
  refine yQ (XOp.append (m := 1) (bytes := 96) (cs := cs8) [_, _, _, _, _] _ [x2, x3, x4, ii (((pkF ar rs o p u).getD P0).2.2.2.1), ii (((pkF ar rs o p u).getD P0).2.2.2.2.1), ii (((pkF ar rs o p u).getD P0).2.2.2.2.2)] yG typeInfo76 rfl rfl rfl rfl rfl rfl rfl (SlV.own [] rfl) rfl (Rd.lit [] rfl) (jT (yE (yi hr1)) (jT (yE (yi hr2)) (jT (yE (yi hr3)) (jT rfl (jT rfl (jT rfl yM)))))) (by (try simp only [List.length_append, List.length_nil, List.length_cons, List.length_singleton]); omega) (by (try simp only [List.length_append, List.length_nil, List.length_cons, List.length_singleton]); omega) ?_)
  intro v2 hs1 hn1 hm1
  have hc1 := PeaksC.snoc hC8 (y0 := ((pkF ar rs o p u).getD P0).1) (y1 := ((pkF ar rs o p u).getD P0).2.1) (y2 := ((pkF ar rs o p u).getD P0).2.2.1) (y3 := ((pkF ar rs o p u).getD P0).2.2.2.1) (y4 := ((pkF ar rs o p u).getD P0).2.2.2.2.1) (y5 := ((pkF ar rs o p u).getD P0).2.2.2.2.2) hr1 hr2 hr3
  refine yQ (Qb [_, _, _, _] _ [v2] sizeOf64 rfl rfl (yE hs1) rfl rfl rfl (XIL.nil ?_))
  refine roundNB ⟨cellsH b4 [v2] 64 :: slH 76 6 v2 ((m8) + 1) (cs8 ++ [x2, x3, x4, ii (((pkF ar rs o p u).getD P0).2.2.2.1), ii (((pkF ar rs o p u).getD P0).2.2.2.2.1), ii (((pkF ar rs o p u).getD P0).2.2.2.2.2)]) :: objH D (.deferred (some [])) :: cellsH b3 [.bool (false)] 4 :: cellsH b2 [sN] 64 :: cellsH b1 [arv, rsv] 32 :: L, (sD (sD (sC (sD (sC (sC (sC (sC (sC (sC sR)))))))))), ?_⟩
  rw [hR0]
  exact .inl ⟨rfl, _, ⟨_, _, _, _, _, hs1, hc1, by rw [List.length_append, List.length_singleton]; omega, DeepL.snoc hDp rfl ⟨_, _, _, rfl, rfl⟩, (Fresh.app hZ leF hr4 le2), hI8.next hsm9 hne9, rfl⟩, rfl⟩
 refine (Does.weaken (yn (Sub.addNil 76 6 none _) (yn (ye (A := [_, _, _, _, _, _])) (yn (ye (A := [_, _, _, _, _, _])) (yn (ye (A := [_, _, _, _, _, _])) (yn (ye (A := [_, _, _, _, _])) (yn (ye (A := [_, _, _, _])) (yn (ye (A := [_, _, _, _, _, _])) (yn (ye (A := [_, _, _, _, _, _])) (sC (sC (sC (sC (sC (sC (sC sR))))))))))))))) (meetIt_spec (R2 := { R with state := .done, pending := some .ret }) (J := (PKJ F1 2 76 64 b4 (objH D (.deferred (some [])) :: cellsH b3 [.bool (false)] 4 :: cellsH b2 [sN] 64 :: cellsH b1 [arv, rsv] 32 :: L) (PkI ar rs))) (Jx := (fun (_ : FH) (L2 : List HP) => peaksF ar rs = none ∧ cellsH b2 [sN] 64 :: cellsH b3 [.bool (false)] 4 :: objH D (.deferred (some [])) :: L = L2)) har hrs hcb1 hsys (PKJ.start PkI.start) PKJ.mono hyes)).mono ?_
 rintro _ F9 _ le9 (⟨L9, ⟨sv9, os9, cs9, Ls9, m9, hsv9, hC9, hm9, hD9, hZ9, hI9, rfl⟩, rfl⟩ | ⟨L9, ⟨hI9, rfl⟩, rfl⟩)
 ·have hl9 := hI9.len
  refine ⟨R, cellsH b4 [sv9] 64 :: slH 76 6 sv9 m9 cs9 :: cellsH b3 [.bool (false)] 4 :: cellsH b2 [sN] 64 :: cellsH b1 [arv, rsv] 32 :: L, by rw [hRs]; simp, (yn (ye (A := [_, _, _, _, _, _])) (yn (ye (A := [_, _, _, _, _, _])) (yn (ye (A := [_, _, _, _, _, _])) (yn (ye (A := [_, _, _, _, _])) (yn (ye (A := [_, _, _, _, _])) (yn (ye (A := [_, _, _, _, _, _])) (yn (ye (A := [_, _, _, _, _, _])) (sC (sC (sC (sC (sC (sC (sC sR)))))))))))))), .inl ⟨hRp, ?_⟩⟩
  refine XI.seq (XI.region (yQ (jj isAgg64 rfl (Rd.own [_] rfl rfl) (yQ (Qb [_, _, _, _] _ [sv9] sizeOf64 rfl rfl (yE hsv9) rfl rfl rfl (yQ (Qb [_, _, _] _ [.bool (true)] sizeOf4 rfl rfl rfl rfl rfl rfl (XIL.nil (XI.freezeF [_, _] _ _ rfl (fun F3 le3 hz1 => ?_))))))))))
  replace hC9 := hC9.mono le3
  have hf1 : PeaksF F3 sv9 os9 := CO.fz hC9 (by first | rfl | omega | (rw [List.length_set]; omega) | (simp; done)) hz1.fz
  refine XI.ret (retEndC (L' := L) (cellsH b4 [sv9] 64 :: cellsH b3 [.bool (true)] 4 :: cellsH b2 [sv9] 64 :: cellsH b1 [arv, rsv] 32 :: L) [sv9, .bool (true)] (.tuple #[sv9, .bool (true)]) (.cell rfl (load1V (v := sv9) isAgg64 (Rd.own [_, _, _] rfl rfl)) (.cell rfl (load1V (v := .bool (true)) isAgg4 (Rd.own [_, _] rfl rfl)) .nil)) rfl (jl (jl le1 le9) le3) rF (sC (sC (sC (sC (sC sR))))) (sD (sD (sD (sD sR)))) ?_)
  have e := peaks_yes hI9
  exact ⟨_, by rw [e]; rfl, by rw [e]; exact hf1, by rw [e]; exact ((Fresh.one (Fresh.deep hD9 hZ9 le9 hz1 (by omega) le3)).base le1), rfl⟩
 refine ⟨_, cellsH b2 [sN] 64 :: cellsH b3 [.bool (false)] 4 :: L, by simp, (yn (ye (A := [_, _])) (yn (ye (A := [_, _])) (yn (ye (A := [_, _, _])) (yn (ye (A := [_, _, _])) (sC (sC (sC (sC sR)))))))), .inr ⟨rfl, ?_⟩⟩
 refine (retEndC (L' := L) (cellsH b2 [sN] 64 :: cellsH b3 [.bool (false)] 4 :: L) [sN, .bool (false)] (.tuple #[sN, .bool (false)]) (.cell rfl (load1V (v := sN) isAgg64 (Rd.own [_] rfl rfl)) (.cell rfl (load1V (v := .bool (false)) isAgg4 (Rd.own [_, _] rfl rfl)) .nil)) rfl (jl le1 le9) rF (sC (sC (sC sR))) (sD (sD sR)) ?_)
 have e := hI9
 exact ⟨_, by rw [e]; rfl, by rw [e]; exact SlOf.nilV, by rw [e]; exact Fresh.empty ⟨[], [], nilPeaksD, rfl, rfl⟩, rfl⟩

/- spec.l13End -/
theorem l13End_spec {F : FH} {L : List HP} {arv : Value} {ar : List Int} (har : IntsF F arv ar) {tv : Value} {t : List Int} (ht : IntsF F tv t) {q : Nat} (ho : TermW ar t) (hp : q < t.length) :
    Does prog 215 [.agg #[arv], tv, ii ((q : Int))] F (L) (fun v F' L' => (ii (((endN ar t q : Nat) : Int)) : Value) = v ∧ F = F' ∧ L = L') := by
 refine ym func215 rfl rfl rfl ?_
 have hsl := sigOk_spec ho.sig
 have htl := ho.len
 have hsig := ho.sig
 have hee := ho.endN hp
 refine qX (qH (cX (yD [arv] rfl rfl ?_)))
 intro b1
 refine jc (ii (0)) rfl (qI (qX (qH (jc (ii (1)) rfl (qI (qX (yf (yI (α := Nat × Nat) (fun xQ => [(1, tv), (2, ii (((xQ.2 : Nat) : Int))), (3, ptr b1 0), (7, ii (((xQ.1 : Nat) : Int)))]) (fun xQ => cellsH b1 [arv] 29 :: L) (fun xQ F' => F = F' ∧ (endGo ar (t.drop xQ.2) xQ.1 = some (endN ar t q - xQ.2)) ∧ (q ≤ xQ.2 ∧ xQ.2 ≤ endN ar t q) ∧ (xQ.1 ≤ 1 + 3 * xQ.2)) (fun xQ => t.length - xQ.2) (1, q) ⟨rfl, rfl, rfl, rfl, ⟨⟩⟩ (sC sR) ⟨rfl, (endW_start ho hp), (by (try dsimp only) <;> omega), (by (try dsimp only) <;> omega)⟩ ?_))))))))
 rintro ⟨k, p⟩ rE _ _ ⟨rfl, hi, hpp, hk⟩
 show X _ _ _ _ (envs [(1, tv), (2, ii ((p : Int))), (3, ptr b1 0), (7, ii ((k : Int)))] rE) _ (cellsH b1 [arv] 29 :: L)
 dsimp only at hi hpp hk
 refine qX (qX (qH (jb (ii ((k : Int))) rfl (cX (Qf rfl rfl (qI ?_))))))
 refine jV (p := (k : Int) > 0) rfl (fun h1 => ?_) (fun h1 => ?_)
 ·obtain ⟨hpe, hnx⟩ := endW_step ho hi hpp.2 hee.2 (by omega)
  have hpt : p < t.length := by omega
  have hA := arity_le hsig (ho.lt hpt)
  have hlt := ho.lt hpt
  refine jU (yf (qX (qX (qH (jb (tv) rfl (jb (ii ((p : Int))) rfl (cX (jq p qU js rfl rfl rfl ht.slv (by omega) (Nat.mul_one _) (cX (jj yd rfl (ht.rd (by omega)) (cX (XOp.geq rfl rfl (qI ?_)))))))))))))
  refine jV (p := (t.getD p 0 : Int) ≥ 0) rfl (fun h2 => ?_) (fun h2 => ?_)
  ·have hare : arity ar (t.getD p 0) = ar.getD (t.getD p 0).toNat 0 := by unfold arity; rw [if_neg (by omega)]
   refine yN [cellsH b1 [arv] 29] L 9 [] [[], [], [1], [], [], [3, 4], [5], [2, 6], [7]] (phiL [qe (ii ((k : Int)) : Value), qe (ptr b1 0), qe arv, qe tv, qe (ii ((p : Int)) : Value), qe (.pointer (some (elemA tv (p)))), qe (ii (t.getD p 0)), qe (.pointer (some (elemA arv ((t.getD p 0).toNat)))), qe (ii (ar.getD ((t.getD p 0).toNat) 0))]) (ownL []) mixed rfl rfl (by kernel_rfl) ?_ ?_
   ·refine pD (fun W R z9 => ?_) ?_
    ·refine je (jk (ii ((k : Int))) rfl ?_)
     exact ⟨rfl, rfl, rfl⟩
    refine pD (fun W R z9 => ?_) ?_
    ·refine je (jE (0) Ql rfl jF (by decide) rfl rfl ?_)
     exact ⟨rfl, rfl, rfl⟩
    refine pD (fun W R z9 => ?_) ?_
    ·rw [eS (l := [(1, _)]) ⟨z9 1 rfl, ⟨⟩⟩]
     refine je (jj yt rfl (Rd.own [] rfl rfl) ?_)
     exact ⟨rfl, rfl, rfl⟩
    refine pD (fun W R z9 => ?_) ?_
    ·refine je (jk (tv) rfl ?_)
     exact ⟨rfl, rfl, rfl⟩
    refine pD (fun W R z9 => ?_) ?_
    ·refine je (jk (ii ((p : Int))) rfl ?_)
     exact ⟨rfl, rfl, rfl⟩
    refine pD (fun W R z9 => ?_) ?_
    ·rw [eS (l := [(3, _), (4, _)]) ⟨z9 3 rfl, z9 4 rfl, ⟨⟩⟩]
     refine je (jq p qU js rfl rfl rfl ht.slv (by omega) (Nat.mul_one _) ?_)
     exact ⟨rfl, rfl, rfl⟩
    refine pD (fun W R z9 => ?_) ?_
    ·rw [eS (l := [(5, _)]) ⟨z9 5 rfl, ⟨⟩⟩]
     refine je (jj yd rfl (ht.rd (by omega)) ?_)
     exact ⟨rfl, rfl, rfl⟩
    refine pD (fun W R z9 => ?_) ?_
    ·rw [eS (l := [(2, _), (6, _)]) ⟨z9 2 rfl, z9 6 rfl, ⟨⟩⟩]
     refine je (jq ((t.getD p 0).toNat) qU js rfl rfl (by omega) har.slv (by omega) (Nat.mul_one _) ?_)
     exact ⟨rfl, rfl, rfl⟩
    refine pD (fun W R z9 => ?_) ?_
    ·rw [eS (l := [(7, _)]) ⟨z9 7 rfl, ⟨⟩⟩]
     refine je (jj yd rfl (har.rd (by omega)) ?_)
     exact ⟨rfl, rfl, rfl⟩
    exact stepsP.nil
   intro W hphi
   rw [eS (l := [(0, _), (8, _)]) ⟨(hphi 0 (by decide)), (hphi 8 (by decide)), ⟨⟩⟩]
   show XL _ _ _ _ _ _ _ (cellsH b1 [arv] 29 :: L)
   refine cX (yj (((k : Int)) + (ar.getD ((t.getD p 0).toNat) 0)) rfl rfl (by omega) (by omega) (jc (ii (((k : Int)) + (ar.getD ((t.getD p 0).toNat) 0))) rfl (qI (qX (qH (jb (ii (((k : Int)) + (ar.getD ((t.getD p 0).toNat) 0))) rfl (cX (yx ((((k : Int)) + (ar.getD ((t.getD p 0).toNat) 0)) - 1) rfl rfl (by omega) (by omega) (jc (ii ((((k : Int)) + (ar.getD ((t.getD p 0).toNat) 0)) - 1)) rfl (qI (qH (jb (ii ((p : Int))) rfl (cX (yj (((p + 1 : Nat) : Int)) rfl rfl (by omega) (by omega) (jc (ii (((p + 1 : Nat) : Int))) rfl ?_)))))))))))))))
   refine qI ?_
   exact ⟨(k - 1 + (arity ar (t.getD p 0)).toNat, p + 1), _, FLe.refl _, rF, ⟨rfl, rfl, rfl, (vI (by omega)), ⟨⟩⟩, (sC sR), ⟨rfl, (hnx), (by (try dsimp only) <;> omega), (by (try dsimp only) <;> omega)⟩, (by omega)⟩
  have hare : arity ar (t.getD p 0) = 0 := by unfold arity; rw [if_pos (by omega)]
  refine jU (qX (qH (jb (ii ((k : Int))) rfl (cX (yx (((k : Int)) - 1) rfl rfl (by omega) (by omega) (jc (ii (((k : Int)) - 1)) rfl (qI (qH (jb (ii ((p : Int))) rfl (cX (yj (((p + 1 : Nat) : Int)) rfl rfl (by omega) (by omega) (jc (ii (((p + 1 : Nat) : Int))) rfl (qI ?_)))))))))))))
  exact ⟨(k - 1 + (arity ar (t.getD p 0)).toNat, p + 1), _, FLe.refl _, rF, ⟨rfl, rfl, rfl, (vI (by omega)), ⟨⟩⟩, (sC sR), ⟨rfl, (hnx), (by (try dsimp only) <;> omega), (by (try dsimp only) <;> omega)⟩, (by omega)⟩
 refine yB (jO (jO (yk (qX (qH (jb (ii ((p : Int))) rfl (jc (ii ((p : Int))) rfl (qI (jW (jR (L' := L) [ii ((p : Int))] (ii ((p : Int))) (.tmp rfl .nil) rfl rF rF (sD sR) ?_))))))))))
 exact ⟨(congrArg (fun n : Nat => Value.int .i64 (n : Int)) (endW_stop hi hpp.2 (by omega)).symm), rfl, rfl⟩

/- spec.l13Parts -/
theorem l13Parts_spec {F : FH} {L : List HP} {arv : Value} {ar : List Int} (har : IntsF F arv ar) {tv : Value} {t : List Int} (ht : IntsF F tv t) (ho : TermW ar t) :
    Does prog 252 [.agg #[arv], tv] F (L) (fun v F' L' => ∃ (a : Value), (a : Value) = v ∧ (RowsF F' a (partsL ar t)) ∧ L = L') := by
 refine ym func252 rfl rfl rfl ?_
 have hsl := sigOk_spec ho.sig
 have htl := ho.len
 have hsig := ho.sig
 have hlt0 := ho.lt (p := 0) (by omega)
 refine qX (qH (cX (yD [arv] rfl rfl ?_)))
 intro b1
 refine jc (sN) rfl (qI (qX (qH (cX (jQ (s := 1) [] [sN] [] jX jF Qn rfl (by decide) rfl CellsAre.nil rfl ?_)))))
 intro v1 hv1
 refine jc (v1) rfl (qI (qX (qX (qH (jb (tv) rfl (cX (jq 0 qU js rfl rfl rfl ht.slv (by omega) (Nat.mul_one _) (cX (jj yd rfl (ht.rd (by omega)) (cX (yo rfl rfl (qI ?_))))))))))))
 refine jV (p := (t.getD 0 0 : Int) < 0) rfl (fun h1 => ?_) (fun h1 => ?_)
 ·refine qX (qH (jb (v1) rfl (jc (v1) rfl (qI ?_))))
  have hc1 : RowsC F [] ([] : List (List Int)) := (CO.nil : RowsC F [] [])
  refine yz [] _ _ rfl (fun F1 le1 hz1 => ?_)
  replace har := har.mono le1
  replace ht := ht.mono le1
  replace hc1 := hc1.mono le1
  have hf1 : RowsF F1 v1 (([] : List (List Int))) := CO.fz hc1 (by first | rfl | omega | (rw [List.length_set]; omega) | (simp; done)) hz1.fz
  refine jW (jw (jR (L' := L) [v1] (v1) (.tmp rfl .nil) rfl le1 rF (sD sR) ?_))
  have e9 : partsL ar t = [] := List.eq_nil_of_length_eq_zero (by rw [parts_len]; unfold arity; rw [if_pos (by omega)]; rfl)
  rw [e9]
  exact ⟨_, rfl, hf1, rfl⟩
 obtain ⟨hpa, hp3, hpl⟩ := sArity_parts ho (by omega)
 refine jU (qX (qH (jc (ii (1)) rfl (qI (qX (qX (qH (jc (ii (0)) rfl (qI (yf (yI (α := Nat × Nat × Value × RowL × List Value × Nat × FH) (fun xQ => [(1, tv), (2, ptr b1 0), (5, xQ.2.2.1), (6, ii (((xQ.2.1 : Nat) : Int))), (7, ii (((xQ.1 : Nat) : Int)))]) (fun xQ => slH 27 1 xQ.2.2.1 xQ.2.2.2.2.2.1 xQ.2.2.2.2.1 :: cellsH b1 [arv] 29 :: L) (fun xQ F' => xQ.2.2.2.2.2.2 = F' ∧ F ≤ xQ.2.2.2.2.2.2 ∧ (IsSl xQ.2.2.1) ∧ (RowsC xQ.2.2.2.2.2.2 xQ.2.2.2.2.1 xQ.2.2.2.1) ∧ (xQ.2.2.2.2.2.1 = xQ.2.2.2.1.length) ∧ (xQ.2.2.2.1.length = xQ.1) ∧ (PartI ar t xQ.2.2.2.1 ((partsL ar t).length - xQ.1) xQ.2.1) ∧ (xQ.1 ≤ (partsL ar t).length)) (fun xQ => (partsL ar t).length - xQ.1) (0, 1, v1, [], [], 0, F) ⟨rfl, rfl, rfl, rfl, rfl, ⟨⟩⟩ (sC (sC sR)) ⟨rfl, FLe.refl _, ((yH hv1)), (CO.nil), (rfl), (rfl), (PartI.start ho), (by (try dsimp only) <;> omega)⟩ ?_)))))))))))
 rintro ⟨k, q, ov, os, ocs, m9, G1⟩ rE _ _ ⟨rfl, leG, hov, hC, hm, hk, hPI, hk2⟩
 show X _ _ _ _ (envs [(1, tv), (2, ptr b1 0), (5, ov), (6, ii ((q : Int))), (7, ii ((k : Int)))] rE) _ (slH 27 1 ov m9 ocs :: cellsH b1 [arv] 29 :: L)
 replace leG : F ≤ G1 := leG
 dsimp only at hov hC hm hk hPI hk2
 have hPn := fun h : 1 ≤ (partsL ar t).length - k => hPI.next ho h
 have leG1 := leG
 replace har := har.mono leG1
 replace ht := ht.mono leG1
 refine qX (qX ?_)
 refine yN [slH 27 1 ov m9 ocs, cellsH b1 [arv] 29] L 8 [] [[], [], [1], [], [3], [4], [2, 5], [6]] (phiL [qe (ii ((k : Int)) : Value), qe (ptr b1 0), qe arv, qe tv, qe (.pointer (some (elemA tv (0)))), qe (ii (t.getD 0 0)), qe (.pointer (some (elemA arv ((t.getD 0 0).toNat)))), qe (ii (ar.getD ((t.getD 0 0).toNat) 0))]) (ownL []) mixed rfl rfl (by kernel_rfl) ?_ ?_
 ·refine pD (fun W R z9 => ?_) ?_
  ·refine je (jk (ii ((k : Int))) rfl ?_)
   exact ⟨rfl, rfl, rfl⟩
  refine pD (fun W R z9 => ?_) ?_
  ·refine je (jE (0) Ql rfl jF (by decide) rfl rfl ?_)
   exact ⟨rfl, rfl, rfl⟩
  refine pD (fun W R z9 => ?_) ?_
  ·rw [eS (l := [(1, _)]) ⟨z9 1 rfl, ⟨⟩⟩]
   refine je (jj yt rfl (Rd.own [_] rfl rfl) ?_)
   exact ⟨rfl, rfl, rfl⟩
  refine pD (fun W R z9 => ?_) ?_
  ·refine je (jk (tv) rfl ?_)
   exact ⟨rfl, rfl, rfl⟩
  refine pD (fun W R z9 => ?_) ?_
  ·rw [eS (l := [(3, _)]) ⟨z9 3 rfl, ⟨⟩⟩]
   refine je (jq 0 qU js rfl rfl rfl ht.slv (by omega) (Nat.mul_one _) ?_)
   exact ⟨rfl, rfl, rfl⟩
  refine pD (fun W R z9 => ?_) ?_
  ·rw [eS (l := [(4, _)]) ⟨z9 4 rfl, ⟨⟩⟩]
   refine je (jj yd rfl (ht.rd (by omega)) ?_)
   exact ⟨rfl, rfl, rfl⟩
  refine pD (fun W R z9 => ?_) ?_
  ·rw [eS (l := [(2, _), (5, _)]) ⟨z9 2 rfl, z9 5 rfl, ⟨⟩⟩]
   refine je (jq ((t.getD 0 0).toNat) qU js rfl rfl (by omega) har.slv (by omega) (Nat.mul_one _) ?_)
   exact ⟨rfl, rfl, rfl⟩
  refine pD (fun W R z9 => ?_) ?_
  ·rw [eS (l := [(6, _)]) ⟨z9 6 rfl, ⟨⟩⟩]
   refine je (jj yd rfl (har.rd (by omega)) ?_)
   exact ⟨rfl, rfl, rfl⟩
  exact stepsP.nil
 intro W hphi
 rw [eS (l := [(0, _), (7, _)]) ⟨(hphi 0 (by decide)), (hphi 7 (by decide)), ⟨⟩⟩]
 show XL _ _ _ _ _ _ _ (slH 27 1 ov m9 ocs :: cellsH b1 [arv] 29 :: L)
 refine cX (yo rfl rfl (qI ?_))
 refine jV (p := (k : Int) < ar.getD ((t.getD 0 0).toNat) 0) rfl (fun h2 => ?_) (fun h2 => ?_)
 ·obtain ⟨hq1, hq2, hq3, hq4⟩ := hPn (by omega)
  refine jU (qX (yf (qX (qH (cX (yc [arv] yF ys rfl rfl (Rd.ownN [_] rfl rfl) (jb (tv) rfl (jb (ii ((q : Int))) rfl (cX (jL (args := [.agg #[arv], tv, ii (q : Int)]) call215 rfl (l13End_spec (q := q) har ht (ho := (ho)) (hp := (hq1))) ?_))))))))))
  rintro _ _ _ _ ⟨rfl, rfl, rfl⟩
  refine jc (ii (((endN ar t q : Nat) : Int))) rfl (qI (qX (qH (jb (ov) rfl (jb (tv) rfl (jb (ii ((q : Int))) rfl (jb (ii (((endN ar t q : Nat) : Int))) rfl (cX (Qp q (endN ar t q) qU js rfl ht ⟨_, rfl⟩ ⟨_, rfl⟩ (by omega) (by omega) ?_)))))))))
  intro v2 hv2 hn1
  refine cX (jQ (s := 1) [v2] [sN] [(0, [v2])] jX jF Qn rfl (by decide) rfl (.cons (cells_one (yi hv2)) CellsAre.nil) rfl ?_)
  intro v3 hv3
  refine cX (XOp.append (m := 1) (bytes := 24) (cs := ocs) [_] _ [v2] jX typeInfo27 rfl rfl rfl rfl rfl rfl rfl (SlV.own [] rfl) rfl (Rd.lit [] rfl) (jT (yE (yi hv2)) yM) (by (try simp only [List.length_append, List.length_nil, List.length_cons, List.length_singleton]); omega) (by (try simp only [List.length_append, List.length_nil, List.length_cons, List.length_singleton]); omega) ?_)
  intro v4 hs1 hn2 hm1
  have hc2 := RowsC.snoc hC hv2
  refine jc (v4) rfl (qI (qH (jb (ii (((endN ar t q : Nat) : Int))) rfl (jc (ii (((endN ar t q : Nat) : Int))) rfl (qI (qH (jb (ii ((k : Int))) rfl (cX (yj (((k + 1 : Nat) : Int)) rfl rfl (by omega) (by omega) (jc (ii (((k + 1 : Nat) : Int))) rfl (qI ?_)))))))))))
  exact ⟨(k + 1, endN ar t q, v4, os ++ [((t.drop q).take ((endN ar t q) - q))], ocs ++ [v2], (m9) + 1, G1), _, leG1, rF, ⟨rfl, rfl, rfl, rfl, rfl, ⟨⟩⟩, (sD (sC (sC sR))), ⟨rfl, leG1, (hs1), (hc2), (by (try dsimp only); rw [List.length_append, List.length_singleton]; omega), (by (try dsimp only); rw [List.length_append, List.length_singleton]; omega), (by have h9 := (hPn (by omega)).2.1; rwa [show (partsL ar t).length - k - 1 = (partsL ar t).length - (k + 1) from by omega] at h9), (by (try dsimp only) <;> omega)⟩, (by omega)⟩
 refine yB (jO (jO (yk (qX (qH (jb (ov) rfl (jc (ov) rfl (qI (yz [] _ _ rfl (fun F2 le2 hz2 => ?_))))))))))
 replace hC := hC.mono le2
 have hf2 : RowsF F2 ov os := CO.fz hC (by first | rfl | omega | (rw [List.length_set]; omega) | (simp; done)) hz2.fz
 refine jW (jR (L' := L) [ov] (ov) (.tmp rfl .nil) rfl (jl leG1 le2) rF (sD sR) ?_)
 have e9 := hPI.done (by omega)
 rw [e9]
 exact ⟨_, rfl, hf2, rfl⟩

/- spec.l11Head -/
theorem head_spec {F : FH} {L : List HP} {ub : Nat} {ov : Value} {ocs : List Value} {ar : List Int} {bl : RowL} (hov : IsSl ov) (hC : RowsC F ocs bl) (hb : BOk ar bl) {tv : Value} {t : List Int} (ht : IntsF F tv t) (ho : TermW ar t) :
    Does prog 250 [ptr ub 0, tv] F (cellsH ub [ov] 234 :: slH 27 1 ov 48 ocs :: L) (fun v F' L' => ∃ u : List Int, IntsF F' v u ∧ Root ar bl t u ∧ WtLe bl t u ∧ F = F' ∧ cellsH ub [ov] 234 :: slH 27 1 ov 48 ocs :: L = L') := by
 refine ym func250 rfl rfl rfl ?_
 obtain ⟨ρ, hρ⟩ := hb.acyc
 have hbl := hb.len
 refine qX (qH (jc (sN) rfl (qI (qX (yf (yI (α := Value × List Int) (fun xQ => [(0, ptr ub 0), (1, xQ.1)]) (fun xQ => cellsH ub [ov] 234 :: slH 27 1 ov 48 ocs :: L) (fun xQ F' => F = F' ∧ (IntsF F xQ.1 xQ.2) ∧ (RootTo ar bl t xQ.2) ∧ (WtLe bl t xQ.2)) (fun xQ => rootMu ρ xQ.2) (tv, t) ⟨rfl, rfl, ⟨⟩⟩ (sC (sC sR)) ⟨rfl, (ht), (RootTo.refl ho), (WtLe.refl)⟩ ?_))))))
 rintro ⟨uv, u⟩ rE _ _ ⟨rfl, huv, hrt, hwt⟩
 show X _ _ _ _ (envs [(0, ptr ub 0), (1, uv)] rE) _ (cellsH ub [ov] 234 :: slH 27 1 ov 48 ocs :: L)
 dsimp only at huv hrt hwt
 have hul := hrt.1.len
 have hug := hrt.1.geD (p := 0) (by omega)
 refine qX (qX ?_)
 by_cases h1 : (u.getD 0 0 : Int) < 0
 ·have hx0 : u.getD 0 0 < 0 := h1
  refine yN [cellsH ub [ov] 234, slH 27 1 ov 48 ocs] L 13 [] [[], [0], [1], [2], [3], [4], [4, 5], [4, 6], [4, 7], [4], [4, 9], [4, 10], [4, 11]] (phiL [qe uv, qe (.pointer (some (elemA uv (0)))), qe (ii (u.getD 0 0)), qe (.bool (decide ((u.getD 0 0 : Int) < 0)) : Value), qe (.bool (decide ((u.getD 0 0 : Int) < 0)) : Value), qe (ptr ub 0), qe (ptr ub 0), qe (ptr ub 0), qe ov, qe uv, qe (.pointer (some (elemA uv (0)))), qe (ii (u.getD 0 0)), qe (ii ((-1) - (u.getD 0 0)))]) (ownL []) mixed rfl rfl (by kernel_rfl) ?_ ?_
  ·refine pD (fun W R z9 => ?_) ?_
   ·refine je (jk (uv) rfl ?_)
    exact ⟨rfl, rfl, rfl⟩
   refine pD (fun W R z9 => ?_) ?_
   ·rw [eS (l := [(0, _)]) ⟨z9 0 rfl, ⟨⟩⟩]
    refine je (jq 0 qU js rfl rfl rfl huv.slv (by omega) (Nat.mul_one _) ?_)
    exact ⟨rfl, rfl, rfl⟩
   refine pD (fun W R z9 => ?_) ?_
   ·rw [eS (l := [(1, _)]) ⟨z9 1 rfl, ⟨⟩⟩]
    refine je (jj yd rfl (huv.rd (by omega)) ?_)
    exact ⟨rfl, rfl, rfl⟩
   refine pD (fun W R z9 => ?_) ?_
   ·rw [eS (l := [(2, _)]) ⟨z9 2 rfl, ⟨⟩⟩]
    refine je (yo rfl rfl ?_)
    exact ⟨rfl, rfl, rfl⟩
   refine pD (fun W R z9 => ?_) ?_
   ·rw [eS (l := [(3, _)]) ⟨z9 3 rfl, ⟨⟩⟩]
    refine je (jk (.bool (decide ((u.getD 0 0 : Int) < 0))) rfl ?_)
    exact ⟨rfl, rfl, rfl⟩
   refine pD (fun W R z9 => ?_) ?_
   ·rw [eS (l := [(4, _)]) ⟨z9 4 rfl, ⟨⟩⟩]
    refine yh (t := 9) rfl (vT h1) (jk (ptr ub 0) rfl ?_)
    exact ⟨rfl, rfl, rfl⟩
   refine pD (fun W R z9 => ?_) ?_
   ·rw [eS (l := [(4, _), (5, _)]) ⟨z9 4 rfl, z9 5 rfl, ⟨⟩⟩]
    refine yh (t := 9) rfl (vT h1) (yw rfl ?_)
    exact ⟨rfl, rfl, rfl⟩
   refine pD (fun W R z9 => ?_) ?_
   ·rw [eS (l := [(4, _), (6, _)]) ⟨z9 4 rfl, z9 6 rfl, ⟨⟩⟩]
    refine yh (t := 9) rfl (vT h1) (jE (0) Qu rfl yT (by decide) rfl rfl ?_)
    exact ⟨rfl, rfl, rfl⟩
   refine pD (fun W R z9 => ?_) ?_
   ·rw [eS (l := [(4, _), (7, _)]) ⟨z9 4 rfl, z9 7 rfl, ⟨⟩⟩]
    refine yh (t := 9) rfl (vT h1) (jj Qv rfl (Rd.own [] rfl rfl) ?_)
    exact ⟨rfl, rfl, rfl⟩
   refine pD (fun W R z9 => ?_) ?_
   ·rw [eS (l := [(4, _)]) ⟨z9 4 rfl, ⟨⟩⟩]
    refine yh (t := 9) rfl (vT h1) (jk (uv) rfl ?_)
    exact ⟨rfl, rfl, rfl⟩
   refine pD (fun W R z9 => ?_) ?_
   ·rw [eS (l := [(4, _), (9, _)]) ⟨z9 4 rfl, z9 9 rfl, ⟨⟩⟩]
    refine yh (t := 9) rfl (vT h1) (jq 0 qU js rfl rfl rfl huv.slv (by omega) (Nat.mul_one _) ?_)
    exact ⟨rfl, rfl, rfl⟩
   refine pD (fun W R z9 => ?_) ?_
   ·rw [eS (l := [(4, _), (10, _)]) ⟨z9 4 rfl, z9 10 rfl, ⟨⟩⟩]
    refine yh (t := 9) rfl (vT h1) (jj yd rfl (huv.rd (by omega)) ?_)
    exact ⟨rfl, rfl, rfl⟩
   refine pD (fun W R z9 => ?_) ?_
   ·rw [eS (l := [(4, _), (11, _)]) ⟨z9 4 rfl, z9 11 rfl, ⟨⟩⟩]
    refine yh (t := 9) rfl (vT h1) (yx ((-1) - (u.getD 0 0)) rfl rfl (by omega) (by omega) ?_)
    exact ⟨rfl, rfl, rfl⟩
   exact stepsP.nil
  intro W hphi
  rw [eS (l := [(4, _), (8, _), (12, _)]) ⟨(hphi 4 (by decide)), (hphi 8 (by decide)), (hphi 12 (by decide)), ⟨⟩⟩]
  show XL _ _ _ _ _ _ _ (cellsH ub [ov] 234 :: slH 27 1 ov 48 ocs :: L)
  refine jB (t := 9) rfl (vT h1) (jq (((-1) - (u.getD 0 0)).toNat) jX jF rfl rfl (by omega) (SlV.own [_] rfl) (by omega) (Nat.mul_one _) ?_)
  obtain ⟨a1, ha1, he1⟩ := hC.get (i := ((-1) - (u.getD 0 0)).toNat) (by omega)
  refine jB (t := 9) rfl (vT h1) (jj yt rfl (Rd.sl [_] rfl he1) (jB (t := 9) rfl (vT h1) (jZ qU rfl ha1.slv (jB (t := 9) rfl (vT h1) (Qf rfl rfl (cX (yp (.bool (decide ((((((bl.getD (((-1) - (u.getD 0 0)).toNat) [])).length : Nat) : Int) : Int) > 0))) (vT h1) rfl (qI ?_))))))))
  refine jV (p := (((((bl.getD (((-1) - (u.getD 0 0)).toNat) [])).length : Nat) : Int) : Int) > 0) rfl (fun h2 => ?_) (fun h2 => ?_)
  ·have hbn : bl.getD (varIx (u.getD 0 0)) [] ≠ [] := fun e => by (have e9 : (bl.getD (varIx (u.getD 0 0)) []).length = 0 := by rw [e]; rfl); unfold varIx at e9; omega
   refine jU (yf ?_)
   refine yN [cellsH ub [ov] 234, slH 27 1 ov 48 ocs] L 8 [] [[], [0], [1], [2], [], [4], [5], [6]] (phiL [qe (ptr ub 0), qe (ptr ub 0), qe (ptr ub 0), qe ov, qe uv, qe (.pointer (some (elemA uv (0)))), qe (ii (u.getD 0 0)), qe (ii ((-1) - (u.getD 0 0)))]) (ownL []) mixed rfl rfl (by kernel_rfl) ?_ ?_
   ·refine pD (fun W R z9 => ?_) ?_
    ·refine je (jk (ptr ub 0) rfl ?_)
     exact ⟨rfl, rfl, rfl⟩
    refine pD (fun W R z9 => ?_) ?_
    ·rw [eS (l := [(0, _)]) ⟨z9 0 rfl, ⟨⟩⟩]
     refine je (yw rfl ?_)
     exact ⟨rfl, rfl, rfl⟩
    refine pD (fun W R z9 => ?_) ?_
    ·rw [eS (l := [(1, _)]) ⟨z9 1 rfl, ⟨⟩⟩]
     refine je (jE (0) Qu rfl yT (by decide) rfl rfl ?_)
     exact ⟨rfl, rfl, rfl⟩
    refine pD (fun W R z9 => ?_) ?_
    ·rw [eS (l := [(2, _)]) ⟨z9 2 rfl, ⟨⟩⟩]
     refine je (jj Qv rfl (Rd.own [] rfl rfl) ?_)
     exact ⟨rfl, rfl, rfl⟩
    refine pD (fun W R z9 => ?_) ?_
    ·refine je (jk (uv) rfl ?_)
     exact ⟨rfl, rfl, rfl⟩
    refine pD (fun W R z9 => ?_) ?_
    ·rw [eS (l := [(4, _)]) ⟨z9 4 rfl, ⟨⟩⟩]
     refine je (jq 0 qU js rfl rfl rfl huv.slv (by omega) (Nat.mul_one _) ?_)
     exact ⟨rfl, rfl, rfl⟩
    refine pD (fun W R z9 => ?_) ?_
    ·rw [eS (l := [(5, _)]) ⟨z9 5 rfl, ⟨⟩⟩]
     refine je (jj yd rfl (huv.rd (by omega)) ?_)
     exact ⟨rfl, rfl, rfl⟩
    refine pD (fun W R z9 => ?_) ?_
    ·rw [eS (l := [(6, _)]) ⟨z9 6 rfl, ⟨⟩⟩]
     refine je (yx ((-1) - (u.getD 0 0)) rfl rfl (by omega) (by omega) ?_)
     exact ⟨rfl, rfl, rfl⟩
    exact stepsP.nil
   intro W hphi
   rw [eS (l := [(3, _), (7, _)]) ⟨(hphi 3 (by decide)), (hphi 7 (by decide)), ⟨⟩⟩]
   show XL _ _ _ _ _ _ _ (cellsH ub [ov] 234 :: slH 27 1 ov 48 ocs :: L)
   refine cX (jq (((-1) - (u.getD 0 0)).toNat) jX jF rfl rfl (by omega) (SlV.own [_] rfl) (by omega) (Nat.mul_one _) (cX (jj yt rfl (Rd.sl [_] rfl he1) (jc (a1) rfl (qI ?_)))))
   exact ⟨(a1, (bl.getD (((-1) - (u.getD 0 0)).toNat) [])), _, FLe.refl _, rF, ⟨rfl, rfl, ⟨⟩⟩, (sC (sC sR)), ⟨rfl, (ha1), (hrt.next hb hx0 hbn), (hwt.next hb hrt.1 hx0 hbn)⟩, (rootMu_lt hρ hb hx0 hbn)⟩
  have htop : 0 ≤ u.getD 0 0 ∨ bl.getD (varIx (u.getD 0 0)) [] = [] := .inr (List.eq_nil_of_length_eq_zero (by unfold varIx; omega))
  refine yB (jO (jO (yk (qX (qH (jb (uv) rfl (jc (uv) rfl (qI (jW (jR (L' := cellsH ub [ov] 234 :: slH 27 1 ov 48 ocs :: L) [uv] (uv) (.tmp rfl .nil) rfl rF rF (sC (sC sR)) ?_))))))))))
  exact ⟨_, huv, hrt.done htop, hwt, rfl, rfl⟩
 have htop : 0 ≤ u.getD 0 0 ∨ bl.getD (varIx (u.getD 0 0)) [] = [] := .inl (by omega)
 refine yN [cellsH ub [ov] 234, slH 27 1 ov 48 ocs] L 13 [] [[], [0], [1], [2], [3], [4], [4, 5], [4, 6], [4, 7], [4], [4, 9], [4, 10], [4, 11]] (phiL [qe uv, qe (.pointer (some (elemA uv (0)))), qe (ii (u.getD 0 0)), qe (.bool (decide ((u.getD 0 0 : Int) < 0)) : Value), qe (.bool (decide ((u.getD 0 0 : Int) < 0)) : Value), qe undef, qe undef, qe undef, qe undef, qe undef, qe undef, qe undef, qe undef]) (ownL []) mixed rfl rfl (by kernel_rfl) ?_ ?_
 ·refine pD (fun W R z9 => ?_) ?_
  ·refine je (jk (uv) rfl ?_)
   exact ⟨rfl, rfl, rfl⟩
  refine pD (fun W R z9 => ?_) ?_
  ·rw [eS (l := [(0, _)]) ⟨z9 0 rfl, ⟨⟩⟩]
   refine je (jq 0 qU js rfl rfl rfl huv.slv (by omega) (Nat.mul_one _) ?_)
   exact ⟨rfl, rfl, rfl⟩
  refine pD (fun W R z9 => ?_) ?_
  ·rw [eS (l := [(1, _)]) ⟨z9 1 rfl, ⟨⟩⟩]
   refine je (jj yd rfl (huv.rd (by omega)) ?_)
   exact ⟨rfl, rfl, rfl⟩
  refine pD (fun W R z9 => ?_) ?_
  ·rw [eS (l := [(2, _)]) ⟨z9 2 rfl, ⟨⟩⟩]
   refine je (yo rfl rfl ?_)
   exact ⟨rfl, rfl, rfl⟩
  refine pD (fun W R z9 => ?_) ?_
  ·rw [eS (l := [(3, _)]) ⟨z9 3 rfl, ⟨⟩⟩]
   refine je (jk (.bool (decide ((u.getD 0 0 : Int) < 0))) rfl ?_)
   exact ⟨rfl, rfl, rfl⟩
  refine pD (fun W R z9 => ?_) ?_
  ·rw [eS (l := [(4, _)]) ⟨z9 4 rfl, ⟨⟩⟩]
   exact yA (t := 9) rfl (vF h1) ⟨rfl, rfl, rfl⟩
  refine pD (fun W R z9 => ?_) ?_
  ·rw [eS (l := [(4, _), (5, undef)]) ⟨z9 4 rfl, z9 5 rfl, ⟨⟩⟩]
   exact yA (t := 9) rfl (vF h1) ⟨rfl, rfl, rfl⟩
  refine pD (fun W R z9 => ?_) ?_
  ·rw [eS (l := [(4, _), (6, undef)]) ⟨z9 4 rfl, z9 6 rfl, ⟨⟩⟩]
   exact yA (t := 9) rfl (vF h1) ⟨rfl, rfl, rfl⟩
  refine pD (fun W R z9 => ?_) ?_
  ·rw [eS (l := [(4, _), (7, undef)]) ⟨z9 4 rfl, z9 7 rfl, ⟨⟩⟩]
   exact yA (t := 9) rfl (vF h1) ⟨rfl, rfl, rfl⟩
  refine pD (fun W R z9 => ?_) ?_
  ·rw [eS (l := [(4, _)]) ⟨z9 4 rfl, ⟨⟩⟩]
   exact yA (t := 9) rfl (vF h1) ⟨rfl, rfl, rfl⟩
  refine pD (fun W R z9 => ?_) ?_
  ·rw [eS (l := [(4, _), (9, undef)]) ⟨z9 4 rfl, z9 9 rfl, ⟨⟩⟩]
   exact yA (t := 9) rfl (vF h1) ⟨rfl, rfl, rfl⟩
  refine pD (fun W R z9 => ?_) ?_
  ·rw [eS (l := [(4, _), (10, undef)]) ⟨z9 4 rfl, z9 10 rfl, ⟨⟩⟩]
   exact yA (t := 9) rfl (vF h1) ⟨rfl, rfl, rfl⟩
  refine pD (fun W R z9 => ?_) ?_
  ·rw [eS (l := [(4, _), (11, undef)]) ⟨z9 4 rfl, z9 11 rfl, ⟨⟩⟩]
   exact yA (t := 9) rfl (vF h1) ⟨rfl, rfl, rfl⟩
  exact stepsP.nil
 intro W hphi
 rw [eS (l := [(4, _), (8, undef), (12, undef)]) ⟨(hphi 4 (by decide)), (hphi 8 (by decide)), (hphi 12 (by decide)), ⟨⟩⟩]
 show XL _ _ _ _ _ _ _ (cellsH ub [ov] 234 :: slH 27 1 ov 48 ocs :: L)
 refine jA (t := 9) rfl (vF h1) (jA (t := 9) rfl (vF h1) (jA (t := 9) rfl (vF h1) (jA (t := 9) rfl (vF h1) (cX (yl (.bool (false)) (vF h1) rfl (qI (yV rfl (yB (jO (jO (yk (qX (qH (jb (uv) rfl ?_))))))))))))))
 refine jc (uv) rfl (qI (jW (jR (L' := cellsH ub [ov] 234 :: slH 27 1 ov 48 ocs :: L) [uv] (uv) (.tmp rfl .nil) rfl rF rF (sC (sC sR)) ?_)))
 exact ⟨_, huv, hrt.done htop, hwt, rfl, rfl⟩

/- spec.l11Occurs -/
set_option maxHeartbeats 1000000 in
set_option maxRecDepth 20000 in
theorem occurs2_spec {F : FH} {L : List HP} {ub : Nat} {ov : Value} {ocs : List Value} {ar : List Int} {bl : RowL} (hov : IsSl ov) (hC : RowsC F ocs bl) (hb : BOk ar bl) {σ : Sbs} {n : Int} {tv : Value} {t : List Int} (ht : IntsF F tv t) (ho : TermW ar t) (hσ : Sol bl σ) (hn : n < 0) (hnf : lkN bl n = []) :
    Does prog 251 [ptr ub 0, ii (n), tv] F (cellsH ub [ov] 234 :: slH 27 1 ov 48 ocs :: L) (fun v F' L' => (.bool (decide (n ∈ ap σ t)) : Value) = v ∧ F = F' ∧ cellsH ub [ov] 234 :: slH 27 1 ov 48 ocs :: L = L') := by
 refine ym func251 rfl rfl rfl ?_
 have hbl := hb.len
 refine qX (qH (jc (.bool (false)) rfl (qI (qX (qH (jb (ptr ub 0) rfl (cX (yw rfl (cX (jE (0) Qu rfl yT (by decide) rfl rfl (cX (jj Qv rfl (Rd.own [] rfl rfl) (cX (jZ jX rfl (SlV.own [_] rfl) (cX (XOp.makeSlice (n := 48) (bytes := 1) [.bool (false)] runUnderlying244 sizeOf4 typeInfo4 rfl zeroValue4 rfl rfl rfl rfl (by omega) (by omega) ?_))))))))))))))))
 intro v1 hv1
 rw [boolsH_zeros]
 refine jc (v1) rfl (qI (qX (qH (jb (tv) rfl (cX (jQ (s := 1) [tv] [sN] [(0, [tv])] jX jF Qn rfl (by decide) rfl (.cons (cells_one (yi ht)) CellsAre.nil) rfl ?_))))))
 intro v2 hv2
 refine jc (v2) rfl (qI (qX (yf ?_)))
 have hc1 : RowsC F [tv] ([t] : List (List Int)) := (RowsC.snoc (CO.nil : RowsC F [] []) ht)
 refine yI (α := List Bool × Value × RowL × List Value × Nat) (fun xQ => [(0, ptr ub 0), (1, ii (n)), (7, v1), (8, xQ.2.1)]) (fun xQ => slH 27 1 xQ.2.1 xQ.2.2.2.2 xQ.2.2.2.1 :: boolsH 4 v1 xQ.1 :: cellsH ub [ov] 234 :: slH 27 1 ov 48 ocs :: L) (fun xQ F' => F = F' ∧ (IsSl xQ.2.1) ∧ (RowsC F xQ.2.2.2.1 xQ.2.2.1) ∧ (xQ.2.2.2.2 = xQ.2.2.1.length) ∧ (OccI bl σ n t xQ.1 xQ.2.2.1) ∧ (∀ x ∈ xQ.2.2.1, TermW ar x) ∧ (unm xQ.1 + xQ.2.2.1.length ≤ 49)) (fun xQ => unm xQ.1 + xQ.2.2.1.length) ((List.replicate 48 false), v2, [t], [tv], 1) ⟨rfl, rfl, rfl, rfl, ⟨⟩⟩ (sC (sC (sC (sC sR)))) ⟨rfl, ((yH hv2)), (hc1), (rfl), (OccI.start), (fun x hx => by rw [List.mem_singleton.1 hx]; exact ho), (by rw [unm_start]; exact Nat.le_refl _)⟩ ?_
 rintro ⟨sn, dv, td, dcs, m⟩ rE _ _ ⟨rfl, hdv, hD, hm, hOI, htw, hmu⟩
 show X _ _ _ _ (envs [(0, ptr ub 0), (1, ii (n)), (7, v1), (8, dv)] rE) _ (slH 27 1 dv m dcs :: boolsH 4 v1 sn :: cellsH ub [ov] 234 :: slH 27 1 ov 48 ocs :: L)
 dsimp only at hdv hD hm hOI htw hmu
 have hsl := hOI.len
 refine qX (qX (qH (jb (dv) rfl (cX (jZ jX rfl (SlV.own [] rfl) (cX (Qf rfl rfl (qI ?_))))))))
 refine jV (p := (m : Int) > 0) rfl (fun h1 => ?_) (fun h1 => ?_)
 ·refine jU (yf (qX (qH (jb (dv) rfl (jb (dv) rfl (cX (jZ jX rfl (SlV.own [] rfl) (cX (yx (((m : Int)) - 1) rfl rfl (by omega) (by omega) (cX (jq ((((m : Int)) - 1).toNat) jX jF rfl rfl (by omega) (SlV.own [] rfl) (by omega) (Nat.mul_one _) ?_)))))))))))
  obtain ⟨a1, ha1, he1⟩ := hD.get (i := (((m : Int)) - 1).toNat) (by omega)
  refine cX (jj yt rfl (Rd.sl [] rfl he1) (jc (a1) rfl (qI (qX (qH (jb (dv) rfl (jb (dv) rfl (cX (jZ jX rfl (SlV.own [] rfl) (cX (yx (((m : Int)) - 1) rfl rfl (by omega) (by omega) (cX (XOp.sliceOwn (cs := dcs) [] _ ((m - 1)) jX jF rfl rfl ⟨.i64, congrArg (Value.int .i64) (show ((m : Int)) - 1 = (((m - 1) : Nat) : Int) from by omega)⟩ (by omega) ?_)))))))))))))
  intro v3 hs1
  have hc2 : RowsC F _ _ := CO.take hD (k := (m - 1)) (by omega)
  refine jc (v3) rfl (qI (qX (qH (jc (ii (0)) rfl (qI (yf ?_))))))
  have hwu : TermW ar ((td.getD ((((m : Int)) - 1).toNat) [])) := htw _ (mem_rows (by omega))
  have hul := hwu.len
  refine yI (α := Nat × List Bool × Value × RowL × List Value × Nat) (fun xQ => [(0, ptr ub 0), (1, ii (n)), (7, v1), (8, xQ.2.2.1), (9, a1), (10, ii (((xQ.1 : Nat) : Int)))]) (fun xQ => slH 27 1 xQ.2.2.1 xQ.2.2.2.2.2 xQ.2.2.2.2.1 :: boolsH 4 v1 xQ.2.1 :: cellsH ub [ov] 234 :: slH 27 1 ov 48 ocs :: L) (fun xQ F' => F = F' ∧ (IsSl xQ.2.2.1) ∧ (RowsC F xQ.2.2.2.2.1 xQ.2.2.2.1) ∧ (xQ.2.2.2.2.2 = xQ.2.2.2.1.length) ∧ (OccJ bl σ n t ((td.getD ((((m : Int)) - 1).toNat) [])) xQ.1 xQ.2.1 xQ.2.2.2.1) ∧ (∀ x ∈ xQ.2.2.2.1, TermW ar x) ∧ (unm xQ.2.1 + xQ.2.2.2.1.length + 1 = unm sn + td.length) ∧ (xQ.1 ≤ ((td.getD ((((m : Int)) - 1).toNat) [])).length)) (fun xQ => ((td.getD ((((m : Int)) - 1).toNat) [])).length - xQ.1) (0, sn, v3, (td.take ((m - 1))), (dcs.take (((m - 1)) * 1)), (m - 1)) ⟨rfl, rfl, rfl, rfl, rfl, rfl, ⟨⟩⟩ (sC (sC (sC (sC sR)))) ⟨rfl, (hs1), (hc2), (by (try dsimp only); rw [List.length_take]; omega), (by have h9 := hOI.pop (by omega); rw [← hm] at h9; have e9 : ((m : Int) - 1).toNat = m - 1 := (by omega); rw [e9]; exact h9), (fun x hx => htw x (List.mem_of_mem_take hx)), (by (try dsimp only); rw [List.length_take]; omega), (by (try dsimp only) <;> omega)⟩ ?_
  rintro ⟨i, sm, ev, te, ecs, m2⟩ rE _ _ ⟨rfl, hev, hE, hm2, hOJ, htw2, hmu2, hi⟩
  show X _ _ _ _ (envs [(0, ptr ub 0), (1, ii (n)), (7, v1), (8, ev), (9, a1), (10, ii ((i : Int)))] rE) _ (slH 27 1 ev m2 ecs :: boolsH 4 v1 sm :: cellsH ub [ov] 234 :: slH 27 1 ov 48 ocs :: L)
  dsimp only at hev hE hm2 hOJ htw2 hmu2 hi
  have hsm := hOJ.len
  refine qX (qX (qH (jb (ii ((i : Int))) rfl (jb (a1) rfl (cX (jZ qU rfl ha1.slv (cX (yo rfl rfl (qI ?_)))))))))
  refine jV (p := (i : Int) < ((((td.getD ((((m : Int)) - 1).toNat) [])).length : Nat) : Int)) rfl (fun h2 => ?_) (fun h2 => ?_)
  ·refine jU (qX (yf (qX (qX (qH (jb (a1) rfl (jb (ii ((i : Int))) rfl (cX (jq i qU js rfl rfl rfl ha1.slv (by omega) (Nat.mul_one _) (cX (jj yd rfl (ha1.rd (by omega)) (jb (ii (n)) rfl (cX (yU rfl rfl (qI ?_)))))))))))))))
   refine jV (p := (((td.getD ((((m : Int)) - 1).toNat) [])).getD i 0 : Int) = n) rfl (fun h3 => ?_) (fun h3 => ?_)
   ·have heq : (((td.getD ((((m : Int)) - 1).toNat) [])).getD i 0) = n := h3
    refine qX (qH (jc (.bool (true)) rfl (qI (jW (jw (ya (jw (jw (ya (ya (jw (ya (jw (jR (L' := cellsH ub [ov] 234 :: slH 27 1 ov 48 ocs :: L) [.bool (true)] (.bool (true)) (.tmp rfl .nil) rfl rF rF (sD (sD (sC (sC sR)))) ?_))))))))))))))
    have e9 : decide (n ∈ ap σ t) = true := decide_eq_true (hOJ.found hσ hnf (by omega) heq)
    exact ⟨congrArg Value.bool e9, rfl, rfl⟩
   have hne : (((td.getD ((((m : Int)) - 1).toNat) [])).getD i 0) ≠ n := h3
   refine jU (qX ?_)
   by_cases h4 : (((td.getD ((((m : Int)) - 1).toNat) [])).getD i 0 : Int) < 0
   ·have hj0 : (((td.getD ((((m : Int)) - 1).toNat) [])).getD i 0) < 0 := h4
    have hgj := hwu.geD (p := i) (by omega)
    by_cases h5 : (!(sm.getD (((-1) - (((td.getD ((((m : Int)) - 1).toNat) [])).getD i 0)).toNat) false)) = true
    ·have hun : sm.getD (varIx (((td.getD ((((m : Int)) - 1).toNat) [])).getD i 0)) false = false := by simpa [varIx] using h5
     refine yN [slH 27 1 ev m2 ecs, boolsH 4 v1 sm, cellsH ub [ov] 234, slH 27 1 ov 48 ocs] L 26 [] [[], [], [0, 1], [2], [3], [4], [5], [5], [5], [5, 7, 8], [5, 9], [5, 10], [5, 6, 11], [5, 12], [5, 13], [5, 14], [15], [16], [16, 17], [16, 18], [16, 19], [16], [16], [16, 21, 22], [16, 23], [16, 24]] (phiL [qe a1, qe (ii ((i : Int)) : Value), qe (.pointer (some (elemA a1 (i)))), qe (ii (((td.getD ((((m : Int)) - 1).toNat) [])).getD i 0) : Value), qe (.bool (decide ((((td.getD ((((m : Int)) - 1).toNat) [])).getD i 0 : Int) < 0)) : Value), qe (.bool (decide ((((td.getD ((((m : Int)) - 1).toNat) [])).getD i 0 : Int) < 0)) : Value), qe v1, qe a1, qe (ii ((i : Int)) : Value), qe (.pointer (some (elemA a1 (i)))), qe (ii (((td.getD ((((m : Int)) - 1).toNat) [])).getD i 0) : Value), qe (ii ((-1) - (((td.getD ((((m : Int)) - 1).toNat) [])).getD i 0)) : Value), qe (.pointer (some (elemA v1 (((-1) - (((td.getD ((((m : Int)) - 1).toNat) [])).getD i 0)).toNat))) : Value), qe (.bool (sm.getD (((-1) - (((td.getD ((((m : Int)) - 1).toNat) [])).getD i 0)).toNat) false) : Value), qe (.bool (!(sm.getD (((-1) - (((td.getD ((((m : Int)) - 1).toNat) [])).getD i 0)).toNat) false)) : Value), qe (.bool (!(sm.getD (((-1) - (((td.getD ((((m : Int)) - 1).toNat) [])).getD i 0)).toNat) false)) : Value), qe (.bool (!(sm.getD (((-1) - (((td.getD ((((m : Int)) - 1).toNat) [])).getD i 0)).toNat) false)) : Value), qe (ptr ub 0), qe (ptr ub 0), qe (ptr ub 0), qe ov, qe a1, qe (ii ((i : Int)) : Value), qe (.pointer (some (elemA a1 (i)))), qe (ii (((td.getD ((((m : Int)) - 1).toNat) [])).getD i 0) : Value), qe (ii ((-1) - (((td.getD ((((m : Int)) - 1).toNat) [])).getD i 0)) : Value)]) (ownL []) mixed rfl rfl (by kernel_rfl) ?_ ?_
     ·refine pD (fun W R z9 => ?_) ?_
      ·refine je (jk (a1) rfl ?_)
       exact ⟨rfl, rfl, rfl⟩
      refine pD (fun W R z9 => ?_) ?_
      ·refine je (jk (ii ((i : Int))) rfl ?_)
       exact ⟨rfl, rfl, rfl⟩
      refine pD (fun W R z9 => ?_) ?_
      ·rw [eS (l := [(0, _), (1, _)]) ⟨z9 0 rfl, z9 1 rfl, ⟨⟩⟩]
       refine je (jq i qU js rfl rfl rfl ha1.slv (by omega) (Nat.mul_one _) ?_)
       exact ⟨rfl, rfl, rfl⟩
      refine pD (fun W R z9 => ?_) ?_
      ·rw [eS (l := [(2, _)]) ⟨z9 2 rfl, ⟨⟩⟩]
       refine je (jj yd rfl (ha1.rd (by omega)) ?_)
       exact ⟨rfl, rfl, rfl⟩
      refine pD (fun W R z9 => ?_) ?_
      ·rw [eS (l := [(3, _)]) ⟨z9 3 rfl, ⟨⟩⟩]
       refine je (yo rfl rfl ?_)
       exact ⟨rfl, rfl, rfl⟩
      refine pD (fun W R z9 => ?_) ?_
      ·rw [eS (l := [(4, _)]) ⟨z9 4 rfl, ⟨⟩⟩]
       refine je (jk (.bool (decide ((((td.getD ((((m : Int)) - 1).toNat) [])).getD i 0 : Int) < 0))) rfl ?_)
       exact ⟨rfl, rfl, rfl⟩
      refine pD (fun W R z9 => ?_) ?_
      ·rw [eS (l := [(5, _)]) ⟨z9 5 rfl, ⟨⟩⟩]
       refine yh (t := 50) rfl (vT h4) (jk (v1) rfl ?_)
       exact ⟨rfl, rfl, rfl⟩
      refine pD (fun W R z9 => ?_) ?_
      ·rw [eS (l := [(5, _)]) ⟨z9 5 rfl, ⟨⟩⟩]
       refine yh (t := 50) rfl (vT h4) (jk (a1) rfl ?_)
       exact ⟨rfl, rfl, rfl⟩
      refine pD (fun W R z9 => ?_) ?_
      ·rw [eS (l := [(5, _)]) ⟨z9 5 rfl, ⟨⟩⟩]
       refine yh (t := 50) rfl (vT h4) (jk (ii ((i : Int))) rfl ?_)
       exact ⟨rfl, rfl, rfl⟩
      refine pD (fun W R z9 => ?_) ?_
      ·rw [eS (l := [(5, _), (7, _), (8, _)]) ⟨z9 5 rfl, z9 7 rfl, z9 8 rfl, ⟨⟩⟩]
       refine yh (t := 50) rfl (vT h4) (jq i qU js rfl rfl rfl ha1.slv (by omega) (Nat.mul_one _) ?_)
       exact ⟨rfl, rfl, rfl⟩
      refine pD (fun W R z9 => ?_) ?_
      ·rw [eS (l := [(5, _), (9, _)]) ⟨z9 5 rfl, z9 9 rfl, ⟨⟩⟩]
       refine yh (t := 50) rfl (vT h4) (jj yd rfl (ha1.rd (by omega)) ?_)
       exact ⟨rfl, rfl, rfl⟩
      refine pD (fun W R z9 => ?_) ?_
      ·rw [eS (l := [(5, _), (10, _)]) ⟨z9 5 rfl, z9 10 rfl, ⟨⟩⟩]
       refine yh (t := 50) rfl (vT h4) (yx ((-1) - (((td.getD ((((m : Int)) - 1).toNat) [])).getD i 0)) rfl rfl (by omega) (by omega) ?_)
       exact ⟨rfl, rfl, rfl⟩
      refine pD (fun W R z9 => ?_) ?_
      ·rw [eS (l := [(5, _), (6, _), (11, _)]) ⟨z9 5 rfl, z9 6 rfl, z9 11 rfl, ⟨⟩⟩]
       refine yh (t := 50) rfl (vT h4) (jq (((-1) - (((td.getD ((((m : Int)) - 1).toNat) [])).getD i 0)).toNat) runUnderlying244 sizeOf4 rfl rfl (by omega) (boolsH.slv [_] rfl) (by omega) (Nat.mul_one _) ?_)
       exact ⟨rfl, rfl, rfl⟩
      refine pD (fun W R z9 => ?_) ?_
      ·rw [eS (l := [(5, _), (12, _)]) ⟨z9 5 rfl, z9 12 rfl, ⟨⟩⟩]
       refine yh (t := 50) rfl (vT h4) (jj isAgg4 rfl (boolsH.rd [_] rfl (by omega)) ?_)
       exact ⟨rfl, rfl, rfl⟩
      refine pD (fun W R z9 => ?_) ?_
      ·rw [eS (l := [(5, _), (13, _)]) ⟨z9 5 rfl, z9 13 rfl, ⟨⟩⟩]
       refine yh (t := 50) rfl (vT h4) (yR rfl ?_)
       exact ⟨rfl, rfl, rfl⟩
      refine pD (fun W R z9 => ?_) ?_
      ·rw [eS (l := [(5, _), (14, _)]) ⟨z9 5 rfl, z9 14 rfl, ⟨⟩⟩]
       refine je (yp (.bool (!(sm.getD (((-1) - (((td.getD ((((m : Int)) - 1).toNat) [])).getD i 0)).toNat) false))) (vT h4) rfl ?_)
       exact ⟨rfl, rfl, rfl⟩
      refine pD (fun W R z9 => ?_) ?_
      ·rw [eS (l := [(15, _)]) ⟨z9 15 rfl, ⟨⟩⟩]
       refine je (jk (.bool (!(sm.getD (((-1) - (((td.getD ((((m : Int)) - 1).toNat) [])).getD i 0)).toNat) false))) rfl ?_)
       exact ⟨rfl, rfl, rfl⟩
      refine pD (fun W R z9 => ?_) ?_
      ·rw [eS (l := [(16, _)]) ⟨z9 16 rfl, ⟨⟩⟩]
       refine yh (t := 61) rfl (vB h5) (jk (ptr ub 0) rfl ?_)
       exact ⟨rfl, rfl, rfl⟩
      refine pD (fun W R z9 => ?_) ?_
      ·rw [eS (l := [(16, _), (17, _)]) ⟨z9 16 rfl, z9 17 rfl, ⟨⟩⟩]
       refine yh (t := 61) rfl (vB h5) (yw rfl ?_)
       exact ⟨rfl, rfl, rfl⟩
      refine pD (fun W R z9 => ?_) ?_
      ·rw [eS (l := [(16, _), (18, _)]) ⟨z9 16 rfl, z9 18 rfl, ⟨⟩⟩]
       refine yh (t := 61) rfl (vB h5) (jE (0) Qu rfl yT (by decide) rfl rfl ?_)
       exact ⟨rfl, rfl, rfl⟩
      refine pD (fun W R z9 => ?_) ?_
      ·rw [eS (l := [(16, _), (19, _)]) ⟨z9 16 rfl, z9 19 rfl, ⟨⟩⟩]
       refine yh (t := 61) rfl (vB h5) (jj Qv rfl (Rd.own [_, _] rfl rfl) ?_)
       exact ⟨rfl, rfl, rfl⟩
      refine pD (fun W R z9 => ?_) ?_
      ·rw [eS (l := [(16, _)]) ⟨z9 16 rfl, ⟨⟩⟩]
       refine yh (t := 61) rfl (vB h5) (jk (a1) rfl ?_)
       exact ⟨rfl, rfl, rfl⟩
      refine pD (fun W R z9 => ?_) ?_
      ·rw [eS (l := [(16, _)]) ⟨z9 16 rfl, ⟨⟩⟩]
       refine yh (t := 61) rfl (vB h5) (jk (ii ((i : Int))) rfl ?_)
       exact ⟨rfl, rfl, rfl⟩
      refine pD (fun W R z9 => ?_) ?_
      ·rw [eS (l := [(16, _), (21, _), (22, _)]) ⟨z9 16 rfl, z9 21 rfl, z9 22 rfl, ⟨⟩⟩]
       refine yh (t := 61) rfl (vB h5) (jq i qU js rfl rfl rfl ha1.slv (by omega) (Nat.mul_one _) ?_)
       exact ⟨rfl, rfl, rfl⟩
      refine pD (fun W R z9 => ?_) ?_
      ·rw [eS (l := [(16, _), (23, _)]) ⟨z9 16 rfl, z9 23 rfl, ⟨⟩⟩]
       refine yh (t := 61) rfl (vB h5) (jj yd rfl (ha1.rd (by omega)) ?_)
       exact ⟨rfl, rfl, rfl⟩
      refine pD (fun W R z9 => ?_) ?_
      ·rw [eS (l := [(16, _), (24, _)]) ⟨z9 16 rfl, z9 24 rfl, ⟨⟩⟩]
       refine yh (t := 61) rfl (vB h5) (yx ((-1) - (((td.getD ((((m : Int)) - 1).toNat) [])).getD i 0)) rfl rfl (by omega) (by omega) ?_)
       exact ⟨rfl, rfl, rfl⟩
      exact stepsP.nil
     intro W hphi
     rw [eS (l := [(16, _), (20, _), (25, _)]) ⟨(hphi 16 (by decide)), (hphi 20 (by decide)), (hphi 25 (by decide)), ⟨⟩⟩]
     show XL _ _ _ _ _ _ _ (slH 27 1 ev m2 ecs :: boolsH 4 v1 sm :: cellsH ub [ov] 234 :: slH 27 1 ov 48 ocs :: L)
     refine jB (t := 61) rfl (vB h5) (jq (((-1) - (((td.getD ((((m : Int)) - 1).toNat) [])).getD i 0)).toNat) jX jF rfl rfl (by omega) (SlV.own [_, _, _] rfl) (by omega) (Nat.mul_one _) ?_)
     obtain ⟨a2, ha2, he2⟩ := hC.get (i := ((-1) - (((td.getD ((((m : Int)) - 1).toNat) [])).getD i 0)).toNat) (by omega)
     refine jB (t := 61) rfl (vB h5) (jj yt rfl (Rd.sl [_, _, _] rfl he2) (jB (t := 61) rfl (vB h5) (jZ qU rfl ha2.slv (jB (t := 61) rfl (vB h5) (Qf rfl rfl (cX (yp (.bool (decide ((((((bl.getD (((-1) - (((td.getD ((((m : Int)) - 1).toNat) [])).getD i 0)).toNat) [])).length : Nat) : Int) : Int) > 0))) (vB h5) rfl (qI ?_))))))))
     refine jV (p := (((((bl.getD (((-1) - (((td.getD ((((m : Int)) - 1).toNat) [])).getD i 0)).toNat) [])).length : Nat) : Int) : Int) > 0) rfl (fun h6 => ?_) (fun h6 => ?_)
     ·have hlj : lkN bl (((td.getD ((((m : Int)) - 1).toNat) [])).getD i 0) ≠ [] := fun e => by (have e9 : (bl.getD (varIx (((td.getD ((((m : Int)) - 1).toNat) [])).getD i 0)) []).length = 0 := by rw [← lkN_get hj0, e]; rfl); unfold varIx at e9; omega
      refine qX (qH (jb (v1) rfl (jb (a1) rfl (jb (ii ((i : Int))) rfl (cX (jq i qU js rfl rfl rfl ha1.slv (by omega) (Nat.mul_one _) (cX (jj yd rfl (ha1.rd (by omega)) (cX (yx ((-1) - (((td.getD ((((m : Int)) - 1).toNat) [])).getD i 0)) rfl rfl (by omega) (by omega) (cX (jq (((-1) - (((td.getD ((((m : Int)) - 1).toNat) [])).getD i 0)).toNat) runUnderlying244 sizeOf4 rfl rfl (by omega) (boolsH.slv [_] rfl) (by omega) (Nat.mul_one _) (cX (boolsH.storeX (i := ((-1) - (((td.getD ((((m : Int)) - 1).toNat) [])).getD i 0)).toNat) (v := v1) [_] _ (sm.set (((-1) - (((td.getD ((((m : Int)) - 1).toNat) [])).getD i 0)).toNat) true) sizeOf4 rfl rfl rfl (by rw [hsm]; omega) rfl (qI ?_)))))))))))))))
      refine yN [slH 27 1 ev m2 ecs, boolsH 4 v1 ((sm.set (((-1) - (((td.getD ((((m : Int)) - 1).toNat) [])).getD i 0)).toNat) true)), cellsH ub [ov] 234, slH 27 1 ov 48 ocs] L 13 [] [[], [], [1], [2], [3], [], [], [5, 6], [7], [8], [4, 9], [10], [11]] (phiL [qe ev, qe (ptr ub 0), qe (ptr ub 0), qe (ptr ub 0), qe ov, qe a1, qe (ii ((i : Int)) : Value), qe (.pointer (some (elemA a1 (i)))), qe (ii (((td.getD ((((m : Int)) - 1).toNat) [])).getD i 0) : Value), qe (ii ((-1) - (((td.getD ((((m : Int)) - 1).toNat) [])).getD i 0)) : Value), qe (.pointer (some (elemA ov (((-1) - (((td.getD ((((m : Int)) - 1).toNat) [])).getD i 0)).toNat))) : Value), qe a2, fun us v => ∃ b, v = .slice (some ⟨b, 0, none⟩) 1 1]) (ownL [o0, o0, o0, o0, o0, o0, o0, o0, o0, o0, o0, o0, fun us v => [slH 27 1 v 1 [a2]]]) mixed rfl rfl (by kernel_rfl) ?_ ?_
      ·refine pD (fun W R z9 => ?_) ?_
       ·refine je (jk (ev) rfl ?_)
        exact ⟨rfl, rfl, rfl⟩
       refine pD (fun W R z9 => ?_) ?_
       ·refine je (jk (ptr ub 0) rfl ?_)
        exact ⟨rfl, rfl, rfl⟩
       refine pD (fun W R z9 => ?_) ?_
       ·rw [eS (l := [(1, _)]) ⟨z9 1 rfl, ⟨⟩⟩]
        refine je (yw rfl ?_)
        exact ⟨rfl, rfl, rfl⟩
       refine pD (fun W R z9 => ?_) ?_
       ·rw [eS (l := [(2, _)]) ⟨z9 2 rfl, ⟨⟩⟩]
        refine je (jE (0) Qu rfl yT (by decide) rfl rfl ?_)
        exact ⟨rfl, rfl, rfl⟩
       refine pD (fun W R z9 => ?_) ?_
       ·rw [eS (l := [(3, _)]) ⟨z9 3 rfl, ⟨⟩⟩]
        refine je (jj Qv rfl (Rd.own [_, _] rfl rfl) ?_)
        exact ⟨rfl, rfl, rfl⟩
       refine pD (fun W R z9 => ?_) ?_
       ·refine je (jk (a1) rfl ?_)
        exact ⟨rfl, rfl, rfl⟩
       refine pD (fun W R z9 => ?_) ?_
       ·refine je (jk (ii ((i : Int))) rfl ?_)
        exact ⟨rfl, rfl, rfl⟩
       refine pD (fun W R z9 => ?_) ?_
       ·rw [eS (l := [(5, _), (6, _)]) ⟨z9 5 rfl, z9 6 rfl, ⟨⟩⟩]
        refine je (jq i qU js rfl rfl rfl ha1.slv (by omega) (Nat.mul_one _) ?_)
        exact ⟨rfl, rfl, rfl⟩
       refine pD (fun W R z9 => ?_) ?_
       ·rw [eS (l := [(7, _)]) ⟨z9 7 rfl, ⟨⟩⟩]
        refine je (jj yd rfl (ha1.rd (by omega)) ?_)
        exact ⟨rfl, rfl, rfl⟩
       refine pD (fun W R z9 => ?_) ?_
       ·rw [eS (l := [(8, _)]) ⟨z9 8 rfl, ⟨⟩⟩]
        refine je (yx ((-1) - (((td.getD ((((m : Int)) - 1).toNat) [])).getD i 0)) rfl rfl (by omega) (by omega) ?_)
        exact ⟨rfl, rfl, rfl⟩
       refine pD (fun W R z9 => ?_) ?_
       ·rw [eS (l := [(4, _), (9, _)]) ⟨z9 4 rfl, z9 9 rfl, ⟨⟩⟩]
        refine je (jq (((-1) - (((td.getD ((((m : Int)) - 1).toNat) [])).getD i 0)).toNat) jX jF rfl rfl (by omega) (SlV.own [_, _, _] rfl) (by omega) (Nat.mul_one _) ?_)
        exact ⟨rfl, rfl, rfl⟩
       refine pD (fun W R z9 => ?_) ?_
       ·rw [eS (l := [(10, _)]) ⟨z9 10 rfl, ⟨⟩⟩]
        refine je (jj yt rfl (Rd.sl [_, _, _] rfl he2) ?_)
        exact ⟨rfl, rfl, rfl⟩
       refine pD (fun W R z9 => ?_) ?_
       ·rw [eS (l := [(11, _)]) ⟨z9 11 rfl, ⟨⟩⟩]
        refine je (jQ (s := 1) [a2] [sN] [(0, [a2])] jX jF Qn rfl (by decide) rfl (.cons (cells_one (yi ha2)) CellsAre.nil) rfl ?_)
        intro v5 hv4
        exact ⟨rfl, hv4, rfl⟩
       exact stepsP.nil
      intro W hphi
      have f12 : ∃ b, (W 12) = .slice (some ⟨b, 0, none⟩) 1 1 := hphi 12 (by decide)
      generalize hu12 : W 12 = u1 at f12
      rw [eS (l := [(0, _), (12, u1)]) ⟨(hphi 0 (by decide)), hu12, ⟨⟩⟩]
      show XL _ _ _ _ _ _ _ (slH 27 1 u1 1 [a2] :: slH 27 1 ev m2 ecs :: boolsH 4 v1 ((sm.set (((-1) - (((td.getD ((((m : Int)) - 1).toNat) [])).getD i 0)).toNat) true)) :: cellsH ub [ov] 234 :: slH 27 1 ov 48 ocs :: L)
      refine cX (XOp.append (m := 1) (bytes := 24) (cs := ecs) [_] _ [a2] jX typeInfo27 rfl rfl rfl rfl rfl rfl rfl (SlV.own [] rfl) rfl (Rd.lit [] rfl) (jT (yE (yi ha2)) yM) (by (try simp only [List.length_append, List.length_nil, List.length_cons, List.length_singleton]); omega) (by (try simp only [List.length_append, List.length_nil, List.length_cons, List.length_singleton]); omega) ?_)
      intro v6 hs2 hn1 hm1
      have hc3 := RowsC.snoc hE ha2
      refine jc (v6) rfl (qI (qH (jb (ii ((i : Int))) rfl (cX (yj (((i + 1 : Nat) : Int)) rfl rfl (by omega) (by omega) (jc (ii (((i + 1 : Nat) : Int))) rfl (qI ?_)))))))
      exact ⟨(i + 1, (sm.set (((-1) - (((td.getD ((((m : Int)) - 1).toNat) [])).getD i 0)).toNat) true), v6, te ++ [(bl.getD (((-1) - (((td.getD ((((m : Int)) - 1).toNat) [])).getD i 0)).toNat) [])], ecs ++ [a2], (m2) + 1), _, FLe.refl _, rF, ⟨rfl, rfl, rfl, rfl, rfl, rfl, ⟨⟩⟩, (sD (sC (sC (sC (sC sR))))), ⟨rfl, (hs2), (hc3), (by (try dsimp only); rw [List.length_append, List.length_singleton]; omega), (by have h9 := hOJ.push hσ (by omega) hne hj0 hgj hlj; rw [lkN_get hj0] at h9; exact h9), (fun x hx => (List.mem_append.1 hx).elim (htw2 x) (fun h => by rw [List.mem_singleton.1 h]; have := hb.wt _ hj0 hlj; rwa [lkN_get hj0] at this)), (by (try dsimp only); have h9 := unm_set (sn := sm) (i := varIx (((td.getD ((((m : Int)) - 1).toNat) [])).getD i 0)) (by rw [hsm]; unfold varIx; omega) hun; unfold varIx at h9; rw [List.length_append, List.length_singleton]; omega), (by (try dsimp only) <;> omega)⟩, (by omega)⟩
     have hjs : 0 ≤ (((td.getD ((((m : Int)) - 1).toNat) [])).getD i 0) ∨ Mk sm (((td.getD ((((m : Int)) - 1).toNat) [])).getD i 0) ∨ lkN bl (((td.getD ((((m : Int)) - 1).toNat) [])).getD i 0) = [] := .inr (.inr (by rw [lkN_get hj0]; exact List.eq_nil_of_length_eq_zero (by unfold varIx; omega)))
     refine jU (qH (jb (ii ((i : Int))) rfl (cX (yj (((i + 1 : Nat) : Int)) rfl rfl (by omega) (by omega) (jc (ii (((i + 1 : Nat) : Int))) rfl (qI ?_))))))
     exact ⟨(i + 1, sm, ev, te, ecs, m2), _, FLe.refl _, rF, ⟨rfl, rfl, rfl, rfl, rfl, rfl, ⟨⟩⟩, (sC (sC (sC (sC sR)))), ⟨rfl, (hev), (hE), (hm2), (hOJ.skip hne hjs), (htw2), (hmu2), (by (try dsimp only) <;> omega)⟩, (by omega)⟩
    rw [Bool.not_eq_true] at h5
    have hjs : 0 ≤ (((td.getD ((((m : Int)) - 1).toNat) [])).getD i 0) ∨ Mk sm (((td.getD ((((m : Int)) - 1).toNat) [])).getD i 0) ∨ lkN bl (((td.getD ((((m : Int)) - 1).toNat) [])).getD i 0) = [] := .inr (.inl (by unfold Mk varIx; simpa using h5))
    refine yN [slH 27 1 ev m2 ecs, boolsH 4 v1 sm, cellsH ub [ov] 234, slH 27 1 ov 48 ocs] L 26 [] [[], [], [0, 1], [2], [3], [4], [5], [5], [5], [5, 7, 8], [5, 9], [5, 10], [5, 6, 11], [5, 12], [5, 13], [5, 14], [15], [16], [16, 17], [16, 18], [16, 19], [16], [16], [16, 21, 22], [16, 23], [16, 24]] (phiL [qe a1, qe (ii ((i : Int)) : Value), qe (.pointer (some (elemA a1 (i)))), qe (ii (((td.getD ((((m : Int)) - 1).toNat) [])).getD i 0) : Value), qe (.bool (decide ((((td.getD ((((m : Int)) - 1).toNat) [])).getD i 0 : Int) < 0)) : Value), qe (.bool (decide ((((td.getD ((((m : Int)) - 1).toNat) [])).getD i 0 : Int) < 0)) : Value), qe v1, qe a1, qe (ii ((i : Int)) : Value), qe (.pointer (some (elemA a1 (i)))), qe (ii (((td.getD ((((m : Int)) - 1).toNat) [])).getD i 0) : Value), qe (ii ((-1) - (((td.getD ((((m : Int)) - 1).toNat) [])).getD i 0)) : Value), qe (.pointer (some (elemA v1 (((-1) - (((td.getD ((((m : Int)) - 1).toNat) [])).getD i 0)).toNat))) : Value), qe (.bool (sm.getD (((-1) - (((td.getD ((((m : Int)) - 1).toNat) [])).getD i 0)).toNat) false) : Value), qe (.bool (!(sm.getD (((-1) - (((td.getD ((((m : Int)) - 1).toNat) [])).getD i 0)).toNat) false)) : Value), qe (.bool (!(sm.getD (((-1) - (((td.getD ((((m : Int)) - 1).toNat) [])).getD i 0)).toNat) false)) : Value), qe (.bool (!(sm.getD (((-1) - (((td.getD ((((m : Int)) - 1).toNat) [])).getD i 0)).toNat) false)) : Value), qe undef, qe undef, qe undef, qe undef, qe undef, qe undef, qe undef, qe undef, qe undef]) (ownL []) mixed rfl rfl (by kernel_rfl) ?_ ?_
    ·refine pD (fun W R z9 => ?_) ?_
     ·refine je (jk (a1) rfl ?_)
      exact ⟨rfl, rfl, rfl⟩
     refine pD (fun W R z9 => ?_) ?_
     ·refine je (jk (ii ((i : Int))) rfl ?_)
      exact ⟨rfl, rfl, rfl⟩
     refine pD (fun W R z9 => ?_) ?_
     ·rw [eS (l := [(0, _), (1, _)]) ⟨z9 0 rfl, z9 1 rfl, ⟨⟩⟩]
      refine je (jq i qU js rfl rfl rfl ha1.slv (by omega) (Nat.mul_one _) ?_)
      exact ⟨rfl, rfl, rfl⟩
     refine pD (fun W R z9 => ?_) ?_
     ·rw [eS (l := [(2, _)]) ⟨z9 2 rfl, ⟨⟩⟩]
      refine je (jj yd rfl (ha1.rd (by omega)) ?_)
      exact ⟨rfl, rfl, rfl⟩
     refine pD (fun W R z9 => ?_) ?_
     ·rw [eS (l := [(3, _)]) ⟨z9 3 rfl, ⟨⟩⟩]
      refine je (yo rfl rfl ?_)
      exact ⟨rfl, rfl, rfl⟩
     refine pD (fun W R z9 => ?_) ?_
     ·rw [eS (l := [(4, _)]) ⟨z9 4 rfl, ⟨⟩⟩]
      refine je (jk (.bool (decide ((((td.getD ((((m : Int)) - 1).toNat) [])).getD i 0 : Int) < 0))) rfl ?_)
      exact ⟨rfl, rfl, rfl⟩
     refine pD (fun W R z9 => ?_) ?_
     ·rw [eS (l := [(5, _)]) ⟨z9 5 rfl, ⟨⟩⟩]
      refine yh (t := 50) rfl (vT h4) (jk (v1) rfl ?_)
      exact ⟨rfl, rfl, rfl⟩
     refine pD (fun W R z9 => ?_) ?_
     ·rw [eS (l := [(5, _)]) ⟨z9 5 rfl, ⟨⟩⟩]
      refine yh (t := 50) rfl (vT h4) (jk (a1) rfl ?_)
      exact ⟨rfl, rfl, rfl⟩
     refine pD (fun W R z9 => ?_) ?_
     ·rw [eS (l := [(5, _)]) ⟨z9 5 rfl, ⟨⟩⟩]
      refine yh (t := 50) rfl (vT h4) (jk (ii ((i : Int))) rfl ?_)
      exact ⟨rfl, rfl, rfl⟩
     refine pD (fun W R z9 => ?_) ?_
     ·rw [eS (l := [(5, _), (7, _), (8, _)]) ⟨z9 5 rfl, z9 7 rfl, z9 8 rfl, ⟨⟩⟩]
      refine yh (t := 50) rfl (vT h4) (jq i qU js rfl rfl rfl ha1.slv (by omega) (Nat.mul_one _) ?_)
      exact ⟨rfl, rfl, rfl⟩
     refine pD (fun W R z9 => ?_) ?_
     ·rw [eS (l := [(5, _), (9, _)]) ⟨z9 5 rfl, z9 9 rfl, ⟨⟩⟩]
      refine yh (t := 50) rfl (vT h4) (jj yd rfl (ha1.rd (by omega)) ?_)
      exact ⟨rfl, rfl, rfl⟩
     refine pD (fun W R z9 => ?_) ?_
     ·rw [eS (l := [(5, _), (10, _)]) ⟨z9 5 rfl, z9 10 rfl, ⟨⟩⟩]
      refine yh (t := 50) rfl (vT h4) (yx ((-1) - (((td.getD ((((m : Int)) - 1).toNat) [])).getD i 0)) rfl rfl (by omega) (by omega) ?_)
      exact ⟨rfl, rfl, rfl⟩
     refine pD (fun W R z9 => ?_) ?_
     ·rw [eS (l := [(5, _), (6, _), (11, _)]) ⟨z9 5 rfl, z9 6 rfl, z9 11 rfl, ⟨⟩⟩]
      refine yh (t := 50) rfl (vT h4) (jq (((-1) - (((td.getD ((((m : Int)) - 1).toNat) [])).getD i 0)).toNat) runUnderlying244 sizeOf4 rfl rfl (by omega) (boolsH.slv [_] rfl) (by omega) (Nat.mul_one _) ?_)
      exact ⟨rfl, rfl, rfl⟩
     refine pD (fun W R z9 => ?_) ?_
     ·rw [eS (l := [(5, _), (12, _)]) ⟨z9 5 rfl, z9 12 rfl, ⟨⟩⟩]
      refine yh (t := 50) rfl (vT h4) (jj isAgg4 rfl (boolsH.rd [_] rfl (by omega)) ?_)
      exact ⟨rfl, rfl, rfl⟩
     refine pD (fun W R z9 => ?_) ?_
     ·rw [eS (l := [(5, _), (13, _)]) ⟨z9 5 rfl, z9 13 rfl, ⟨⟩⟩]
      refine yh (t := 50) rfl (vT h4) (yR rfl ?_)
      exact ⟨rfl, rfl, rfl⟩
     refine pD (fun W R z9 => ?_) ?_
     ·rw [eS (l := [(5, _), (14, _)]) ⟨z9 5 rfl, z9 14 rfl, ⟨⟩⟩]
      refine je (yp (.bool (!(sm.getD (((-1) - (((td.getD ((((m : Int)) - 1).toNat) [])).getD i 0)).toNat) false))) (vT h4) rfl ?_)
      exact ⟨rfl, rfl, rfl⟩
     refine pD (fun W R z9 => ?_) ?_
     ·rw [eS (l := [(15, _)]) ⟨z9 15 rfl, ⟨⟩⟩]
      refine je (jk (.bool (!(sm.getD (((-1) - (((td.getD ((((m : Int)) - 1).toNat) [])).getD i 0)).toNat) false))) rfl ?_)
      exact ⟨rfl, rfl, rfl⟩
     refine pD (fun W R z9 => ?_) ?_
     ·rw [eS (l := [(16, _)]) ⟨z9 16 rfl, ⟨⟩⟩]
      exact yA (t := 61) rfl (vB h5) ⟨rfl, rfl, rfl⟩
     refine pD (fun W R z9 => ?_) ?_
     ·rw [eS (l := [(16, _), (17, undef)]) ⟨z9 16 rfl, z9 17 rfl, ⟨⟩⟩]
      exact yA (t := 61) rfl (vB h5) ⟨rfl, rfl, rfl⟩
     refine pD (fun W R z9 => ?_) ?_
     ·rw [eS (l := [(16, _), (18, undef)]) ⟨z9 16 rfl, z9 18 rfl, ⟨⟩⟩]
      exact yA (t := 61) rfl (vB h5) ⟨rfl, rfl, rfl⟩
     refine pD (fun W R z9 => ?_) ?_
     ·rw [eS (l := [(16, _), (19, undef)]) ⟨z9 16 rfl, z9 19 rfl, ⟨⟩⟩]
      exact yA (t := 61) rfl (vB h5) ⟨rfl, rfl, rfl⟩
     refine pD (fun W R z9 => ?_) ?_
     ·rw [eS (l := [(16, _)]) ⟨z9 16 rfl, ⟨⟩⟩]
      exact yA (t := 61) rfl (vB h5) ⟨rfl, rfl, rfl⟩
     refine pD (fun W R z9 => ?_) ?_
     ·rw [eS (l := [(16, _)]) ⟨z9 16 rfl, ⟨⟩⟩]
      exact yA (t := 61) rfl (vB h5) ⟨rfl, rfl, rfl⟩
     refine pD (fun W R z9 => ?_) ?_
     ·rw [eS (l := [(16, _), (21, undef), (22, undef)]) ⟨z9 16 rfl, z9 21 rfl, z9 22 rfl, ⟨⟩⟩]
      exact yA (t := 61) rfl (vB h5) ⟨rfl, rfl, rfl⟩
     refine pD (fun W R z9 => ?_) ?_
     ·rw [eS (l := [(16, _), (23, undef)]) ⟨z9 16 rfl, z9 23 rfl, ⟨⟩⟩]
      exact yA (t := 61) rfl (vB h5) ⟨rfl, rfl, rfl⟩
     refine pD (fun W R z9 => ?_) ?_
     ·rw [eS (l := [(16, _), (24, undef)]) ⟨z9 16 rfl, z9 24 rfl, ⟨⟩⟩]
      exact yA (t := 61) rfl (vB h5) ⟨rfl, rfl, rfl⟩
     exact stepsP.nil
    intro W hphi
    rw [eS (l := [(16, _), (20, undef), (25, undef)]) ⟨(hphi 16 (by decide)), (hphi 20 (by decide)), (hphi 25 (by decide)), ⟨⟩⟩]
    show XL _ _ _ _ _ _ _ (slH 27 1 ev m2 ecs :: boolsH 4 v1 sm :: cellsH ub [ov] 234 :: slH 27 1 ov 48 ocs :: L)
    refine jA (t := 61) rfl (vB h5) (jA (t := 61) rfl (vB h5) (jA (t := 61) rfl (vB h5) (jA (t := 61) rfl (vB h5) (cX (yl (.bool (false)) (vB h5) rfl (qI (yV rfl (jU (qH (jb (ii ((i : Int))) rfl (cX (yj (((i + 1 : Nat) : Int)) rfl rfl (by omega) (by omega) ?_))))))))))))
    refine jc (ii (((i + 1 : Nat) : Int))) rfl (qI ?_)
    exact ⟨(i + 1, sm, ev, te, ecs, m2), _, FLe.refl _, rF, ⟨rfl, rfl, rfl, rfl, rfl, rfl, ⟨⟩⟩, (sC (sC (sC (sC sR)))), ⟨rfl, (hev), (hE), (hm2), (hOJ.skip hne hjs), (htw2), (hmu2), (by (try dsimp only) <;> omega)⟩, (by omega)⟩
   have hjs : 0 ≤ (((td.getD ((((m : Int)) - 1).toNat) [])).getD i 0) ∨ Mk sm (((td.getD ((((m : Int)) - 1).toNat) [])).getD i 0) ∨ lkN bl (((td.getD ((((m : Int)) - 1).toNat) [])).getD i 0) = [] := .inl (by omega)
   refine yN [slH 27 1 ev m2 ecs, boolsH 4 v1 sm, cellsH ub [ov] 234, slH 27 1 ov 48 ocs] L 26 [] [[], [], [0, 1], [2], [3], [4], [5], [5], [5], [5, 7, 8], [5, 9], [5, 10], [5, 6, 11], [5, 12], [5, 13], [5, 14], [15], [16], [16, 17], [16, 18], [16, 19], [16], [16], [16, 21, 22], [16, 23], [16, 24]] (phiL [qe a1, qe (ii ((i : Int)) : Value), qe (.pointer (some (elemA a1 (i)))), qe (ii (((td.getD ((((m : Int)) - 1).toNat) [])).getD i 0) : Value), qe (.bool (decide ((((td.getD ((((m : Int)) - 1).toNat) [])).getD i 0 : Int) < 0)) : Value), qe (.bool (decide ((((td.getD ((((m : Int)) - 1).toNat) [])).getD i 0 : Int) < 0)) : Value), qe undef, qe undef, qe undef, qe undef, qe undef, qe undef, qe undef, qe undef, qe undef, qe (.bool (false)), qe (.bool (false)), qe undef, qe undef, qe undef, qe undef, qe undef, qe undef, qe undef, qe undef, qe undef]) (ownL []) mixed rfl rfl (by kernel_rfl) ?_ ?_
   ·refine pD (fun W R z9 => ?_) ?_
    ·refine je (jk (a1) rfl ?_)
     exact ⟨rfl, rfl, rfl⟩
    refine pD (fun W R z9 => ?_) ?_
    ·refine je (jk (ii ((i : Int))) rfl ?_)
     exact ⟨rfl, rfl, rfl⟩
    refine pD (fun W R z9 => ?_) ?_
    ·rw [eS (l := [(0, _), (1, _)]) ⟨z9 0 rfl, z9 1 rfl, ⟨⟩⟩]
     refine je (jq i qU js rfl rfl rfl ha1.slv (by omega) (Nat.mul_one _) ?_)
     exact ⟨rfl, rfl, rfl⟩
    refine pD (fun W R z9 => ?_) ?_
    ·rw [eS (l := [(2, _)]) ⟨z9 2 rfl, ⟨⟩⟩]
     refine je (jj yd rfl (ha1.rd (by omega)) ?_)
     exact ⟨rfl, rfl, rfl⟩
    refine pD (fun W R z9 => ?_) ?_
    ·rw [eS (l := [(3, _)]) ⟨z9 3 rfl, ⟨⟩⟩]
     refine je (yo rfl rfl ?_)
     exact ⟨rfl, rfl, rfl⟩
    refine pD (fun W R z9 => ?_) ?_
    ·rw [eS (l := [(4, _)]) ⟨z9 4 rfl, ⟨⟩⟩]
     refine je (jk (.bool (decide ((((td.getD ((((m : Int)) - 1).toNat) [])).getD i 0 : Int) < 0))) rfl ?_)
     exact ⟨rfl, rfl, rfl⟩
    refine pD (fun W R z9 => ?_) ?_
    ·rw [eS (l := [(5, _)]) ⟨z9 5 rfl, ⟨⟩⟩]
     exact yA (t := 50) rfl (vF h4) ⟨rfl, rfl, rfl⟩
    refine pD (fun W R z9 => ?_) ?_
    ·rw [eS (l := [(5, _)]) ⟨z9 5 rfl, ⟨⟩⟩]
     exact yA (t := 50) rfl (vF h4) ⟨rfl, rfl, rfl⟩
    refine pD (fun W R z9 => ?_) ?_
    ·rw [eS (l := [(5, _)]) ⟨z9 5 rfl, ⟨⟩⟩]
     exact yA (t := 50) rfl (vF h4) ⟨rfl, rfl, rfl⟩
    refine pD (fun W R z9 => ?_) ?_
    ·rw [eS (l := [(5, _), (7, undef), (8, undef)]) ⟨z9 5 rfl, z9 7 rfl, z9 8 rfl, ⟨⟩⟩]
     exact yA (t := 50) rfl (vF h4) ⟨rfl, rfl, rfl⟩
    refine pD (fun W R z9 => ?_) ?_
    ·rw [eS (l := [(5, _), (9, undef)]) ⟨z9 5 rfl, z9 9 rfl, ⟨⟩⟩]
     exact yA (t := 50) rfl (vF h4) ⟨rfl, rfl, rfl⟩
    refine pD (fun W R z9 => ?_) ?_
    ·rw [eS (l := [(5, _), (10, undef)]) ⟨z9 5 rfl, z9 10 rfl, ⟨⟩⟩]
     exact yA (t := 50) rfl (vF h4) ⟨rfl, rfl, rfl⟩
    refine pD (fun W R z9 => ?_) ?_
    ·rw [eS (l := [(5, _), (6, undef), (11, undef)]) ⟨z9 5 rfl, z9 6 rfl, z9 11 rfl, ⟨⟩⟩]
     exact yA (t := 50) rfl (vF h4) ⟨rfl, rfl, rfl⟩
    refine pD (fun W R z9 => ?_) ?_
    ·rw [eS (l := [(5, _), (12, undef)]) ⟨z9 5 rfl, z9 12 rfl, ⟨⟩⟩]
     exact yA (t := 50) rfl (vF h4) ⟨rfl, rfl, rfl⟩
    refine pD (fun W R z9 => ?_) ?_
    ·rw [eS (l := [(5, _), (13, undef)]) ⟨z9 5 rfl, z9 13 rfl, ⟨⟩⟩]
     exact yA (t := 50) rfl (vF h4) ⟨rfl, rfl, rfl⟩
    refine pD (fun W R z9 => ?_) ?_
    ·rw [eS (l := [(5, _), (14, undef)]) ⟨z9 5 rfl, z9 14 rfl, ⟨⟩⟩]
     refine je (yl (.bool (false)) (vF h4) rfl ?_)
     exact ⟨rfl, rfl, rfl⟩
    refine pD (fun W R z9 => ?_) ?_
    ·rw [eS (l := [(15, _)]) ⟨z9 15 rfl, ⟨⟩⟩]
     refine je (jk (.bool (false)) rfl ?_)
     exact ⟨rfl, rfl, rfl⟩
    refine pD (fun W R z9 => ?_) ?_
    ·rw [eS (l := [(16, _)]) ⟨z9 16 rfl, ⟨⟩⟩]
     exact yA (t := 61) rfl rfl ⟨rfl, rfl, rfl⟩
    refine pD (fun W R z9 => ?_) ?_
    ·rw [eS (l := [(16, _), (17, undef)]) ⟨z9 16 rfl, z9 17 rfl, ⟨⟩⟩]
     exact yA (t := 61) rfl rfl ⟨rfl, rfl, rfl⟩
    refine pD (fun W R z9 => ?_) ?_
    ·rw [eS (l := [(16, _), (18, undef)]) ⟨z9 16 rfl, z9 18 rfl, ⟨⟩⟩]
     exact yA (t := 61) rfl rfl ⟨rfl, rfl, rfl⟩
    refine pD (fun W R z9 => ?_) ?_
    ·rw [eS (l := [(16, _), (19, undef)]) ⟨z9 16 rfl, z9 19 rfl, ⟨⟩⟩]
     exact yA (t := 61) rfl rfl ⟨rfl, rfl, rfl⟩
    refine pD (fun W R z9 => ?_) ?_
    ·rw [eS (l := [(16, _)]) ⟨z9 16 rfl, ⟨⟩⟩]
     exact yA (t := 61) rfl rfl ⟨rfl, rfl, rfl⟩
    refine pD (fun W R z9 => ?_) ?_
    ·rw [eS (l := [(16, _)]) ⟨z9 16 rfl, ⟨⟩⟩]
     exact yA (t := 61) rfl rfl ⟨rfl, rfl, rfl⟩
    refine pD (fun W R z9 => ?_) ?_
    ·rw [eS (l := [(16, _), (21, undef), (22, undef)]) ⟨z9 16 rfl, z9 21 rfl, z9 22 rfl, ⟨⟩⟩]
     exact yA (t := 61) rfl rfl ⟨rfl, rfl, rfl⟩
    refine pD (fun W R z9 => ?_) ?_
    ·rw [eS (l := [(16, _), (23, undef)]) ⟨z9 16 rfl, z9 23 rfl, ⟨⟩⟩]
     exact yA (t := 61) rfl rfl ⟨rfl, rfl, rfl⟩
    refine pD (fun W R z9 => ?_) ?_
    ·rw [eS (l := [(16, _), (24, undef)]) ⟨z9 16 rfl, z9 24 rfl, ⟨⟩⟩]
     exact yA (t := 61) rfl rfl ⟨rfl, rfl, rfl⟩
    exact stepsP.nil
   intro W hphi
   rw [eS (l := [(16, _), (20, undef), (25, undef)]) ⟨(hphi 16 (by decide)), (hphi 20 (by decide)), (hphi 25 (by decide)), ⟨⟩⟩]
   show XL _ _ _ _ _ _ _ (slH 27 1 ev m2 ecs :: boolsH 4 v1 sm :: cellsH ub [ov] 234 :: slH 27 1 ov 48 ocs :: L)
   refine jA (t := 61) rfl rfl (jA (t := 61) rfl rfl (jA (t := 61) rfl rfl (jA (t := 61) rfl rfl (cX (yl (.bool (false)) rfl rfl (qI (yV rfl (jU (qH (jb (ii ((i : Int))) rfl (cX (yj (((i + 1 : Nat) : Int)) rfl rfl (by omega) (by omega) ?_))))))))))))
   refine jc (ii (((i + 1 : Nat) : Int))) rfl (qI ?_)
   exact ⟨(i + 1, sm, ev, te, ecs, m2), _, FLe.refl _, rF, ⟨rfl, rfl, rfl, rfl, rfl, rfl, ⟨⟩⟩, (sC (sC (sC (sC sR)))), ⟨rfl, (hev), (hE), (hm2), (hOJ.skip hne hjs), (htw2), (hmu2), (by (try dsimp only) <;> omega)⟩, (by omega)⟩
  refine yB (jO (jO (yk ?_)))
  exact ⟨(sm, ev, te, ecs, m2), _, FLe.refl _, rF, ⟨rfl, rfl, rfl, rfl, ⟨⟩⟩, (sC (sC (sC (sC sR)))), ⟨rfl, (hev), (hE), (hm2), (hOJ.stop (by omega)), (htw2), (by (try dsimp only) <;> omega)⟩, (by (try dsimp only); omega)⟩
 refine yB (jO (jO (yk (qX (qH (jc (.bool (false)) rfl (qI (jW (jR (L' := cellsH ub [ov] 234 :: slH 27 1 ov 48 ocs :: L) [.bool (false)] (.bool (false)) (.tmp rfl .nil) rfl rF rF (sD (sD (sC (sC sR)))) ?_)))))))))
 have e8 : td = [] := List.eq_nil_of_length_eq_zero (by omega)
 rw [e8] at hOI
 obtain ⟨ρ, hρ⟩ := hb.acyc
 have e9 : decide (n ∈ ap σ t) = false := decide_eq_false (hOI.none hσ hρ hn)
 exact ⟨congrArg Value.bool e9, rfl, rfl⟩

/- spec.l11Meet -/
set_option maxHeartbeats 2000000 in
set_option maxRecDepth 20000 in
theorem meet_spec {F : FH} {L : List HP} {ub : Nat} {ov : Value} {ocs : List Value} {arv : Value} {ar : List Int} (har : IntsF F arv ar) (hov : IsSl ov) (hC : RowsC F ocs (List.replicate 48 ([] : List Int))) {av : Value} {a : List Int} (ha : IntsF F av a) {cv : Value} {c : List Int} (hc : IntsF F cv c) (hoa : TermW ar a) (hoc : TermW ar c) :
    Does prog 240 [.agg #[arv], ptr ub 0, av, cv] F (cellsH ub [ov] 234 :: slH 27 1 ov 48 ocs :: L) (fun v F' L' => ∃ (x : Bool) (bc : List Value) (b9 : RowL), (.bool x : Value) = v ∧ RowsC F' bc b9 ∧ (x = true → Mgu ar a c b9) ∧ (x = false → ∀ θ, GoodS ar θ → ap θ a ≠ ap θ c) ∧ cellsH ub [ov] 234 :: slH 27 1 ov 48 bc :: L = L') := by
 refine ym func240 rfl rfl rfl ?_
 have hsig := hoa.sig
 refine qX (qH (cX (yD [arv] rfl rfl ?_)))
 intro b1
 refine jc (.bool (false)) rfl (qI (qX (qH (jb (av) rfl (cX (jQ (s := 1) [av] [sN] [(0, [av])] jX jF Qn rfl (by decide) rfl (.cons (cells_one (yi ha)) CellsAre.nil) rfl ?_))))))
 intro v1 hv1
 refine jc (v1) rfl (qI (qX (qH (jb (cv) rfl (cX (jQ (s := 1) [cv] [sN] [(0, [cv])] jX jF Qn rfl (by decide) rfl (.cons (cells_one (yi hc)) CellsAre.nil) rfl ?_))))))
 intro v2 hv2
 refine jc (v2) rfl (qI (qX (yf ?_)))
 have hc1 : RowsC F [av] ([a] : List (List Int)) := (RowsC.snoc (CO.nil : RowsC F [] []) ha)
 have hc2 : RowsC F [cv] ([c] : List (List Int)) := (RowsC.snoc (CO.nil : RowsC F [] []) hc)
 obtain ⟨σ0, hσ0⟩ := (BOk.nils (ar := ar)).sol
 refine yI (α := List Value × RowL × Sbs × Value × RowL × List Value × Nat × Value × RowL × List Value × Nat × FH) (fun xQ => [(1, ptr ub 0), (4, ptr b1 0), (9, xQ.2.2.2.1), (10, xQ.2.2.2.2.2.2.2.1)]) (fun xQ => slH 27 1 xQ.2.2.2.2.2.2.2.1 xQ.2.2.2.2.2.2.2.2.2.2.1 xQ.2.2.2.2.2.2.2.2.2.1 :: slH 27 1 xQ.2.2.2.1 xQ.2.2.2.2.2.2.1 xQ.2.2.2.2.2.1 :: cellsH b1 [arv] 29 :: cellsH ub [ov] 234 :: slH 27 1 ov 48 xQ.1 :: L) (fun xQ F' => xQ.2.2.2.2.2.2.2.2.2.2.2 = F' ∧ F ≤ xQ.2.2.2.2.2.2.2.2.2.2.2 ∧ (RowsC xQ.2.2.2.2.2.2.2.2.2.2.2 xQ.1 xQ.2.1) ∧ (Sol xQ.2.1 xQ.2.2.1) ∧ (IsSl xQ.2.2.2.1) ∧ (RowsC xQ.2.2.2.2.2.2.2.2.2.2.2 xQ.2.2.2.2.2.1 xQ.2.2.2.2.1) ∧ (xQ.2.2.2.2.2.2.1 = xQ.2.2.2.2.1.length) ∧ (IsSl xQ.2.2.2.2.2.2.2.1) ∧ (RowsC xQ.2.2.2.2.2.2.2.2.2.2.2 xQ.2.2.2.2.2.2.2.2.2.1 xQ.2.2.2.2.2.2.2.2.1) ∧ (xQ.2.2.2.2.2.2.2.2.2.2.1 = xQ.2.2.2.2.2.2.2.2.1.length) ∧ (MeetI ar a c xQ.2.1 xQ.2.2.2.2.1 xQ.2.2.2.2.2.2.2.2.1) ∧ (StkI xQ.2.1 a xQ.2.2.2.2.1)) (fun xQ => muM xQ.2.1 xQ.2.2.2.2.1 xQ.2.2.2.2.2.2.2.2.1 xQ.2.2.1) (ocs, (List.replicate 48 ([] : List Int)), σ0, v1, [a], [av], 1, v2, [c], [cv], 1, F) ⟨rfl, rfl, rfl, rfl, ⟨⟩⟩ (sC (sC (sC (sC (sC sR))))) ⟨rfl, FLe.refl _, (hC), (hσ0), ((yH hv1)), (hc1), (rfl), ((yH hv2)), (hc2), (rfl), (MeetI.start hoa hoc), (StkI.start)⟩ ?_
 rintro ⟨bcs, b, σ, lv, l, lcs, ml, rv, r, rcs, mr, G1⟩ rE _ _ ⟨rfl, leG, hbC, hσ, hlv, hlC, hml, hrv, hrC, hmr, hMI, hSt⟩
 show X _ _ _ _ (envs [(1, ptr ub 0), (4, ptr b1 0), (9, lv), (10, rv)] rE) _ (slH 27 1 rv mr rcs :: slH 27 1 lv ml lcs :: cellsH b1 [arv] 29 :: cellsH ub [ov] 234 :: slH 27 1 ov 48 bcs :: L)
 replace leG : F ≤ G1 := leG
 dsimp only at hbC hσ hlv hlC hml hrv hrC hmr hMI hSt
 have hll := hSt.len hMI.ok hoa.len.2
 have hsame := hMI.same
 have leG1 := leG
 replace har := har.mono leG1
 refine qX (qX (qH (jb (lv) rfl (cX (jZ jX rfl (SlV.own [_] rfl) (cX (Qf rfl rfl (qI ?_))))))))
 refine jV (p := (((ml : Nat) : Int) : Int) > 0) rfl (fun h1 => ?_) (fun h1 => ?_)
 ·refine jU (yf (qX (qH (jb (ptr ub 0) rfl (jb (lv) rfl (jb (lv) rfl (cX (jZ jX rfl (SlV.own [_] rfl) (cX (yx ((((ml : Nat) : Int)) - 1) rfl rfl (by omega) (by omega) (cX (jq (((((ml : Nat) : Int)) - 1).toNat) jX jF rfl rfl (by omega) (SlV.own [_] rfl) (by omega) (Nat.mul_one _) ?_))))))))))))
  obtain ⟨a1, ha1, he1⟩ := hlC.get (i := ((((ml : Nat) : Int)) - 1).toNat) (by omega)
  refine cX (jj yt rfl (Rd.sl [_] rfl he1) (yK (ye (A := [_, _, _, _])) ?_))
  show XL _ _ _ _ _ _ _ (slH 27 1 ov 48 bcs :: slH 27 1 rv mr rcs :: slH 27 1 lv ml lcs :: cellsH b1 [arv] 29 :: cellsH ub [ov] 234 :: L)
  refine yK (ye (A := [_, _, _, _])) ?_
  show XL _ _ _ _ _ _ _ (cellsH ub [ov] 234 :: slH 27 1 ov 48 bcs :: slH 27 1 rv mr rcs :: slH 27 1 lv ml lcs :: cellsH b1 [arv] 29 :: L)
  refine cX (jL (args := [ptr ub 0, a1]) call250 rfl (head_spec hov hbC (by first | assumption | exact hMI.ok) ha1 (ho := (by have h9 := hMI.lw; rw [show ((ml : Int) - 1).toNat = l.length - 1 from by omega]; exact h9 _ (mem_rows (by omega))))) ?_)
  rintro v3 _ _ _ ⟨u1, hv3, hru1, hwl1, rfl, rfl⟩
  refine jc (v3) rfl (qI (qX (qH (jb (ptr ub 0) rfl (jb (rv) rfl (jb (rv) rfl (cX (jZ jX rfl (SlV.own [_, _] rfl) (cX (yx ((((mr : Nat) : Int)) - 1) rfl rfl (by omega) (by omega) (cX (jq (((((mr : Nat) : Int)) - 1).toNat) jX jF rfl rfl (by omega) (SlV.own [_, _] rfl) (by omega) (Nat.mul_one _) ?_))))))))))))
  obtain ⟨a2, ha2, he2⟩ := hrC.get (i := ((((mr : Nat) : Int)) - 1).toNat) (by omega)
  refine cX (jj yt rfl (Rd.sl [_, _] rfl he2) (yK (ye (A := [_])) ?_))
  show XL _ _ _ _ _ _ _ (slH 27 1 ov 48 bcs :: cellsH ub [ov] 234 :: slH 27 1 rv mr rcs :: slH 27 1 lv ml lcs :: cellsH b1 [arv] 29 :: L)
  refine yK (ye (A := [_])) ?_
  show XL _ _ _ _ _ _ _ (cellsH ub [ov] 234 :: slH 27 1 ov 48 bcs :: slH 27 1 rv mr rcs :: slH 27 1 lv ml lcs :: cellsH b1 [arv] 29 :: L)
  refine cX (jL (args := [ptr ub 0, a2]) call250 rfl (head_spec hov hbC (by first | assumption | exact hMI.ok) ha2 (ho := (by have h9 := hMI.rw'; rw [show ((mr : Int) - 1).toNat = r.length - 1 from by omega]; exact h9 _ (mem_rows (by omega))))) ?_)
  rintro v4 _ _ _ ⟨u2, hv4, hru2, hwl2, rfl, rfl⟩
  refine jc (v4) rfl (qI (qX (qH (jb (lv) rfl (jb (lv) rfl (cX (jZ jX rfl (SlV.own [_, _, _] rfl) (cX (yx ((((ml : Nat) : Int)) - 1) rfl rfl (by omega) (by omega) (cX (XOp.sliceOwn (cs := lcs) [_, _, _] _ ((ml - 1)) jX jF rfl rfl ⟨.i64, congrArg (Value.int .i64) (show (((ml : Nat) : Int)) - 1 = (((ml - 1) : Nat) : Int) from by omega)⟩ (by omega) ?_)))))))))))
  intro v5 hs1
  have hc3 : RowsC G1 _ _ := CO.take hlC (k := (ml - 1)) (by omega)
  refine jc (v5) rfl (qI (qX (qH (jb (rv) rfl (jb (rv) rfl (cX (jZ jX rfl (SlV.own [_, _] rfl) (cX (yx ((((mr : Nat) : Int)) - 1) rfl rfl (by omega) (by omega) (cX (XOp.sliceOwn (cs := rcs) [_, _] _ ((mr - 1)) jX jF rfl rfl ⟨.i64, congrArg (Value.int .i64) (show (((mr : Nat) : Int)) - 1 = (((mr - 1) : Nat) : Int) from by omega)⟩ (by omega) ?_)))))))))))
  intro v6 hs2
  have hc4 : RowsC G1 _ _ := CO.take hrC (k := (mr - 1)) (by omega)
  refine jc (v6) rfl ?_
  have el9 : ((ml : Int) - 1).toNat = l.length - 1 := by omega
  have er9 : ((mr : Int) - 1).toNat = r.length - 1 := by omega
  have hu : Root ar b (lst l) u1 := by have h9 := hru1; rwa [el9] at h9
  have hv : Root ar b (lst r) u2 := by have h9 := hru2; rwa [er9] at h9
  have hwu : WtLe b (lst l) u1 := by have h9 := hwl1; rwa [el9] at h9
  have hp : 0 < l.length := by omega
  have huw := hu.w
  have hvw := hv.w
  have hul := hu.w.len
  have hvl := hv.w.len
  have hug := hu.w.geD (p := 0) (by omega)
  have hvg := hv.w.geD (p := 0) (by omega)
  have ehl : ml - 1 = l.length - 1 := by omega
  have ehr : mr - 1 = r.length - 1 := by omega
  have hbl := hMI.ok.len
  refine qI (yf (qX ?_))
  refine yN [cellsH ub [ov] 234, slH 27 1 ov 48 bcs, slH 27 1 v6 ((mr - 1)) ((rcs.take (((mr - 1)) * 1))), slH 27 1 v5 ((ml - 1)) ((lcs.take (((ml - 1)) * 1))), cellsH b1 [arv] 29] L 6 [] [[], [0], [1], [], [3], [4]] (phiL [qe v3, qe (.pointer (some (elemA v3 (0)))), qe (ii (u1.getD 0 0)), qe v4, qe (.pointer (some (elemA v4 (0)))), qe (ii (u2.getD 0 0))]) (ownL []) mixed rfl rfl (by kernel_rfl) ?_ ?_
  ·refine pD (fun W R z9 => ?_) ?_
   ·refine je (jk (v3) rfl ?_)
    exact ⟨rfl, rfl, rfl⟩
   refine pD (fun W R z9 => ?_) ?_
   ·rw [eS (l := [(0, _)]) ⟨z9 0 rfl, ⟨⟩⟩]
    refine je (jq 0 qU js rfl rfl rfl hv3.slv (by omega) (Nat.mul_one _) ?_)
    exact ⟨rfl, rfl, rfl⟩
   refine pD (fun W R z9 => ?_) ?_
   ·rw [eS (l := [(1, _)]) ⟨z9 1 rfl, ⟨⟩⟩]
    refine je (jj yd rfl (hv3.rd (by omega)) ?_)
    exact ⟨rfl, rfl, rfl⟩
   refine pD (fun W R z9 => ?_) ?_
   ·refine je (jk (v4) rfl ?_)
    exact ⟨rfl, rfl, rfl⟩
   refine pD (fun W R z9 => ?_) ?_
   ·rw [eS (l := [(3, _)]) ⟨z9 3 rfl, ⟨⟩⟩]
    refine je (jq 0 qU js rfl rfl rfl hv4.slv (by omega) (Nat.mul_one _) ?_)
    exact ⟨rfl, rfl, rfl⟩
   refine pD (fun W R z9 => ?_) ?_
   ·rw [eS (l := [(4, _)]) ⟨z9 4 rfl, ⟨⟩⟩]
    refine je (jj yd rfl (hv4.rd (by omega)) ?_)
    exact ⟨rfl, rfl, rfl⟩
   exact stepsP.nil
  intro W hphi
  rw [eS (l := [(2, _), (5, _)]) ⟨(hphi 2 (by decide)), (hphi 5 (by decide)), ⟨⟩⟩]
  show XL _ _ _ _ _ _ _ (cellsH ub [ov] 234 :: slH 27 1 ov 48 bcs :: slH 27 1 v6 ((mr - 1)) ((rcs.take (((mr - 1)) * 1))) :: slH 27 1 v5 ((ml - 1)) ((lcs.take (((ml - 1)) * 1))) :: cellsH b1 [arv] 29 :: L)
  refine cX (yU rfl rfl (jb (.bool (decide ((u1.getD 0 0 : Int) = u2.getD 0 0))) rfl ?_))
  by_cases h2 : (u1.getD 0 0 : Int) = u2.getD 0 0
  ·refine jB (t := 64) rfl (vT h2) (jk (v3) rfl (jB (t := 64) rfl (vT h2) (jq 0 qU js rfl rfl rfl hv3.slv (by omega) (Nat.mul_one _) (jB (t := 64) rfl (vT h2) (jj yd rfl (hv3.rd (by omega)) (jB (t := 64) rfl (vT h2) (yo rfl rfl (cX (yp (.bool (decide ((u1.getD 0 0 : Int) < 0))) (vT h2) rfl (jc (.bool (decide ((u1.getD 0 0 : Int) < 0))) rfl (qI ?_)))))))))))
   refine jV (p := (u1.getD 0 0 : Int) < 0) rfl (fun h3 => ?_) (fun h3 => ?_)
   ·refine yB (blockQ_other (by decide) (yk ?_))
    exact ⟨(bcs, b, σ, v5, (l.take ((ml - 1))), (lcs.take (((ml - 1)) * 1)), (ml - 1), v6, (r.take ((mr - 1))), (rcs.take (((mr - 1)) * 1)), (mr - 1), G1), _, leG1, rF, ⟨rfl, rfl, rfl, rfl, ⟨⟩⟩, (yn (ye (A := [_])) (yn (ye (A := [_])) (yn (ye (A := [_, _, _, _])) (yn (ye (A := [_, _, _, _])) (yn (ye (A := [_, _, _, _])) (sC (sC (sC (sC (sC sR)))))))))), ⟨rfl, leG1, (hbC), (hσ), (hs1), (hc3), (by (try dsimp only); (try rw [List.length_append]); rw [List.length_take]; omega), (hs2), (hc4), (by (try dsimp only); (try rw [List.length_append]); rw [List.length_take]; omega), (by (try dsimp only); (try rw [ehl]); (try rw [ehr]); exact hMI.keep hp hu hv (by omega) (by omega)), (by (try dsimp only); (try rw [ehl]); (try rw [ehr]); exact hSt.cut)⟩, (by (try dsimp only); (try rw [ehl]); (try rw [ehr]); exact hMI.mu_keep hp hσ)⟩
   refine qX (qH (jb (v3) rfl (cX (jq 0 qU js rfl rfl rfl hv3.slv (by omega) (Nat.mul_one _) (cX (jj yd rfl (hv3.rd (by omega)) (cX (yo rfl rfl (jc (.bool (decide ((u1.getD 0 0 : Int) < 0))) rfl (qI (yV (vF h3) (qX (qH (jb (v4) rfl ?_))))))))))))))
   refine cX (jq 0 qU js rfl rfl rfl hv4.slv (by omega) (Nat.mul_one _) (cX (jj yd rfl (hv4.rd (by omega)) (cX (yo rfl rfl (jc (.bool (decide ((u2.getD 0 0 : Int) < 0))) rfl (qI ?_)))))))
   refine jV (p := (u2.getD 0 0 : Int) < 0) rfl (fun h4 => ?_) (fun h4 => ?_)
   ·refine qX (qX (qH ?_))
    skip
    refine jb (ptr ub 0) rfl (jb (v4) rfl (cX (jq 0 qU js rfl rfl rfl hv4.slv (by omega) (Nat.mul_one _) (cX (jj yd rfl (hv4.rd (by omega)) (jb (v3) rfl (yK (ye (A := [_])) ?_)))))))
    show XL _ _ _ _ _ _ _ (slH 27 1 ov 48 bcs :: cellsH ub [ov] 234 :: slH 27 1 v6 ((mr - 1)) ((rcs.take (((mr - 1)) * 1))) :: slH 27 1 v5 ((ml - 1)) ((lcs.take (((ml - 1)) * 1))) :: cellsH b1 [arv] 29 :: L)
    refine yK (ye (A := [_])) ?_
    show XL _ _ _ _ _ _ _ (cellsH ub [ov] 234 :: slH 27 1 ov 48 bcs :: slH 27 1 v6 ((mr - 1)) ((rcs.take (((mr - 1)) * 1))) :: slH 27 1 v5 ((ml - 1)) ((lcs.take (((ml - 1)) * 1))) :: cellsH b1 [arv] 29 :: L)
    refine cX (jL (args := [ptr ub 0, ii (u2.getD 0 0), v3]) call251 rfl (occurs2_spec hov hbC hMI.ok hv3 hu.w hσ (by omega) (hv.top.resolve_left (by omega))) ?_)
    rintro _ _ _ _ ⟨rfl, rfl, rfl⟩
    refine qI ?_
    refine jV (p := u2.getD 0 0 ∈ ap σ u1) rfl (fun h5 => ?_) (fun h5 => ?_)
    ·have hocc := h5
     refine qX (qH (jc (.bool (false)) rfl (qI (jW (jw (ya (ya (jw (ya (jw (jR (L' := cellsH ub [ov] 234 :: slH 27 1 ov 48 bcs :: L) [.bool (false)] (.bool (false)) (.tmp rfl .nil) rfl leG1 rF (sC (sC (sD (sD (sD sR))))) ?_)))))))))))
     exact ⟨_, _, _, rfl, hbC, fun h => (by cases h), fun _ => hMI.occR hp hσ hu hv (by omega) (by omega) hocc, rfl⟩
    have hx0 : u2.getD 0 0 < 0 := by omega
    have hxf := hv.top.resolve_left (by omega : ¬ 0 ≤ u2.getD 0 0)
    have hMB := hMI.bindR hp hσ hu hv hx0 h5
    have hno9 := h5
    obtain ⟨σ1, hσ1⟩ := hMB.ok.sol
    refine jU ?_
    refine yN [cellsH ub [ov] 234, slH 27 1 ov 48 bcs, slH 27 1 v6 ((mr - 1)) ((rcs.take (((mr - 1)) * 1))), slH 27 1 v5 ((ml - 1)) ((lcs.take (((ml - 1)) * 1))), cellsH b1 [arv] 29] L 9 [] [[], [0], [1], [2], [], [4], [5], [6]] (phiL [qe (ptr ub 0), qe (ptr ub 0), qe (ptr ub 0), qe ov, qe v4, qe (.pointer (some (elemA v4 (0)))), qe (ii (u2.getD 0 0)), qe (ii ((-1) - (u2.getD 0 0))), qe v3]) (ownL []) mixed rfl rfl (by kernel_rfl) ?_ ?_
    ·refine pD (fun W R z9 => ?_) ?_
     ·refine je (jk (ptr ub 0) rfl ?_)
      exact ⟨rfl, rfl, rfl⟩
     refine pD (fun W R z9 => ?_) ?_
     ·rw [eS (l := [(0, _)]) ⟨z9 0 rfl, ⟨⟩⟩]
      refine je (yw rfl ?_)
      exact ⟨rfl, rfl, rfl⟩
     refine pD (fun W R z9 => ?_) ?_
     ·rw [eS (l := [(1, _)]) ⟨z9 1 rfl, ⟨⟩⟩]
      refine je (jE (0) Qu rfl yT (by decide) rfl rfl ?_)
      exact ⟨rfl, rfl, rfl⟩
     refine pD (fun W R z9 => ?_) ?_
     ·rw [eS (l := [(2, _)]) ⟨z9 2 rfl, ⟨⟩⟩]
      refine je (jj Qv rfl (Rd.own [] rfl rfl) ?_)
      exact ⟨rfl, rfl, rfl⟩
     refine pD (fun W R z9 => ?_) ?_
     ·refine je (jk (v4) rfl ?_)
      exact ⟨rfl, rfl, rfl⟩
     refine pD (fun W R z9 => ?_) ?_
     ·rw [eS (l := [(4, _)]) ⟨z9 4 rfl, ⟨⟩⟩]
      refine je (jq 0 qU js rfl rfl rfl hv4.slv (by omega) (Nat.mul_one _) ?_)
      exact ⟨rfl, rfl, rfl⟩
     refine pD (fun W R z9 => ?_) ?_
     ·rw [eS (l := [(5, _)]) ⟨z9 5 rfl, ⟨⟩⟩]
      refine je (jj yd rfl (hv4.rd (by omega)) ?_)
      exact ⟨rfl, rfl, rfl⟩
     refine pD (fun W R z9 => ?_) ?_
     ·rw [eS (l := [(6, _)]) ⟨z9 6 rfl, ⟨⟩⟩]
      refine je (yx ((-1) - (u2.getD 0 0)) rfl rfl (by omega) (by omega) ?_)
      exact ⟨rfl, rfl, rfl⟩
     refine pD (fun W R z9 => ?_) ?_
     ·refine je (jk (v3) rfl ?_)
      exact ⟨rfl, rfl, rfl⟩
     exact stepsP.nil
    intro W hphi
    rw [eS (l := [(3, _), (7, _), (8, _)]) ⟨(hphi 3 (by decide)), (hphi 7 (by decide)), (hphi 8 (by decide)), ⟨⟩⟩]
    show XL _ _ _ _ _ _ _ (cellsH ub [ov] 234 :: slH 27 1 ov 48 bcs :: slH 27 1 v6 ((mr - 1)) ((rcs.take (((mr - 1)) * 1))) :: slH 27 1 v5 ((ml - 1)) ((lcs.take (((ml - 1)) * 1))) :: cellsH b1 [arv] 29 :: L)
    refine cX (jq (((-1) - (u2.getD 0 0)).toNat) jX jF rfl rfl (by omega) (SlV.own [_] rfl) (by omega) (Nat.mul_one _) (cX (XOp.storeS (i := ((-1) - (u2.getD 0 0)).toNat) (cs := bcs) [_] _ jF rfl rfl (yE (yi hv3)) rfl (by have h9 := CO.len hbC; (try simp only [List.length_set, List.length_replicate] at h9 ⊢) <;> omega) ?_)))
    have hc5 := hbC.set (((-1) - (u2.getD 0 0)).toNat) hv3
    refine qI ?_
    exact ⟨((bcs.set (((-1) - (u2.getD 0 0)).toNat) v3), (b.set (((-1) - (u2.getD 0 0)).toNat) u1), σ1, v5, (l.take ((ml - 1))), (lcs.take (((ml - 1)) * 1)), (ml - 1), v6, (r.take ((mr - 1))), (rcs.take (((mr - 1)) * 1)), (mr - 1), G1), _, leG1, rF, ⟨rfl, rfl, rfl, rfl, ⟨⟩⟩, (yn (ye (A := [_])) (yn (ye (A := [_])) (yn (ye (A := [_, _, _, _])) (yn (ye (A := [_, _, _, _])) (yn (ye (A := [_, _, _, _])) (sC (sC (sC (sC (sC sR)))))))))), ⟨rfl, leG1, (hc5), (hσ1), (hs1), (hc3), (by (try dsimp only); (try rw [List.length_append]); rw [List.length_take]; omega), (hs2), (hc4), (by (try dsimp only); (try rw [List.length_append]); rw [List.length_take]; omega), (by (try dsimp only); (try rw [ehl]); (try rw [ehr]); exact hMB), (by (try dsimp only); (try rw [ehl]); (try rw [ehr]); exact (hSt.bind hMI.ok hx0 (by omega) hxf).cut)⟩, (by (try dsimp only); (try rw [ehl]); (try rw [ehr]); exact hMI.mu_bind hp hσ hx0 (by omega) hxf hu.w hno9 hσ1 (.inl (by rw [hu.same σ hσ.sat])))⟩
   refine qX ?_
   refine yN [cellsH ub [ov] 234, slH 27 1 ov 48 bcs, slH 27 1 v6 ((mr - 1)) ((rcs.take (((mr - 1)) * 1))), slH 27 1 v5 ((ml - 1)) ((lcs.take (((ml - 1)) * 1))), cellsH b1 [arv] 29] L 6 [] [[], [0], [1], [], [3], [4]] (phiL [qe v3, qe (.pointer (some (elemA v3 (0)))), qe (ii (u1.getD 0 0)), qe v4, qe (.pointer (some (elemA v4 (0)))), qe (ii (u2.getD 0 0))]) (ownL []) mixed rfl rfl (by kernel_rfl) ?_ ?_
   ·refine pD (fun W R z9 => ?_) ?_
    ·refine je (jk (v3) rfl ?_)
     exact ⟨rfl, rfl, rfl⟩
    refine pD (fun W R z9 => ?_) ?_
    ·rw [eS (l := [(0, _)]) ⟨z9 0 rfl, ⟨⟩⟩]
     refine je (jq 0 qU js rfl rfl rfl hv3.slv (by omega) (Nat.mul_one _) ?_)
     exact ⟨rfl, rfl, rfl⟩
    refine pD (fun W R z9 => ?_) ?_
    ·rw [eS (l := [(1, _)]) ⟨z9 1 rfl, ⟨⟩⟩]
     refine je (jj yd rfl (hv3.rd (by omega)) ?_)
     exact ⟨rfl, rfl, rfl⟩
    refine pD (fun W R z9 => ?_) ?_
    ·refine je (jk (v4) rfl ?_)
     exact ⟨rfl, rfl, rfl⟩
    refine pD (fun W R z9 => ?_) ?_
    ·rw [eS (l := [(3, _)]) ⟨z9 3 rfl, ⟨⟩⟩]
     refine je (jq 0 qU js rfl rfl rfl hv4.slv (by omega) (Nat.mul_one _) ?_)
     exact ⟨rfl, rfl, rfl⟩
    refine pD (fun W R z9 => ?_) ?_
    ·rw [eS (l := [(4, _)]) ⟨z9 4 rfl, ⟨⟩⟩]
     refine je (jj yd rfl (hv4.rd (by omega)) ?_)
     exact ⟨rfl, rfl, rfl⟩
    exact stepsP.nil
   intro W hphi
   rw [eS (l := [(2, _), (5, _)]) ⟨(hphi 2 (by decide)), (hphi 5 (by decide)), ⟨⟩⟩]
   show XL _ _ _ _ _ _ _ (cellsH ub [ov] 234 :: slH 27 1 ov 48 bcs :: slH 27 1 v6 ((mr - 1)) ((rcs.take (((mr - 1)) * 1))) :: slH 27 1 v5 ((ml - 1)) ((lcs.take (((ml - 1)) * 1))) :: cellsH b1 [arv] 29 :: L)
   refine cX (XOp.neq rfl rfl (jc (.bool (decide ((u1.getD 0 0 : Int) ≠ u2.getD 0 0))) rfl (qI ?_)))
   refine jV (p := (u1.getD 0 0 : Int) ≠ u2.getD 0 0) rfl (fun h6 => ?_) (fun h6 => ?_)
   ·refine qX (qH (jc (.bool (false)) rfl (qI (jW (ya (ya (jw (ya (jw (jR (L' := cellsH ub [ov] 234 :: slH 27 1 ov 48 bcs :: L) [.bool (false)] (.bool (false)) (.tmp rfl .nil) rfl leG1 rF (sC (sC (sD (sD (sD sR))))) ?_))))))))))
    exact ⟨_, _, _, rfl, hbC, fun h => (by cases h), fun _ => hMI.heads hp hu hv (by omega) (by omega) (by omega), rfl⟩
   refine qX (qH ?_)
   have hpu3 := parts_le3 huw
   have hpv3 := parts_le3 hvw
   refine jb (v5) rfl (cX (yc [arv] yF ys rfl rfl (Rd.ownN [_, _, _, _] rfl rfl) (jb (v3) rfl (cX (jL (args := [.agg #[arv], v3]) call252 rfl (l13Parts_spec har hv3 (ho := (by first | assumption | rfl | omega | simp))) ?_)))))
   rintro _ F1 _ le1 ⟨x1, rfl, hr1, rfl⟩
   replace har := har.mono le1
   replace hbC := hbC.mono le1
   replace hv3 := hv3.mono le1
   replace hv4 := hv4.mono le1
   replace hc3 := hc3.mono le1
   replace hc4 := hc4.mono le1
   refine cX (XOp.appendRows (bytes := 24) (cs := (lcs.take (((ml - 1)) * 1))) [_, _, _] _ jX typeInfo27 rfl rfl rfl rfl rfl rfl rfl hc3 hr1 (by omega) (by omega) ?_)
   intro v7 ds1 hs3 hc6
   refine jc (v7) rfl (qI (qH (jb (v6) rfl (cX (yc [arv] yF ys rfl rfl (Rd.ownN [_, _, _, _] rfl rfl) (jb (v4) rfl (cX (jL (args := [.agg #[arv], v4]) call252 rfl (l13Parts_spec har hv4 (ho := (by first | assumption | rfl | omega | simp))) ?_))))))))
   rintro _ F2 _ le2 ⟨x2, rfl, hr2, rfl⟩
   replace har := har.mono le2
   replace hbC := hbC.mono le2
   replace hv3 := hv3.mono le2
   replace hv4 := hv4.mono le2
   replace hc3 := hc3.mono le2
   replace hc4 := hc4.mono le2
   replace hc6 := hc6.mono le2
   refine cX (XOp.appendRows (bytes := 24) (cs := (rcs.take (((mr - 1)) * 1))) [_, _] _ jX typeInfo27 rfl rfl rfl rfl rfl rfl rfl hc4 hr2 (by omega) (by omega) ?_)
   intro v8 ds2 hs4 hc7
   refine jc (v8) rfl (qI ?_)
   exact ⟨(bcs, b, σ, v7, ((l.take ((ml - 1))) ++ partsL ar u1), ((lcs.take (((ml - 1)) * 1)) ++ ds1), ((ml - 1)) + (partsL ar u1).length, v8, ((r.take ((mr - 1))) ++ partsL ar u2), ((rcs.take (((mr - 1)) * 1)) ++ ds2), ((mr - 1)) + (partsL ar u2).length, F2), _, (jl (jl leG1 le1) le2), rF, ⟨rfl, rfl, rfl, rfl, ⟨⟩⟩, (yn (ye (A := [_])) (yn (ye (A := [_])) (yn (ye (A := [_, _, _, _])) (yn (ye (A := [_, _, _, _])) (yn (ye (A := [_, _, _, _])) (sC (sC (sC (sC (sC sR)))))))))), ⟨rfl, (jl (jl leG1 le1) le2), (hbC), (hσ), (hs3), (hc6), (by (try dsimp only); (try rw [List.length_append]); rw [List.length_take]; omega), (hs4), (hc7), (by (try dsimp only); (try rw [List.length_append]); rw [List.length_take]; omega), (by (try dsimp only); (try rw [ehl]); (try rw [ehr]); exact hMI.parts hp hu hv (by omega) (by omega)), (by (try dsimp only); (try rw [ehl]); (try rw [ehr]); exact hSt.parts hp hwu hu.w)⟩, (by (try dsimp only); (try rw [ehl]); (try rw [ehr]); exact hMI.mu_parts hp hσ hu hv (by omega) (by omega))⟩
  refine jA (t := 64) rfl (vF h2) (jA (t := 64) rfl (vF h2) (jA (t := 64) rfl (vF h2) (jA (t := 64) rfl (vF h2) (cX (yl (.bool (false)) (vF h2) rfl (jc (.bool (false)) rfl (qI (yV rfl (qX (qH (jb (v3) rfl ?_)))))))))))
  refine cX (jq 0 qU js rfl rfl rfl hv3.slv (by omega) (Nat.mul_one _) (cX (jj yd rfl (hv3.rd (by omega)) (cX (yo rfl rfl (jc (.bool (decide ((u1.getD 0 0 : Int) < 0))) rfl (qI ?_)))))))
  refine jV (p := (u1.getD 0 0 : Int) < 0) rfl (fun h7 => ?_) (fun h7 => ?_)
  ·refine qX (qX (qH ?_))
   skip
   refine jb (ptr ub 0) rfl (jb (v3) rfl (cX (jq 0 qU js rfl rfl rfl hv3.slv (by omega) (Nat.mul_one _) (cX (jj yd rfl (hv3.rd (by omega)) (jb (v4) rfl (yK (ye (A := [_])) ?_)))))))
   show XL _ _ _ _ _ _ _ (slH 27 1 ov 48 bcs :: cellsH ub [ov] 234 :: slH 27 1 v6 ((mr - 1)) ((rcs.take (((mr - 1)) * 1))) :: slH 27 1 v5 ((ml - 1)) ((lcs.take (((ml - 1)) * 1))) :: cellsH b1 [arv] 29 :: L)
   refine yK (ye (A := [_])) ?_
   show XL _ _ _ _ _ _ _ (cellsH ub [ov] 234 :: slH 27 1 ov 48 bcs :: slH 27 1 v6 ((mr - 1)) ((rcs.take (((mr - 1)) * 1))) :: slH 27 1 v5 ((ml - 1)) ((lcs.take (((ml - 1)) * 1))) :: cellsH b1 [arv] 29 :: L)
   refine cX (jL (args := [ptr ub 0, ii (u1.getD 0 0), v4]) call251 rfl (occurs2_spec hov hbC hMI.ok hv4 hv.w hσ (by omega) (hu.top.resolve_left (by omega))) ?_)
   rintro _ _ _ _ ⟨rfl, rfl, rfl⟩
   refine qI ?_
   refine jV (p := u1.getD 0 0 ∈ ap σ u2) rfl (fun h8 => ?_) (fun h8 => ?_)
   ·have hocc := h8
    refine qX (qH (jc (.bool (false)) rfl (qI (jW (jw (ya (ya (jw (ya (jw (jR (L' := cellsH ub [ov] 234 :: slH 27 1 ov 48 bcs :: L) [.bool (false)] (.bool (false)) (.tmp rfl .nil) rfl leG1 rF (sC (sC (sD (sD (sD sR))))) ?_)))))))))))
    exact ⟨_, _, _, rfl, hbC, fun h => (by cases h), fun _ => hMI.occL hp hσ hu hv (by omega) (by omega) hocc, rfl⟩
   have hx0 : u1.getD 0 0 < 0 := by omega
   have hxf := hu.top.resolve_left (by omega : ¬ 0 ≤ u1.getD 0 0)
   have hMB := hMI.bindL hp hσ hu hv hx0 h8
   have hno9 := h8
   obtain ⟨σ1, hσ1⟩ := hMB.ok.sol
   refine jU ?_
   refine yN [cellsH ub [ov] 234, slH 27 1 ov 48 bcs, slH 27 1 v6 ((mr - 1)) ((rcs.take (((mr - 1)) * 1))), slH 27 1 v5 ((ml - 1)) ((lcs.take (((ml - 1)) * 1))), cellsH b1 [arv] 29] L 9 [] [[], [0], [1], [2], [], [4], [5], [6]] (phiL [qe (ptr ub 0), qe (ptr ub 0), qe (ptr ub 0), qe ov, qe v3, qe (.pointer (some (elemA v3 (0)))), qe (ii (u1.getD 0 0)), qe (ii ((-1) - (u1.getD 0 0))), qe v4]) (ownL []) mixed rfl rfl (by kernel_rfl) ?_ ?_
   ·refine pD (fun W R z9 => ?_) ?_
    ·refine je (jk (ptr ub 0) rfl ?_)
     exact ⟨rfl, rfl, rfl⟩
    refine pD (fun W R z9 => ?_) ?_
    ·rw [eS (l := [(0, _)]) ⟨z9 0 rfl, ⟨⟩⟩]
     refine je (yw rfl ?_)
     exact ⟨rfl, rfl, rfl⟩
    refine pD (fun W R z9 => ?_) ?_
    ·rw [eS (l := [(1, _)]) ⟨z9 1 rfl, ⟨⟩⟩]
     refine je (jE (0) Qu rfl yT (by decide) rfl rfl ?_)
     exact ⟨rfl, rfl, rfl⟩
    refine pD (fun W R z9 => ?_) ?_
    ·rw [eS (l := [(2, _)]) ⟨z9 2 rfl, ⟨⟩⟩]
     refine je (jj Qv rfl (Rd.own [] rfl rfl) ?_)
     exact ⟨rfl, rfl, rfl⟩
    refine pD (fun W R z9 => ?_) ?_
    ·refine je (jk (v3) rfl ?_)
     exact ⟨rfl, rfl, rfl⟩
    refine pD (fun W R z9 => ?_) ?_
    ·rw [eS (l := [(4, _)]) ⟨z9 4 rfl, ⟨⟩⟩]
     refine je (jq 0 qU js rfl rfl rfl hv3.slv (by omega) (Nat.mul_one _) ?_)
     exact ⟨rfl, rfl, rfl⟩
    refine pD (fun W R z9 => ?_) ?_
    ·rw [eS (l := [(5, _)]) ⟨z9 5 rfl, ⟨⟩⟩]
     refine je (jj yd rfl (hv3.rd (by omega)) ?_)
     exact ⟨rfl, rfl, rfl⟩
    refine pD (fun W R z9 => ?_) ?_
    ·rw [eS (l := [(6, _)]) ⟨z9 6 rfl, ⟨⟩⟩]
     refine je (yx ((-1) - (u1.getD 0 0)) rfl rfl (by omega) (by omega) ?_)
     exact ⟨rfl, rfl, rfl⟩
    refine pD (fun W R z9 => ?_) ?_
    ·refine je (jk (v4) rfl ?_)
     exact ⟨rfl, rfl, rfl⟩
    exact stepsP.nil
   intro W hphi
   rw [eS (l := [(3, _), (7, _), (8, _)]) ⟨(hphi 3 (by decide)), (hphi 7 (by decide)), (hphi 8 (by decide)), ⟨⟩⟩]
   show XL _ _ _ _ _ _ _ (cellsH ub [ov] 234 :: slH 27 1 ov 48 bcs :: slH 27 1 v6 ((mr - 1)) ((rcs.take (((mr - 1)) * 1))) :: slH 27 1 v5 ((ml - 1)) ((lcs.take (((ml - 1)) * 1))) :: cellsH b1 [arv] 29 :: L)
   refine cX (jq (((-1) - (u1.getD 0 0)).toNat) jX jF rfl rfl (by omega) (SlV.own [_] rfl) (by omega) (Nat.mul_one _) (cX (XOp.storeS (i := ((-1) - (u1.getD 0 0)).toNat) (cs := bcs) [_] _ jF rfl rfl (yE (yi hv4)) rfl (by have h9 := CO.len hbC; (try simp only [List.length_set, List.length_replicate] at h9 ⊢) <;> omega) ?_)))
   have hc8 := hbC.set (((-1) - (u1.getD 0 0)).toNat) hv4
   refine qI ?_
   exact ⟨((bcs.set (((-1) - (u1.getD 0 0)).toNat) v4), (b.set (((-1) - (u1.getD 0 0)).toNat) u2), σ1, v5, (l.take ((ml - 1))), (lcs.take (((ml - 1)) * 1)), (ml - 1), v6, (r.take ((mr - 1))), (rcs.take (((mr - 1)) * 1)), (mr - 1), G1), _, leG1, rF, ⟨rfl, rfl, rfl, rfl, ⟨⟩⟩, (yn (ye (A := [_])) (yn (ye (A := [_])) (yn (ye (A := [_, _, _, _])) (yn (ye (A := [_, _, _, _])) (yn (ye (A := [_, _, _, _])) (sC (sC (sC (sC (sC sR)))))))))), ⟨rfl, leG1, (hc8), (hσ1), (hs1), (hc3), (by (try dsimp only); (try rw [List.length_append]); rw [List.length_take]; omega), (hs2), (hc4), (by (try dsimp only); (try rw [List.length_append]); rw [List.length_take]; omega), (by (try dsimp only); (try rw [ehl]); (try rw [ehr]); exact hMB), (by (try dsimp only); (try rw [ehl]); (try rw [ehr]); exact (hSt.bind hMI.ok hx0 (by omega) hxf).cut)⟩, (by (try dsimp only); (try rw [ehl]); (try rw [ehr]); exact hMI.mu_bind hp hσ hx0 (by omega) hxf hv.w hno9 hσ1 (.inr (by rw [hv.same σ hσ.sat])))⟩
  refine qX (qH (jb (v4) rfl (cX (jq 0 qU js rfl rfl rfl hv4.slv (by omega) (Nat.mul_one _) (cX (jj yd rfl (hv4.rd (by omega)) (cX (yo rfl rfl (jc (.bool (decide ((u2.getD 0 0 : Int) < 0))) rfl (qI ?_))))))))))
  refine jV (p := (u2.getD 0 0 : Int) < 0) rfl (fun h9 => ?_) (fun h9 => ?_)
  ·refine qX (qX (qH ?_))
   skip
   refine jb (ptr ub 0) rfl (jb (v4) rfl (cX (jq 0 qU js rfl rfl rfl hv4.slv (by omega) (Nat.mul_one _) (cX (jj yd rfl (hv4.rd (by omega)) (jb (v3) rfl (yK (ye (A := [_])) ?_)))))))
   show XL _ _ _ _ _ _ _ (slH 27 1 ov 48 bcs :: cellsH ub [ov] 234 :: slH 27 1 v6 ((mr - 1)) ((rcs.take (((mr - 1)) * 1))) :: slH 27 1 v5 ((ml - 1)) ((lcs.take (((ml - 1)) * 1))) :: cellsH b1 [arv] 29 :: L)
   refine yK (ye (A := [_])) ?_
   show XL _ _ _ _ _ _ _ (cellsH ub [ov] 234 :: slH 27 1 ov 48 bcs :: slH 27 1 v6 ((mr - 1)) ((rcs.take (((mr - 1)) * 1))) :: slH 27 1 v5 ((ml - 1)) ((lcs.take (((ml - 1)) * 1))) :: cellsH b1 [arv] 29 :: L)
   refine cX (jL (args := [ptr ub 0, ii (u2.getD 0 0), v3]) call251 rfl (occurs2_spec hov hbC hMI.ok hv3 hu.w hσ (by omega) (hv.top.resolve_left (by omega))) ?_)
   rintro _ _ _ _ ⟨rfl, rfl, rfl⟩
   refine qI ?_
   refine jV (p := u2.getD 0 0 ∈ ap σ u1) rfl (fun h10 => ?_) (fun h10 => ?_)
   ·have hocc := h10
    refine qX (qH (jc (.bool (false)) rfl (qI (jW (jw (ya (ya (jw (ya (jw (jR (L' := cellsH ub [ov] 234 :: slH 27 1 ov 48 bcs :: L) [.bool (false)] (.bool (false)) (.tmp rfl .nil) rfl leG1 rF (sC (sC (sD (sD (sD sR))))) ?_)))))))))))
    exact ⟨_, _, _, rfl, hbC, fun h => (by cases h), fun _ => hMI.occR hp hσ hu hv (by omega) (by omega) hocc, rfl⟩
   have hx0 : u2.getD 0 0 < 0 := by omega
   have hxf := hv.top.resolve_left (by omega : ¬ 0 ≤ u2.getD 0 0)
   have hMB := hMI.bindR hp hσ hu hv hx0 h10
   have hno9 := h10
   obtain ⟨σ1, hσ1⟩ := hMB.ok.sol
   refine jU ?_
   refine yN [cellsH ub [ov] 234, slH 27 1 ov 48 bcs, slH 27 1 v6 ((mr - 1)) ((rcs.take (((mr - 1)) * 1))), slH 27 1 v5 ((ml - 1)) ((lcs.take (((ml - 1)) * 1))), cellsH b1 [arv] 29] L 9 [] [[], [0], [1], [2], [], [4], [5], [6]] (phiL [qe (ptr ub 0), qe (ptr ub 0), qe (ptr ub 0), qe ov, qe v4, qe (.pointer (some (elemA v4 (0)))), qe (ii (u2.getD 0 0)), qe (ii ((-1) - (u2.getD 0 0))), qe v3]) (ownL []) mixed rfl rfl (by kernel_rfl) ?_ ?_
   ·refine pD (fun W R z9 => ?_) ?_
    ·refine je (jk (ptr ub 0) rfl ?_)
     exact ⟨rfl, rfl, rfl⟩
    refine pD (fun W R z9 => ?_) ?_
    ·rw [eS (l := [(0, _)]) ⟨z9 0 rfl, ⟨⟩⟩]
     refine je (yw rfl ?_)
     exact ⟨rfl, rfl, rfl⟩
    refine pD (fun W R z9 => ?_) ?_
    ·rw [eS (l := [(1, _)]) ⟨z9 1 rfl, ⟨⟩⟩]
     refine je (jE (0) Qu rfl yT (by decide) rfl rfl ?_)
     exact ⟨rfl, rfl, rfl⟩
    refine pD (fun W R z9 => ?_) ?_
    ·rw [eS (l := [(2, _)]) ⟨z9 2 rfl, ⟨⟩⟩]
     refine je (jj Qv rfl (Rd.own [] rfl rfl) ?_)
     exact ⟨rfl, rfl, rfl⟩
    refine pD (fun W R z9 => ?_) ?_
    ·refine je (jk (v4) rfl ?_)
     exact ⟨rfl, rfl, rfl⟩
    refine pD (fun W R z9 => ?_) ?_
    ·rw [eS (l := [(4, _)]) ⟨z9 4 rfl, ⟨⟩⟩]
     refine je (jq 0 qU js rfl rfl rfl hv4.slv (by omega) (Nat.mul_one _) ?_)
     exact ⟨rfl, rfl, rfl⟩
    refine pD (fun W R z9 => ?_) ?_
    ·rw [eS (l := [(5, _)]) ⟨z9 5 rfl, ⟨⟩⟩]
     refine je (jj yd rfl (hv4.rd (by omega)) ?_)
     exact ⟨rfl, rfl, rfl⟩
    refine pD (fun W R z9 => ?_) ?_
    ·rw [eS (l := [(6, _)]) ⟨z9 6 rfl, ⟨⟩⟩]
     refine je (yx ((-1) - (u2.getD 0 0)) rfl rfl (by omega) (by omega) ?_)
     exact ⟨rfl, rfl, rfl⟩
    refine pD (fun W R z9 => ?_) ?_
    ·refine je (jk (v3) rfl ?_)
     exact ⟨rfl, rfl, rfl⟩
    exact stepsP.nil
   intro W hphi
   rw [eS (l := [(3, _), (7, _), (8, _)]) ⟨(hphi 3 (by decide)), (hphi 7 (by decide)), (hphi 8 (by decide)), ⟨⟩⟩]
   show XL _ _ _ _ _ _ _ (cellsH ub [ov] 234 :: slH 27 1 ov 48 bcs :: slH 27 1 v6 ((mr - 1)) ((rcs.take (((mr - 1)) * 1))) :: slH 27 1 v5 ((ml - 1)) ((lcs.take (((ml - 1)) * 1))) :: cellsH b1 [arv] 29 :: L)
   refine cX (jq (((-1) - (u2.getD 0 0)).toNat) jX jF rfl rfl (by omega) (SlV.own [_] rfl) (by omega) (Nat.mul_one _) (cX (XOp.storeS (i := ((-1) - (u2.getD 0 0)).toNat) (cs := bcs) [_] _ jF rfl rfl (yE (yi hv3)) rfl (by have h9 := CO.len hbC; (try simp only [List.length_set, List.length_replicate] at h9 ⊢) <;> omega) ?_)))
   have hc9 := hbC.set (((-1) - (u2.getD 0 0)).toNat) hv3
   refine qI ?_
   exact ⟨((bcs.set (((-1) - (u2.getD 0 0)).toNat) v3), (b.set (((-1) - (u2.getD 0 0)).toNat) u1), σ1, v5, (l.take ((ml - 1))), (lcs.take (((ml - 1)) * 1)), (ml - 1), v6, (r.take ((mr - 1))), (rcs.take (((mr - 1)) * 1)), (mr - 1), G1), _, leG1, rF, ⟨rfl, rfl, rfl, rfl, ⟨⟩⟩, (yn (ye (A := [_])) (yn (ye (A := [_])) (yn (ye (A := [_, _, _, _])) (yn (ye (A := [_, _, _, _])) (yn (ye (A := [_, _, _, _])) (sC (sC (sC (sC (sC sR)))))))))), ⟨rfl, leG1, (hc9), (hσ1), (hs1), (hc3), (by (try dsimp only); (try rw [List.length_append]); rw [List.length_take]; omega), (hs2), (hc4), (by (try dsimp only); (try rw [List.length_append]); rw [List.length_take]; omega), (by (try dsimp only); (try rw [ehl]); (try rw [ehr]); exact hMB), (by (try dsimp only); (try rw [ehl]); (try rw [ehr]); exact (hSt.bind hMI.ok hx0 (by omega) hxf).cut)⟩, (by (try dsimp only); (try rw [ehl]); (try rw [ehr]); exact hMI.mu_bind hp hσ hx0 (by omega) hxf hu.w hno9 hσ1 (.inl (by rw [hu.same σ hσ.sat])))⟩
  refine qX ?_
  refine yN [cellsH ub [ov] 234, slH 27 1 ov 48 bcs, slH 27 1 v6 ((mr - 1)) ((rcs.take (((mr - 1)) * 1))), slH 27 1 v5 ((ml - 1)) ((lcs.take (((ml - 1)) * 1))), cellsH b1 [arv] 29] L 6 [] [[], [0], [1], [], [3], [4]] (phiL [qe v3, qe (.pointer (some (elemA v3 (0)))), qe (ii (u1.getD 0 0)), qe v4, qe (.pointer (some (elemA v4 (0)))), qe (ii (u2.getD 0 0))]) (ownL []) mixed rfl rfl (by kernel_rfl) ?_ ?_
  ·refine pD (fun W R z9 => ?_) ?_
   ·refine je (jk (v3) rfl ?_)
    exact ⟨rfl, rfl, rfl⟩
   refine pD (fun W R z9 => ?_) ?_
   ·rw [eS (l := [(0, _)]) ⟨z9 0 rfl, ⟨⟩⟩]
    refine je (jq 0 qU js rfl rfl rfl hv3.slv (by omega) (Nat.mul_one _) ?_)
    exact ⟨rfl, rfl, rfl⟩
   refine pD (fun W R z9 => ?_) ?_
   ·rw [eS (l := [(1, _)]) ⟨z9 1 rfl, ⟨⟩⟩]
    refine je (jj yd rfl (hv3.rd (by omega)) ?_)
    exact ⟨rfl, rfl, rfl⟩
   refine pD (fun W R z9 => ?_) ?_
   ·refine je (jk (v4) rfl ?_)
    exact ⟨rfl, rfl, rfl⟩
   refine pD (fun W R z9 => ?_) ?_
   ·rw [eS (l := [(3, _)]) ⟨z9 3 rfl, ⟨⟩⟩]
    refine je (jq 0 qU js rfl rfl rfl hv4.slv (by omega) (Nat.mul_one _) ?_)
    exact ⟨rfl, rfl, rfl⟩
   refine pD (fun W R z9 => ?_) ?_
   ·rw [eS (l := [(4, _)]) ⟨z9 4 rfl, ⟨⟩⟩]
    refine je (jj yd rfl (hv4.rd (by omega)) ?_)
    exact ⟨rfl, rfl, rfl⟩
   exact stepsP.nil
  intro W hphi
  rw [eS (l := [(2, _), (5, _)]) ⟨(hphi 2 (by decide)), (hphi 5 (by decide)), ⟨⟩⟩]
  show XL _ _ _ _ _ _ _ (cellsH ub [ov] 234 :: slH 27 1 ov 48 bcs :: slH 27 1 v6 ((mr - 1)) ((rcs.take (((mr - 1)) * 1))) :: slH 27 1 v5 ((ml - 1)) ((lcs.take (((ml - 1)) * 1))) :: cellsH b1 [arv] 29 :: L)
  refine cX (XOp.neq rfl rfl (jc (.bool (decide ((u1.getD 0 0 : Int) ≠ u2.getD 0 0))) rfl (qI ?_)))
  refine jV (p := (u1.getD 0 0 : Int) ≠ u2.getD 0 0) rfl (fun h11 => ?_) (fun h11 => ?_)
  ·refine qX (qH (jc (.bool (false)) rfl (qI (jW (ya (ya (jw (ya (jw (jR (L' := cellsH ub [ov] 234 :: slH 27 1 ov 48 bcs :: L) [.bool (false)] (.bool (false)) (.tmp rfl .nil) rfl leG1 rF (sC (sC (sD (sD (sD sR))))) ?_))))))))))
   exact ⟨_, _, _, rfl, hbC, fun h => (by cases h), fun _ => hMI.heads hp hu hv (by omega) (by omega) (by omega), rfl⟩
  refine qX (qH ?_)
  have hpu3 := parts_le3 huw
  have hpv3 := parts_le3 hvw
  refine jb (v5) rfl (cX (yc [arv] yF ys rfl rfl (Rd.ownN [_, _, _, _] rfl rfl) (jb (v3) rfl (cX (jL (args := [.agg #[arv], v3]) call252 rfl (l13Parts_spec har hv3 (ho := (by first | assumption | rfl | omega | simp))) ?_)))))
  rintro _ F3 _ le3 ⟨x3, rfl, hr3, rfl⟩
  replace har := har.mono le3
  replace hbC := hbC.mono le3
  replace hv4 := hv4.mono le3
  replace hc3 := hc3.mono le3
  replace hc4 := hc4.mono le3
  refine cX (XOp.appendRows (bytes := 24) (cs := (lcs.take (((ml - 1)) * 1))) [_, _, _] _ jX typeInfo27 rfl rfl rfl rfl rfl rfl rfl hc3 hr3 (by omega) (by omega) ?_)
  intro v9 ds3 hs5 hc10
  refine jc (v9) rfl (qI (qH (jb (v6) rfl (cX (yc [arv] yF ys rfl rfl (Rd.ownN [_, _, _, _] rfl rfl) (jb (v4) rfl (cX (jL (args := [.agg #[arv], v4]) call252 rfl (l13Parts_spec har hv4 (ho := (by first | assumption | rfl | omega | simp))) ?_))))))))
  rintro _ F4 _ le4 ⟨x4, rfl, hr4, rfl⟩
  replace hbC := hbC.mono le4
  replace hc4 := hc4.mono le4
  replace hc10 := hc10.mono le4
  refine cX (XOp.appendRows (bytes := 24) (cs := (rcs.take (((mr - 1)) * 1))) [_, _] _ jX typeInfo27 rfl rfl rfl rfl rfl rfl rfl hc4 hr4 (by omega) (by omega) ?_)
  intro v10 ds4 hs6 hc11
  refine jc (v10) rfl (qI ?_)
  exact ⟨(bcs, b, σ, v9, ((l.take ((ml - 1))) ++ partsL ar u1), ((lcs.take (((ml - 1)) * 1)) ++ ds3), ((ml - 1)) + (partsL ar u1).length, v10, ((r.take ((mr - 1))) ++ partsL ar u2), ((rcs.take (((mr - 1)) * 1)) ++ ds4), ((mr - 1)) + (partsL ar u2).length, F4), _, (jl (jl leG1 le3) le4), rF, ⟨rfl, rfl, rfl, rfl, ⟨⟩⟩, (yn (ye (A := [_])) (yn (ye (A := [_])) (yn (ye (A := [_, _, _, _])) (yn (ye (A := [_, _, _, _])) (yn (ye (A := [_, _, _, _])) (sC (sC (sC (sC (sC sR)))))))))), ⟨rfl, (jl (jl leG1 le3) le4), (hbC), (hσ), (hs5), (hc10), (by (try dsimp only); (try rw [List.length_append]); rw [List.length_take]; omega), (hs6), (hc11), (by (try dsimp only); (try rw [List.length_append]); rw [List.length_take]; omega), (by (try dsimp only); (try rw [ehl]); (try rw [ehr]); exact hMI.parts hp hu hv (by omega) (by omega)), (by (try dsimp only); (try rw [ehl]); (try rw [ehr]); exact hSt.parts hp hwu hu.w)⟩, (by (try dsimp only); (try rw [ehl]); (try rw [ehr]); exact hMI.mu_parts hp hσ hu hv (by omega) (by omega))⟩
 refine yB (jO (jO (yk (qX (qH (jc (.bool (true)) rfl (qI (jW (jR (L' := cellsH ub [ov] 234 :: slH 27 1 ov 48 bcs :: L) [.bool (true)] (.bool (true)) (.tmp rfl .nil) rfl leG1 rF (sD (sD (sD (sC (sC sR))))) ?_)))))))))
 exact ⟨_, _, _, rfl, hbC, fun _ => (by have e9 : l = [] := List.eq_nil_of_length_eq_zero (by omega); rw [e9] at hMI; exact hMI.done), fun h => (by cases h), rfl⟩
end Go.Proofs.Ytcdjpapjjoldeaa
