/-
  Walks, one after the other (part 3).
-/
import Derived.Test.YtiaanelimbmniaaQtL1
import Derived.Test.YtiaanelimbmniaaQtB1
set_option linter.unusedSimpArgs false
set_option linter.unusedVariables false
namespace Go.Proofs.Ytiaanelimbmniaa
open Go X M

/- spec.SubAt -/
theorem sSubAt_spec {F : FH} {L : List HP} {arv : Value} {ar : List Int} (har : IntsF F arv ar) {tv : Value} {t : List Int} (ht : IntsF F tv t) {p : Int} (hla : ar.length ≤ 4000000) (hlt : t.length ≤ 4000000) :
    Does Try.prog 146 [.agg #[arv], tv, .int .i64 (p)] F (L) (fun v F' L' => ∃ (a : Value), (a : Value) = v ∧ (IntsF F' a (if posOk ar t p = true then sub ar t p.toNat else [])) ∧ L = L') := by
 refine Does.of_X Try.func146 rfl rfl rfl ?_
 refine X.seq ?_
 refine X.region ?_
 refine XL.cons (XOp.box [arv] rfl rfl ?_)
 intro b1
 refine XL.cons (XOp.assign ((.slice none 0 0)) rfl ?_)
 refine XL.nil ?_
 refine X.seq ?_
 refine X.seq ?_
 refine X.region ?_
 refine XL.cons (XOp.loadN [arv] Try.isAgg30 Try.sizeOf30 rfl rfl (Rd.ownN [] rfl rfl) ?_)
 refine XL.cons (XOp.move (tv) rfl ?_)
 refine XL.cons (XOp.call (args := [.agg #[arv], tv]) Try.call87 rfl (sTermOk_spec har ht (hla := (by first | assumption | rfl | omega | (left; simp; done) | (right; simp; done))) (hlt := (by first | assumption | rfl | omega | (left; simp; done) | (right; simp; done)))) ?_)
 rintro _ _ _ _ ⟨rfl, rfl, rfl⟩
 refine XL.cons (XOp.notB (b := termOk ar t) rfl ?_)
 refine XL.cons (XOp.move (.bool (!(termOk ar t))) rfl ?_)
 by_cases h1 : (!(termOk ar t)) = true
 ·refine XL.no (t := 11) rfl (congrArg Value.bool h1) ?_
  refine XL.no (t := 11) rfl (congrArg Value.bool h1) ?_
  refine XL.no (t := 11) rfl (congrArg Value.bool h1) ?_
  refine XL.no (t := 11) rfl (congrArg Value.bool h1) ?_
  refine XL.cons (XOp.pickT (.bool (true)) (congrArg Value.bool h1) rfl ?_)
  refine XL.nil ?_
  refine X.condT rfl ?_
  refine X.seq ?_
  refine X.region ?_
  refine XL.cons (XOp.buildSlice (s := 1) [] [.int .i64 (0)] [] Try.runUnderlying22 Try.sizeOf2 Try.zeroValue2 rfl (by decide) rfl CellsAre.nil rfl ?_)
  intro v1 hv1
  refine XL.cons (XOp.assign (v1) rfl ?_)
  refine XL.nil ?_
  show X _ _ _ _ _ _ (intsH 2 v1 ([] : List Int) :: cellsH b1 [arv] 30 :: L)
  refine X.freezeF [] _ _ rfl (fun F1 le1 hz1 => ?_)
  replace har := har.mono le1
  replace ht := ht.mono le1
  have hf1 : IntsF F1 v1 ([]) := intsH.fz (xs := []) hz1.fz
  refine X.ret (thenQ_ret (retEnd (L' := L) [v1] (v1) (.tmp rfl .nil) rfl le1 (FLe.refl _) (Sub.drop (Sub.refl _)) ?_))
  exact ⟨_, rfl, by rw [if_neg (by rw [posOk_iff]; simp_all <;> omega)]; exact hf1, rfl⟩
 ·rw [Bool.not_eq_true] at h1
  refine XL.yes (t := 11) rfl (congrArg Value.bool h1) (XOp.move (tv) rfl ?_)
  refine XL.yes (t := 11) rfl (congrArg Value.bool h1) (XOp.move (.int .i64 (p)) rfl ?_)
  refine XL.yes (t := 11) rfl (congrArg Value.bool h1) (XOp.call (args := [tv, .int .i64 (p)]) Try.call88 rfl (l1There_spec (n := p) ht (hbd := (by first | assumption | rfl | omega | (left; simp; done) | (right; simp; done)))) ?_)
  rintro _ _ _ _ ⟨rfl, rfl, rfl⟩
  refine XL.yes (t := 11) rfl (congrArg Value.bool h1) (XOp.notD (p := 0 ≤ p ∧ p < (t.length : Int)) rfl ?_)
  refine XL.cons (XOp.pickF (.bool (decide (¬(0 ≤ p ∧ p < (t.length : Int))))) (congrArg Value.bool h1) rfl ?_)
  refine XL.nil ?_
  refine X.condD (p := ¬(0 ≤ p ∧ p < (t.length : Int))) rfl (fun h2 => ?_) (fun h2 => ?_)
  ·refine X.seq ?_
   refine X.region ?_
   refine XL.cons (XOp.buildSlice (s := 1) [] [.int .i64 (0)] [] Try.runUnderlying22 Try.sizeOf2 Try.zeroValue2 rfl (by decide) rfl CellsAre.nil rfl ?_)
   intro v2 hv2
   refine XL.cons (XOp.assign (v2) rfl ?_)
   refine XL.nil ?_
   show X _ _ _ _ _ _ (intsH 2 v2 ([] : List Int) :: cellsH b1 [arv] 30 :: L)
   refine X.freezeF [] _ _ rfl (fun F2 le2 hz2 => ?_)
   replace har := har.mono le2
   replace ht := ht.mono le2
   have hf2 : IntsF F2 v2 ([]) := intsH.fz (xs := []) hz2.fz
   refine X.ret (thenQ_ret (retEnd (L' := L) [v2] (v2) (.tmp rfl .nil) rfl le2 (FLe.refl _) (Sub.drop (Sub.refl _)) ?_))
   exact ⟨_, rfl, by rw [if_neg (by rw [posOk_iff]; simp_all <;> omega)]; exact hf2, rfl⟩
  ·refine X.skip ?_
   refine X.seq ?_
   refine X.region ?_
   have ho : termOk ar t = true := by simp_all
   have hpz : 0 ≤ p ∧ p < (t.length : Int) := by simp_all
   refine XL.cons (XOp.loadN [arv] Try.isAgg30 Try.sizeOf30 rfl rfl (Rd.ownN [] rfl rfl) ?_)
   refine XL.cons (XOp.move (tv) rfl ?_)
   refine XL.cons (XOp.move (.int .i64 (p)) rfl ?_)
   refine XL.cons (XOp.frzF <| XOp.call (args := [.agg #[arv], tv, .int .i64 (((p).toNat : Nat) : Int)]) Try.call106 (by rw [show (((p).toNat : Nat) : Int) = p from by omega]; rfl) (l1Sub_spec (p := (p).toNat) har ht (ho := (by first | assumption | rfl | omega | (left; simp; done) | (right; simp; done))) (hp := (by first | assumption | rfl | omega | (left; simp; done) | (right; simp; done)))) ?_)
   rintro v3 _ _ _ ⟨rfl, hs1, rfl⟩
   refine ⟨_, _, rfl, fun F3 le3 hz3 => ?_⟩
   replace har := har.mono le3
   replace ht := ht.mono le3
   have hf3 : IntsF F3 v3 ((sub ar t ((p).toNat))) := intsH.fz (xs := (sub ar t ((p).toNat))) hz3.fz
   refine XL.cons (XOp.assign (v3) rfl ?_)
   refine XL.nil ?_
   refine X.ret (retEnd (L' := L) [v3] (v3) (.tmp rfl .nil) rfl le3 (FLe.refl _) (Sub.drop (Sub.refl _)) ?_)
   exact ⟨_, rfl, by rw [if_pos (posOk_iff.2 ⟨ho, hpz⟩)]; exact hf3, rfl⟩
end Go.Proofs.Ytiaanelimbmniaa
set_option linter.unusedSimpArgs false
set_option linter.unusedVariables false
namespace Go.Proofs.Ytiaanelimbmniaa
open Go X M

/- impl.redexSteps -/
theorem redexSteps_spec {F : FH} {L : List HP} {arv : Value} {ar : List Int} (har : IntsF F arv ar) {rsv : Value} {rs : List (List Int × List Int)} (hrs : PairsF F rsv rs) {tv : Value} {t : List Int} (ht : IntsF F tv t) :
    Does Try.prog 107 [.agg #[arv, rsv], tv] F (L) (fun v F' L' => ∃ (bt bs : Nat), (.func (.func 133) #[] #[ptr bt 0, ptr bs 0] : Value) = v ∧ FzC F' bt [tv] ∧ FzC F' bs [arv, rsv] ∧ L = L') := by
 refine Does.of_X Try.func107 rfl rfl rfl ?_
 refine X.seq ?_
 refine X.region ?_
 refine XL.cons (XOp.box [arv, rsv] rfl rfl ?_)
 intro b1
 refine XL.cons (XOp.box [tv] rfl (cells_one (IntsF.isSl ht)) ?_)
 intro b2
 refine XL.cons (XOp.assign (.nilFunc) rfl ?_)
 refine XL.nil ?_
 refine X.seq ?_
 refine X.region ?_
 refine XL.cons (XOp.makeFuncL [] [ptr b2 0, ptr b1 0] rfl rfl ?_)
 refine XL.cons (XOp.assign (.func (.func 133) #[] #[ptr b2 0, ptr b1 0]) rfl ?_)
 refine XL.nil ?_
 refine X.freeze [] _ _ rfl (fun F1 le1 hz1 => ?_)
 replace har := har.mono le1
 replace hrs := hrs.mono le1
 replace ht := ht.mono le1
 have hf1 : FzC F1 b2 [tv] := Fz.cells hz1
 refine X.freeze [] _ _ rfl (fun F2 le2 hz2 => ?_)
 replace har := har.mono le2
 replace hrs := hrs.mono le2
 replace ht := ht.mono le2
 replace hf1 := hf1.mono le2
 have hf2 : FzC F2 b1 [arv, rsv] := Fz.cells hz2
 refine X.ret (retEnd (L' := L) [.func (.func 133) #[] #[ptr b2 0, ptr b1 0]] (.func (.func 133) #[] #[ptr b2 0, ptr b1 0]) (.tmp rfl .nil) rfl (FLe.trans le1 le2) (FLe.refl _) (Sub.refl _) ?_)
 exact ⟨_, _, rfl, hf1, hf2, rfl⟩

/- impl.redexSteps$1 -/
theorem redexIt_spec {F : FH} {L : List HP} {l bo bl bt bs : Nat} {R : Loop} {arv : Value} {ar : List Int} (har : IntsF F arv ar) {rsv : Value} {rs : List (List Int × List Int)} (hrs : PairsF F rsv rs) {tv : Value} {t : List Int} (ht : IntsF F tv t) (hbt : FzC F bt [tv]) (hbs : FzC F bs [arv, rsv]) (hsys : sysOk ar rs = true) (ho : termOk ar t = true) (hyes : ∀ (Fy : FH) (sv : Value) (ss : List StepT) (cs : List Value) (m : Nat) (lb : Bool) (i j : Int) (tov : Value) (to : List Int), F ≤ Fy → IsSl sv → StepsC Fy cs ss → m = ss.length → ss.length ≤ 4000000 → IntsF Fy tov to → Yld Try.prog l [.agg #[.int .i64 i, .int .i64 j, tov], .bool true] Fy (objH l (.loop R) :: cellsH bo [sv] 39 :: slH 77 3 sv m cs :: cellsH bl [.bool (lb)] 4 :: L) (fun v F' L' => .bool true = v ∧ Fy = F' ∧ ∃ sw, IsSl sw ∧ objH l (.loop R) :: cellsH bo [sw] 39 :: slH 77 3 sw (m + 1) (cs ++ [.int .i64 i, .int .i64 j, tov]) :: cellsH bl [.bool (lb)] 4 :: L = L')) (hno : ∀ (Fy : FH) (sv : Value) (cs : List Value) (m : Nat) (lb : Bool) (i j : Int) (tov : Value), F ≤ Fy → IsSl sv → IsSl tov → Yld Try.prog l [.agg #[.int .i64 i, .int .i64 j, tov], .bool false] Fy (objH l (.loop R) :: cellsH bo [sv] 39 :: slH 77 3 sv m cs :: cellsH bl [.bool (lb)] 4 :: L) (fun v F' L' => .bool true = v ∧ Fy = F' ∧ objH l (.loop R) :: cellsH bo [sv] 39 :: slH 77 3 sv m cs :: cellsH bl [.bool (true)] 4 :: L = L')) :
    Does Try.prog 133 [(.func (.yield l) #[] #[]), ptr bt 0, ptr bs 0] F (objH l (.loop R) :: cellsH bo [(.slice none 0 0)] 39 :: cellsH bl [.bool (false)] 4 :: L) (fun v F' L' => ∃ (sv : Value) (cs : List Value) (Ls : List HP), IsSl sv ∧ StepsC F' cs (stepsL ar rs t) ∧ DeepL 3 (StepO 2) cs (stepsL ar rs t) Ls ∧ Fresh F F' (star Ls) ∧ objH l (.loop R) :: cellsH bo [sv] 39 :: slH 77 3 sv ((stepsL ar rs t).length) cs :: cellsH bl [.bool (longL ar rs t)] 4 :: L = L') := by
 refine Does.of_X Try.func133 rfl rfl rfl ?_
 have hnn := notNil_of_pos ht (by have := termOk_len ho; omega)
 have htl := termOk_len ho
 have hrl := (sysOk_iff.1 hsys).2.1
 have hsig := (sysOk_iff.1 hsys).1
 have hsl := sigOk_spec hsig
 refine X.seq ?_
 refine X.region ?_
 refine XL.cons (XOp.load1 (v := tv) Try.isAgg22 rfl (FzC.rd1 hbt rfl) ?_)
 refine XL.cons (XOp.lenS (v := tv) (n := (t).length) Try.runUnderlying22 rfl ht.slv ?_)
 refine XL.cons (XOp.move (.int .i64 (0)) rfl ?_)
 refine XL.nil ?_
 refine X.block ?_
 refine X.loop (α := Nat × Value × List StepT × List Value × List HP × Nat × Bool × FH) (fun xQ => [(0, (.func (.yield l) #[] #[])), (1, ptr bt 0), (2, ptr bs 0), (9, tv), (10, .int .i64 ((((t).length : Nat) : Int))), (11, .int .i64 (((xQ.1 : Nat) : Int)))]) (fun xQ => slH 77 3 xQ.2.1 xQ.2.2.2.2.2.1 xQ.2.2.2.1 :: objH l (.loop R) :: cellsH bo [xQ.2.1] 39 :: cellsH bl [.bool (xQ.2.2.2.2.2.2.1)] 4 :: L) (fun xQ F' => xQ.2.2.2.2.2.2.2 = F' ∧ F ≤ xQ.2.2.2.2.2.2.2 ∧ (xQ.1 ≤ t.length) ∧ (IsSl xQ.2.1) ∧ (StepsC xQ.2.2.2.2.2.2.2 xQ.2.2.2.1 xQ.2.2.1) ∧ (xQ.2.2.2.2.2.1 = xQ.2.2.1.length) ∧ (DeepL 3 (StepO 2) xQ.2.2.2.1 xQ.2.2.1 xQ.2.2.2.2.1) ∧ (Fresh F xQ.2.2.2.2.2.2.2 (star xQ.2.2.2.2.1)) ∧ (xQ.2.2.1 = stepsTo ar rs t xQ.1) ∧ (xQ.2.2.2.2.2.2.1 = longTo ar rs t xQ.1)) (fun xQ => t.length - xQ.1) (0, (.slice none 0 0), [], [], [], 0, false, F) ⟨rfl, rfl, rfl, rfl, rfl, rfl, trivial⟩ (Sub.trans (Sub.addNil 77 3 _ _) (Sub.cons (Sub.cons (Sub.cons (Sub.cons (Sub.refl _)))))) ⟨rfl, FLe.refl _, (by (try dsimp only) <;> omega), (⟨_, _, _, rfl⟩), (CO.nil), (rfl), (DeepL.nil), (Fresh.nilL), (rfl), (rfl)⟩ ?_
 rintro ⟨k, sv, ss, cs, Ls, m, lb, G1⟩ rE _ _ ⟨rfl, leG, hk, hsv, hC, hm, hD, hZ, hss, hlb⟩
 show X _ _ _ _ (envs [(0, (.func (.yield l) #[] #[])), (1, ptr bt 0), (2, ptr bs 0), (9, tv), (10, .int .i64 ((((t).length : Nat) : Int))), (11, .int .i64 (((k : Nat) : Int)))] rE) _ (slH 77 3 sv m cs :: objH l (.loop R) :: cellsH bo [sv] 39 :: cellsH bl [.bool (lb)] 4 :: L)
 replace leG : F ≤ G1 := leG
 dsimp only at hk hsv hC hm hD hZ hss hlb
 have hsl1 := stepsTo_len (ar := ar) (t := t) (rs := rs) hrl k
 have hZo := hZ
 have hss0 := hss
 have hlb0 := hlb
 have leG1 := leG
 replace har := har.mono leG1
 replace hrs := hrs.mono leG1
 replace ht := ht.mono leG1
 replace hbt := hbt.mono leG1
 replace hbs := hbs.mono leG1
 refine X.seq ?_
 refine X.region ?_
 refine XL.cons (XOp.lss (a := ((k : Nat) : Int)) (b := (((t).length : Nat) : Int)) rfl rfl ?_)
 refine XL.nil ?_
 refine X.seq ?_
 refine X.condD (p := (((k : Nat) : Int) : Int) < (((t).length : Nat) : Int)) rfl (fun h1 => ?_) (fun h1 => ?_)
 ·refine X.skip ?_
  refine X.seq ?_
  refine X.block ?_
  refine X.seq ?_
  refine X.region ?_
  refine XL.cons (XOp.move (.int .i64 (((k : Nat) : Int))) rfl ?_)
  refine XL.cons (XOp.indexS (v := tv) (i := ((k : Nat) : Int)) (n := (t).length) k Try.runUnderlying22 Try.sizeOf2 rfl rfl rfl ht.slv (by omega) (Nat.mul_one _) ?_)
  refine XL.cons (XOp.load1 (v := .int .i64 (t.getD k 0)) Try.isAgg2 rfl (ht.rd (by omega)) ?_)
  refine XL.cons (XOp.assign (.int .i64 (((k : Nat) : Int))) rfl ?_)
  refine XL.cons (XOp.assign (.int .i64 (t.getD k 0)) rfl ?_)
  refine XL.nil ?_
  refine X.seq ?_
  refine X.region ?_
  refine XL.cons (XOp.fieldP (b := bs) (1) Try.runUnderlying33 rfl Try.sizeOf31 (by decide) rfl rfl ?_)
  refine XL.cons (XOp.load1 (v := rsv) Try.isAgg31 rfl (FzC.rd1 hbs rfl) ?_)
  refine XL.cons (XOp.lenS (v := rsv) (n := (rs).length) Try.runUnderlying31 rfl hrs.slv ?_)
  refine XL.cons (XOp.move (.int .i64 (0)) rfl ?_)
  refine XL.nil ?_
  refine X.block ?_
  refine X.loop (α := Nat × Value × List StepT × List Value × List HP × Nat × Bool × FH) (fun xQ => [(0, (.func (.yield l) #[] #[])), (1, ptr bt 0), (2, ptr bs 0), (4, .int .i64 (((k : Nat) : Int))), (5, .int .i64 (t.getD k 0)), (9, tv), (10, .int .i64 ((((t).length : Nat) : Int))), (11, .int .i64 (((k : Nat) : Int))), (18, .int .i64 ((((rs).length : Nat) : Int))), (19, .int .i64 (((xQ.1 : Nat) : Int)))]) (fun xQ => slH 77 3 xQ.2.1 xQ.2.2.2.2.2.1 xQ.2.2.2.1 :: objH l (.loop R) :: cellsH bo [xQ.2.1] 39 :: cellsH bl [.bool (xQ.2.2.2.2.2.2.1)] 4 :: L) (fun xQ F' => xQ.2.2.2.2.2.2.2 = F' ∧ G1 ≤ xQ.2.2.2.2.2.2.2 ∧ (xQ.1 ≤ rs.length) ∧ (IsSl xQ.2.1) ∧ (StepsC xQ.2.2.2.2.2.2.2 xQ.2.2.2.1 xQ.2.2.1) ∧ (xQ.2.2.2.2.2.1 = xQ.2.2.1.length) ∧ (DeepL 3 (StepO 2) xQ.2.2.2.1 xQ.2.2.1 xQ.2.2.2.2.1) ∧ (Fresh F xQ.2.2.2.2.2.2.2 (star xQ.2.2.2.2.1)) ∧ (xQ.2.2.1 = stepsTo ar rs t k ++ stepsRow ar rs t k xQ.1) ∧ (xQ.2.2.2.2.2.2.1 = (longTo ar rs t k || longRow ar rs t k xQ.1))) (fun xQ => rs.length - xQ.1) (0, sv, ss, cs, Ls, m, lb, G1) ⟨rfl, rfl, rfl, rfl, rfl, rfl, rfl, rfl, rfl, rfl, trivial⟩ (Sub.cons (Sub.cons (Sub.cons (Sub.cons (Sub.refl _))))) ⟨rfl, FLe.refl _, (by (try dsimp only) <;> omega), (hsv), (hC), (hm), (hD), (hZ), (by (try dsimp only); rw [hss0]; simp [stepsRow]), (by (try dsimp only); rw [hlb0]; simp [longRow])⟩ ?_
  rintro ⟨r, sv, ss, cs, Ls, m, lb, G2⟩ rE _ _ ⟨rfl, leG, hr, hsvi, hCi, hmi, hDi, hZi, hssi, hlbi⟩
  show X _ _ _ _ (envs [(0, (.func (.yield l) #[] #[])), (1, ptr bt 0), (2, ptr bs 0), (4, .int .i64 (((k : Nat) : Int))), (5, .int .i64 (t.getD k 0)), (9, tv), (10, .int .i64 ((((t).length : Nat) : Int))), (11, .int .i64 (((k : Nat) : Int))), (18, .int .i64 ((((rs).length : Nat) : Int))), (19, .int .i64 (((r : Nat) : Int)))] rE) _ (slH 77 3 sv m cs :: objH l (.loop R) :: cellsH bo [sv] 39 :: cellsH bl [.bool (lb)] 4 :: L)
  replace leG : G1 ≤ G2 := leG
  dsimp only at hr hsvi hCi hmi hDi hZi hssi hlbi
  have hsl2 := stepsRow_len (ar := ar) (rs := rs) (t := t) (p := k) r
  have hssl : ss.length ≤ 1000 := by rw [hssi, List.length_append]; omega
  have leG2 := leG
  replace har := har.mono leG2
  replace hrs := hrs.mono leG2
  replace ht := ht.mono leG2
  replace hbt := hbt.mono leG2
  replace hbs := hbs.mono leG2
  replace hC := hC.mono leG2
  refine X.seq ?_
  refine X.region ?_
  refine XL.cons (XOp.lss (a := ((r : Nat) : Int)) (b := (((rs).length : Nat) : Int)) rfl rfl ?_)
  refine XL.nil ?_
  refine X.seq ?_
  refine X.condD (p := (((r : Nat) : Int) : Int) < (((rs).length : Nat) : Int)) rfl (fun h2 => ?_) (fun h2 => ?_)
  ·refine X.skip ?_
   refine X.seq ?_
   refine X.block ?_
   refine X.seq ?_
   refine X.region ?_
   refine XL.cons (XOp.move (.int .i64 (((r : Nat) : Int))) rfl ?_)
   refine XL.cons (XOp.assign (.int .i64 (((r : Nat) : Int))) rfl ?_)
   refine XL.nil ?_
   refine X.seq ?_
   refine X.seq ?_
   refine X.region ?_
   refine XL.cons (XOp.move (.int .i64 (t.getD k 0)) rfl ?_)
   refine XL.cons (XOp.lss (a := t.getD k 0) (b := 0) rfl rfl ?_)
   refine XL.cons (XOp.move (.bool (decide ((t.getD k 0 : Int) < 0))) rfl ?_)
   by_cases h3 : (t.getD k 0 : Int) < 0
   ·have hone := one_none (isRedex_var (p := k) (r := r) hsys ho (by omega) (by omega) (show r < rs.length by omega))
    refine XL.no (t := 24) rfl (congrArg Value.bool (decide_eq_true h3)) ?_
    refine XL.no (t := 24) rfl (congrArg Value.bool (decide_eq_true h3)) ?_
    refine XL.no (t := 24) rfl (congrArg Value.bool (decide_eq_true h3)) ?_
    refine XL.no (t := 24) rfl (congrArg Value.bool (decide_eq_true h3)) ?_
    refine XL.no (t := 24) rfl (congrArg Value.bool (decide_eq_true h3)) ?_
    refine XL.no (t := 24) rfl (congrArg Value.bool (decide_eq_true h3)) ?_
    refine XL.cons (XOp.pickT (.bool (true)) (congrArg Value.bool (decide_eq_true h3)) rfl ?_)
    refine XL.nil ?_
    refine X.condT rfl ?_
    refine X.exit (thenQ_exit (blockQ_exit ?_))
    refine X.region ?_
    refine XL.cons (XOp.addR (a := ((r : Nat) : Int)) (b := 1) (((r + 1 : Nat) : Int)) rfl rfl (by omega) (by omega) ?_)
    refine XL.cons (XOp.move (.int .i64 (((r + 1 : Nat) : Int))) rfl ?_)
    refine XL.nil ?_
    exact ⟨(r + 1, sv, ss, cs, Ls, m, lb, G2), _, leG2, (FLe.refl _), ⟨rfl, rfl, rfl, rfl, rfl, rfl, rfl, rfl, rfl, rfl, trivial⟩, (Sub.cons (Sub.cons (Sub.cons (Sub.cons (Sub.refl _))))), ⟨rfl, leG2, (by (try dsimp only) <;> omega), (hsvi), (hCi), (by (try dsimp only); (try rw [List.length_append, List.length_singleton]); omega), (hDi), (hZi), (by (try dsimp only); rw [hssi, stepsRow_succ, hone.1]; simp), (by (try dsimp only); rw [longRow_succ, hone.2]; (try rw [hlbi]); simp)⟩, (by omega)⟩
   ·refine XL.yes (t := 24) rfl (congrArg Value.bool (decide_eq_false h3)) (XOp.loadN [arv, rsv] Try.isAgg33 Try.sizeOf33 rfl rfl (FzC.rd hbs rfl) ?_)
    refine XL.yes (t := 24) rfl (congrArg Value.bool (decide_eq_false h3)) (XOp.load1 (v := tv) Try.isAgg22 rfl (FzC.rd1 hbt rfl) ?_)
    refine XL.yes (t := 24) rfl (congrArg Value.bool (decide_eq_false h3)) (XOp.move (.int .i64 (((k : Nat) : Int))) rfl ?_)
    refine XL.yes (t := 24) rfl (congrArg Value.bool (decide_eq_false h3)) (XOp.move (.int .i64 (((r : Nat) : Int))) rfl ?_)
    refine XL.yes (t := 24) rfl (congrArg Value.bool (decide_eq_false h3)) (XOp.call (args := [.agg #[arv, rsv], tv, .int .i64 ((k : Nat) : Int), .int .i64 ((r : Nat) : Int)]) Try.call123 rfl (redex_spec (p := k) (r := r) har hrs ht (hsys := (by first | assumption | rfl | omega | (left; simp; done) | (right; simp; done))) (ho := (by first | assumption | rfl | omega | (left; simp; done) | (right; simp; done))) (hp := (by first | assumption | rfl | omega | (left; simp; done) | (right; simp; done))) (hr := (by first | assumption | rfl | omega | (left; simp; done) | (right; simp; done)))) ?_)
    rintro _ _ _ _ ⟨rfl, rfl, rfl⟩
    refine XL.yes (t := 24) rfl (congrArg Value.bool (decide_eq_false h3)) (XOp.notB (b := isRedex ar rs t k r) rfl ?_)
    refine XL.cons (XOp.pickF (.bool (!(isRedex ar rs t k r))) (congrArg Value.bool (decide_eq_false h3)) rfl ?_)
    refine XL.nil ?_
    refine X.cond (t := !(isRedex ar rs t k r)) rfl (fun h4 => ?_) (fun h4 => ?_)
    ·have hone := one_none (show isRedex ar rs t k r = false by simpa using h4)
     refine X.exit (thenQ_exit (blockQ_exit ?_))
     refine X.region ?_
     refine XL.cons (XOp.addR (a := ((r : Nat) : Int)) (b := 1) (((r + 1 : Nat) : Int)) rfl rfl (by omega) (by omega) ?_)
     refine XL.cons (XOp.move (.int .i64 (((r + 1 : Nat) : Int))) rfl ?_)
     refine XL.nil ?_
     exact ⟨(r + 1, sv, ss, cs, Ls, m, lb, G2), _, leG2, (FLe.refl _), ⟨rfl, rfl, rfl, rfl, rfl, rfl, rfl, rfl, rfl, rfl, trivial⟩, (Sub.cons (Sub.cons (Sub.cons (Sub.cons (Sub.refl _))))), ⟨rfl, leG2, (by (try dsimp only) <;> omega), (hsvi), (hCi), (by (try dsimp only); (try rw [List.length_append, List.length_singleton]); omega), (hDi), (hZi), (by (try dsimp only); rw [hssi, stepsRow_succ, hone.1]; simp), (by (try dsimp only); rw [longRow_succ, hone.2]; (try rw [hlbi]); simp)⟩, (by omega)⟩
    ·have hrx : isRedex ar rs t k r = true := by simpa using h4
     refine X.skip ?_
     refine X.seq ?_
     refine X.region ?_
     refine XL.cons (XOp.loadN [arv, rsv] Try.isAgg33 Try.sizeOf33 rfl rfl (FzC.rd hbs rfl) ?_)
     refine XL.cons (XOp.load1 (v := tv) Try.isAgg22 rfl (FzC.rd1 hbt rfl) ?_)
     refine XL.cons (XOp.move (.int .i64 (((k : Nat) : Int))) rfl ?_)
     refine XL.cons (XOp.move (.int .i64 (((r : Nat) : Int))) rfl ?_)
     refine XL.cons (XOp.call (args := [.agg #[arv, rsv], tv, .int .i64 ((k : Nat) : Int), .int .i64 ((r : Nat) : Int)]) Try.call119 rfl (step_spec (p := k) (r := r) har hrs ht (hsys := (by first | assumption | rfl | omega | (left; simp; done) | (right; simp; done))) (ho := (by first | assumption | rfl | omega | (left; simp; done) | (right; simp; done))) (hp := (by first | assumption | rfl | omega | (left; simp; done) | (right; simp; done))) (hr := (by first | assumption | rfl | omega | (left; simp; done) | (right; simp; done)))) ?_)
     rintro _ F1 _ le1 ⟨x1, rfl, hr1, hr2, hr3, rfl⟩
     replace har := har.mono le1
     replace hrs := hrs.mono le1
     replace ht := ht.mono le1
     replace hbt := hbt.mono le1
     replace hbs := hbs.mono le1
     replace hC := hC.mono le1
     replace hCi := hCi.mono le1
     refine XL.cons (XOp.move (.tuple #[x1, .bool ((stepL ar rs t k r).isSome)]) rfl ?_)
     refine XL.cons (XOp.extract (x1) rfl rfl ?_)
     refine XL.cons (XOp.extract (.bool ((stepL ar rs t k r).isSome)) rfl rfl ?_)
     refine XL.cons (XOp.assign (x1) rfl ?_)
     refine XL.cons (XOp.assign (.bool ((stepL ar rs t k r).isSome)) rfl ?_)
     refine XL.nil ?_
     refine X.seq ?_
     refine X.ofI (by kernel_rfl) ?_
     refine XI.region ?_
     refine XIL.cons (XOp.move ((.func (.yield l) #[] #[])) rfl ?_)
     refine XIL.cons (XOp.move (.int .i64 (((k : Nat) : Int))) rfl ?_)
     refine XIL.cons (XOp.move (.int .i64 (((r : Nat) : Int))) rfl ?_)
     refine XIL.cons (XOp.move (x1) rfl ?_)
     refine XIL.cons (XOp.build [.int .i64 (((k : Nat) : Int)), .int .i64 (((r : Nat) : Int)), x1] [.int .i64 (0), .int .i64 (0), (.slice none 0 0)] [(0, 1), (1, 1), (2, 1)] [(0, [.int .i64 (((k : Nat) : Int))]), (1, [.int .i64 (((r : Nat) : Int))]), (2, [x1])] Try.runUnderlying77 Try.zeroValue77 rfl (.cons rfl Try.sizeOf2 (.cons rfl Try.sizeOf2 (.cons rfl Try.sizeOf22 PlacesAre.nil))) rfl (.cons rfl (.cons rfl (.cons (cells_one (IntsF.isSl hr1)) CellsAre.nil))) ?_)
     refine XIL.cons (XOp.move (.bool ((stepL ar rs t k r).isSome)) rfl ?_)
     by_cases h5 : ((stepL ar rs t k r).isSome) = true
     ·refine XIL.yield (k := l) (args := [.agg #[.int .i64 (((k : Nat) : Int)), .int .i64 (((r : Nat) : Int)), x1], .bool true]) rfl (by rw [← h5]; rfl) ?_
      refine Yld.weaken (Sub.trans (Sub.front (A := [_, _, _])) (Sub.trans (Sub.front (A := [_])) (Sub.trans (Sub.front (A := [_, _, _])) (Sub.trans (Sub.front (A := [_, _, _])) (Sub.cons (Sub.cons (Sub.cons (Sub.cons (Sub.refl _))))))))) ?_
      have hone := one_some h5
      refine (hyes _ _ _ _ _ _ _ _ _ _ (FLe.trans (FLe.trans leG1 leG2) le1) hsvi hCi hmi (by omega) hr1).mono ?_
      rintro _ _ _ _ ⟨rfl, rfl, sw1, hs1, rfl⟩
      have hc1 := StepsC.snoc hCi (i := ((k : Nat) : Int)) (j := ((r : Nat) : Int)) hr1
      show XIL _ _ _ _ _ _ _ _ _ (objH l (.loop R) :: cellsH bo [sw1] 39 :: slH 77 3 sw1 (m + 1) ((cs ++ [.int .i64 (((k : Nat) : Int)), .int .i64 (((r : Nat) : Int)), x1])) :: cellsH bl [.bool (lb)] 4 :: L)
      refine XIL.cons (XOp.notB (b := true) rfl ?_)
      refine XIL.nil ?_
      refine X.condF rfl ?_
      refine X.skip ?_
      refine X.region ?_
      refine XL.cons (XOp.addR (a := ((r : Nat) : Int)) (b := 1) (((r + 1 : Nat) : Int)) rfl rfl (by omega) (by omega) ?_)
      refine XL.cons (XOp.move (.int .i64 (((r + 1 : Nat) : Int))) rfl ?_)
      refine XL.nil ?_
      exact ⟨(r + 1, sw1, (ss ++ [(((k : Nat) : Int), ((r : Nat) : Int), (stepL ar rs t k r).getD [])]), (cs ++ [.int .i64 (((k : Nat) : Int)), .int .i64 (((r : Nat) : Int)), x1]), Ls ++ [intsH 2 x1 ((stepL ar rs t k r).getD [])], m + 1, lb, F1), _, (FLe.trans leG2 le1), (FLe.refl _), ⟨rfl, rfl, rfl, rfl, rfl, rfl, rfl, rfl, rfl, rfl, trivial⟩, (Sub.trans (Sub.front (A := [_, _, _])) (Sub.trans (Sub.front (A := [_, _])) (Sub.trans (Sub.front (A := [_, _])) (Sub.trans (Sub.front (A := [_, _, _])) (Sub.cons (Sub.cons (Sub.cons (Sub.cons (Sub.refl _))))))))), ⟨rfl, (FLe.trans leG2 le1), (by (try dsimp only) <;> omega), (hs1), (hc1), (by (try dsimp only); (try rw [List.length_append, List.length_singleton]); omega), (DeepL.snoc hDi rfl ⟨_, rfl, rfl⟩), ((Fresh.app hZi (FLe.trans leG1 leG2) (Fresh.one hr3) le1)), (by (try dsimp only); rw [hssi, stepsRow_succ, hone.1]; simp), (by (try dsimp only); rw [longRow_succ, hone.2]; (try rw [hlbi]); simp)⟩, (by omega)⟩
     ·rw [Bool.not_eq_true] at h5
      refine XIL.yield (k := l) (args := [.agg #[.int .i64 (((k : Nat) : Int)), .int .i64 (((r : Nat) : Int)), x1], .bool false]) rfl (by rw [← h5]; rfl) ?_
      refine Yld.weaken (Sub.trans (Sub.front (A := [_, _, _])) (Sub.trans (Sub.front (A := [_])) (Sub.trans (Sub.front (A := [_, _, _])) (Sub.trans (Sub.front (A := [_, _, _])) (Sub.cons (Sub.cons (Sub.cons (Sub.cons (Sub.refl _))))))))) ?_
      have hone := one_long hrx h5
      refine (hno _ _ _ _ _ _ _ _ (FLe.trans (FLe.trans leG1 leG2) le1) hsvi (IntsF.isSl hr1)).mono ?_
      rintro _ _ _ _ ⟨rfl, rfl, rfl⟩
      show XIL _ _ _ _ _ _ _ _ _ (objH l (.loop R) :: cellsH bo [sv] 39 :: slH 77 3 sv m cs :: cellsH bl [.bool (true)] 4 :: L)
      refine XIL.cons (XOp.notB (b := true) rfl ?_)
      refine XIL.nil ?_
      refine X.condF rfl ?_
      refine X.skip ?_
      refine X.region ?_
      refine XL.cons (XOp.addR (a := ((r : Nat) : Int)) (b := 1) (((r + 1 : Nat) : Int)) rfl rfl (by omega) (by omega) ?_)
      refine XL.cons (XOp.move (.int .i64 (((r + 1 : Nat) : Int))) rfl ?_)
      refine XL.nil ?_
      exact ⟨(r + 1, sv, ss, cs, Ls, m, true, F1), _, (FLe.trans leG2 le1), (FLe.refl _), ⟨rfl, rfl, rfl, rfl, rfl, rfl, rfl, rfl, rfl, rfl, trivial⟩, (Sub.trans (Sub.front (A := [_, _, _])) (Sub.trans (Sub.front (A := [_, _])) (Sub.trans (Sub.front (A := [_, _])) (Sub.trans (Sub.front (A := [_, _, _])) (Sub.cons (Sub.cons (Sub.cons (Sub.cons (Sub.refl _))))))))), ⟨rfl, (FLe.trans leG2 le1), (by (try dsimp only) <;> omega), (hsvi), (hCi), (by (try dsimp only); (try rw [List.length_append, List.length_singleton]); omega), (hDi), ((hZi.mono le1)), (by (try dsimp only); rw [hssi, stepsRow_succ, hone.1]; simp), (by (try dsimp only); rw [longRow_succ, hone.2]; (try rw [hlbi]); simp)⟩, (by omega)⟩
  ·refine X.exit (thenQ_exit (thenQ_exit (blockQ_exit ?_)))
   refine X.region ?_
   refine XL.cons (XOp.addR (a := ((k : Nat) : Int)) (b := 1) (((k + 1 : Nat) : Int)) rfl rfl (by omega) (by omega) ?_)
   refine XL.cons (XOp.move (.int .i64 (((k + 1 : Nat) : Int))) rfl ?_)
   refine XL.nil ?_
   exact ⟨(k + 1, sv, ss, cs, Ls, m, lb, G2), _, (FLe.trans leG1 leG2), (FLe.refl _), ⟨rfl, rfl, rfl, rfl, rfl, rfl, trivial⟩, (Sub.cons (Sub.cons (Sub.cons (Sub.cons (Sub.refl _))))), ⟨rfl, (FLe.trans leG1 leG2), (by (try dsimp only) <;> omega), (hsvi), (hCi), (hmi), (hDi), (hZi), (by dsimp only; rw [hssi, stepsTo_succ, show r = rs.length from by omega]), (by dsimp only; rw [hlbi, longTo_succ, show r = rs.length from by omega])⟩, (by omega)⟩
 ·refine X.exit (thenQ_exit (thenQ_exit (blockQ_exit ?_)))
  refine id (retEndN (L' := objH l (.loop R) :: cellsH bo [sv] 39 :: slH 77 3 sv m cs :: cellsH bl [.bool (lb)] 4 :: L) [] (.tuple #[]) (by exact .nil) rfl leG1 (FLe.refl _) (Sub.trans (Sub.front (A := [_, _, _])) (Sub.trans (Sub.front (A := [_])) (Sub.trans (Sub.front (A := [_, _, _])) (Sub.trans (Sub.front (A := [_, _, _])) (Sub.cons (Sub.cons (Sub.cons (Sub.cons (Sub.refl _))))))))) ?_)
  have hkl : k = t.length := by omega
  have e1 : stepsL ar rs t = ss := by rw [hss, hkl]; rfl
  have e2 : longL ar rs t = lb := by rw [hlb, hkl]; rfl
  rw [e1, e2]
  subst hm
  exact ⟨sv, cs, Ls, hsv, hC, hD, hZ, rfl⟩

/- impl.stepsFrom -/
set_option maxRecDepth 20000 in
theorem stepsFrom_spec {F : FH} {L : List HP} {arv : Value} {ar : List Int} (har : IntsF F arv ar) {rsv : Value} {rs : List (List Int × List Int)} (hrs : PairsF F rsv rs) {tv : Value} {t : List Int} (ht : IntsF F tv t) (hsys : sysOk ar rs = true) (ho : termOk ar t = true) :
    Does Try.prog 84 [.agg #[arv, rsv], tv] F (L) (fun v F' L' => ∃ (a : Value), (.tuple #[a, .bool (longL ar rs t)] : Value) = v ∧ FrStepsF F F' 2 a (stepsL ar rs t) ∧ L = L') := by
 refine Does.of_XF Try.func84 rfl (by kernel_rfl) rfl ?_
 have hnn := notNil_of_pos ht (by have := termOk_len ho; omega)
 have htl := termOk_len ho
 have hrl := (sysOk_iff.1 hsys).2.1
 have hsig := (sysOk_iff.1 hsys).1
 have hsl := sigOk_spec hsig
 refine XF.seq ?_
 refine X.region ?_
 refine XL.cons (XOp.box [arv, rsv] rfl rfl ?_)
 intro b1
 refine XL.cons (XOp.assign ((.slice none 0 0)) rfl ?_)
 refine XL.cons (XOp.assign (.bool (false)) rfl ?_)
 refine XL.nil ?_
 refine XF.seq ?_
 refine X.region ?_
 refine XL.cons (XOp.alloc [(.slice none 0 0)] Try.zeroValue39 rfl ?_)
 intro b2
 refine XL.nil ?_
 refine XF.seq ?_
 refine X.region ?_
 refine XL.cons (XOp.alloc [.bool (false)] Try.zeroValue4 rfl ?_)
 intro b3
 refine XL.cons (XOp.store1 (v := .bool (false)) [] _ [.bool (false)] Try.sizeOf4 rfl rfl rfl rfl rfl rfl ?_)
 refine XL.nil ?_
 refine XF.ofR ?_
 refine XR.seq ?_
 refine X.region ?_
 refine XL.cons (XOp.loadN [arv, rsv] Try.isAgg33 Try.sizeOf33 rfl rfl (Rd.ownN [_, _] rfl rfl) ?_)
 refine XL.cons (XOp.move (tv) rfl ?_)
 refine XL.cons (XOp.call (args := [.agg #[arv, rsv], tv]) Try.call107 rfl (redexSteps_spec har hrs ht) ?_)
 rintro _ F1 _ le1 ⟨x1, x2, rfl, hb1, hb2, rfl⟩
 replace har := har.mono le1
 replace hrs := hrs.mono le1
 replace ht := ht.mono le1
 refine XL.nil ?_
 refine XR.rangeB (gf := 133) (lb := [ptr x1 0, ptr x2 0]) rfl Try.call133 (fun l D R hRs hRp hRps hRa hRb hRz hRg => ?_)
 have hR0 : ({ R with state := .ready, pending := none } : Loop) = R := by
  cases R
  simp only at hRs hRp
  subst hRs hRp
  rfl
 have hyes : ∀ (Fy : FH) (sv : Value) (ss : List StepT) (cs : List Value) (m : Nat) (lb : Bool) (i j : Int) (tov : Value) (to : List Int), F1 ≤ Fy → IsSl sv → StepsC Fy cs ss → m = ss.length → ss.length ≤ 4000000 → IntsF Fy tov to → Yld Try.prog l [.agg #[.int .i64 i, .int .i64 j, tov], .bool true] Fy (objH l (.loop R) :: cellsH b2 [sv] 39 :: slH 77 3 sv m cs :: cellsH b3 [.bool (lb)] 4 :: objH D (.deferred (some [])) :: L) (fun v F' L' => .bool true = v ∧ Fy = F' ∧ ∃ sw, IsSl sw ∧ objH l (.loop R) :: cellsH b2 [sw] 39 :: slH 77 3 sw (m + 1) (cs ++ [.int .i64 i, .int .i64 j, tov]) :: cellsH b3 [.bool (lb)] 4 :: objH D (.deferred (some [])) :: L = L') := by
  intro Fy sv ss cs m lb i j tov to leF hsv hC hm hsb hto
  refine Yld.of_round hRs hRp hRps hRa hRb hRz hRg rfl (by kernel_rfl) (by kernel_rfl) (by kernel_rfl) ?_
  refine XI.slots [(13, .agg #[.int .i64 (i), .int .i64 (j), tov]), (14, .bool (true)), (6, ptr b2 0), (7, ptr b3 0)] ⟨rfl, rfl, rfl, rfl, trivial⟩ (fun rE => ?_)
  refine XI.seq ?_
  refine XI.region ?_
  refine XIL.cons (XOp.alloc [.int .i64 (0), .int .i64 (0), (.slice none 0 0)] Try.zeroValue77 rfl ?_)
  intro b4
  refine XIL.cons (XOp.storeN (vs := [.int .i64 (i), .int .i64 (j), tov]) [] _ [.int .i64 (i), .int .i64 (j), tov] Try.sizeOf77 rfl rfl rfl (ones_cons rfl (ones_cons rfl (ones_cons (one_sl (IntsF.isSl hto)) ones_nil))) rfl rfl rfl ?_)
  refine XIL.nil ?_
  refine XI.region ?_
  refine XIL.cons (XOp.assign (.bool (true)) rfl ?_)
  refine XIL.nil ?_
  refine ⟨cellsH b4 [.int .i64 (i), .int .i64 (j), tov] 77 :: cellsH b2 [sv] 39 :: slH 77 3 sv m cs :: cellsH b3 [.bool (lb)] 4 :: objH D (.deferred (some [])) :: L, (Sub.trans (Sub.front (A := [_, _, _, _])) (Sub.trans (Sub.front (A := [_, _, _, _])) (Sub.trans (Sub.front (A := [_, _, _, _])) (Sub.trans (Sub.front (A := [_, _, _])) (Sub.trans (Sub.front (A := [_, _, _, _])) (Sub.cons (Sub.cons (Sub.cons (Sub.cons (Sub.cons (Sub.refl _))))))))))), ?_⟩
  refine XI.block ?_
  refine XI.seq ?_
  refine XI.region ?_
  refine XIL.cons (XOp.move (.bool (true)) rfl ?_)
  refine XIL.nil ?_
  refine XI.condT rfl ?_
  refine XI.region ?_
  refine XIL.cons (XOp.load1 (v := sv) Try.isAgg39 rfl (Rd.own [_, _] rfl rfl) ?_)
  refine XIL.cons (XOp.loadN [.int .i64 (i), .int .i64 (j), tov] Try.isAgg77 Try.sizeOf77 rfl rfl (Rd.ownN [_] rfl rfl) ?_)
  refine XIL.cons (XOp.buildSlice (s := 3) [.int .i64 (i), .int .i64 (j), tov] [.int .i64 (0), .int .i64 (0), (.slice none 0 0)] [(0, [.int .i64 (i), .int .i64 (j), tov])] Try.runUnderlying39 Try.sizeOf77 Try.zeroValue77 rfl (by decide) rfl (.cons rfl CellsAre.nil) rfl ?_)
  intro v1 hv1
  refine XIL.cons (XOp.append (m := 1) (bytes := 40) (cs := cs) [_, _, _, _] _ [.int .i64 (i), .int .i64 (j), tov] Try.runUnderlying39 Try.typeInfo77 rfl rfl rfl rfl rfl rfl rfl (SlV.own [] rfl) rfl (Rd.lit [] rfl) (ones_cons rfl (ones_cons rfl (ones_cons (one_sl (IntsF.isSl hto)) ones_nil))) (by (try simp only [List.length_append, List.length_nil, List.length_cons, List.length_singleton]); omega) (by (try simp only [List.length_append, List.length_nil, List.length_cons, List.length_singleton]); omega) ?_)
  intro v2 hs1 hn1 hm1
  have hc1 := StepsC.snoc hC (i := i) (j := j) hto
  refine XIL.cons (XOp.store1 (v := v2) [_, _, _] _ [v2] Try.sizeOf39 rfl rfl (one_sl hs1) rfl rfl rfl ?_)
  refine XIL.nil ?_
  refine ⟨rfl, ?_⟩
  refine ⟨cellsH b2 [v2] 39 :: slH 77 3 v2 ((m) + 1) (cs ++ [.int .i64 (i), .int .i64 (j), tov]) :: cellsH b3 [.bool (lb)] 4 :: objH D (.deferred (some [])) :: L, (Sub.drop (Sub.cons (Sub.drop (Sub.cons (Sub.cons (Sub.cons (Sub.refl _))))))), ?_⟩
  rw [hR0]
  exact ⟨rfl, rfl, _, hs1, rfl⟩
 have hno : ∀ (Fy : FH) (sv : Value) (cs : List Value) (m : Nat) (lb : Bool) (i j : Int) (tov : Value), F1 ≤ Fy → IsSl sv → IsSl tov → Yld Try.prog l [.agg #[.int .i64 i, .int .i64 j, tov], .bool false] Fy (objH l (.loop R) :: cellsH b2 [sv] 39 :: slH 77 3 sv m cs :: cellsH b3 [.bool (lb)] 4 :: objH D (.deferred (some [])) :: L) (fun v F' L' => .bool true = v ∧ Fy = F' ∧ objH l (.loop R) :: cellsH b2 [sv] 39 :: slH 77 3 sv m cs :: cellsH b3 [.bool (true)] 4 :: objH D (.deferred (some [])) :: L = L') := by
  intro Fy sv cs m lb i j tov leF hsv htv
  refine Yld.of_round hRs hRp hRps hRa hRb hRz hRg rfl (by kernel_rfl) (by kernel_rfl) (by kernel_rfl) ?_
  refine XI.slots [(13, .agg #[.int .i64 (i), .int .i64 (j), tov]), (14, .bool (false)), (6, ptr b2 0), (7, ptr b3 0)] ⟨rfl, rfl, rfl, rfl, trivial⟩ (fun rE => ?_)
  refine XI.seq ?_
  refine XI.region ?_
  refine XIL.cons (XOp.alloc [.int .i64 (0), .int .i64 (0), (.slice none 0 0)] Try.zeroValue77 rfl ?_)
  intro b5
  refine XIL.cons (XOp.storeN (vs := [.int .i64 (i), .int .i64 (j), tov]) [] _ [.int .i64 (i), .int .i64 (j), tov] Try.sizeOf77 rfl rfl rfl (ones_cons rfl (ones_cons rfl (ones_cons (one_sl htv) ones_nil))) rfl rfl rfl ?_)
  refine XIL.nil ?_
  refine XI.region ?_
  refine XIL.cons (XOp.assign (.bool (false)) rfl ?_)
  refine XIL.nil ?_
  refine ⟨cellsH b5 [.int .i64 (i), .int .i64 (j), tov] 77 :: cellsH b2 [sv] 39 :: slH 77 3 sv m cs :: cellsH b3 [.bool (lb)] 4 :: objH D (.deferred (some [])) :: L, (Sub.trans (Sub.front (A := [_, _, _, _])) (Sub.trans (Sub.front (A := [_, _, _, _])) (Sub.trans (Sub.front (A := [_, _, _, _])) (Sub.trans (Sub.front (A := [_, _, _])) (Sub.trans (Sub.front (A := [_, _, _, _])) (Sub.cons (Sub.cons (Sub.cons (Sub.cons (Sub.cons (Sub.refl _))))))))))), ?_⟩
  refine XI.block ?_
  refine XI.seq ?_
  refine XI.region ?_
  refine XIL.cons (XOp.move (.bool (false)) rfl ?_)
  refine XIL.nil ?_
  refine XI.condF rfl ?_
  refine XI.region ?_
  refine XIL.cons (XOp.store1 (v := .bool (true)) [_, _, _, _] _ [.bool (true)] Try.sizeOf4 rfl rfl rfl rfl rfl rfl ?_)
  refine XIL.nil ?_
  refine ⟨rfl, ?_⟩
  refine ⟨cellsH b2 [sv] 39 :: slH 77 3 sv m cs :: cellsH b3 [.bool (true)] 4 :: objH D (.deferred (some [])) :: L, (Sub.cons (Sub.drop (Sub.cons (Sub.cons (Sub.cons (Sub.refl _)))))), ?_⟩
  rw [hR0]
  exact ⟨rfl, rfl, rfl⟩
 refine (Does.weaken (Sub.trans (Sub.front (A := [_])) (Sub.trans (Sub.front (A := [_, _])) (Sub.trans (Sub.front (A := [_, _, _])) (Sub.trans (Sub.front (A := [_, _, _])) (Sub.cons (Sub.cons (Sub.cons (Sub.cons (Sub.drop (Sub.refl _)))))))))) (redexIt_spec har hrs ht hb1 hb2 hsys ho hyes hno)).mono ?_
 rintro _ F9 _ le9 ⟨sv, cs, Ls, hsv, hC, hD, hZ, rfl⟩
 replace har := har.mono le9
 replace hrs := hrs.mono le9
 replace ht := ht.mono le9
 replace hb1 := hb1.mono le9
 replace hb2 := hb2.mono le9
 refine ⟨R, cellsH b2 [sv] 39 :: slH 77 3 sv ((stepsL ar rs t).length) cs :: cellsH b3 [.bool (longL ar rs t)] 4 :: L, by rw [hRs]; simp, hRp, (Sub.trans (Sub.front (A := [_, _, _])) (Sub.trans (Sub.front (A := [_, _, _])) (Sub.trans (Sub.front (A := [_, _, _])) (Sub.trans (Sub.front (A := [_, _, _, _])) (Sub.trans (Sub.front (A := [_, _, _, _])) (Sub.cons (Sub.cons (Sub.cons (Sub.cons (Sub.cons (Sub.refl _))))))))))), ?_⟩
 refine XI.seq ?_
 refine XI.draw [objH D (.deferred (some [])), cellsH b2 [sv] 39, slH 77 3 sv ((stepsL ar rs t).length) cs, cellsH b3 [.bool (longL ar rs t)] 4] L 3 [[], [], []] [[], [], [0]] (phiL [fun us v => v = sv, fun us v => v = (.bool (longL ar rs t) : Value), fun us v => v = sv]) (ownL [fun us v => [], fun us v => [], fun us v => []]) mixed rfl rfl (by kernel_rfl) ?_ ?_
 ·refine stepsP.cons (fun vals R hpZ => ?_) ?_
  ·refine XG.op (XOp.load1 (v := sv) Try.isAgg39 rfl (Rd.own [_] rfl rfl) ?_)
   exact ⟨rfl, rfl, rfl⟩
  refine stepsP.cons (fun vals R hpZ => ?_) ?_
  ·refine XG.op (XOp.load1 (v := .bool (longL ar rs t)) Try.isAgg4 rfl (Rd.own [_, _, _] rfl rfl) ?_)
   exact ⟨rfl, rfl, rfl⟩
  refine stepsP.cons (fun vals R hpZ => ?_) ?_
  ·rw [(envs_of_sat (l := [(0, sv)]) ⟨hpZ 0 (by decide), trivial⟩).symm]
   refine XG.op (XOp.assign (sv) rfl ?_)
   exact ⟨rfl, rfl, rfl⟩
  exact stepsP.nil
 ·intro vals hphi
  have e0 : vals 0 = sv := hphi 0 (by decide)
  have e1 : vals 1 = (.bool (longL ar rs t) : Value) := hphi 1 (by decide)
  have e2 : vals 2 = sv := hphi 2 (by decide)
  rw [(envs_of_sat (l := [(0, sv), (1, (.bool (longL ar rs t) : Value)), (2, sv)]) ⟨e0, e1, e2, trivial⟩).symm]
  show XIL _ _ _ _ _ _ _ _ _ (objH D (.deferred (some [])) :: cellsH b2 [sv] 39 :: slH 77 3 sv ((stepsL ar rs t).length) cs :: cellsH b3 [.bool (longL ar rs t)] 4 :: L)
  refine XIL.cons (XOp.assign (.bool (longL ar rs t)) rfl ?_)
  refine XIL.nil ?_
  refine XI.freezeF [_, _] _ _ rfl (fun F2 le2 hz1 => ?_)
  replace har := har.mono le2
  replace hrs := hrs.mono le2
  replace ht := ht.mono le2
  replace hb1 := hb1.mono le2
  replace hb2 := hb2.mono le2
  replace hC := hC.mono le2
  have hf1 : StepsF F2 sv ((stepsL ar rs t)) := CO.fz hC (by first | rfl | simp | omega) hz1.fz
  refine XI.ret (retEndD (L' := L) [sv, .bool (longL ar rs t)] (.tuple #[sv, .bool (longL ar rs t)]) (fun _ _ => (.tmp rfl (.tmp rfl .nil))) rfl (FLe.trans (FLe.trans le1 le9) le2) (FLe.refl _) (Sub.cons (Sub.drop (Sub.drop (Sub.refl _)))) ?_)
  exact ⟨_, rfl, ⟨cs, Ls, StepsC.fzx hC rfl hz1.fz, hD, ((hZ.mono le2).base le1)⟩, rfl⟩
end Go.Proofs.Ytiaanelimbmniaa
set_option linter.unusedSimpArgs false
set_option linter.unusedVariables false
namespace Go.Proofs.Ytiaanelimbmniaa
open Go X M

/- impl.found$1 -/
theorem found1_spec {F : FH} {L : List HP} {xv : Value} {x : List Int} (hx : IntsF F xv x) {i1 : Int} {i2 : Int} {i3 : Int} {yv : Value} {y : List Int} (hy : IntsF F yv y) {i4 : Int} {uv : Value} {u : List Int} (hu : IntsF F uv u) {bt : Nat} (hzbt : FzC F bt [uv]) (hlu : u.length ≤ 4000000) :
    Does Try.prog 121 [.agg #[xv, .int .i64 (i1), .int .i64 (i2), .int .i64 (i3), yv, .int .i64 (i4)], ptr bt 0] F (L) (fun v F' L' => (.bool (decide (x = u)) : Value) = v ∧ F = F' ∧ L = L') := by
 refine Does.of_X Try.func121 rfl rfl rfl ?_
 refine X.seq ?_
 refine X.region ?_
 refine XL.cons (XOp.box [xv, .int .i64 (i1), .int .i64 (i2), .int .i64 (i3), yv, .int .i64 (i4)] rfl rfl ?_)
 intro b1
 refine XL.cons (XOp.assign (.bool (false)) rfl ?_)
 refine XL.nil ?_
 refine X.seq ?_
 refine X.region ?_
 refine XL.cons (XOp.fieldP (b := b1) (0) Try.runUnderlying91 rfl Try.sizeOf22 (by decide) rfl rfl ?_)
 refine XL.cons (XOp.load1 (v := xv) Try.isAgg22 rfl (Rd.own [] rfl rfl) ?_)
 refine XL.cons (XOp.load1 (v := uv) Try.isAgg22 rfl (FzC.rd1 hzbt rfl) ?_)
 refine XL.cons (XOp.call (args := [xv, uv]) Try.call122 rfl (Equal_spec hx hu (hbd := (by first | assumption | rfl | omega | (left; simp; done) | (right; simp; done)))) ?_)
 rintro _ _ _ _ ⟨rfl, rfl, rfl⟩
 refine XL.cons (XOp.assign (.bool (decide (x = u))) rfl ?_)
 refine XL.nil ?_
 refine X.ret (retEnd (L' := L) [.bool (decide (x = u))] (.bool (decide (x = u))) (.tmp rfl .nil) rfl (FLe.refl _) (FLe.refl _) (Sub.drop (Sub.refl _)) ?_)
 exact ⟨rfl, rfl, rfl⟩

/- slices.IndexFunc[[]impl.reached,impl.reached] -/
theorem IndexFuncFound_spec {F : FH} {L : List HP} {alv : Value} {al : List FoundT} {alcs : List Value} (hal : FoundsF F alv al alcs) {uv : Value} {u : List Int} (hu : IntsF F uv u) {bt : Nat} (hzbt : FzC F bt [uv]) (hlt : al.length ≤ 4000000) (hlu : u.length ≤ 4000000) :
    Does Try.prog 120 [alv, .func (.func 121) #[] #[ptr bt 0]] F (L) (fun v F' L' => (.int .i64 (foundI al u) : Value) = v ∧ F = F' ∧ L = L') := by
 refine Does.of_X Try.func120 rfl rfl rfl ?_
 refine X.seq ?_
 refine X.region ?_
 refine XL.cons (XOp.assign (.int .i64 (0)) rfl ?_)
 refine XL.nil ?_
 refine X.seq ?_
 refine X.seq ?_
 refine X.region ?_
 refine XL.cons (XOp.move (alv) rfl ?_)
 refine XL.cons (XOp.lenS (v := alv) (n := (al).length) Try.runUnderlying87 rfl hal.slv ?_)
 refine XL.cons (XOp.move (.int .i64 (0)) rfl ?_)
 refine XL.nil ?_
 refine X.block ?_
 refine X.loop (α := Nat) (fun k => [(0, alv), (1, .func (.func 121) #[] #[ptr bt 0]), (7, .int .i64 ((((al).length : Nat) : Int))), (8, .int .i64 (((k : Nat) : Int)))]) (fun k => L) (fun k F' => F = F' ∧ (k ≤ al.length) ∧ (∀ i, i < k → (EL al i).1 ≠ u)) (fun k => al.length - k) 0 ⟨rfl, rfl, rfl, rfl, trivial⟩ (Sub.refl _) ⟨rfl, (by (try dsimp only) <;> omega), (fun i hi => absurd hi (by omega))⟩ ?_
 rintro k rE _ _ ⟨rfl, hk, hall⟩
 show X _ _ _ _ (envs [(0, alv), (1, .func (.func 121) #[] #[ptr bt 0]), (7, .int .i64 ((((al).length : Nat) : Int))), (8, .int .i64 (((k : Nat) : Int)))] rE) _ (L)
 refine X.seq ?_
 refine X.region ?_
 refine XL.cons (XOp.lss (a := ((k : Nat) : Int)) (b := (((al).length : Nat) : Int)) rfl rfl ?_)
 refine XL.nil ?_
 refine X.seq ?_
 refine X.condD (p := (((k : Nat) : Int) : Int) < (((al).length : Nat) : Int)) rfl (fun h1 => ?_) (fun h1 => ?_)
 ·refine X.skip ?_
  refine X.seq ?_
  refine X.block ?_
  refine X.seq ?_
  refine X.region ?_
  refine XL.cons (XOp.move (.int .i64 (((k : Nat) : Int))) rfl ?_)
  refine XL.cons (XOp.assign (.int .i64 (((k : Nat) : Int))) rfl ?_)
  refine XL.nil ?_
  refine X.seq ?_
  refine X.region ?_
  refine XL.cons (XOp.move (.func (.func 121) #[] #[ptr bt 0]) rfl ?_)
  refine XL.cons (XOp.move (alv) rfl ?_)
  refine XL.cons (XOp.move (.int .i64 (((k : Nat) : Int))) rfl ?_)
  refine XL.cons (XOp.indexS (v := alv) (i := ((k : Nat) : Int)) (n := (al).length) k Try.runUnderlying87 Try.sizeOf91 rfl rfl rfl hal.slv (by omega) rfl ?_)
  obtain ⟨a1, a2, ha1, ha2, hrg1, hq1⟩ := hal.rd (i := k) (by omega)
  refine XL.cons (XOp.loadN [a1, .int .i64 ((al.getD k ([], 0, (0, 0, []), 0)).2.1), .int .i64 ((al.getD k ([], 0, (0, 0, []), 0)).2.2.1.1), .int .i64 ((al.getD k ([], 0, (0, 0, []), 0)).2.2.1.2.1), a2, .int .i64 ((al.getD k ([], 0, (0, 0, []), 0)).2.2.2)] Try.isAgg91 Try.sizeOf91 rfl rfl (Rd.all (hrg1 _)) ?_)
  refine XL.cons (XOp.callV (first := []) (captured := [ptr bt 0]) (args := [.agg #[a1, .int .i64 ((al.getD k ([], 0, (0, 0, []), 0)).2.1), .int .i64 ((al.getD k ([], 0, (0, 0, []), 0)).2.2.1.1), .int .i64 ((al.getD k ([], 0, (0, 0, []), 0)).2.2.1.2.1), a2, .int .i64 ((al.getD k ([], 0, (0, 0, []), 0)).2.2.2)], ptr bt 0]) Try.call121 rfl rfl (found1_spec ha1 ha2 hu hzbt (hlu := (by first | assumption | rfl | omega | (left; simp; done) | (right; simp; done)))) ?_)
  rintro _ _ _ _ ⟨rfl, rfl, rfl⟩
  refine XL.nil ?_
  refine X.cond (t := decide (((al.getD k ([], 0, (0, 0, []), 0)).1) = u)) rfl (fun h2 => ?_) (fun h2 => ?_)
  ·refine X.seq ?_
   refine X.region ?_
   refine XL.cons (XOp.move (.int .i64 (((k : Nat) : Int))) rfl ?_)
   refine XL.cons (XOp.assign (.int .i64 (((k : Nat) : Int))) rfl ?_)
   refine XL.nil ?_
   refine X.ret (blockQ_ret (thenQ_ret (thenQ_ret (blockQ_ret (thenQ_ret (retEnd (L' := L) [.int .i64 (((k : Nat) : Int))] (.int .i64 (((k : Nat) : Int))) (.tmp rfl .nil) rfl (FLe.refl _) (FLe.refl _) (Sub.refl _) ?_))))))
   exact ⟨(congrArg (Value.int .i64) (foundI_at (k := k) (by omega) (by unfold EL; simp_all) hall)), rfl, rfl⟩
  ·refine X.skip ?_
   refine X.region ?_
   refine XL.cons (XOp.addR (a := ((k : Nat) : Int)) (b := 1) (((k + 1 : Nat) : Int)) rfl rfl (by omega) (by omega) ?_)
   refine XL.cons (XOp.move (.int .i64 (((k + 1 : Nat) : Int))) rfl ?_)
   refine XL.nil ?_
   exact ⟨k + 1, _, FLe.refl _, (FLe.refl _), ⟨rfl, rfl, rfl, rfl, trivial⟩, (Sub.refl _), ⟨rfl, (by (try dsimp only) <;> omega), (fun i hi => (Nat.lt_or_ge i k).elim (fun h => hall i h) (fun h => by obtain rfl : i = k := (by omega); unfold EL; simp_all))⟩, (by omega)⟩
 ·refine X.exit (thenQ_exit (thenQ_exit (blockQ_exit ?_)))
  refine X.seq ?_
  refine X.region ?_
  refine XL.cons (XOp.assign (.int .i64 (-1)) rfl ?_)
  refine XL.nil ?_
  refine X.ret (retEnd (L' := L) [.int .i64 (-1)] (.int .i64 (-1)) (.tmp rfl .nil) rfl (FLe.refl _) (FLe.refl _) (Sub.refl _) ?_)
  exact ⟨(congrArg (Value.int .i64) (foundI_none (fun i hi => hall i (by omega)))), rfl, rfl⟩

/- impl.found -/
theorem found_spec {F : FH} {L : List HP} {alv : Value} {al : List FoundT} {alcs : List Value} (hal : FoundsF F alv al alcs) {uv : Value} {u : List Int} (hu : IntsF F uv u) (hlt : al.length ≤ 4000000) (hlu : u.length ≤ 4000000) :
    Does Try.prog 99 [alv, uv] F (L) (fun v F' L' => (.int .i64 (foundI al u) : Value) = v ∧ F = F' ∧ L = L') := by
 refine Does.of_X Try.func99 rfl rfl rfl ?_
 refine X.seq ?_
 refine X.region ?_
 refine XL.cons (XOp.box [uv] rfl (cells_one (IntsF.isSl hu)) ?_)
 intro b1
 refine XL.cons (XOp.assign (.int .i64 (0)) rfl ?_)
 refine XL.nil ?_
 refine X.seq ?_
 refine X.region ?_
 refine XL.cons (XOp.move (alv) rfl ?_)
 refine XL.cons (XOp.makeFuncL [] [ptr b1 0] rfl rfl ?_)
 refine XL.freeze [] _ _ rfl (fun F1 le1 hz1 => ?_)
 replace hal := hal.mono le1
 replace hu := hu.mono le1
 have hf1 : FzC F1 b1 [uv] := Fz.cells hz1
 refine XL.cons (XOp.call (args := [alv, .func (.func 121) #[] #[ptr b1 0]]) Try.call120 rfl (IndexFuncFound_spec hal hu hf1 (hlt := (by first | assumption | rfl | omega | (left; simp; done) | (right; simp; done))) (hlu := (by first | assumption | rfl | omega | (left; simp; done) | (right; simp; done)))) ?_)
 rintro _ _ _ _ ⟨rfl, rfl, rfl⟩
 refine XL.cons (XOp.assign (.int .i64 (foundI al u)) rfl ?_)
 refine XL.nil ?_
 refine X.ret (retEnd (L' := L) [.int .i64 (foundI al u)] (.int .i64 (foundI al u)) (.tmp rfl .nil) rfl (FLe.refl _) le1 (Sub.refl _) ?_)
 exact ⟨rfl, rfl, rfl⟩

/- impl.reach -/
set_option maxRecDepth 20000 in
theorem reach_spec {F : FH} {L : List HP} {arv : Value} {ar : List Int} (har : IntsF F arv ar) {rsv : Value} {rs : List (List Int × List Int)} (hrs : PairsF F rsv rs) {tv : Value} {t : List Int} (ht : IntsF F tv t) {n : Int} (hsys : sysOk ar rs = true) (ho : termOk ar t = true) (hn20 : 0 ≤ n ∧ n ≤ 20) :
    Does Try.prog 66 [.agg #[arv, rsv], tv, .int .i64 (n)] F (L) (fun v F' L' => ∃ (a : Value) (acs : List Value) (Ls : List HP), (.tuple #[a, .bool (reachL ar rs t n).2] : Value) = v ∧ FoundsF F' a (reachL ar rs t n).1 acs ∧ DeepL 6 (FoundO 2) acs (reachL ar rs t n).1 Ls ∧ Fresh F F' (star Ls) ∧ L = L') := by
 refine Does.of_X Try.func66 rfl rfl rfl ?_
 have hnn := notNil_of_pos ht (by have := termOk_len ho; omega)
 have htl := termOk_len ho
 have hrl := (sysOk_iff.1 hsys).2.1
 have hsig := (sysOk_iff.1 hsys).1
 have hsl := sigOk_spec hsig
 refine X.seq ?_
 refine X.region ?_
 refine XL.cons (XOp.box [arv, rsv] rfl rfl ?_)
 intro b1
 refine XL.cons (XOp.assign ((.slice none 0 0)) rfl ?_)
 refine XL.cons (XOp.assign (.bool (false)) rfl ?_)
 refine XL.nil ?_
 refine X.seq ?_
 refine X.region ?_
 refine XL.cons (XOp.move (tv) rfl ?_)
 refine XL.cons (XOp.frzF <| XOp.call (args := [tv]) Try.call94 rfl (Clone_spec ht (hlt := (by first | assumption | rfl | omega | (left; simp; done) | (right; simp; done)))) ?_)
 rintro v1 _ _ _ ⟨rfl, hs1, rfl⟩
 refine ⟨_, _, rfl, fun F1 le1 hz1 => ?_⟩
 replace har := har.mono le1
 replace hrs := hrs.mono le1
 replace ht := ht.mono le1
 have hf1 : IntsF F1 v1 ((t)) := intsH.fz (xs := (t)) hz1.fz
 skip
 refine XL.cons (XOp.build [v1, .int .i64 (-1), .int .i64 (0), .int .i64 (0), (.slice none 0 0), .int .i64 (0)] [(.slice none 0 0), .int .i64 (0), .int .i64 (0), .int .i64 (0), (.slice none 0 0), .int .i64 (0)] [(0, 1), (1, 1), (2, 3), (5, 1)] [(0, [v1]), (1, [.int .i64 (-1)])] Try.runUnderlying91 Try.zeroValue91 rfl (.cons rfl Try.sizeOf22 (.cons rfl Try.sizeOf3 (.cons rfl Try.sizeOf77 (.cons rfl Try.sizeOf2 PlacesAre.nil)))) rfl (.cons (cells_one (IntsF.isSl hf1)) (.cons rfl CellsAre.nil)) ?_)
 refine XL.cons (XOp.buildSlice (s := 6) [v1, .int .i64 (-1), .int .i64 (0), .int .i64 (0), (.slice none 0 0), .int .i64 (0)] [(.slice none 0 0), .int .i64 (0), .int .i64 (0), .int .i64 (0), (.slice none 0 0), .int .i64 (0)] [(0, [v1, .int .i64 (-1), .int .i64 (0), .int .i64 (0), (.slice none 0 0), .int .i64 (0)])] Try.runUnderlying87 Try.sizeOf91 Try.zeroValue91 rfl (by decide) rfl (.cons rfl CellsAre.nil) rfl ?_)
 intro v2 hv1
 refine XL.cons (XOp.assign (v2) rfl ?_)
 refine XL.nil ?_
 refine X.seq ?_
 refine X.seq ?_
 refine X.region ?_
 refine XL.cons (XOp.assign (.int .i64 (0)) rfl ?_)
 refine XL.nil ?_
 refine X.block ?_
 have hc1 : FoundsC F1 [v1, .int .i64 (-1), .int .i64 (0), .int .i64 (0), (.slice none 0 0), .int .i64 (0)] ([((t), -1, (0, 0, []), 0)] : List FoundT) := (FoundsC.snoc (CO.nil : FoundsC F1 [] []) (y0 := (t)) (y1 := -1) (y2 := 0) (y3 := 0) (y4 := []) (y5 := 0) hf1 IntsF.nilV)
 refine X.loop (α := Nat × Value × List FoundT × List Value × List HP × Nat × FH) (fun xQ => [(2, .int .i64 (n)), (3, ptr b1 0), (8, xQ.2.1), (9, .int .i64 (((xQ.1 : Nat) : Int)))]) (fun xQ => slH 91 6 xQ.2.1 xQ.2.2.2.2.2.1 xQ.2.2.2.1 :: cellsH b1 [arv, rsv] 33 :: L) (fun xQ F' => xQ.2.2.2.2.2.2 = F' ∧ F1 ≤ xQ.2.2.2.2.2.2 ∧ (IsSl xQ.2.1) ∧ (FoundsC xQ.2.2.2.2.2.2 xQ.2.2.2.1 xQ.2.2.1) ∧ (xQ.2.2.2.2.2.1 = xQ.2.2.1.length) ∧ (DeepL 6 (FoundO 2) xQ.2.2.2.1 xQ.2.2.1 xQ.2.2.2.2.1) ∧ (Fresh F xQ.2.2.2.2.2.2 (star xQ.2.2.2.2.1)) ∧ (xQ.1 ≤ xQ.2.2.1.length) ∧ (xQ.2.2.1.length ≤ 60) ∧ (AllOk ar xQ.2.2.1) ∧ (DeepOk n xQ.2.2.1) ∧ (reachL ar rs t n = reachGo ar rs n (60 - xQ.1) xQ.1 xQ.2.2.1)) (fun xQ => 60 - xQ.1) (0, v2, ([((t), -1, (0, 0, []), 0)] : List FoundT), [v1, .int .i64 (-1), .int .i64 (0), .int .i64 (0), (.slice none 0 0), .int .i64 (0)], [intsH 2 v1 t], 1, F1) ⟨rfl, rfl, rfl, rfl, trivial⟩ (Sub.cons (Sub.cons (Sub.refl _))) ⟨rfl, FLe.refl _, ((isSl_lit hv1)), (hc1), (rfl), ((DeepL.snoc .nil rfl ⟨_, _, rfl, rfl⟩ : DeepL 6 (FoundO 2) ([] ++ _) ([] ++ _) ([] ++ _))), ((Fresh.one hz1)), (by simp), (by simp), (AllOk.start ho), (DeepOk.start hn20.1), (rfl)⟩ ?_
 rintro ⟨k, ov, os, ocs, Ts, on, G1⟩ rE _ _ ⟨rfl, leG, hov, hC, hn, hD, hZ, hk, hl, hok, hdo, hgo⟩
 show X _ _ _ _ (envs [(2, .int .i64 (n)), (3, ptr b1 0), (8, ov), (9, .int .i64 (((k : Nat) : Int)))] rE) _ (slH 91 6 ov on ocs :: cellsH b1 [arv, rsv] 33 :: L)
 replace leG : F1 ≤ G1 := leG
 dsimp only at hov hC hn hD hZ hk hl hok hdo hgo
 have hdk : k < os.length → termOk ar (os.getD k ([], 0, (0, 0, []), 0)).1 = true := fun h => hok k h
 have hdl : k < os.length → 1 ≤ (os.getD k ([], 0, (0, 0, []), 0)).1.length ∧ (os.getD k ([], 0, (0, 0, []), 0)).1.length ≤ 60 := fun h => termOk_len (hok k h)
 have leG1 := leG
 replace har := har.mono leG1
 replace hrs := hrs.mono leG1
 replace ht := ht.mono leG1
 replace hf1 := hf1.mono leG1
 replace hc1 := hc1.mono leG1
 refine X.seq ?_
 refine X.seq ?_
 refine X.region ?_
 refine XL.cons (XOp.move (.int .i64 (((k : Nat) : Int))) rfl ?_)
 refine XL.cons (XOp.move (ov) rfl ?_)
 refine XL.cons (XOp.lenS (v := ov) (n := on) Try.runUnderlying87 rfl (SlV.own [] rfl) ?_)
 refine XL.cons (XOp.lss (a := ((k : Nat) : Int)) (b := ((on : Nat) : Int)) rfl rfl ?_)
 refine XL.nil ?_
 refine X.condD (p := (((k : Nat) : Int) : Int) < ((on : Nat) : Int)) rfl (fun h1 => ?_) (fun h1 => ?_)
 ·refine X.skip ?_
  refine X.seq ?_
  refine X.block ?_
  refine X.seq ?_
  refine X.seq ?_
  refine X.region ?_
  refine XL.cons (XOp.move (ov) rfl ?_)
  refine XL.cons (XOp.move (.int .i64 (((k : Nat) : Int))) rfl ?_)
  refine XL.cons (XOp.indexS (v := ov) (i := ((k : Nat) : Int)) (n := on) k Try.runUnderlying87 Try.sizeOf91 rfl rfl rfl (SlV.own [] rfl) (by omega) rfl ?_)
  refine XL.cons (XOp.fieldE (v := ov) (k * 6 + 5) Try.runUnderlying91 rfl Try.sizeOf2 (by decide) rfl rfl ?_)
  obtain ⟨a1, a2, ha1, ha2, hq1⟩ := hC.get (i := k) (by omega)
  refine XL.cons (XOp.load1 (v := .int .i64 ((os.getD k ([], 0, (0, 0, []), 0)).2.2.2)) Try.isAgg2 rfl (Rd.sl [] rfl (hq1 5 _ rfl)) ?_)
  refine XL.cons (XOp.move (.int .i64 (n)) rfl ?_)
  refine XL.cons (XOp.eql (a := (os.getD k ([], 0, (0, 0, []), 0)).2.2.2) (b := n) rfl rfl ?_)
  refine XL.nil ?_
  refine X.condD (p := ((os.getD k ([], 0, (0, 0, []), 0)).2.2.2 : Int) = n) rfl (fun h2 => ?_) (fun h2 => ?_)
  ·have hdeep : (EL os k).2.2.2 = n := h2
   refine X.exit (thenQ_exit (blockQ_exit ?_))
   refine X.region ?_
   refine XL.cons (XOp.move (.int .i64 (((k : Nat) : Int))) rfl ?_)
   refine XL.cons (XOp.addR (a := ((k : Nat) : Int)) (b := 1) (((k + 1 : Nat) : Int)) rfl rfl (by omega) (by omega) ?_)
   refine XL.cons (XOp.assign (.int .i64 (((k + 1 : Nat) : Int))) rfl ?_)
   refine XL.nil ?_
   exact ⟨(k + 1, ov, os, ocs, Ts, on, G1), _, leG1, (FLe.refl _), ⟨rfl, rfl, rfl, rfl, trivial⟩, (Sub.cons (Sub.cons (Sub.refl _))), ⟨rfl, leG1, (hov), (hC), (hn), (hD), (hZ), (by (try dsimp only) <;> omega), (by (try dsimp only) <;> omega), (hok), (hdo), (by (try dsimp only); exact hgo.trans (reach_same (f := 60 - k - 1) (by omega) (by omega) hdeep))⟩, (by (try dsimp only); omega)⟩
  ·have hdeep : (EL os k).2.2.2 ≠ n := h2
   refine X.skip ?_
   refine X.seq ?_
   refine X.drawG [slH 91 6 ov on ocs, cellsH b1 [arv, rsv] 33] L 11 [[], [], [], [], [], [], [], [6], [6], [], [6]] [[], [], [], [1, 2], [3], [4], [0, 5], [6], [6, 7], [6, 7], [6, 8]] [[], [], [], [], [], [], [], [], [], [], []] (phiG [fun FF us v => v = (.agg #[arv, rsv] : Value), fun FF us v => v = ov, fun FF us v => v = (.int .i64 (((k : Nat) : Int)) : Value), fun FF us v => v = (.pointer (some (elemA ov (k * 6))) : Value), fun FF us v => v = (.pointer (some (elemA ov (k * 6))) : Value), fun FF us v => v = a1, fun FF us v => (.tuple #[((tupAt v 0)), .bool (longL ar rs ((os.getD k ([], 0, (0, 0, []), 0)).1))] : Value) = v ∧ (FrStepsF G1 FF 2 ((tupAt v 0)) (stepsL ar rs ((os.getD k ([], 0, (0, 0, []), 0)).1))), fun FF us v => v = (.tuple #[((tupAt (us.getD 0 undef) 0)), .bool (longL ar rs ((os.getD k ([], 0, (0, 0, []), 0)).1))] : Value), fun FF us v => v = ((tupAt (us.getD 0 undef) 0)), fun FF us v => v = (.bool (longL ar rs ((os.getD k ([], 0, (0, 0, []), 0)).1)) : Value), fun FF us v => v = ((tupAt (us.getD 0 undef) 0))]) (ownL [fun us v => [], fun us v => [], fun us v => [], fun us v => [], fun us v => [], fun us v => [], fun us v => [], fun us v => [], fun us v => [], fun us v => [], fun us v => []]) mixed rfl rfl (by kernel_rfl) (by kernel_rfl) (MonoG.get (MonoG.cons (fun le h => h) (MonoG.cons (fun le h => h) (MonoG.cons (fun le h => h) (MonoG.cons (fun le h => h) (MonoG.cons (fun le h => h) (MonoG.cons (fun le h => h) (MonoG.cons (fun le h => ⟨h.1, h.2.mono le⟩) (MonoG.cons (fun le h => h) (MonoG.cons (fun le h => h) (MonoG.cons (fun le h => h) (MonoG.cons (fun le h => h) MonoG.nil)))))))))))) ?_ ?_
   ·refine stepsG.cons (fun vals Fs R leFs hpZ => ?_) ?_
    ·replace har := har.mono leFs
     replace hrs := hrs.mono leFs
     replace ht := ht.mono leFs
     replace hf1 := hf1.mono leFs
     replace hc1 := hc1.mono leFs
     replace hC := hC.mono leFs
     replace ha1 := ha1.mono leFs
     replace ha2 := ha2.mono leFs
     refine XG.op (XOp.loadN [arv, rsv] Try.isAgg33 Try.sizeOf33 rfl rfl (Rd.ownN [_] rfl rfl) ?_)
     exact ⟨rfl, rfl⟩
    refine stepsG.cons (fun vals Fs R leFs hpZ => ?_) ?_
    ·refine XG.op (XOp.move (ov) rfl ?_)
     exact ⟨rfl, rfl⟩
    refine stepsG.cons (fun vals Fs R leFs hpZ => ?_) ?_
    ·refine XG.op (XOp.move (.int .i64 (((k : Nat) : Int))) rfl ?_)
     exact ⟨rfl, rfl⟩
    refine stepsG.cons (fun vals Fs R leFs hpZ => ?_) ?_
    ·have e1 : vals 1 = ov := hpZ 1 (by decide)
     have e2 : vals 2 = (.int .i64 (((k : Nat) : Int)) : Value) := hpZ 2 (by decide)
     replace har := har.mono leFs
     replace hrs := hrs.mono leFs
     replace ht := ht.mono leFs
     replace hf1 := hf1.mono leFs
     replace hc1 := hc1.mono leFs
     replace hC := hC.mono leFs
     replace ha1 := ha1.mono leFs
     replace ha2 := ha2.mono leFs
     rw [(envs_of_sat (l := [(1, ov), (2, (.int .i64 (((k : Nat) : Int)) : Value))]) ⟨e1, e2, trivial⟩).symm]
     refine XG.op (XOp.indexS (v := ov) (i := ((k : Nat) : Int)) (n := on) k Try.runUnderlying87 Try.sizeOf91 rfl rfl rfl (SlV.own [] rfl) (by omega) rfl ?_)
     exact ⟨rfl, rfl⟩
    refine stepsG.cons (fun vals Fs R leFs hpZ => ?_) ?_
    ·have e3 : vals 3 = (.pointer (some (elemA ov (k * 6))) : Value) := hpZ 3 (by decide)
     rw [(envs_of_sat (l := [(3, (.pointer (some (elemA ov (k * 6))) : Value))]) ⟨e3, trivial⟩).symm]
     refine XG.op (XOp.fieldE (v := ov) (k * 6) Try.runUnderlying91 rfl Try.sizeOf22 (by decide) rfl rfl ?_)
     exact ⟨rfl, rfl⟩
    refine stepsG.cons (fun vals Fs R leFs hpZ => ?_) ?_
    ·have e4 : vals 4 = (.pointer (some (elemA ov (k * 6))) : Value) := hpZ 4 (by decide)
     replace har := har.mono leFs
     replace hrs := hrs.mono leFs
     replace ht := ht.mono leFs
     replace hf1 := hf1.mono leFs
     replace hc1 := hc1.mono leFs
     replace hC := hC.mono leFs
     replace ha1 := ha1.mono leFs
     replace ha2 := ha2.mono leFs
     rw [(envs_of_sat (l := [(4, (.pointer (some (elemA ov (k * 6))) : Value))]) ⟨e4, trivial⟩).symm]
     refine XG.op (XOp.load1 (v := a1) Try.isAgg22 rfl (Rd.sl [] rfl (hq1 0 _ rfl)) ?_)
     exact ⟨rfl, rfl⟩
    refine stepsG.cons (fun vals Fs R leFs hpZ => ?_) ?_
    ·have e0 : vals 0 = (.agg #[arv, rsv] : Value) := hpZ 0 (by decide)
     have e5 : vals 5 = a1 := hpZ 5 (by decide)
     replace har := har.mono leFs
     replace hrs := hrs.mono leFs
     replace ht := ht.mono leFs
     replace hf1 := hf1.mono leFs
     replace hc1 := hc1.mono leFs
     replace hC := hC.mono leFs
     replace ha1 := ha1.mono leFs
     replace ha2 := ha2.mono leFs
     rw [(envs_of_sat (l := [(0, (.agg #[arv, rsv] : Value)), (5, a1)]) ⟨e0, e5, trivial⟩).symm]
     refine XG.op (XOp.call (args := [.agg #[arv, rsv], a1]) Try.call84 rfl (stepsFrom_spec har hrs ha1 (hsys := (hsys)) (ho := (hdk (by omega)))) ?_)
     rintro _ F3 _ le3 ⟨x2, rfl, hx2, rfl⟩
     replace har := har.mono le3
     replace hrs := hrs.mono le3
     replace ht := ht.mono le3
     replace hf1 := hf1.mono le3
     replace hc1 := hc1.mono le3
     replace hC := hC.mono le3
     replace ha1 := ha1.mono le3
     replace ha2 := ha2.mono le3
     exact ⟨⟨rfl, (hx2.base leFs)⟩, rfl⟩
    refine stepsG.cons (fun vals Fs R leFs hpZ => ?_) ?_
    ·obtain ⟨e6, f6_1hx⟩ := hpZ 6 (by decide)
     rw [(envs_of_sat (l := [(6, (.tuple #[((tupAt (vals 6) 0)), .bool (longL ar rs ((os.getD k ([], 0, (0, 0, []), 0)).1))] : Value))]) ⟨(e6).symm, trivial⟩).symm]
     refine XG.op (XOp.move (.tuple #[((tupAt (vals 6) 0)), .bool (longL ar rs ((os.getD k ([], 0, (0, 0, []), 0)).1))]) rfl ?_)
     exact ⟨rfl, rfl⟩
    refine stepsG.cons (fun vals Fs R leFs hpZ => ?_) ?_
    ·obtain ⟨e6, f6_1hx⟩ := hpZ 6 (by decide)
     have e7 : vals 7 = (.tuple #[((tupAt (vals 6) 0)), .bool (longL ar rs ((os.getD k ([], 0, (0, 0, []), 0)).1))] : Value) := hpZ 7 (by decide)
     rw [(envs_of_sat (l := [(6, (.tuple #[((tupAt (vals 6) 0)), .bool (longL ar rs ((os.getD k ([], 0, (0, 0, []), 0)).1))] : Value)), (7, (.tuple #[((tupAt (vals 6) 0)), .bool (longL ar rs ((os.getD k ([], 0, (0, 0, []), 0)).1))] : Value))]) ⟨(e6).symm, e7, trivial⟩).symm]
     refine XG.op (XOp.extract (((tupAt (vals 6) 0))) rfl rfl ?_)
     exact ⟨rfl, rfl⟩
    refine stepsG.cons (fun vals Fs R leFs hpZ => ?_) ?_
    ·obtain ⟨e6, f6_1hx⟩ := hpZ 6 (by decide)
     have e7 : vals 7 = (.tuple #[((tupAt (vals 6) 0)), .bool (longL ar rs ((os.getD k ([], 0, (0, 0, []), 0)).1))] : Value) := hpZ 7 (by decide)
     rw [(envs_of_sat (l := [(6, (.tuple #[((tupAt (vals 6) 0)), .bool (longL ar rs ((os.getD k ([], 0, (0, 0, []), 0)).1))] : Value)), (7, (.tuple #[((tupAt (vals 6) 0)), .bool (longL ar rs ((os.getD k ([], 0, (0, 0, []), 0)).1))] : Value))]) ⟨(e6).symm, e7, trivial⟩).symm]
     refine XG.op (XOp.extract (.bool (longL ar rs ((os.getD k ([], 0, (0, 0, []), 0)).1))) rfl rfl ?_)
     exact ⟨rfl, rfl⟩
    refine stepsG.cons (fun vals Fs R leFs hpZ => ?_) ?_
    ·obtain ⟨e6, f6_1hx⟩ := hpZ 6 (by decide)
     have e8 : vals 8 = ((tupAt (vals 6) 0)) := hpZ 8 (by decide)
     rw [(envs_of_sat (l := [(6, (.tuple #[((tupAt (vals 6) 0)), .bool (longL ar rs ((os.getD k ([], 0, (0, 0, []), 0)).1))] : Value)), (8, ((tupAt (vals 6) 0)))]) ⟨(e6).symm, e8, trivial⟩).symm]
     refine XG.op (XOp.assign (((tupAt (vals 6) 0))) rfl ?_)
     exact ⟨rfl, rfl⟩
    exact stepsG.nil
   ·intro vals F4 le4 hphi
    have e0 : vals 0 = (.agg #[arv, rsv] : Value) := hphi 0 (by decide)
    have e1 : vals 1 = ov := hphi 1 (by decide)
    have e2 : vals 2 = (.int .i64 (((k : Nat) : Int)) : Value) := hphi 2 (by decide)
    have e3 : vals 3 = (.pointer (some (elemA ov (k * 6))) : Value) := hphi 3 (by decide)
    have e4 : vals 4 = (.pointer (some (elemA ov (k * 6))) : Value) := hphi 4 (by decide)
    have e5 : vals 5 = a1 := hphi 5 (by decide)
    obtain ⟨e6, f6_1hx⟩ := hphi 6 (by decide)
    have e7 : vals 7 = (.tuple #[((tupAt (vals 6) 0)), .bool (longL ar rs ((os.getD k ([], 0, (0, 0, []), 0)).1))] : Value) := hphi 7 (by decide)
    have e8 : vals 8 = ((tupAt (vals 6) 0)) := hphi 8 (by decide)
    have e9 : vals 9 = (.bool (longL ar rs ((os.getD k ([], 0, (0, 0, []), 0)).1)) : Value) := hphi 9 (by decide)
    have e10 : vals 10 = ((tupAt (vals 6) 0)) := hphi 10 (by decide)
    generalize hu1 : ((tupAt (vals 6) 0)) = u1 at e0 e1 e2 e3 e4 e5 e6 f6_1hx e7 e8 e9 e10
    rw [(envs_of_sat (l := [(0, (.agg #[arv, rsv] : Value)), (1, ov), (2, (.int .i64 (((k : Nat) : Int)) : Value)), (3, (.pointer (some (elemA ov (k * 6))) : Value)), (4, (.pointer (some (elemA ov (k * 6))) : Value)), (5, a1), (6, (.tuple #[u1, .bool (longL ar rs ((os.getD k ([], 0, (0, 0, []), 0)).1))] : Value)), (7, (.tuple #[u1, .bool (longL ar rs ((os.getD k ([], 0, (0, 0, []), 0)).1))] : Value)), (8, u1), (9, (.bool (longL ar rs ((os.getD k ([], 0, (0, 0, []), 0)).1)) : Value)), (10, u1)]) ⟨e0, e1, e2, e3, e4, e5, (e6).symm, e7, e8, e9, e10, trivial⟩).symm]
    replace har := har.mono le4
    replace hrs := hrs.mono le4
    replace ht := ht.mono le4
    replace hf1 := hf1.mono le4
    replace hc1 := hc1.mono le4
    replace hC := hC.mono le4
    replace ha1 := ha1.mono le4
    replace ha2 := ha2.mono le4
    show XL _ _ _ _ _ _ _ (slH 91 6 ov on ocs :: cellsH b1 [arv, rsv] 33 :: L)
    refine XL.cons (XOp.assign (.bool (longL ar rs ((os.getD k ([], 0, (0, 0, []), 0)).1))) rfl ?_)
    refine XL.nil ?_
    refine X.seq ?_
    refine X.region ?_
    obtain ⟨cso1, Lso1, hXo1, hDo1, hZo1⟩ := f6_1hx
    skip
    refine XL.cons (XOp.move (u1) rfl ?_)
    refine XL.cons (XOp.lenS (v := u1) (n := ((stepsL ar rs ((os.getD k ([], 0, (0, 0, []), 0)).1))).length) Try.runUnderlying39 rfl hXo1.slv ?_)
    refine XL.cons (XOp.move (.int .i64 (0)) rfl ?_)
    refine XL.nil ?_
    refine X.block ?_
    refine X.loop (α := Nat × Value × List FoundT × List Value × List HP × Nat × FH) (fun xQ => [(2, .int .i64 (n)), (3, ptr b1 0), (8, xQ.2.1), (9, .int .i64 (((k : Nat) : Int))), (41, u1), (42, .int .i64 (((((stepsL ar rs ((os.getD k ([], 0, (0, 0, []), 0)).1))).length : Nat) : Int))), (43, .int .i64 (((xQ.1 : Nat) : Int)))]) (fun xQ => slH 91 6 xQ.2.1 xQ.2.2.2.2.2.1 xQ.2.2.2.1 :: cellsH b1 [arv, rsv] 33 :: L) (fun xQ F' => xQ.2.2.2.2.2.2 = F' ∧ F4 ≤ xQ.2.2.2.2.2.2 ∧ (IsSl xQ.2.1) ∧ (FoundsC xQ.2.2.2.2.2.2 xQ.2.2.2.1 xQ.2.2.1) ∧ (xQ.2.2.2.2.2.1 = xQ.2.2.1.length) ∧ (DeepL 6 (FoundO 2) xQ.2.2.2.1 xQ.2.2.1 xQ.2.2.2.2.1) ∧ (Fresh F xQ.2.2.2.2.2.2 (star (xQ.2.2.2.2.1 ++ Lso1.drop xQ.1))) ∧ (xQ.1 ≤ (stepsL ar rs (os.getD k ([], 0, (0, 0, []), 0)).1).length) ∧ (xQ.2.2.1.length ≤ 60) ∧ (AllOk ar xQ.2.2.1) ∧ (DeepOk n xQ.2.2.1) ∧ (k < xQ.2.2.1.length) ∧ (EL xQ.2.2.1 k = EL os k) ∧ (addGo (k : Int) (EL os k).2.2.2 (stepsL ar rs (os.getD k ([], 0, (0, 0, []), 0)).1) os = addGo (k : Int) (EL os k).2.2.2 ((stepsL ar rs (os.getD k ([], 0, (0, 0, []), 0)).1).drop xQ.1) xQ.2.2.1)) (fun xQ => (stepsL ar rs (os.getD k ([], 0, (0, 0, []), 0)).1).length - xQ.1) (0, ov, os, ocs, Ts, on, F4) ⟨rfl, rfl, rfl, rfl, rfl, rfl, rfl, trivial⟩ (Sub.cons (Sub.cons (Sub.refl _))) ⟨rfl, FLe.refl _, (hov), (hC), (hn), (hD), ((Fresh.app hZ (FLe.trans le1 leG1) hZo1 le4)), (by (try dsimp only) <;> omega), (hl), (hok), (hdo), (by dsimp only; omega), (rfl), (rfl)⟩ ?_
    rintro ⟨q, pv, ps, pcs, Us, pn, G2⟩ rE _ _ ⟨rfl, leG, hpv, hCi, hni, hDi, hZi, hq, hli, hoki, hdi, hkp, hel, hgoi⟩
    show X _ _ _ _ (envs [(2, .int .i64 (n)), (3, ptr b1 0), (8, pv), (9, .int .i64 (((k : Nat) : Int))), (41, u1), (42, .int .i64 (((((stepsL ar rs ((os.getD k ([], 0, (0, 0, []), 0)).1))).length : Nat) : Int))), (43, .int .i64 (((q : Nat) : Int)))] rE) _ (slH 91 6 pv pn pcs :: cellsH b1 [arv, rsv] 33 :: L)
    replace leG : F4 ≤ G2 := leG
    dsimp only at hpv hCi hni hDi hZi hq hli hoki hdi hkp hel hgoi
    have hnl : (stepsL ar rs (os.getD k ([], 0, (0, 0, []), 0)).1).length ≤ 1000 := by have h9 := stepsTo_len (ar := ar) (t := (os.getD k ([], 0, (0, 0, []), 0)).1) (rs := rs) hrl (os.getD k ([], 0, (0, 0, []), 0)).1.length; have h8 := hdl (by omega); show (stepsTo ar rs (os.getD k ([], 0, (0, 0, []), 0)).1 (os.getD k ([], 0, (0, 0, []), 0)).1.length).length ≤ 1000; omega
    have hsok : q < (stepsL ar rs (os.getD k ([], 0, (0, 0, []), 0)).1).length → 1 ≤ ((stepsL ar rs (os.getD k ([], 0, (0, 0, []), 0)).1).getD q (0, 0, [])).2.2.length ∧ ((stepsL ar rs (os.getD k ([], 0, (0, 0, []), 0)).1).getD q (0, 0, [])).2.2.length ≤ 60 := fun h => termOk_len (steps_ok hsys (hdk (by omega)) h)
    have hdn : 0 ≤ (ps.getD k ([], 0, (0, 0, []), 0)).2.2.2 ∧ (ps.getD k ([], 0, (0, 0, []), 0)).2.2.2 ≤ 1000 := by have h8 : (EL ps k).2.2.2 = (EL os k).2.2.2 := (by rw [hel]); have h9 := hdo k (by omega); have h7 : (ps.getD k ([], 0, (0, 0, []), 0)).2.2.2 = (EL ps k).2.2.2 := rfl; omega
    have leG2 := leG
    replace har := har.mono leG2
    replace hrs := hrs.mono leG2
    replace ht := ht.mono leG2
    replace hf1 := hf1.mono leG2
    replace hc1 := hc1.mono leG2
    replace hC := hC.mono leG2
    replace ha1 := ha1.mono leG2
    replace ha2 := ha2.mono leG2
    replace hXo1 := hXo1.mono leG2
    refine X.seq ?_
    refine X.region ?_
    refine XL.cons (XOp.lss (a := ((q : Nat) : Int)) (b := ((((stepsL ar rs ((os.getD k ([], 0, (0, 0, []), 0)).1))).length : Nat) : Int)) rfl rfl ?_)
    refine XL.nil ?_
    refine X.seq ?_
    refine X.condD (p := (((q : Nat) : Int) : Int) < ((((stepsL ar rs ((os.getD k ([], 0, (0, 0, []), 0)).1))).length : Nat) : Int)) rfl (fun h3 => ?_) (fun h3 => ?_)
    ·refine X.skip ?_
     refine X.seq ?_
     refine X.block ?_
     refine X.seq ?_
     refine X.region ?_
     refine XL.cons (XOp.indexS (v := u1) (i := ((q : Nat) : Int)) (n := ((stepsL ar rs ((os.getD k ([], 0, (0, 0, []), 0)).1))).length) q Try.runUnderlying39 Try.sizeOf77 rfl rfl rfl hXo1.slv (by omega) rfl ?_)
     obtain ⟨a3, ha3, hr1, hr2, hr3, hq2⟩ := hXo1.rd (i := q) (by omega)
     refine XL.cons (XOp.loadN [.int .i64 ((((stepsL ar rs ((os.getD k ([], 0, (0, 0, []), 0)).1))).getD q (0, 0, [])).1), .int .i64 ((((stepsL ar rs ((os.getD k ([], 0, (0, 0, []), 0)).1))).getD q (0, 0, [])).2.1), a3] Try.isAgg77 Try.sizeOf77 rfl rfl (Rd.three (hr1 _) (hr2 _) (hr3 _)) ?_)
     refine XL.cons (XOp.alloc [.int .i64 (0), .int .i64 (0), (.slice none 0 0)] Try.zeroValue77 rfl ?_)
     intro b2
     refine XL.cons (XOp.storeN (vs := [.int .i64 ((((stepsL ar rs ((os.getD k ([], 0, (0, 0, []), 0)).1))).getD q (0, 0, [])).1), .int .i64 ((((stepsL ar rs ((os.getD k ([], 0, (0, 0, []), 0)).1))).getD q (0, 0, [])).2.1), a3]) [] _ [.int .i64 ((((stepsL ar rs ((os.getD k ([], 0, (0, 0, []), 0)).1))).getD q (0, 0, [])).1), .int .i64 ((((stepsL ar rs ((os.getD k ([], 0, (0, 0, []), 0)).1))).getD q (0, 0, [])).2.1), a3] Try.sizeOf77 rfl rfl rfl (ones_cons rfl (ones_cons rfl (ones_cons (one_sl (IntsF.isSl ha3)) ones_nil))) rfl rfl rfl ?_)
     refine XL.nil ?_
     refine X.seq ?_
     refine X.seq ?_
     refine X.region ?_
     refine XL.cons (XOp.move (pv) rfl ?_)
     refine XL.cons (XOp.fieldP (b := b2) (2) Try.runUnderlying77 rfl Try.sizeOf22 (by decide) rfl rfl ?_)
     refine XL.cons (XOp.load1 (v := a3) Try.isAgg22 rfl (Rd.own [] rfl rfl) ?_)
     refine XL.cons (XOp.lend [_] _ _ rfl (fun F5 le5 hz2 => ?_))
     have hf2 : FoundsF _ pv ps pcs := (FoundsC.fz (FoundsC.mono hCi (FLe.trans le5 (FLe.refl _))) (by first | rfl | assumption | omega | (rw [List.length_append]; simp only [List.length_singleton]; omega)) hz2 : FoundsF _ pv ps pcs)
     refine id (XOp.call (args := [pv, a3]) Try.call99 rfl (found_spec hf2 ((ha3.mono le5)) (hlt := (by omega)) (hlu := (by have := hsok (by omega); omega))) ?_)
     rintro _ _ _ _ ⟨rfl, rfl, rfl⟩
     show XL _ _ _ _ _ _ _ (slH 91 6 pv pn pcs :: cellsH b2 [.int .i64 ((((stepsL ar rs ((os.getD k ([], 0, (0, 0, []), 0)).1))).getD q (0, 0, [])).1), .int .i64 ((((stepsL ar rs ((os.getD k ([], 0, (0, 0, []), 0)).1))).getD q (0, 0, [])).2.1), a3] 77 :: cellsH b1 [arv, rsv] 33 :: L)
     refine XL.cons (XOp.geq (a := foundI ps ((((stepsL ar rs ((os.getD k ([], 0, (0, 0, []), 0)).1))).getD q (0, 0, [])).2.2)) (b := 0) rfl rfl ?_)
     refine XL.nil ?_
     refine X.condD (p := (foundI ps ((((stepsL ar rs ((os.getD k ([], 0, (0, 0, []), 0)).1))).getD q (0, 0, [])).2.2) : Int) ≥ 0) rfl (fun h4 => ?_) (fun h4 => ?_)
     ·have hin : isIn ps ((stepsL ar rs (os.getD k ([], 0, (0, 0, []), 0)).1).getD q (0, 0, [])).2.2 = true := foundI_iff.1 h4
      refine X.exit (thenQ_exit (blockQ_exit ?_))
      refine X.region ?_
      refine XL.cons (XOp.addR (a := ((q : Nat) : Int)) (b := 1) (((q + 1 : Nat) : Int)) rfl rfl (by omega) (by omega) ?_)
      refine XL.cons (XOp.move (.int .i64 (((q + 1 : Nat) : Int))) rfl ?_)
      refine XL.nil ?_
      exact ⟨(q + 1, pv, ps, pcs, Us, pn, G2), _, leG2, (FLe.refl _), ⟨rfl, rfl, rfl, rfl, rfl, rfl, rfl, trivial⟩, (Sub.cons (Sub.drop (Sub.cons (Sub.refl _)))), ⟨rfl, leG2, (hpv), (hCi), (hni), (hDi), ((Fresh.skipLeaf hZi ((hDo1.leaves).2 q a3 (by omega) hq2))), (by (try dsimp only) <;> omega), (by (try dsimp only) <;> omega), (hoki), (hdi), (by (try dsimp only) <;> omega), (hel), (by (try dsimp only); exact hgoi.trans (add_in (by omega) hin))⟩, (by omega)⟩
     ·have hnin : isIn ps ((stepsL ar rs (os.getD k ([], 0, (0, 0, []), 0)).1).getD q (0, 0, [])).2.2 = false := by rw [Bool.eq_false_iff]; exact fun h9 => h4 (foundI_iff.2 h9)
      refine X.skip ?_
      refine X.seq ?_
      refine X.seq ?_
      refine X.region ?_
      refine XL.cons (XOp.move (pv) rfl ?_)
      refine XL.cons (XOp.lenS (v := pv) (n := pn) Try.runUnderlying87 rfl (SlV.own [] rfl) ?_)
      refine XL.cons (XOp.eql (a := ((pn : Nat) : Int)) (b := 60) rfl rfl ?_)
      refine XL.nil ?_
      refine X.condD (p := (((pn : Nat) : Int) : Int) = 60) rfl (fun h5 => ?_) (fun h5 => ?_)
      ·refine X.seq ?_
       refine X.region ?_
       refine XL.cons (XOp.move (pv) rfl ?_)
       refine XL.cons (XOp.assign (pv) rfl ?_)
       refine XL.cons (XOp.assign (.bool (false)) rfl ?_)
       refine XL.nil ?_
       refine X.freezeF [] _ _ rfl (fun F6 le6 hz3 => ?_)
       replace har := har.mono le6
       replace hrs := hrs.mono le6
       replace ht := ht.mono le6
       replace hf1 := hf1.mono le6
       replace hc1 := hc1.mono le6
       replace hC := hC.mono le6
       replace ha1 := ha1.mono le6
       replace ha2 := ha2.mono le6
       replace hXo1 := hXo1.mono le6
       replace hCi := hCi.mono le6
       replace ha3 := ha3.mono le6
       replace hr1 := Rd.monoA hr1 le6
       replace hr2 := Rd.monoA hr2 le6
       replace hr3 := Rd.monoA hr3 le6
       have hf3 : FoundsF F6 pv ps pcs := FoundsC.fz hCi (by first | rfl | simp | omega) hz3.fz
       refine X.ret (thenQ_ret (blockQ_ret (thenQ_ret (thenQ_ret (blockQ_ret (blockQ_ret (thenQ_ret (thenQ_ret (blockQ_ret (thenQ_ret (retEnd (L' := L) [pv, .bool (false)] (.tuple #[pv, .bool (false)]) (.tmp rfl (.tmp rfl .nil)) rfl (FLe.trans (FLe.trans (FLe.trans (FLe.trans le1 leG1) le4) leG2) le6) (FLe.refl _) (Sub.drop (Sub.drop (Sub.refl _))) ?_)))))))))))
       have h9 := hgoi.trans (add_full (by omega) hnin (by omega))
       have h8 := reach_stop (ar := ar) (rs := rs) (n := n) (f := 60 - k - 1) (show k < os.length by omega) (by omega) hdeep (by rw [h9])
       have e9 : reachL ar rs t n = (ps, false) := (hgo.trans h8).trans h9
       rw [e9]
       exact ⟨_, _, _, rfl, hf3, hDi, ((Fresh.noMore hZi).mono le6), rfl⟩
      ·refine X.skip ?_
       obtain ⟨a4, a5, ha4, ha5, hq3⟩ := hCi.get (i := k) (by omega)
       refine X.draw [slH 91 6 pv pn pcs, cellsH b2 [.int .i64 ((((stepsL ar rs ((os.getD k ([], 0, (0, 0, []), 0)).1))).getD q (0, 0, [])).1), .int .i64 ((((stepsL ar rs ((os.getD k ([], 0, (0, 0, []), 0)).1))).getD q (0, 0, [])).2.1), a3] 77, cellsH b1 [arv, rsv] 33] L 13 [[], [], [], [], [], [], [], [], [], [], [], [], []] [[], [], [1], [], [], [], [], [5, 6], [7], [8], [9], [2, 3, 4, 10], [11]] (phiL [fun us v => v = pv, fun us v => v = ptr b2 2, fun us v => v = a3, fun us v => v = (.int .i64 (((k : Nat) : Int)) : Value), fun us v => v = (.agg #[.int .i64 ((((stepsL ar rs ((os.getD k ([], 0, (0, 0, []), 0)).1))).getD q (0, 0, [])).1), .int .i64 ((((stepsL ar rs ((os.getD k ([], 0, (0, 0, []), 0)).1))).getD q (0, 0, [])).2.1), a3] : Value), fun us v => v = pv, fun us v => v = (.int .i64 (((k : Nat) : Int)) : Value), fun us v => v = (.pointer (some (elemA pv (k * 6))) : Value), fun us v => v = (.pointer (some (elemA pv (k * 6 + 5))) : Value), fun us v => v = (.int .i64 ((ps.getD k ([], 0, (0, 0, []), 0)).2.2.2) : Value), fun us v => v = (.int .i64 (((ps.getD k ([], 0, (0, 0, []), 0)).2.2.2) + 1) : Value), fun us v => v = (.agg #[a3, .int .i64 (((k : Nat) : Int)), .int .i64 ((((stepsL ar rs ((os.getD k ([], 0, (0, 0, []), 0)).1))).getD q (0, 0, [])).1), .int .i64 ((((stepsL ar rs ((os.getD k ([], 0, (0, 0, []), 0)).1))).getD q (0, 0, [])).2.1), a3, .int .i64 (((ps.getD k ([], 0, (0, 0, []), 0)).2.2.2) + 1)] : Value), fun us v => ∃ b, v = .slice (some ⟨b, 0, none⟩) 1 1]) (ownL [fun us v => [], fun us v => [], fun us v => [], fun us v => [], fun us v => [], fun us v => [], fun us v => [], fun us v => [], fun us v => [], fun us v => [], fun us v => [], fun us v => [], fun us v => [slH 91 6 v 1 [a3, .int .i64 (((k : Nat) : Int)), .int .i64 ((((stepsL ar rs ((os.getD k ([], 0, (0, 0, []), 0)).1))).getD q (0, 0, [])).1), .int .i64 ((((stepsL ar rs ((os.getD k ([], 0, (0, 0, []), 0)).1))).getD q (0, 0, [])).2.1), a3, .int .i64 (((ps.getD k ([], 0, (0, 0, []), 0)).2.2.2) + 1)]]]) mixed rfl rfl (by kernel_rfl) ?_ ?_
       ·refine stepsP.cons (fun vals R hpZ => ?_) ?_
        ·refine XG.op (XOp.move (pv) rfl ?_)
         exact ⟨rfl, rfl, rfl⟩
        refine stepsP.cons (fun vals R hpZ => ?_) ?_
        ·refine XG.op (XOp.fieldP (b := b2) (2) Try.runUnderlying77 rfl Try.sizeOf22 (by decide) rfl rfl ?_)
         exact ⟨rfl, rfl, rfl⟩
        refine stepsP.cons (fun vals R hpZ => ?_) ?_
        ·rw [(envs_of_sat (l := [(1, ptr b2 2)]) ⟨hpZ 1 (by decide), trivial⟩).symm]
         refine XG.op (XOp.load1 (v := a3) Try.isAgg22 rfl (Rd.own [_] rfl rfl) ?_)
         exact ⟨rfl, rfl, rfl⟩
        refine stepsP.cons (fun vals R hpZ => ?_) ?_
        ·refine XG.op (XOp.move (.int .i64 (((k : Nat) : Int))) rfl ?_)
         exact ⟨rfl, rfl, rfl⟩
        refine stepsP.cons (fun vals R hpZ => ?_) ?_
        ·refine XG.op (XOp.loadN [.int .i64 ((((stepsL ar rs ((os.getD k ([], 0, (0, 0, []), 0)).1))).getD q (0, 0, [])).1), .int .i64 ((((stepsL ar rs ((os.getD k ([], 0, (0, 0, []), 0)).1))).getD q (0, 0, [])).2.1), a3] Try.isAgg77 Try.sizeOf77 rfl rfl (Rd.ownN [_] rfl rfl) ?_)
         exact ⟨rfl, rfl, rfl⟩
        refine stepsP.cons (fun vals R hpZ => ?_) ?_
        ·refine XG.op (XOp.move (pv) rfl ?_)
         exact ⟨rfl, rfl, rfl⟩
        refine stepsP.cons (fun vals R hpZ => ?_) ?_
        ·refine XG.op (XOp.move (.int .i64 (((k : Nat) : Int))) rfl ?_)
         exact ⟨rfl, rfl, rfl⟩
        refine stepsP.cons (fun vals R hpZ => ?_) ?_
        ·rw [(envs_of_sat (l := [(5, pv), (6, (.int .i64 (((k : Nat) : Int)) : Value))]) ⟨hpZ 5 (by decide), hpZ 6 (by decide), trivial⟩).symm]
         refine XG.op (XOp.indexS (v := pv) (i := ((k : Nat) : Int)) (n := pn) k Try.runUnderlying87 Try.sizeOf91 rfl rfl rfl (SlV.own [] rfl) (by omega) rfl ?_)
         exact ⟨rfl, rfl, rfl⟩
        refine stepsP.cons (fun vals R hpZ => ?_) ?_
        ·rw [(envs_of_sat (l := [(7, (.pointer (some (elemA pv (k * 6))) : Value))]) ⟨hpZ 7 (by decide), trivial⟩).symm]
         refine XG.op (XOp.fieldE (v := pv) (k * 6 + 5) Try.runUnderlying91 rfl Try.sizeOf2 (by decide) rfl rfl ?_)
         exact ⟨rfl, rfl, rfl⟩
        refine stepsP.cons (fun vals R hpZ => ?_) ?_
        ·rw [(envs_of_sat (l := [(8, (.pointer (some (elemA pv (k * 6 + 5))) : Value))]) ⟨hpZ 8 (by decide), trivial⟩).symm]
         refine XG.op (XOp.load1 (v := .int .i64 ((ps.getD k ([], 0, (0, 0, []), 0)).2.2.2)) Try.isAgg2 rfl (Rd.sl [] rfl (hq3 5 _ rfl)) ?_)
         exact ⟨rfl, rfl, rfl⟩
        refine stepsP.cons (fun vals R hpZ => ?_) ?_
        ·rw [(envs_of_sat (l := [(9, (.int .i64 ((ps.getD k ([], 0, (0, 0, []), 0)).2.2.2) : Value))]) ⟨hpZ 9 (by decide), trivial⟩).symm]
         refine XG.op (XOp.addR (a := (ps.getD k ([], 0, (0, 0, []), 0)).2.2.2) (b := 1) (((ps.getD k ([], 0, (0, 0, []), 0)).2.2.2) + 1) rfl rfl (by omega) (by omega) ?_)
         exact ⟨rfl, rfl, rfl⟩
        refine stepsP.cons (fun vals R hpZ => ?_) ?_
        ·rw [(envs_of_sat (l := [(2, a3), (3, (.int .i64 (((k : Nat) : Int)) : Value)), (4, (.agg #[.int .i64 ((((stepsL ar rs ((os.getD k ([], 0, (0, 0, []), 0)).1))).getD q (0, 0, [])).1), .int .i64 ((((stepsL ar rs ((os.getD k ([], 0, (0, 0, []), 0)).1))).getD q (0, 0, [])).2.1), a3] : Value)), (10, (.int .i64 (((ps.getD k ([], 0, (0, 0, []), 0)).2.2.2) + 1) : Value))]) ⟨hpZ 2 (by decide), hpZ 3 (by decide), hpZ 4 (by decide), hpZ 10 (by decide), trivial⟩).symm]
         refine XG.op (XOp.build [a3, .int .i64 (((k : Nat) : Int)), .int .i64 ((((stepsL ar rs ((os.getD k ([], 0, (0, 0, []), 0)).1))).getD q (0, 0, [])).1), .int .i64 ((((stepsL ar rs ((os.getD k ([], 0, (0, 0, []), 0)).1))).getD q (0, 0, [])).2.1), a3, .int .i64 (((ps.getD k ([], 0, (0, 0, []), 0)).2.2.2) + 1)] [(.slice none 0 0), .int .i64 (0), .int .i64 (0), .int .i64 (0), (.slice none 0 0), .int .i64 (0)] [(0, 1), (1, 1), (2, 3), (5, 1)] [(0, [a3]), (1, [.int .i64 (((k : Nat) : Int))]), (2, [.int .i64 ((((stepsL ar rs ((os.getD k ([], 0, (0, 0, []), 0)).1))).getD q (0, 0, [])).1), .int .i64 ((((stepsL ar rs ((os.getD k ([], 0, (0, 0, []), 0)).1))).getD q (0, 0, [])).2.1), a3]), (3, [.int .i64 (((ps.getD k ([], 0, (0, 0, []), 0)).2.2.2) + 1)])] Try.runUnderlying91 Try.zeroValue91 rfl (.cons rfl Try.sizeOf22 (.cons rfl Try.sizeOf3 (.cons rfl Try.sizeOf77 (.cons rfl Try.sizeOf2 PlacesAre.nil)))) rfl (.cons (cells_one (IntsF.isSl ha3)) (.cons rfl (.cons rfl (.cons rfl CellsAre.nil)))) ?_)
         exact ⟨rfl, rfl, rfl⟩
        refine stepsP.cons (fun vals R hpZ => ?_) ?_
        ·rw [(envs_of_sat (l := [(11, (.agg #[a3, .int .i64 (((k : Nat) : Int)), .int .i64 ((((stepsL ar rs ((os.getD k ([], 0, (0, 0, []), 0)).1))).getD q (0, 0, [])).1), .int .i64 ((((stepsL ar rs ((os.getD k ([], 0, (0, 0, []), 0)).1))).getD q (0, 0, [])).2.1), a3, .int .i64 (((ps.getD k ([], 0, (0, 0, []), 0)).2.2.2) + 1)] : Value))]) ⟨hpZ 11 (by decide), trivial⟩).symm]
         refine XG.op (XOp.buildSlice (s := 6) [a3, .int .i64 (((k : Nat) : Int)), .int .i64 ((((stepsL ar rs ((os.getD k ([], 0, (0, 0, []), 0)).1))).getD q (0, 0, [])).1), .int .i64 ((((stepsL ar rs ((os.getD k ([], 0, (0, 0, []), 0)).1))).getD q (0, 0, [])).2.1), a3, .int .i64 (((ps.getD k ([], 0, (0, 0, []), 0)).2.2.2) + 1)] [(.slice none 0 0), .int .i64 (0), .int .i64 (0), .int .i64 (0), (.slice none 0 0), .int .i64 (0)] [(0, [a3, .int .i64 (((k : Nat) : Int)), .int .i64 ((((stepsL ar rs ((os.getD k ([], 0, (0, 0, []), 0)).1))).getD q (0, 0, [])).1), .int .i64 ((((stepsL ar rs ((os.getD k ([], 0, (0, 0, []), 0)).1))).getD q (0, 0, [])).2.1), a3, .int .i64 (((ps.getD k ([], 0, (0, 0, []), 0)).2.2.2) + 1)])] Try.runUnderlying87 Try.sizeOf91 Try.zeroValue91 rfl (by decide) rfl (.cons rfl CellsAre.nil) rfl ?_)
         intro v4 hv3
         exact ⟨rfl, hv3, rfl⟩
        exact stepsP.nil
       ·intro vals hphi
        have e0 : vals 0 = pv := hphi 0 (by decide)
        have e1 : vals 1 = ptr b2 2 := hphi 1 (by decide)
        have e2 : vals 2 = a3 := hphi 2 (by decide)
        have e3 : vals 3 = (.int .i64 (((k : Nat) : Int)) : Value) := hphi 3 (by decide)
        have e4 : vals 4 = (.agg #[.int .i64 ((((stepsL ar rs ((os.getD k ([], 0, (0, 0, []), 0)).1))).getD q (0, 0, [])).1), .int .i64 ((((stepsL ar rs ((os.getD k ([], 0, (0, 0, []), 0)).1))).getD q (0, 0, [])).2.1), a3] : Value) := hphi 4 (by decide)
        have e5 : vals 5 = pv := hphi 5 (by decide)
        have e6 : vals 6 = (.int .i64 (((k : Nat) : Int)) : Value) := hphi 6 (by decide)
        have e7 : vals 7 = (.pointer (some (elemA pv (k * 6))) : Value) := hphi 7 (by decide)
        have e8 : vals 8 = (.pointer (some (elemA pv (k * 6 + 5))) : Value) := hphi 8 (by decide)
        have e9 : vals 9 = (.int .i64 ((ps.getD k ([], 0, (0, 0, []), 0)).2.2.2) : Value) := hphi 9 (by decide)
        have e10 : vals 10 = (.int .i64 (((ps.getD k ([], 0, (0, 0, []), 0)).2.2.2) + 1) : Value) := hphi 10 (by decide)
        have e11 : vals 11 = (.agg #[a3, .int .i64 (((k : Nat) : Int)), .int .i64 ((((stepsL ar rs ((os.getD k ([], 0, (0, 0, []), 0)).1))).getD q (0, 0, [])).1), .int .i64 ((((stepsL ar rs ((os.getD k ([], 0, (0, 0, []), 0)).1))).getD q (0, 0, [])).2.1), a3, .int .i64 (((ps.getD k ([], 0, (0, 0, []), 0)).2.2.2) + 1)] : Value) := hphi 11 (by decide)
        have f12 : ∃ b, (vals 12) = .slice (some ⟨b, 0, none⟩) 1 1 := hphi 12 (by decide)
        generalize hu12 : vals 12 = u2 at f12
        rw [(envs_of_sat (l := [(0, pv), (1, ptr b2 2), (2, a3), (3, (.int .i64 (((k : Nat) : Int)) : Value)), (4, (.agg #[.int .i64 ((((stepsL ar rs ((os.getD k ([], 0, (0, 0, []), 0)).1))).getD q (0, 0, [])).1), .int .i64 ((((stepsL ar rs ((os.getD k ([], 0, (0, 0, []), 0)).1))).getD q (0, 0, [])).2.1), a3] : Value)), (5, pv), (6, (.int .i64 (((k : Nat) : Int)) : Value)), (7, (.pointer (some (elemA pv (k * 6))) : Value)), (8, (.pointer (some (elemA pv (k * 6 + 5))) : Value)), (9, (.int .i64 ((ps.getD k ([], 0, (0, 0, []), 0)).2.2.2) : Value)), (10, (.int .i64 (((ps.getD k ([], 0, (0, 0, []), 0)).2.2.2) + 1) : Value)), (11, (.agg #[a3, .int .i64 (((k : Nat) : Int)), .int .i64 ((((stepsL ar rs ((os.getD k ([], 0, (0, 0, []), 0)).1))).getD q (0, 0, [])).1), .int .i64 ((((stepsL ar rs ((os.getD k ([], 0, (0, 0, []), 0)).1))).getD q (0, 0, [])).2.1), a3, .int .i64 (((ps.getD k ([], 0, (0, 0, []), 0)).2.2.2) + 1)] : Value)), (12, u2)]) ⟨e0, e1, e2, e3, e4, e5, e6, e7, e8, e9, e10, e11, hu12, trivial⟩).symm]
        show XL _ _ _ _ _ _ _ (slH 91 6 u2 1 [a3, .int .i64 (((k : Nat) : Int)), .int .i64 ((((stepsL ar rs ((os.getD k ([], 0, (0, 0, []), 0)).1))).getD q (0, 0, [])).1), .int .i64 ((((stepsL ar rs ((os.getD k ([], 0, (0, 0, []), 0)).1))).getD q (0, 0, [])).2.1), a3, .int .i64 (((ps.getD k ([], 0, (0, 0, []), 0)).2.2.2) + 1)] :: slH 91 6 pv pn pcs :: cellsH b2 [.int .i64 ((((stepsL ar rs ((os.getD k ([], 0, (0, 0, []), 0)).1))).getD q (0, 0, [])).1), .int .i64 ((((stepsL ar rs ((os.getD k ([], 0, (0, 0, []), 0)).1))).getD q (0, 0, [])).2.1), a3] 77 :: cellsH b1 [arv, rsv] 33 :: L)
        refine XL.cons (XOp.append (m := 1) (bytes := 80) (cs := pcs) [_] _ [a3, .int .i64 (((k : Nat) : Int)), .int .i64 ((((stepsL ar rs ((os.getD k ([], 0, (0, 0, []), 0)).1))).getD q (0, 0, [])).1), .int .i64 ((((stepsL ar rs ((os.getD k ([], 0, (0, 0, []), 0)).1))).getD q (0, 0, [])).2.1), a3, .int .i64 (((ps.getD k ([], 0, (0, 0, []), 0)).2.2.2) + 1)] Try.runUnderlying87 Try.typeInfo91 rfl rfl rfl rfl rfl rfl rfl (SlV.own [] rfl) rfl (Rd.lit [] rfl) (ones_cons (one_sl (IntsF.isSl ha3)) (ones_cons rfl (ones_cons rfl (ones_cons rfl (ones_cons (one_sl (IntsF.isSl ha3)) (ones_cons rfl ones_nil)))))) (by (try simp only [List.length_append, List.length_nil, List.length_cons, List.length_singleton]); omega) (by (try simp only [List.length_append, List.length_nil, List.length_cons, List.length_singleton]); omega) ?_)
        intro v5 hs2 hn1 hm1
        have hc2 := FoundsC.snoc hCi (y0 := (((stepsL ar rs ((os.getD k ([], 0, (0, 0, []), 0)).1))).getD q (0, 0, [])).2.2) (y1 := ((k : Nat) : Int)) (y2 := (((stepsL ar rs ((os.getD k ([], 0, (0, 0, []), 0)).1))).getD q (0, 0, [])).1) (y3 := (((stepsL ar rs ((os.getD k ([], 0, (0, 0, []), 0)).1))).getD q (0, 0, [])).2.1) (y4 := (((stepsL ar rs ((os.getD k ([], 0, (0, 0, []), 0)).1))).getD q (0, 0, [])).2.2) (y5 := ((ps.getD k ([], 0, (0, 0, []), 0)).2.2.2) + 1) ha3 ha3
        refine XL.cons (XOp.assign (v5) rfl ?_)
        refine XL.nil ?_
        refine X.region ?_
        refine XL.cons (XOp.addR (a := ((q : Nat) : Int)) (b := 1) (((q + 1 : Nat) : Int)) rfl rfl (by omega) (by omega) ?_)
        refine XL.cons (XOp.move (.int .i64 (((q + 1 : Nat) : Int))) rfl ?_)
        refine XL.nil ?_
        exact ⟨(q + 1, v5, ps ++ [((((stepsL ar rs ((os.getD k ([], 0, (0, 0, []), 0)).1))).getD q (0, 0, [])).2.2, ((k : Nat) : Int), ((((stepsL ar rs ((os.getD k ([], 0, (0, 0, []), 0)).1))).getD q (0, 0, [])).1, (((stepsL ar rs ((os.getD k ([], 0, (0, 0, []), 0)).1))).getD q (0, 0, [])).2.1, (((stepsL ar rs ((os.getD k ([], 0, (0, 0, []), 0)).1))).getD q (0, 0, [])).2.2), ((ps.getD k ([], 0, (0, 0, []), 0)).2.2.2) + 1)], pcs ++ [a3, .int .i64 (((k : Nat) : Int)), .int .i64 ((((stepsL ar rs ((os.getD k ([], 0, (0, 0, []), 0)).1))).getD q (0, 0, [])).1), .int .i64 ((((stepsL ar rs ((os.getD k ([], 0, (0, 0, []), 0)).1))).getD q (0, 0, [])).2.1), a3, .int .i64 (((ps.getD k ([], 0, (0, 0, []), 0)).2.2.2) + 1)], Us ++ [intsH 2 a3 ((stepsL ar rs (os.getD k ([], 0, (0, 0, []), 0)).1).getD q (0, 0, [])).2.2], (pn) + 1, G2), _, leG2, (FLe.refl _), ⟨rfl, rfl, rfl, rfl, rfl, rfl, rfl, trivial⟩, (Sub.drop (Sub.cons (Sub.drop (Sub.cons (Sub.refl _))))), ⟨rfl, leG2, (hs2), (hc2), (by (try dsimp only); rw [List.length_append, List.length_singleton]; omega), (DeepL.snoc hDi rfl ⟨_, _, rfl, rfl⟩), ((Fresh.keepLeaf hZi ((hDo1.leaves).2 q a3 (by omega) hq2))), (by (try dsimp only) <;> omega), (by (try dsimp only); rw [List.length_append, List.length_singleton]; omega), (hoki.snoc (steps_ok hsys (hdk (by omega)) (by omega))), (hdi.snoc (by have h9 := hdo k (by omega); have h8 : (EL ps k).2.2.2 = (EL os k).2.2.2 := (by rw [hel]); have h7 : (EL ps k).2.2.2 = (ps.getD k ([], 0, (0, 0, []), 0)).2.2.2 := rfl; have h6 : (EL os k).2.2.2 = (os.getD k ([], 0, (0, 0, []), 0)).2.2.2 := rfl; dsimp only; omega)), (by (try dsimp only); rw [List.length_append, List.length_singleton]; omega), (by (try dsimp only); rw [EL_snoc (by omega)]; exact hel), (by (try dsimp only); rw [show (ps.getD k ([], 0, (0, 0, []), 0)) = EL os k from hel]; exact hgoi.trans (add_new (by omega) hnin (by omega)))⟩, (by omega)⟩
    ·refine X.exit (thenQ_exit (thenQ_exit (blockQ_exit ?_)))
     refine X.region ?_
     refine XL.cons (XOp.move (.int .i64 (((k : Nat) : Int))) rfl ?_)
     refine XL.cons (XOp.addR (a := ((k : Nat) : Int)) (b := 1) (((k + 1 : Nat) : Int)) rfl rfl (by omega) (by omega) ?_)
     refine XL.cons (XOp.assign (.int .i64 (((k + 1 : Nat) : Int))) rfl ?_)
     refine XL.nil ?_
     exact ⟨(k + 1, pv, ps, pcs, Us, pn, G2), _, (FLe.trans (FLe.trans leG1 le4) leG2), (FLe.refl _), ⟨rfl, rfl, rfl, rfl, trivial⟩, (Sub.cons (Sub.cons (Sub.refl _))), ⟨rfl, (FLe.trans (FLe.trans leG1 le4) leG2), (hpv), (hCi), (hni), (hDi), ((Fresh.noMore hZi)), (by (try dsimp only); omega), (by (try dsimp only) <;> omega), (hoki), (hdi), (by (try dsimp only); have h9 := hgoi.trans (add_end (by omega)); have h8 := reach_more (ar := ar) (rs := rs) (n := n) (f := 60 - k - 1) (show k < os.length by omega) (by omega) hdeep (by rw [h9]); rw [h9] at h8; exact hgo.trans h8)⟩, (by (try dsimp only); omega)⟩
 ·refine X.exit (thenQ_exit (thenQ_exit (blockQ_exit ?_)))
  refine X.seq ?_
  refine X.region ?_
  refine XL.cons (XOp.move (ov) rfl ?_)
  refine XL.cons (XOp.assign (ov) rfl ?_)
  refine XL.cons (XOp.assign (.bool (true)) rfl ?_)
  refine XL.nil ?_
  refine X.freezeF [] _ _ rfl (fun F7 le7 hz4 => ?_)
  replace har := har.mono le7
  replace hrs := hrs.mono le7
  replace ht := ht.mono le7
  replace hf1 := hf1.mono le7
  replace hc1 := hc1.mono le7
  replace hC := hC.mono le7
  have hf4 : FoundsF F7 ov os ocs := FoundsC.fz hC (by first | rfl | simp | omega) hz4.fz
  refine X.ret (retEnd (L' := L) [ov, .bool (true)] (.tuple #[ov, .bool (true)]) (.tmp rfl (.tmp rfl .nil)) rfl (FLe.trans (FLe.trans le1 leG1) le7) (FLe.refl _) (Sub.drop (Sub.refl _)) ?_)
  have e9 : reachL ar rs t n = (os, true) := hgo.trans (reach_done (by omega) hl)
  rw [e9]
  exact ⟨_, _, _, rfl, hf4, hD, (hZ.mono le7), rfl⟩
end Go.Proofs.Ytiaanelimbmniaa
set_option linter.unusedSimpArgs false
set_option linter.unusedVariables false
namespace Go.Proofs.Ytiaanelimbmniaa
open Go X M

/- (*impl.Walk).add -/
theorem walkAdd_spec {F : FH} {L : List HP} {b m : Nat} {fv sv tov : Value} {ss : List StepT} {cs : List Value} {i j : Int} {to : List Int} (hto : IntsF F tov to) (hsv : IsSl sv) (hC : StepsC F cs ss) (hm : m = ss.length) (hsb : ss.length ≤ 4000000) (hlt : to.length ≤ 4000000) :
    Does Try.prog 125 [ptr b 0, .agg #[.int .i64 (i), .int .i64 (j), tov]] F (cellsH b [fv, sv] 41 :: slH 77 3 sv m cs :: L) (fun v F' L' => ∃ (sw cw : Value), IsSl sw ∧ IntsF F' cw to ∧ Fresh F F' (intsH 2 cw to) ∧ cellsH b [fv, sw] 41 :: slH 77 3 sw (m + 1) (cs ++ [.int .i64 i, .int .i64 j, cw]) :: L = L') := by
 refine Does.of_X Try.func125 rfl rfl rfl ?_
 refine X.seq ?_
 refine X.region ?_
 refine XL.cons (XOp.box [.int .i64 (i), .int .i64 (j), tov] rfl rfl ?_)
 intro b1
 refine XL.nil ?_
 refine X.weaken (Sub.front (A := [_, _])) ?_
 show X _ _ _ _ _ _ (slH 77 3 sv m cs :: cellsH b1 [.int .i64 (i), .int .i64 (j), tov] 77 :: cellsH b [fv, sv] 41 :: L)
 refine X.drawH [cellsH b1 [.int .i64 (i), .int .i64 (j), tov] 77, cellsH b [fv, sv] 41] L 15 [[], [], [], [], [], [], [], [], [], [], [], [], [11], [11], [11, 13]] [[], [], [1], [2], [3], [], [5], [], [7], [], [9], [10], [6, 8, 11], [11, 12], [4, 11, 13]] [[], [], [], [], [], [], [], [], [], [], [], [], [], [], [13]] (phiG [fun FF us v => v = ptr b 0, fun FF us v => v = ptr b 0, fun FF us v => v = ptr b 0, fun FF us v => v = ptr b 1, fun FF us v => v = sv, fun FF us v => v = ptr b1 0, fun FF us v => v = (.int .i64 (i) : Value), fun FF us v => v = ptr b1 1, fun FF us v => v = (.int .i64 (j) : Value), fun FF us v => v = ptr b1 2, fun FF us v => v = tov, fun FF us v => ((v) : Value) = v ∧ (IntsF FF (v) (to)) ∧ (FrIntsF F FF 2 (v) (to)), fun FF us v => v = (.agg #[.int .i64 (i), .int .i64 (j), ((us.getD 0 undef))] : Value), fun FF us v => ∃ b, v = .slice (some ⟨b, 0, none⟩) 1 1, fun FF us v => IsSl v]) (ownL [fun us v => [], fun us v => [], fun us v => [], fun us v => [], fun us v => [], fun us v => [], fun us v => [], fun us v => [], fun us v => [], fun us v => [], fun us v => [], fun us v => [], fun us v => [], fun us v => [slH 77 3 v 1 [.int .i64 (i), .int .i64 (j), ((us.getD 0 undef))]], fun us v => [slH 77 3 (us.getD 1 undef) 1 [.int .i64 (i), .int .i64 (j), ((us.getD 0 undef))], slH 77 3 (v) ((m) + 1) (cs ++ [.int .i64 (i), .int .i64 (j), ((us.getD 0 undef))])]]) (fun i => ([[], [], [], [], [], [], [], [], [], [], [], [], [], [], [slH 77 3 sv m cs]] : List (List HP)).getD i []) mixed rfl rfl (by kernel_rfl) (by kernel_rfl) (MonoG.get (MonoG.cons (fun le h => h) (MonoG.cons (fun le h => h) (MonoG.cons (fun le h => h) (MonoG.cons (fun le h => h) (MonoG.cons (fun le h => h) (MonoG.cons (fun le h => h) (MonoG.cons (fun le h => h) (MonoG.cons (fun le h => h) (MonoG.cons (fun le h => h) (MonoG.cons (fun le h => h) (MonoG.cons (fun le h => h) (MonoG.cons (fun le h => ⟨h.1, h.2.1.mono le, h.2.2.mono le⟩) (MonoG.cons (fun le h => h) (MonoG.cons (fun le h => h) (MonoG.cons (fun le h => h) MonoG.nil)))))))))))))))) ?_ ?_
 ·refine stepsT.cons (fun vals Fs R leFs hpZ => ?_) ?_
  ·refine XG.op (XOp.move (ptr b 0) rfl ?_)
   exact ⟨rfl, rfl⟩
  refine stepsT.cons (fun vals Fs R leFs hpZ => ?_) ?_
  ·refine XG.op (XOp.move (ptr b 0) rfl ?_)
   exact ⟨rfl, rfl⟩
  refine stepsT.cons (fun vals Fs R leFs hpZ => ?_) ?_
  ·have e1 : vals 1 = ptr b 0 := hpZ 1 (by decide)
   replace hto := hto.mono leFs
   replace hC := hC.mono leFs
   rw [(envs_of_sat (l := [(1, ptr b 0)]) ⟨e1, trivial⟩).symm]
   refine XG.op (XOp.nilCheck (a := ⟨b, 0, none⟩) rfl ?_)
   exact ⟨rfl, rfl⟩
  refine stepsT.cons (fun vals Fs R leFs hpZ => ?_) ?_
  ·have e2 : vals 2 = ptr b 0 := hpZ 2 (by decide)
   rw [(envs_of_sat (l := [(2, ptr b 0)]) ⟨e2, trivial⟩).symm]
   refine XG.op (XOp.fieldP (b := b) (1) Try.runUnderlying41 rfl Try.sizeOf39 (by decide) rfl rfl ?_)
   exact ⟨rfl, rfl⟩
  refine stepsT.cons (fun vals Fs R leFs hpZ => ?_) ?_
  ·have e3 : vals 3 = ptr b 1 := hpZ 3 (by decide)
   replace hto := hto.mono leFs
   replace hC := hC.mono leFs
   rw [(envs_of_sat (l := [(3, ptr b 1)]) ⟨e3, trivial⟩).symm]
   refine XG.op (XOp.load1 (v := sv) Try.isAgg39 rfl (Rd.own [_] rfl rfl) ?_)
   exact ⟨rfl, rfl⟩
  refine stepsT.cons (fun vals Fs R leFs hpZ => ?_) ?_
  ·refine XG.op (XOp.fieldP (b := b1) (0) Try.runUnderlying77 rfl Try.sizeOf2 (by decide) rfl rfl ?_)
   exact ⟨rfl, rfl⟩
  refine stepsT.cons (fun vals Fs R leFs hpZ => ?_) ?_
  ·have e5 : vals 5 = ptr b1 0 := hpZ 5 (by decide)
   replace hto := hto.mono leFs
   replace hC := hC.mono leFs
   rw [(envs_of_sat (l := [(5, ptr b1 0)]) ⟨e5, trivial⟩).symm]
   refine XG.op (XOp.load1 (v := .int .i64 (i)) Try.isAgg2 rfl (Rd.own [] rfl rfl) ?_)
   exact ⟨rfl, rfl⟩
  refine stepsT.cons (fun vals Fs R leFs hpZ => ?_) ?_
  ·refine XG.op (XOp.fieldP (b := b1) (1) Try.runUnderlying77 rfl Try.sizeOf2 (by decide) rfl rfl ?_)
   exact ⟨rfl, rfl⟩
  refine stepsT.cons (fun vals Fs R leFs hpZ => ?_) ?_
  ·have e7 : vals 7 = ptr b1 1 := hpZ 7 (by decide)
   replace hto := hto.mono leFs
   replace hC := hC.mono leFs
   rw [(envs_of_sat (l := [(7, ptr b1 1)]) ⟨e7, trivial⟩).symm]
   refine XG.op (XOp.load1 (v := .int .i64 (j)) Try.isAgg2 rfl (Rd.own [] rfl rfl) ?_)
   exact ⟨rfl, rfl⟩
  refine stepsT.cons (fun vals Fs R leFs hpZ => ?_) ?_
  ·refine XG.op (XOp.fieldP (b := b1) (2) Try.runUnderlying77 rfl Try.sizeOf22 (by decide) rfl rfl ?_)
   exact ⟨rfl, rfl⟩
  refine stepsT.cons (fun vals Fs R leFs hpZ => ?_) ?_
  ·have e9 : vals 9 = ptr b1 2 := hpZ 9 (by decide)
   replace hto := hto.mono leFs
   replace hC := hC.mono leFs
   rw [(envs_of_sat (l := [(9, ptr b1 2)]) ⟨e9, trivial⟩).symm]
   refine XG.op (XOp.load1 (v := tov) Try.isAgg22 rfl (Rd.own [] rfl rfl) ?_)
   exact ⟨rfl, rfl⟩
  refine stepsT.cons (fun vals Fs R leFs hpZ => ?_) ?_
  ·have e10 : vals 10 = tov := hpZ 10 (by decide)
   replace hto := hto.mono leFs
   replace hC := hC.mono leFs
   rw [(envs_of_sat (l := [(10, tov)]) ⟨e10, trivial⟩).symm]
   refine XG.op (XOp.frzF <| XOp.call (args := [tov]) Try.call94 rfl (Clone_spec hto (hlt := (by first | assumption | rfl | omega | (left; simp; done) | (right; simp; done)))) ?_)
   rintro v4 _ _ _ ⟨rfl, hs3, rfl⟩
   refine ⟨_, _, rfl, fun F1 le1 hz1 => ?_⟩
   replace hto := hto.mono le1
   replace hC := hC.mono le1
   have hf1 : IntsF F1 v4 ((to)) := intsH.fz (xs := (to)) hz1.fz
   exact ⟨⟨rfl, hf1, (hz1.base leFs)⟩, rfl⟩
  refine stepsT.cons (fun vals Fs R leFs hpZ => ?_) ?_
  ·have e6 : vals 6 = (.int .i64 (i) : Value) := hpZ 6 (by decide)
   have e8 : vals 8 = (.int .i64 (j) : Value) := hpZ 8 (by decide)
   obtain ⟨e11, f11_1ha, f11_1hz⟩ := hpZ 11 (by decide)
   replace hto := hto.mono leFs
   replace hC := hC.mono leFs
   rw [(envs_of_sat (l := [(6, (.int .i64 (i) : Value)), (8, (.int .i64 (j) : Value)), (11, ((vals 11)))]) ⟨e6, e8, (e11).symm, trivial⟩).symm]
   refine XG.op (XOp.build [.int .i64 (i), .int .i64 (j), ((vals 11))] [.int .i64 (0), .int .i64 (0), (.slice none 0 0)] [(0, 1), (1, 1), (2, 1)] [(0, [.int .i64 (i)]), (1, [.int .i64 (j)]), (2, [((vals 11))])] Try.runUnderlying77 Try.zeroValue77 rfl (.cons rfl Try.sizeOf2 (.cons rfl Try.sizeOf2 (.cons rfl Try.sizeOf22 PlacesAre.nil))) rfl (.cons rfl (.cons rfl (.cons (cells_one (IntsF.isSl f11_1ha)) CellsAre.nil))) ?_)
   exact ⟨rfl, rfl⟩
  refine stepsT.cons (fun vals Fs R leFs hpZ => ?_) ?_
  ·obtain ⟨e11, f11_1ha, f11_1hz⟩ := hpZ 11 (by decide)
   have e12 : vals 12 = (.agg #[.int .i64 (i), .int .i64 (j), ((vals 11))] : Value) := hpZ 12 (by decide)
   replace hto := hto.mono leFs
   replace hC := hC.mono leFs
   rw [(envs_of_sat (l := [(11, ((vals 11))), (12, (.agg #[.int .i64 (i), .int .i64 (j), ((vals 11))] : Value))]) ⟨(e11).symm, e12, trivial⟩).symm]
   refine XG.op (XOp.buildSlice (s := 3) [.int .i64 (i), .int .i64 (j), ((vals 11))] [.int .i64 (0), .int .i64 (0), (.slice none 0 0)] [(0, [.int .i64 (i), .int .i64 (j), ((vals 11))])] Try.runUnderlying39 Try.sizeOf77 Try.zeroValue77 rfl (by decide) rfl (.cons rfl CellsAre.nil) rfl ?_)
   intro v5 hv2
   exact ⟨hv2, rfl⟩
  refine stepsT.cons (fun vals Fs R leFs hpZ => ?_) ?_
  ·have e4 : vals 4 = sv := hpZ 4 (by decide)
   obtain ⟨e11, f11_1ha, f11_1hz⟩ := hpZ 11 (by decide)
   have f13 : ∃ b, (vals 13) = .slice (some ⟨b, 0, none⟩) 1 1 := hpZ 13 (by decide)
   replace hto := hto.mono leFs
   replace hC := hC.mono leFs
   rw [(envs_of_sat (l := [(4, sv), (11, ((vals 11)))]) ⟨e4, (e11).symm, trivial⟩).symm]
   show XG _ _ _ _ _ (slH 77 3 (vals 13) 1 [.int .i64 (i), .int .i64 (j), ((vals 11))] :: slH 77 3 sv m cs :: ([cellsH b1 [.int .i64 (i), .int .i64 (j), tov] 77, cellsH b [fv, sv] 41] ++ R)) _
   refine XG.op (XOp.append (m := 1) (bytes := 40) (cs := cs) [_] _ [.int .i64 (i), .int .i64 (j), ((vals 11))] Try.runUnderlying39 Try.typeInfo77 rfl rfl rfl rfl rfl rfl rfl (SlV.own [] rfl) rfl (Rd.lit [] rfl) (ones_cons rfl (ones_cons rfl (ones_cons (one_sl (IntsF.isSl f11_1ha)) ones_nil))) (by (try simp only [List.length_append, List.length_nil, List.length_cons, List.length_singleton]); omega) (by (try simp only [List.length_append, List.length_nil, List.length_cons, List.length_singleton]); omega) ?_)
   intro v6 hs4 hn2 hm2
   have hc2 := StepsC.snoc hC (i := i) (j := j) f11_1ha
   exact ⟨hs4, rfl⟩
  exact stepsT.nil
 ·intro vals F2 le2 hphi
  have e0 : vals 0 = ptr b 0 := hphi 0 (by decide)
  have e1 : vals 1 = ptr b 0 := hphi 1 (by decide)
  have e2 : vals 2 = ptr b 0 := hphi 2 (by decide)
  have e3 : vals 3 = ptr b 1 := hphi 3 (by decide)
  have e4 : vals 4 = sv := hphi 4 (by decide)
  have e5 : vals 5 = ptr b1 0 := hphi 5 (by decide)
  have e6 : vals 6 = (.int .i64 (i) : Value) := hphi 6 (by decide)
  have e7 : vals 7 = ptr b1 1 := hphi 7 (by decide)
  have e8 : vals 8 = (.int .i64 (j) : Value) := hphi 8 (by decide)
  have e9 : vals 9 = ptr b1 2 := hphi 9 (by decide)
  have e10 : vals 10 = tov := hphi 10 (by decide)
  obtain ⟨e11, f11_1ha, f11_1hz⟩ := hphi 11 (by decide)
  have e12 : vals 12 = (.agg #[.int .i64 (i), .int .i64 (j), ((vals 11))] : Value) := hphi 12 (by decide)
  have f13 : ∃ b, (vals 13) = .slice (some ⟨b, 0, none⟩) 1 1 := hphi 13 (by decide)
  have f14 : IsSl (vals 14) := hphi 14 (by decide)
  generalize hu1 : ((vals 11)) = u1 at e0 e1 e2 e3 e4 e5 e6 e7 e8 e9 e10 e11 f11_1ha f11_1hz e12 f13 f14
  generalize hu13 : vals 13 = u2 at e0 e1 e2 e3 e4 e5 e6 e7 e8 e9 e10 e11 f11_1ha f11_1hz e12 f13 f14
  generalize hu14 : vals 14 = u3 at e0 e1 e2 e3 e4 e5 e6 e7 e8 e9 e10 e11 f11_1ha f11_1hz e12 f13 f14
  rw [(envs_of_sat (l := [(0, ptr b 0), (1, ptr b 0), (2, ptr b 0), (3, ptr b 1), (4, sv), (5, ptr b1 0), (6, (.int .i64 (i) : Value)), (7, ptr b1 1), (8, (.int .i64 (j) : Value)), (9, ptr b1 2), (10, tov), (11, u1), (12, (.agg #[.int .i64 (i), .int .i64 (j), u1] : Value)), (13, u2), (14, u3)]) ⟨e0, e1, e2, e3, e4, e5, e6, e7, e8, e9, e10, hu1, e12, hu13, hu14, trivial⟩).symm]
  replace hto := hto.mono le2
  replace hC := hC.mono le2
  have hc3 := StepsC.snoc hC (i := i) (j := j) f11_1ha
  show XL _ _ _ _ _ _ _ (slH 77 3 u2 1 [.int .i64 (i), .int .i64 (j), u1] :: slH 77 3 u3 ((m) + 1) (cs ++ [.int .i64 (i), .int .i64 (j), u1]) :: cellsH b1 [.int .i64 (i), .int .i64 (j), tov] 77 :: cellsH b [fv, sv] 41 :: L)
  skip
  refine XL.cons (XOp.nilCheck (a := ⟨b, 0, none⟩) rfl ?_)
  refine XL.cons (XOp.fieldP (b := b) (1) Try.runUnderlying41 rfl Try.sizeOf39 (by decide) rfl rfl ?_)
  refine XL.cons (XOp.store1 (v := u3) [_, _, _] _ [fv, u3] Try.sizeOf39 rfl rfl (one_sl f14) rfl rfl rfl ?_)
  refine XL.nil ?_
  refine id (retEndN (L' := cellsH b [fv, u3] 41 :: slH 77 3 u3 ((m) + 1) (cs ++ [.int .i64 (i), .int .i64 (j), u1]) :: L) [] (.tuple #[]) (by exact .nil) rfl le2 (FLe.refl _) (Sub.trans (Sub.front (A := [_])) (Sub.trans (Sub.front (A := [_, _, _])) (Sub.cons (Sub.cons (Sub.drop (Sub.drop (Sub.refl _))))))) ?_)
  exact ⟨_, _, f14, f11_1ha, f11_1hz, rfl⟩

/- slices.Backward[[]impl.Step,impl.Step] -/
theorem backward_spec {F : FH} {L : List HP} {sv : Value} {s : List StepT} (hs : StepsF F sv s) :
    Does Try.prog 124 [sv] F (L) (fun v F' L' => ∃ (bt : Nat), (.func (.func 144) #[] #[ptr bt 0] : Value) = v ∧ FzC F' bt [sv] ∧ L = L') := by
 refine Does.of_X Try.func124 rfl rfl rfl ?_
 refine X.seq ?_
 refine X.region ?_
 refine XL.cons (XOp.box [sv] rfl (cells_one (StepsF.isSl hs)) ?_)
 intro b1
 refine XL.cons (XOp.assign (.nilFunc) rfl ?_)
 refine XL.nil ?_
 refine X.seq ?_
 refine X.region ?_
 refine XL.cons (XOp.makeFuncL [] [ptr b1 0] rfl rfl ?_)
 refine XL.cons (XOp.assign (.func (.func 144) #[] #[ptr b1 0]) rfl ?_)
 refine XL.nil ?_
 refine X.freeze [] _ _ rfl (fun F1 le1 hz1 => ?_)
 replace hs := hs.mono le1
 have hf1 : FzC F1 b1 [sv] := Fz.cells hz1
 refine X.ret (retEnd (L' := L) [.func (.func 144) #[] #[ptr b1 0]] (.func (.func 144) #[] #[ptr b1 0]) (.tmp rfl .nil) rfl le1 (FLe.refl _) (Sub.refl _) ?_)
 exact ⟨_, rfl, hf1, rfl⟩

/- slices.Backward[[]impl.Step,impl.Step]$1 -/
set_option maxRecDepth 20000 in
theorem backIt_spec {F : FH} {L : List HP} {l bt : Nat} {R : Loop} {sv : Value} {ss : List StepT} (hbt : FzC F bt [sv]) (hs : StepsF F sv ss) (hsl : ss.length ≤ 4000000) {J : Nat → FH → List HP → Prop} (hJ0 : J ss.length F L) (hyes : ∀ (k : Nat) (i : Int) (Fy : FH) (Ly : List HP) (tov : Value), k < ss.length → F ≤ Fy → J (k + 1) Fy Ly → IntsF Fy tov (ss.getD k (0, 0, [])).2.2 → i = (k : Int) → Yld Try.prog l [.int .i64 i, .agg #[.int .i64 (ss.getD k (0, 0, [])).1, .int .i64 (ss.getD k (0, 0, [])).2.1, tov]] Fy (objH l (.loop R) :: Ly) (fun v F' L' => .bool true = v ∧ ∃ L2, J k F' L2 ∧ objH l (.loop R) :: L2 = L')) :
    Does Try.prog 144 [(.func (.yield l) #[] #[]), ptr bt 0] F (objH l (.loop R) :: L) (fun v F' L' => ∃ L2, J 0 F' L2 ∧ objH l (.loop R) :: L2 = L') := by
 refine Does.of_X Try.func144 rfl rfl rfl ?_
 refine X.seq ?_
 refine X.region ?_
 refine XL.cons (XOp.load1 (v := sv) Try.isAgg39 rfl (FzC.rd1 hbt rfl) ?_)
 refine XL.cons (XOp.lenS (v := sv) (n := (ss).length) Try.runUnderlying39 rfl hs.slv ?_)
 refine XL.cons (XOp.subR (a := (((ss).length : Nat) : Int)) (b := 1) (((((ss).length : Nat) : Int)) - 1) rfl rfl (by omega) (by omega) ?_)
 refine XL.cons (XOp.assign (.int .i64 (((((ss).length : Nat) : Int)) - 1)) rfl ?_)
 refine XL.nil ?_
 refine X.block ?_
 refine X.loop (α := Nat × List HP × FH) (fun xQ => [(0, (.func (.yield l) #[] #[])), (1, ptr bt 0), (3, .int .i64 ((xQ.1 : Int) - 1))]) (fun xQ => objH l (.loop R) :: xQ.2.1) (fun xQ F' => xQ.2.2 = F' ∧ F ≤ xQ.2.2 ∧ (xQ.1 ≤ ss.length) ∧ (J xQ.1 xQ.2.2 xQ.2.1)) (fun xQ => xQ.1) (ss.length, L, F) ⟨rfl, rfl, rfl, trivial⟩ (Sub.cons (Sub.refl _)) ⟨rfl, FLe.refl _, (Nat.le_refl _), (hJ0)⟩ ?_
 rintro ⟨j, Lk, G1⟩ rE _ _ ⟨rfl, leG, hj, hJ⟩
 show X _ _ _ _ (envs [(0, (.func (.yield l) #[] #[])), (1, ptr bt 0), (3, .int .i64 ((j : Int) - 1))] rE) _ (objH l (.loop R) :: Lk)
 replace leG : F ≤ G1 := leG
 dsimp only at hj hJ
 have hjl : j - 1 < ss.length ∨ j = 0 := by omega
 have leG1 := leG
 replace hs := hs.mono leG1
 replace hbt := hbt.mono leG1
 refine X.seq ?_
 refine X.seq ?_
 refine X.region ?_
 refine XL.cons (XOp.move (.int .i64 ((j : Int) - 1)) rfl ?_)
 refine XL.cons (XOp.geq (a := (j : Int) - 1) (b := 0) rfl rfl ?_)
 refine XL.nil ?_
 refine X.condD (p := ((j : Int) - 1 : Int) ≥ 0) rfl (fun h1 => ?_) (fun h1 => ?_)
 ·have hj0 : ((j : Int) - 1).toNat = j - 1 := by omega
  have hjk : ((j : Int) - 1) = ((j - 1 : Nat) : Int) := by omega
  refine X.skip ?_
  refine X.seq ?_
  refine X.block ?_
  refine X.seq ?_
  refine X.ofI (by kernel_rfl) ?_
  refine XI.region ?_
  refine XIL.cons (XOp.move ((.func (.yield l) #[] #[])) rfl ?_)
  refine XIL.cons (XOp.move (.int .i64 ((j : Int) - 1)) rfl ?_)
  refine XIL.cons (XOp.load1 (v := sv) Try.isAgg39 rfl (FzC.rd1 hbt rfl) ?_)
  refine XIL.cons (XOp.move (.int .i64 ((j : Int) - 1)) rfl ?_)
  refine XIL.cons (XOp.indexS (v := sv) (i := (j : Int) - 1) (n := (ss).length) (((j : Int) - 1).toNat) Try.runUnderlying39 Try.sizeOf77 rfl rfl (by omega) hs.slv (by omega) rfl ?_)
  obtain ⟨a1, ha1, hr1, hr2, hr3⟩ := hs.rd (i := ((j : Int) - 1).toNat) (by omega)
  refine XIL.cons (XOp.loadN [.int .i64 ((ss.getD (((j : Int) - 1).toNat) (0, 0, [])).1), .int .i64 ((ss.getD (((j : Int) - 1).toNat) (0, 0, [])).2.1), a1] Try.isAgg77 Try.sizeOf77 rfl rfl (Rd.three (hr1 _) (hr2 _) (hr3 _)) ?_)
  refine XIL.yield (k := l) (args := [.int .i64 ((j : Int) - 1), .agg #[.int .i64 ((ss.getD (((j : Int) - 1).toNat) (0, 0, [])).1), .int .i64 ((ss.getD (((j : Int) - 1).toNat) (0, 0, [])).2.1), a1]]) rfl (by rfl) ?_
  refine Yld.weaken (Sub.cons (Sub.refl _)) ?_
  have hJ9 : J ((((j : Int) - 1).toNat) + 1) G1 Lk := by rw [show ((j : Int) - 1).toNat + 1 = j from by omega]; exact hJ
  refine (hyes _ _ _ _ _ (by omega) leG1 hJ9 ha1 (by omega)).mono ?_
  rintro _ F1 _ le1 ⟨rfl, Lj1, hJ1, rfl⟩
  rw [hj0] at hJ1
  replace hs := hs.mono le1
  replace hbt := hbt.mono le1
  replace ha1 := ha1.mono le1
  replace hr1 := Rd.monoA hr1 le1
  replace hr2 := Rd.monoA hr2 le1
  replace hr3 := Rd.monoA hr3 le1
  show XIL _ _ _ _ _ _ _ _ _ (objH l (.loop R) :: Lj1)
  refine XIL.cons (XOp.notB (b := true) rfl ?_)
  refine XIL.nil ?_
  refine X.condF rfl ?_
  refine X.skip ?_
  refine X.region ?_
  refine XL.cons (XOp.move (.int .i64 ((j : Int) - 1)) rfl ?_)
  refine XL.cons (XOp.subR (a := (j : Int) - 1) (b := 1) (((j : Int) - 1) - 1) rfl rfl (by omega) (by omega) ?_)
  refine XL.cons (XOp.assign (.int .i64 (((j : Int) - 1) - 1)) rfl ?_)
  refine XL.nil ?_
  exact ⟨(j - 1, Lj1, F1), _, (FLe.trans leG1 le1), (FLe.refl _), ⟨rfl, rfl, (congrArg (Value.int .i64) (by (try dsimp only); omega)), trivial⟩, (Sub.cons (Sub.refl _)), ⟨rfl, (FLe.trans leG1 le1), (by (try dsimp only) <;> omega), (hJ1)⟩, (by (try dsimp only); omega)⟩
 ·refine X.exit (thenQ_exit (thenQ_exit (blockQ_exit ?_)))
  refine id (retEndN (L' := objH l (.loop R) :: Lk) [] (.tuple #[]) (by exact .nil) rfl leG1 (FLe.refl _) (Sub.cons (Sub.refl _)) ?_)
  obtain rfl : j = 0 := by omega
  exact ⟨_, hJ, rfl⟩

/- impl.walkBack -/
set_option maxRecDepth 20000 in
theorem walkBack_spec {F : FH} {L : List HP} {alv : Value} {al : List FoundT} {alcs : List Value} (hal : FoundsF F alv al alcs) {k : Nat} (hk : k < al.length) (hll : al.length ≤ 60) (hlk : Link al) (hbd : ∀ i, i < al.length → (EL al i).1.length ≤ 60) :
    Does Try.prog 102 [alv, .int .i64 (((k : Nat) : Int))] F (L) (fun v F' L' => ∃ (a : Value), ∃ (b : Value), (.agg #[a, b] : Value) = v ∧ (IntsF F' a (EL al 0).1) ∧ (StepsF F' b (walkL al k)) ∧ (Fresh F F' (star [intsH 2 a (EL al 0).1, stepsD 2 77 b (walkL al k)])) ∧ L = L') := by
 refine Does.of_XF Try.func102 rfl (by kernel_rfl) rfl ?_
 have hbd0 : (al.getD 0 ([], 0, (0, 0, []), 0)).1.length ≤ 60 := hbd 0 (by omega)
 refine XF.seq ?_
 refine X.region ?_
 refine XL.cons (XOp.alloc [(.slice none 0 0), (.slice none 0 0)] Try.zeroValue41 rfl ?_)
 intro b1
 refine XL.nil ?_
 refine XF.seq ?_
 refine X.region ?_
 refine XL.cons (XOp.move (alv) rfl ?_)
 refine XL.cons (XOp.indexS (v := alv) (i := 0) (n := (al).length) 0 Try.runUnderlying87 Try.sizeOf91 rfl rfl rfl hal.slv (by omega) rfl ?_)
 refine XL.cons (XOp.fieldE (v := alv) (0 * 6) Try.runUnderlying91 rfl Try.sizeOf22 (by decide) rfl rfl ?_)
 obtain ⟨a1, a2, ha1, ha2, hrg1, hq1⟩ := hal.rd (i := 0) (by omega)
 refine XL.cons (XOp.load1 (v := a1) Try.isAgg22 rfl (hrg1 _ 0 _ rfl) ?_)
 refine XL.cons (XOp.frzF <| XOp.call (args := [a1]) Try.call94 rfl (Clone_spec ha1 (hlt := (by first | assumption | rfl | omega | (left; simp; done) | (right; simp; done)))) ?_)
 rintro v1 _ _ _ ⟨rfl, hs1, rfl⟩
 refine ⟨_, _, rfl, fun F1 le1 hz1 => ?_⟩
 replace hal := hal.mono le1
 replace ha1 := ha1.mono le1
 replace ha2 := ha2.mono le1
 replace hrg1 := fun L9 j9 u9 h9 => Rd.mono (hrg1 L9 j9 u9 h9) le1
 have hf1 : IntsF F1 v1 ((((al.getD 0 ([], 0, (0, 0, []), 0)).1))) := intsH.fz (xs := (((al.getD 0 ([], 0, (0, 0, []), 0)).1))) hz1.fz
 refine XL.cons (XOp.build [v1, (.slice none 0 0)] [(.slice none 0 0), (.slice none 0 0)] [(0, 1), (1, 1)] [(0, [v1])] Try.runUnderlying41 Try.zeroValue41 rfl (.cons rfl Try.sizeOf22 (.cons rfl Try.sizeOf39 PlacesAre.nil)) rfl (.cons (cells_one (IntsF.isSl hf1)) CellsAre.nil) ?_)
 refine XL.cons (XOp.alloc [(.slice none 0 0), (.slice none 0 0)] Try.zeroValue41 rfl ?_)
 intro b2
 refine XL.cons (XOp.storeN (vs := [v1, (.slice none 0 0)]) [] _ [v1, (.slice none 0 0)] Try.sizeOf41 rfl rfl rfl (ones_cons (one_sl (IntsF.isSl hf1)) (ones_cons rfl ones_nil)) rfl rfl rfl ?_)
 refine XL.nil ?_
 refine XF.seq ?_
 refine X.region ?_
 refine XL.cons (XOp.assign ((.slice none 0 0)) rfl ?_)
 refine XL.nil ?_
 refine XF.seq ?_
 refine X.block ?_
 refine X.loop (α := Nat × Value × List StepT × List Value × Nat) (fun xQ => [(0, alv), (1, .int .i64 (((xQ.1 : Nat) : Int))), (4, ptr b1 0), (5, ptr b2 0), (6, xQ.2.1)]) (fun xQ => slH 77 3 xQ.2.1 xQ.2.2.2.2 xQ.2.2.2.1 :: cellsH b2 [v1, (.slice none 0 0)] 41 :: cellsH b1 [(.slice none 0 0), (.slice none 0 0)] 41 :: L) (fun xQ F' => F1 = F' ∧ (xQ.1 < al.length) ∧ (IsSl xQ.2.1) ∧ (StepsC F1 xQ.2.2.2.1 xQ.2.2.1) ∧ (xQ.2.2.2.2 = xQ.2.2.1.length) ∧ (xQ.2.2.2.2 + xQ.1 ≤ k) ∧ (backL al k = xQ.2.2.1 ++ backL al xQ.1)) (fun xQ => xQ.1) (k, (.slice none 0 0), [], [], 0) ⟨rfl, rfl, rfl, rfl, rfl, trivial⟩ (Sub.trans (Sub.addNil 77 3 _ _) (Sub.cons (Sub.cons (Sub.cons (Sub.refl _))))) ⟨rfl, (hk), (⟨_, _, _, rfl⟩), (CO.nil), (rfl), (by (try dsimp only) <;> omega), (rfl)⟩ ?_
 rintro ⟨j, sv, ss, cs, m⟩ rE _ _ ⟨rfl, hj, hsv, hC, hm, hmj, hbk⟩
 show X _ _ _ _ (envs [(0, alv), (1, .int .i64 (((j : Nat) : Int))), (4, ptr b1 0), (5, ptr b2 0), (6, sv)] rE) _ (slH 77 3 sv m cs :: cellsH b2 [v1, (.slice none 0 0)] 41 :: cellsH b1 [(.slice none 0 0), (.slice none 0 0)] 41 :: L)
 dsimp only at hj hsv hC hm hmj hbk
 have hlj := fun (h : 0 < j) => hlk.2 j h hj
 have hljx : 0 < j → 0 ≤ (al.getD j ([], 0, (0, 0, []), 0)).2.1 ∧ (al.getD j ([], 0, (0, 0, []), 0)).2.1 < (j : Int) := fun h => ⟨(hlj h).1, (hlj h).2.1⟩
 refine X.seq ?_
 refine X.seq ?_
 refine X.region ?_
 refine XL.cons (XOp.move (.int .i64 (((j : Nat) : Int))) rfl ?_)
 refine XL.cons (XOp.gtr (a := ((j : Nat) : Int)) (b := 0) rfl rfl ?_)
 refine XL.nil ?_
 refine X.condD (p := (((j : Nat) : Int) : Int) > 0) rfl (fun h1 => ?_) (fun h1 => ?_)
 ·refine X.skip ?_
  refine X.seq ?_
  refine X.block ?_
  refine X.region ?_
  refine XL.cons (XOp.move (sv) rfl ?_)
  refine XL.cons (XOp.move (alv) rfl ?_)
  refine XL.cons (XOp.move (.int .i64 (((j : Nat) : Int))) rfl ?_)
  refine XL.cons (XOp.indexS (v := alv) (i := ((j : Nat) : Int)) (n := (al).length) j Try.runUnderlying87 Try.sizeOf91 rfl rfl rfl hal.slv (by omega) rfl ?_)
  refine XL.cons (XOp.fieldE (v := alv) (j * 6 + 2) Try.runUnderlying91 rfl Try.sizeOf77 (by decide) rfl rfl ?_)
  obtain ⟨a3, a4, ha3, ha4, hrg2, hq2⟩ := hal.rd (i := j) (by omega)
  refine XL.cons (XOp.loadN [.int .i64 ((al.getD j ([], 0, (0, 0, []), 0)).2.2.1.1), .int .i64 ((al.getD j ([], 0, (0, 0, []), 0)).2.2.1.2.1), a4] Try.isAgg77 Try.sizeOf77 rfl rfl (Rd.part 2 (hrg2 _) rfl) ?_)
  refine XL.cons (XOp.buildSlice (s := 3) [.int .i64 ((al.getD j ([], 0, (0, 0, []), 0)).2.2.1.1), .int .i64 ((al.getD j ([], 0, (0, 0, []), 0)).2.2.1.2.1), a4] [.int .i64 (0), .int .i64 (0), (.slice none 0 0)] [(0, [.int .i64 ((al.getD j ([], 0, (0, 0, []), 0)).2.2.1.1), .int .i64 ((al.getD j ([], 0, (0, 0, []), 0)).2.2.1.2.1), a4])] Try.runUnderlying39 Try.sizeOf77 Try.zeroValue77 rfl (by decide) rfl (.cons rfl CellsAre.nil) rfl ?_)
  intro v2 hv1
  refine XL.cons (XOp.append (m := 1) (bytes := 40) (cs := cs) [_] _ [.int .i64 ((al.getD j ([], 0, (0, 0, []), 0)).2.2.1.1), .int .i64 ((al.getD j ([], 0, (0, 0, []), 0)).2.2.1.2.1), a4] Try.runUnderlying39 Try.typeInfo77 rfl rfl rfl rfl rfl rfl rfl (SlV.own [] rfl) rfl (Rd.lit [] rfl) (ones_cons rfl (ones_cons rfl (ones_cons (one_sl (IntsF.isSl ha4)) ones_nil))) (by (try simp only [List.length_append, List.length_nil, List.length_cons, List.length_singleton]); omega) (by (try simp only [List.length_append, List.length_nil, List.length_cons, List.length_singleton]); omega) ?_)
  intro v3 hs2 hn1 hm1
  have hc1 := StepsC.snoc hC (i := (al.getD j ([], 0, (0, 0, []), 0)).2.2.1.1) (j := (al.getD j ([], 0, (0, 0, []), 0)).2.2.1.2.1) ha4
  refine XL.cons (XOp.assign (v3) rfl ?_)
  refine XL.nil ?_
  refine X.region ?_
  refine XL.cons (XOp.move (alv) rfl ?_)
  refine XL.cons (XOp.move (.int .i64 (((j : Nat) : Int))) rfl ?_)
  refine XL.cons (XOp.indexS (v := alv) (i := ((j : Nat) : Int)) (n := (al).length) j Try.runUnderlying87 Try.sizeOf91 rfl rfl rfl hal.slv (by omega) rfl ?_)
  refine XL.cons (XOp.fieldE (v := alv) (j * 6 + 1) Try.runUnderlying91 rfl Try.sizeOf3 (by decide) rfl rfl ?_)
  refine XL.cons (XOp.load1 (v := .int .i64 ((al.getD j ([], 0, (0, 0, []), 0)).2.1)) Try.isAgg3 rfl (hrg2 _ 1 _ rfl) ?_)
  refine XL.cons (XOp.assign (.int .i64 ((al.getD j ([], 0, (0, 0, []), 0)).2.1)) rfl ?_)
  refine XL.nil ?_
  exact ⟨((al.getD j ([], 0, (0, 0, []), 0)).2.1.toNat, v3, ss ++ [((al.getD j ([], 0, (0, 0, []), 0)).2.2.1.1, (al.getD j ([], 0, (0, 0, []), 0)).2.2.1.2.1, (al.getD j ([], 0, (0, 0, []), 0)).2.2.1.2.2)], cs ++ [.int .i64 ((al.getD j ([], 0, (0, 0, []), 0)).2.2.1.1), .int .i64 ((al.getD j ([], 0, (0, 0, []), 0)).2.2.1.2.1), a4], (m) + 1), _, FLe.refl _, (FLe.refl _), ⟨rfl, (congrArg (Value.int .i64) (by have := hljx (by omega); (try dsimp only); omega)), rfl, rfl, rfl, trivial⟩, (Sub.drop (Sub.cons (Sub.cons (Sub.cons (Sub.refl _))))), ⟨rfl, (by have := hljx (by omega); (try dsimp only); omega), (hs2), (hc1), (by (try dsimp only); rw [List.length_append, List.length_singleton]; omega), (by have := hljx (by omega); (try dsimp only); omega), (by (try dsimp only); rw [hbk, backL_succ hlk (by omega) hj, List.append_assoc]; rfl)⟩, (by have := hljx (by omega); (try dsimp only); omega)⟩
 ·refine X.exit (thenQ_exit (thenQ_exit (blockQ_exit ?_)))
  refine XF.ofR ?_
  refine XR.seq ?_
  refine X.region ?_
  skip
  refine XL.cons (XOp.move (sv) rfl ?_)
  refine XL.freezeF [] _ _ rfl (fun F2 le2 hz2 => ?_)
  replace hal := hal.mono le2
  replace ha1 := ha1.mono le2
  replace ha2 := ha2.mono le2
  replace hf1 := hf1.mono le2
  replace hC := hC.mono le2
  have hf2 : StepsF F2 sv ss := CO.fz hC (by first | rfl | simp | omega) hz2.fz
  refine XL.cons (XOp.call (args := [sv]) Try.call124 rfl (backward_spec hf2) ?_)
  rintro _ F3 _ le3 ⟨x1, rfl, hb1, rfl⟩
  replace hal := hal.mono le3
  replace ha1 := ha1.mono le3
  replace ha2 := ha2.mono le3
  replace hf1 := hf1.mono le3
  replace hC := hC.mono le3
  replace hf2 := hf2.mono le3
  refine XL.nil ?_
  refine XR.rangeB (gf := 144) (lb := [ptr x1 0]) rfl Try.call144 (fun l D R hRs hRp hRps hRa hRb hRz hRg => ?_)
  have hR0 : ({ R with state := .ready, pending := none } : Loop) = R := by
   cases R
   simp only at hRs hRp
   subst hRs hRp
   rfl
  have hssb : ss = backL al k := by rw [hbk, show j = 0 from by omega, backL_zero, List.append_nil]
  have htb : ∀ i, i < ss.length → (ss.getD i (0, 0, [])).2.2.length ≤ 60 := fun i hi => by
   obtain ⟨q, hq, he⟩ := backL_mem hlk k k (Nat.le_refl _) hk (ss.getD i (0, 0, [])) (by rw [← hssb]; simp [List.getD, hi])
   rw [he]; exact hbd q hq
  have hyes : ∀ (k : Nat) (i : Int) (Fy : FH) (Ly : List HP) (tov : Value), k < ss.length → F3 ≤ Fy → (WJ F3 2 77 41 b2 v1 ss (objH D (.deferred (some [])) :: cellsH b1 [(.slice none 0 0), (.slice none 0 0)] 41 :: L)) (k + 1) Fy Ly → IntsF Fy tov (ss.getD k (0, 0, [])).2.2 → i = (k : Int) → Yld Try.prog l [.int .i64 i, .agg #[.int .i64 (ss.getD k (0, 0, [])).1, .int .i64 (ss.getD k (0, 0, [])).2.1, tov]] Fy (objH l (.loop R) :: Ly) (fun v F' L' => .bool true = v ∧ ∃ L2, (WJ F3 2 77 41 b2 v1 ss (objH D (.deferred (some [])) :: cellsH b1 [(.slice none 0 0), (.slice none 0 0)] 41 :: L)) k F' L2 ∧ objH l (.loop R) :: L2 = L') := by
   intro k i Fy Ly tov hk9 leF hJ hto hi
   obtain ⟨sv8, ss8, cs8, Ls8, m8, hsv8, hC8, hm8, hDp, hZ, hss8, rfl⟩ := hJ
   have hssl : ss8.length ≤ 60 := by rw [hss8, List.length_reverse, List.length_drop]; omega
   have htob := htb k hk9
   refine Yld.of_round hRs hRp hRps hRa hRb hRz hRg rfl (by kernel_rfl) (by kernel_rfl) (by kernel_rfl) ?_
   refine XI.slots [(32, .int .i64 (i)), (33, .agg #[.int .i64 ((ss.getD k (0, 0, [])).1), .int .i64 ((ss.getD k (0, 0, [])).2.1), tov]), (5, ptr b2 0)] ⟨rfl, rfl, rfl, trivial⟩ (fun rE => ?_)
   refine XI.region ?_
   refine XIL.cons (XOp.alloc [.int .i64 (0), .int .i64 (0), (.slice none 0 0)] Try.zeroValue77 rfl ?_)
   intro b3
   refine XIL.cons (XOp.storeN (vs := [.int .i64 ((ss.getD k (0, 0, [])).1), .int .i64 ((ss.getD k (0, 0, [])).2.1), tov]) [] _ [.int .i64 ((ss.getD k (0, 0, [])).1), .int .i64 ((ss.getD k (0, 0, [])).2.1), tov] Try.sizeOf77 rfl rfl rfl (ones_cons rfl (ones_cons rfl (ones_cons (one_sl (IntsF.isSl hto)) ones_nil))) rfl rfl rfl ?_)
   refine XIL.nil ?_
   refine ⟨cellsH b3 [.int .i64 ((ss.getD k (0, 0, [])).1), .int .i64 ((ss.getD k (0, 0, [])).2.1), tov] 77 :: cellsH b2 [v1, sv8] 41 :: slH 77 3 sv8 m8 cs8 :: objH D (.deferred (some [])) :: cellsH b1 [(.slice none 0 0), (.slice none 0 0)] 41 :: L, (Sub.trans (Sub.front (A := [_, _, _])) (Sub.trans (Sub.front (A := [_, _, _])) (Sub.trans (Sub.front (A := [_, _])) (Sub.trans (Sub.front (A := [_, _, _])) (Sub.cons (Sub.cons (Sub.cons (Sub.cons (Sub.refl _))))))))), ?_⟩
   refine XI.block ?_
   refine XI.region ?_
   refine XIL.cons (XOp.loadN [.int .i64 ((ss.getD k (0, 0, [])).1), .int .i64 ((ss.getD k (0, 0, [])).2.1), tov] Try.isAgg77 Try.sizeOf77 rfl rfl (Rd.ownN [_] rfl rfl) ?_)
   refine XIL.weaken (Sub.front (A := [_, _, _])) ?_
   show XIL _ _ _ _ _ _ _ _ _ (slH 77 3 sv8 m8 cs8 :: objH l (.loop { R with state := .busy }) :: cellsH b3 [.int .i64 ((ss.getD k (0, 0, [])).1), .int .i64 ((ss.getD k (0, 0, [])).2.1), tov] 77 :: cellsH b2 [v1, sv8] 41 :: objH D (.deferred (some [])) :: cellsH b1 [(.slice none 0 0), (.slice none 0 0)] 41 :: L)
   refine XIL.weaken (Sub.front (A := [_, _, _])) ?_
   show XIL _ _ _ _ _ _ _ _ _ (cellsH b2 [v1, sv8] 41 :: slH 77 3 sv8 m8 cs8 :: objH l (.loop { R with state := .busy }) :: cellsH b3 [.int .i64 ((ss.getD k (0, 0, [])).1), .int .i64 ((ss.getD k (0, 0, [])).2.1), tov] 77 :: objH D (.deferred (some [])) :: cellsH b1 [(.slice none 0 0), (.slice none 0 0)] 41 :: L)
   refine XIL.cons (XOp.call (args := [ptr b2 0, .agg #[.int .i64 ((ss.getD k (0, 0, [])).1), .int .i64 ((ss.getD k (0, 0, [])).2.1), tov]]) Try.call125 rfl (walkAdd_spec hto hsv8 hC8 (by first | rfl | assumption | omega) (by omega) (by omega)) ?_)
   rintro _ F4 _ le4 ⟨sw1, cw1, hs3, hw1, hf3, rfl⟩
   replace hC8 := hC8.mono le4
   replace hto := hto.mono le4
   have hc2 := StepsC.snoc hC8 (i := (ss.getD k (0, 0, [])).1) (j := (ss.getD k (0, 0, [])).2.1) hw1
   show XIL _ _ _ _ _ _ _ _ _ (cellsH b2 [v1, sw1] 41 :: slH 77 3 sw1 ((m8) + 1) ((cs8 ++ [.int .i64 ((ss.getD k (0, 0, [])).1), .int .i64 ((ss.getD k (0, 0, [])).2.1), cw1])) :: objH l (.loop { R with state := .busy }) :: cellsH b3 [.int .i64 ((ss.getD k (0, 0, [])).1), .int .i64 ((ss.getD k (0, 0, [])).2.1), tov] 77 :: objH D (.deferred (some [])) :: cellsH b1 [(.slice none 0 0), (.slice none 0 0)] 41 :: L)
   refine XIL.nil ?_
   refine ⟨rfl, ?_⟩
   refine ⟨cellsH b2 [v1, sw1] 41 :: slH 77 3 sw1 ((m8) + 1) ((cs8 ++ [.int .i64 ((ss.getD k (0, 0, [])).1), .int .i64 ((ss.getD k (0, 0, [])).2.1), cw1])) :: objH D (.deferred (some [])) :: cellsH b1 [(.slice none 0 0), (.slice none 0 0)] 41 :: L, (Sub.trans (Sub.front (A := [_])) (Sub.trans (Sub.front (A := [_])) (Sub.trans (Sub.front (A := [_, _])) (Sub.cons (Sub.cons (Sub.cons (Sub.drop (Sub.refl _)))))))), ?_⟩
   rw [hR0]
   exact ⟨rfl, _, ⟨_, _, _, _, _, hs3, hc2, by rw [List.length_append, List.length_singleton]; omega, DeepL.snoc hDp rfl ⟨_, rfl, rfl⟩, (Fresh.app hZ leF (Fresh.one hf3) le4), by rw [hss8]; exact (drop_rev (0, 0, []) hk9).symm, rfl⟩, rfl⟩
  refine (Does.weaken (Sub.trans (Sub.addNil 77 3 none _) (Sub.trans (Sub.front (A := [_, _, _, _])) (Sub.trans (Sub.front (A := [_, _, _])) (Sub.trans (Sub.front (A := [_, _])) (Sub.trans (Sub.front (A := [_, _, _, _])) (Sub.trans (Sub.front (A := [_, _, _, _])) (Sub.cons (Sub.cons (Sub.cons (Sub.cons (Sub.cons (Sub.refl _)))))))))))) (backIt_spec (J := (WJ F3 2 77 41 b2 v1 ss (objH D (.deferred (some [])) :: cellsH b1 [(.slice none 0 0), (.slice none 0 0)] 41 :: L))) hb1 hf2 (by omega) WJ.start hyes)).mono ?_
  rintro _ F9 _ le9 ⟨L9, ⟨sv9, ss9, cs9, Ls9, m9, hsv9, hC9, hm9, hD9, hZ9, hss9, rfl⟩, rfl⟩
  replace hal := hal.mono le9
  replace ha1 := ha1.mono le9
  replace ha2 := ha2.mono le9
  replace hf1 := hf1.mono le9
  replace hC := hC.mono le9
  replace hf2 := hf2.mono le9
  replace hb1 := hb1.mono le9
  rw [List.drop_zero] at hss9
  refine ⟨R, cellsH b2 [v1, sv9] 41 :: slH 77 3 sv9 m9 cs9 :: cellsH b1 [(.slice none 0 0), (.slice none 0 0)] 41 :: L, by rw [hRs]; simp, hRp, (Sub.trans (Sub.front (A := [_, _, _, _])) (Sub.trans (Sub.front (A := [_, _, _])) (Sub.trans (Sub.front (A := [_, _, _])) (Sub.trans (Sub.front (A := [_, _, _, _])) (Sub.trans (Sub.front (A := [_, _, _, _])) (Sub.cons (Sub.cons (Sub.cons (Sub.cons (Sub.cons (Sub.refl _))))))))))), ?_⟩
  refine XI.seq ?_
  refine XI.region ?_
  refine XIL.cons (XOp.loadN [v1, sv9] Try.isAgg41 Try.sizeOf41 rfl rfl (Rd.ownN [_] rfl rfl) ?_)
  refine XIL.cons (XOp.storeN (vs := [v1, sv9]) [_, _, _] _ [v1, sv9] Try.sizeOf41 rfl rfl rfl (ones_cons (one_sl (IntsF.isSl hf1)) (ones_cons (one_sl hsv9) ones_nil)) rfl rfl rfl ?_)
  refine XIL.nil ?_
  refine XI.freezeF [_, _] _ _ rfl (fun F5 le5 hz3 => ?_)
  replace hal := hal.mono le5
  replace ha1 := ha1.mono le5
  replace ha2 := ha2.mono le5
  replace hf1 := hf1.mono le5
  replace hC := hC.mono le5
  replace hf2 := hf2.mono le5
  replace hb1 := hb1.mono le5
  replace hC9 := hC9.mono le5
  have hf4 : StepsF F5 sv9 ss9 := CO.fz hC9 (by first | rfl | simp | omega) hz3.fz
  refine XI.ret (retEndC (L' := L) (cellsH b2 [v1, sv9] 41 :: cellsH b1 [v1, sv9] 41 :: L) [.agg #[v1, sv9]] (.agg #[v1, sv9]) (.cell rfl (loadNV [v1, sv9] Try.isAgg41 Try.sizeOf41 rfl (Rd.ownN [_, _] rfl rfl)) .nil) rfl (FLe.trans (FLe.trans (FLe.trans (FLe.trans le1 le2) le3) le9) le5) (FLe.refl _) (Sub.cons (Sub.cons (Sub.cons (Sub.refl _)))) (Sub.drop (Sub.drop (Sub.refl _))) ?_)
  have e9 : ss9 = walkL al k := by rw [hss9]; unfold walkL; rw [hbk, show j = 0 from by omega, backL_zero, List.append_nil]
  rw [← e9]
  exact ⟨_, _, rfl, hf1, hf4, (Fresh.app ((Fresh.one hz1).mono (FLe.trans le2 le3)) (FLe.trans (FLe.trans le1 le2) le3) (Fresh.one (Fresh.deep hD9 hZ9 le9 hz3 (by omega) le5)) (FLe.trans le9 le5)), rfl⟩
end Go.Proofs.Ytiaanelimbmniaa
set_option linter.unusedSimpArgs false
set_option linter.unusedVariables false
namespace Go.Proofs.Ytiaanelimbmniaa
open Go X M
end Go.Proofs.Ytiaanelimbmniaa
set_option linter.unusedSimpArgs false
set_option linter.unusedVariables false
namespace Go.Proofs.Ytiaanelimbmniaa
open Go X M

/- impl.plain -/
theorem plainZ_spec {F : FH} {L : List HP} {sv : Value} {s : List (List Int)} (hs : RowsF F sv s) (hsl : s.length ≤ 24) (hsb : ∀ i, i < s.length → (s.getD i []).length ≤ 4000000) :
    Does Try.prog 148 [.agg #[sv]] F (L) (fun v F' L' => ∃ (a : Value), (.agg #[a] : Value) = v ∧ (RowsF F' a (plainL s)) ∧ (Fresh F F' (star [rowsD 2 22 a (plainL s)])) ∧ L = L') := by
 refine Does.of_X Try.func148 rfl rfl rfl ?_
 refine X.seq ?_
 refine X.region ?_
 refine XL.cons (XOp.box [sv] rfl rfl ?_)
 intro b1
 refine XL.cons (XOp.alloc [(.slice none 0 0)] Try.zeroValue96 rfl ?_)
 intro b2
 refine XL.nil ?_
 refine X.seq ?_
 refine X.region ?_
 refine XL.cons (XOp.alloc [(.slice none 0 0)] Try.zeroValue96 rfl ?_)
 intro b3
 refine XL.nil ?_
 refine X.seq ?_
 refine X.seq ?_
 refine X.region ?_
 refine XL.cons (XOp.fieldP (b := b1) (0) Try.runUnderlying96 rfl Try.sizeOf49 (by decide) rfl rfl ?_)
 refine XL.cons (XOp.load1 (v := sv) Try.isAgg49 rfl (Rd.own [_, _] rfl rfl) ?_)
 refine XL.cons (XOp.lenS (v := sv) (n := (s).length) Try.runUnderlying49 rfl hs.slv ?_)
 refine XL.cons (XOp.move (.int .i64 (0)) rfl ?_)
 refine XL.nil ?_
 refine X.block ?_
 refine X.loop (α := Nat × Value × RowL × List Value × List HP × Nat × FH) (fun xQ => [(2, ptr b2 0), (3, ptr b3 0), (7, sv), (8, .int .i64 ((((s).length : Nat) : Int))), (9, .int .i64 (((xQ.1 : Nat) : Int)))]) (fun xQ => slH 22 1 xQ.2.1 xQ.2.2.2.2.2.1 xQ.2.2.2.1 :: cellsH b3 [xQ.2.1] 96 :: cellsH b2 [(.slice none 0 0)] 96 :: cellsH b1 [sv] 96 :: L) (fun xQ F' => xQ.2.2.2.2.2.2 = F' ∧ F ≤ xQ.2.2.2.2.2.2 ∧ (IsSl xQ.2.1) ∧ (RowsC xQ.2.2.2.2.2.2 xQ.2.2.2.1 xQ.2.2.1) ∧ (xQ.2.2.2.2.2.1 = xQ.2.2.1.length) ∧ (DeepL 1 (RowO 2) xQ.2.2.2.1 xQ.2.2.1 xQ.2.2.2.2.1) ∧ (Fresh F xQ.2.2.2.2.2.2 (star xQ.2.2.2.2.1)) ∧ (xQ.2.2.1 = trim ((plainGo 0 s).take xQ.1)) ∧ (xQ.1 ≤ s.length)) (fun xQ => s.length - xQ.1) (0, (.slice none 0 0), [], [], [], 0, F) ⟨rfl, rfl, rfl, rfl, rfl, trivial⟩ (Sub.trans (Sub.addNil 22 1 _ _) (Sub.cons (Sub.cons (Sub.cons (Sub.cons (Sub.refl _)))))) ⟨rfl, FLe.refl _, (⟨_, _, _, rfl⟩), (CO.nil), (rfl), (DeepL.nil), (Fresh.nilL), (rfl), (by (try dsimp only) <;> omega)⟩ ?_
 rintro ⟨k, ov, os, ocs, Us, m, G1⟩ rE _ _ ⟨rfl, leG, hov, hC, hm, hD, hZ, hos, hk⟩
 show X _ _ _ _ (envs [(2, ptr b2 0), (3, ptr b3 0), (7, sv), (8, .int .i64 ((((s).length : Nat) : Int))), (9, .int .i64 (((k : Nat) : Int)))] rE) _ (slH 22 1 ov m ocs :: cellsH b3 [ov] 96 :: cellsH b2 [(.slice none 0 0)] 96 :: cellsH b1 [sv] 96 :: L)
 replace leG : F ≤ G1 := leG
 dsimp only at hov hC hm hD hZ hos hk
 have leG1 := leG
 replace hs := hs.mono leG1
 refine X.seq ?_
 refine X.region ?_
 refine XL.cons (XOp.lss (a := ((k : Nat) : Int)) (b := (((s).length : Nat) : Int)) rfl rfl ?_)
 refine XL.nil ?_
 refine X.seq ?_
 refine X.condD (p := (((k : Nat) : Int) : Int) < (((s).length : Nat) : Int)) rfl (fun h1 => ?_) (fun h1 => ?_)
 ·refine X.skip ?_
  refine X.seq ?_
  refine X.block ?_
  refine X.seq ?_
  refine X.region ?_
  refine XL.cons (XOp.move (.int .i64 (((k : Nat) : Int))) rfl ?_)
  refine XL.cons (XOp.indexS (v := sv) (i := ((k : Nat) : Int)) (n := (s).length) k Try.runUnderlying49 Try.sizeOf22 rfl rfl rfl hs.slv (by omega) (Nat.mul_one _) ?_)
  obtain ⟨a1, ha1, hr1⟩ := hs.rd (i := k) (by omega)
  refine XL.cons (XOp.load1 (v := a1) Try.isAgg22 rfl (hr1 _) ?_)
  refine XL.cons (XOp.assign (.int .i64 (((k : Nat) : Int))) rfl ?_)
  refine XL.cons (XOp.assign (a1) rfl ?_)
  refine XL.nil ?_
  refine X.seq ?_
  refine X.seq ?_
  refine X.region ?_
  refine XL.cons (XOp.move (a1) rfl ?_)
  refine XL.cons (XOp.lenS (v := a1) (n := ((s.getD k [])).length) Try.runUnderlying22 rfl ha1.slv ?_)
  refine XL.cons (XOp.eql (a := ((((s.getD k [])).length : Nat) : Int)) (b := 0) rfl rfl ?_)
  refine XL.cons (XOp.move (.bool (decide ((((((s.getD k [])).length : Nat) : Int) : Int) = 0))) rfl ?_)
  by_cases h2 : (((((s.getD k [])).length : Nat) : Int) : Int) = 0
  ·refine XL.no (t := 17) rfl (congrArg Value.bool (decide_eq_true h2)) ?_
   refine XL.no (t := 17) rfl (congrArg Value.bool (decide_eq_true h2)) ?_
   refine XL.no (t := 17) rfl (congrArg Value.bool (decide_eq_true h2)) ?_
   refine XL.no (t := 17) rfl (congrArg Value.bool (decide_eq_true h2)) ?_
   refine XL.cons (XOp.pickT (.bool (true)) (congrArg Value.bool (decide_eq_true h2)) rfl ?_)
   refine XL.nil ?_
   refine X.condT rfl ?_
   refine X.exit (thenQ_exit (blockQ_exit ?_))
   refine X.region ?_
   refine XL.cons (XOp.addR (a := ((k : Nat) : Int)) (b := 1) (((k + 1 : Nat) : Int)) rfl rfl (by omega) (by omega) ?_)
   refine XL.cons (XOp.move (.int .i64 (((k + 1 : Nat) : Int))) rfl ?_)
   refine XL.nil ?_
   exact ⟨(k + 1, ov, os, ocs, Us, m, G1), _, leG1, (FLe.refl _), ⟨rfl, rfl, rfl, rfl, rfl, trivial⟩, (Sub.cons (Sub.cons (Sub.cons (Sub.cons (Sub.refl _))))), ⟨rfl, leG1, (hov), (hC), (hm), (hD), (hZ), (hos.trans (plain_skip (by omega) (by first | (left; exact List.eq_nil_of_length_eq_zero (by omega)) | (right; assumption))).symm), (by (try dsimp only) <;> omega)⟩, (by omega)⟩
  ·refine XL.yes (t := 17) rfl (congrArg Value.bool (decide_eq_false h2)) (XOp.move (a1) rfl ?_)
   refine XL.yes (t := 17) rfl (congrArg Value.bool (decide_eq_false h2)) (XOp.move (.int .i64 (((k : Nat) : Int))) rfl ?_)
   refine XL.yes (t := 17) rfl (congrArg Value.bool (decide_eq_false h2)) (XOp.frzF <| XOp.call (args := [.int .i64 ((k : Nat) : Int)]) Try.call154 rfl (variable_spec (i := k) (hi := (by first | assumption | rfl | omega | (left; simp; done) | (right; simp; done)))) ?_)
   rintro v1 _ _ _ ⟨rfl, hs1, rfl⟩
   refine ⟨_, _, rfl, fun F1 le1 hz1 => ?_⟩
   replace hs := hs.mono le1
   replace hC := hC.mono le1
   replace ha1 := ha1.mono le1
   replace hr1 := Rd.monoA hr1 le1
   have hf1 : IntsF F1 v1 (([-1 - (k : Int)])) := intsH.fz (xs := ([-1 - (k : Int)])) hz1.fz
   refine XL.yes (t := 17) rfl (congrArg Value.bool (decide_eq_false h2)) (XOp.call (args := [a1, v1]) Try.call122 rfl (Equal_spec ha1 hf1 (hbd := (by first | assumption | rfl | omega | (left; simp; done) | (right; simp; done)))) ?_)
   rintro _ _ _ _ ⟨rfl, rfl, rfl⟩
   refine XL.cons (XOp.pickF (.bool (decide (((s.getD k [])) = (([-1 - (k : Int)]))))) (congrArg Value.bool (decide_eq_false h2)) rfl ?_)
   refine XL.nil ?_
   refine X.condD (p := ((s.getD k [])) = (([-1 - (k : Int)]))) rfl (fun h3 => ?_) (fun h3 => ?_)
   ·refine X.exit (thenQ_exit (blockQ_exit ?_))
    refine X.region ?_
    refine XL.cons (XOp.addR (a := ((k : Nat) : Int)) (b := 1) (((k + 1 : Nat) : Int)) rfl rfl (by omega) (by omega) ?_)
    refine XL.cons (XOp.move (.int .i64 (((k + 1 : Nat) : Int))) rfl ?_)
    refine XL.nil ?_
    exact ⟨(k + 1, ov, os, ocs, Us, m, F1), _, (FLe.trans leG1 le1), (FLe.refl _), ⟨rfl, rfl, rfl, rfl, rfl, trivial⟩, (Sub.cons (Sub.cons (Sub.cons (Sub.cons (Sub.refl _))))), ⟨rfl, (FLe.trans leG1 le1), (hov), (hC), (hm), (hD), ((hZ.mono le1)), (hos.trans (plain_skip (by omega) (by first | (left; exact List.eq_nil_of_length_eq_zero (by omega)) | (right; assumption))).symm), (by (try dsimp only) <;> omega)⟩, (by omega)⟩
   ·refine X.skip ?_
    refine X.seq ?_
    refine X.block ?_
    refine X.loop (α := Nat × Value × RowL × List Value × List HP × Nat × FH) (fun xQ => [(2, ptr b2 0), (3, ptr b3 0), (4, .int .i64 (((k : Nat) : Int))), (5, a1), (7, sv), (8, .int .i64 ((((s).length : Nat) : Int))), (9, .int .i64 (((k : Nat) : Int)))]) (fun xQ => slH 22 1 xQ.2.1 xQ.2.2.2.2.2.1 xQ.2.2.2.1 :: cellsH b3 [xQ.2.1] 96 :: cellsH b2 [(.slice none 0 0)] 96 :: cellsH b1 [sv] 96 :: L) (fun xQ F' => xQ.2.2.2.2.2.2 = F' ∧ F1 ≤ xQ.2.2.2.2.2.2 ∧ (IsSl xQ.2.1) ∧ (RowsC xQ.2.2.2.2.2.2 xQ.2.2.2.1 xQ.2.2.1) ∧ (xQ.2.2.2.2.2.1 = xQ.2.2.1.length) ∧ (DeepL 1 (RowO 2) xQ.2.2.2.1 xQ.2.2.1 xQ.2.2.2.2.1) ∧ (Fresh F xQ.2.2.2.2.2.2 (star xQ.2.2.2.2.1)) ∧ (xQ.2.2.1 = os ++ List.replicate xQ.1 []) ∧ (xQ.2.2.1.length ≤ k)) (fun xQ => k - xQ.2.2.1.length) (0, ov, os, ocs, Us, m, F1) ⟨rfl, rfl, rfl, rfl, rfl, rfl, rfl, trivial⟩ (Sub.cons (Sub.cons (Sub.cons (Sub.cons (Sub.refl _))))) ⟨rfl, FLe.refl _, (hov), (hC), (hm), (hD), ((hZ.mono le1)), (by simp), (by have := trim_le ((plainGo 0 s).take k); rw [← hos, List.length_take] at this; (try dsimp only); omega)⟩ ?_
    rintro ⟨j, ov2, os2, ocs2, Vs, m2, G2⟩ rE _ _ ⟨rfl, leG, hov2, hC2, hm2, hD2, hZ2, hos2, hl2⟩
    show X _ _ _ _ (envs [(2, ptr b2 0), (3, ptr b3 0), (4, .int .i64 (((k : Nat) : Int))), (5, a1), (7, sv), (8, .int .i64 ((((s).length : Nat) : Int))), (9, .int .i64 (((k : Nat) : Int)))] rE) _ (slH 22 1 ov2 m2 ocs2 :: cellsH b3 [ov2] 96 :: cellsH b2 [(.slice none 0 0)] 96 :: cellsH b1 [sv] 96 :: L)
    replace leG : F1 ≤ G2 := leG
    dsimp only at hov2 hC2 hm2 hD2 hZ2 hos2 hl2
    have leG2 := leG
    replace hs := hs.mono leG2
    replace hC := hC.mono leG2
    replace ha1 := ha1.mono leG2
    replace hf1 := hf1.mono leG2
    refine X.seq ?_
    refine X.seq ?_
    refine X.region ?_
    refine XL.cons (XOp.fieldP (b := b3) (0) Try.runUnderlying96 rfl Try.sizeOf49 (by decide) rfl rfl ?_)
    refine XL.cons (XOp.load1 (v := ov2) Try.isAgg49 rfl (Rd.own [_] rfl rfl) ?_)
    refine XL.cons (XOp.lenS (v := ov2) (n := m2) Try.runUnderlying49 rfl (SlV.own [] rfl) ?_)
    refine XL.cons (XOp.move (.int .i64 (((k : Nat) : Int))) rfl ?_)
    refine XL.cons (XOp.lss (a := ((m2 : Nat) : Int)) (b := ((k : Nat) : Int)) rfl rfl ?_)
    refine XL.nil ?_
    refine X.condD (p := (((m2 : Nat) : Int) : Int) < ((k : Nat) : Int)) rfl (fun h4 => ?_) (fun h4 => ?_)
    ·refine X.skip ?_
     refine X.block ?_
     refine X.region ?_
     refine XL.cons (XOp.fieldP (b := b3) (0) Try.runUnderlying96 rfl Try.sizeOf49 (by decide) rfl rfl ?_)
     refine XL.cons (XOp.load1 (v := ov2) Try.isAgg49 rfl (Rd.own [_] rfl rfl) ?_)
     refine XL.cons (XOp.buildSlice (s := 1) [(.slice none 0 0)] [(.slice none 0 0)] [(0, [(.slice none 0 0)])] Try.runUnderlying49 Try.sizeOf22 Try.zeroValue22 rfl (by decide) rfl (.cons rfl CellsAre.nil) rfl ?_)
     intro v2 hv1
     refine XL.cons (XOp.append (m := 1) (bytes := 24) (cs := ocs2) [_] _ [(.slice none 0 0)] Try.runUnderlying49 Try.typeInfo22 rfl rfl rfl rfl rfl rfl rfl (SlV.own [] rfl) rfl (Rd.lit [] rfl) (ones_cons rfl ones_nil) (by (try simp only [List.length_append, List.length_nil, List.length_cons, List.length_singleton]); omega) (by (try simp only [List.length_append, List.length_nil, List.length_cons, List.length_singleton]); omega) ?_)
     intro v3 hs2 hn1 hm1
     have hc1 := RowsC.snoc hC2 IntsF.nilV
     refine XL.cons (XOp.fieldP (b := b3) (0) Try.runUnderlying96 rfl Try.sizeOf49 (by decide) rfl rfl ?_)
     refine XL.cons (XOp.store1 (v := v3) [_, _] _ [v3] Try.sizeOf49 rfl rfl (one_sl hs2) rfl rfl rfl ?_)
     refine XL.nil ?_
     exact ⟨(j + 1, v3, os2 ++ [[]], ocs2 ++ [(Value.slice none 0 0)], Vs ++ [intsH 2 (.slice none 0 0) []], (m2) + 1, G2), _, leG2, (FLe.refl _), ⟨rfl, rfl, rfl, rfl, rfl, rfl, rfl, trivial⟩, (Sub.drop (Sub.cons (Sub.cons (Sub.cons (Sub.cons (Sub.refl _)))))), ⟨rfl, leG2, (hs2), (hc1), (by (try dsimp only); rw [List.length_append, List.length_singleton]; omega), (DeepL.snoc hD2 rfl ⟨_, rfl, rfl⟩), ((Fresh.app hZ2 (FLe.trans (FLe.trans leG1 le1) leG2) (Fresh.one (Fresh.empty nilLeaf)) (FLe.refl _))), (by dsimp only; rw [hos2, List.append_assoc, List.replicate_succ']), (by dsimp only; rw [List.length_append]; simp only [List.length_singleton]; omega)⟩, (by dsimp only; rw [List.length_append]; simp only [List.length_singleton]; omega)⟩
    ·refine X.exit (thenQ_exit (thenQ_exit (blockQ_exit ?_)))
     refine X.drawG [slH 22 1 ov2 m2 ocs2, cellsH b3 [ov2] 96, cellsH b2 [(.slice none 0 0)] 96, cellsH b1 [sv] 96] L 5 [[], [], [], [], [3]] [[], [0], [], [2], [3]] [[], [], [], [], []] (phiG [fun FF us v => v = ptr b3 0, fun FF us v => v = ov2, fun FF us v => v = a1, fun FF us v => ((v) : Value) = v ∧ (IntsF FF (v) (((s.getD k [])))) ∧ (FrIntsF G2 FF 2 (v) (((s.getD k [])))), fun FF us v => ∃ b, v = .slice (some ⟨b, 0, none⟩) 1 1]) (ownL [fun us v => [], fun us v => [], fun us v => [], fun us v => [], fun us v => [slH 22 1 v 1 [((us.getD 0 undef))]]]) mixed rfl rfl (by kernel_rfl) (by kernel_rfl) (MonoG.get (MonoG.cons (fun le h => h) (MonoG.cons (fun le h => h) (MonoG.cons (fun le h => h) (MonoG.cons (fun le h => ⟨h.1, h.2.1.mono le, h.2.2.mono le⟩) (MonoG.cons (fun le h => h) MonoG.nil)))))) ?_ ?_
     ·refine stepsG.cons (fun vals Fs R leFs hpZ => ?_) ?_
      ·refine XG.op (XOp.fieldP (b := b3) (0) Try.runUnderlying96 rfl Try.sizeOf49 (by decide) rfl rfl ?_)
       exact ⟨rfl, rfl⟩
      refine stepsG.cons (fun vals Fs R leFs hpZ => ?_) ?_
      ·have e0 : vals 0 = ptr b3 0 := hpZ 0 (by decide)
       replace hs := hs.mono leFs
       replace hC := hC.mono leFs
       replace ha1 := ha1.mono leFs
       replace hf1 := hf1.mono leFs
       replace hC2 := hC2.mono leFs
       rw [(envs_of_sat (l := [(0, ptr b3 0)]) ⟨e0, trivial⟩).symm]
       refine XG.op (XOp.load1 (v := ov2) Try.isAgg49 rfl (Rd.own [_] rfl rfl) ?_)
       exact ⟨rfl, rfl⟩
      refine stepsG.cons (fun vals Fs R leFs hpZ => ?_) ?_
      ·refine XG.op (XOp.move (a1) rfl ?_)
       exact ⟨rfl, rfl⟩
      refine stepsG.cons (fun vals Fs R leFs hpZ => ?_) ?_
      ·have e2 : vals 2 = a1 := hpZ 2 (by decide)
       replace hs := hs.mono leFs
       replace hC := hC.mono leFs
       replace ha1 := ha1.mono leFs
       replace hf1 := hf1.mono leFs
       replace hC2 := hC2.mono leFs
       rw [(envs_of_sat (l := [(2, a1)]) ⟨e2, trivial⟩).symm]
       refine XG.op (XOp.frzF <| XOp.call (args := [a1]) Try.call94 rfl (Clone_spec ha1 (hlt := (hsb k (by omega)))) ?_)
       rintro v6 _ _ _ ⟨rfl, hs4, rfl⟩
       refine ⟨_, _, rfl, fun F2 le2 hz2 => ?_⟩
       replace hs := hs.mono le2
       replace hC := hC.mono le2
       replace ha1 := ha1.mono le2
       replace hf1 := hf1.mono le2
       replace hC2 := hC2.mono le2
       have hf2 : IntsF F2 v6 ((((s.getD k [])))) := intsH.fz (xs := (((s.getD k [])))) hz2.fz
       exact ⟨⟨rfl, hf2, (hz2.base leFs)⟩, rfl⟩
      refine stepsG.cons (fun vals Fs R leFs hpZ => ?_) ?_
      ·obtain ⟨e3, f3_1ha, f3_1hz⟩ := hpZ 3 (by decide)
       replace hs := hs.mono leFs
       replace hC := hC.mono leFs
       replace ha1 := ha1.mono leFs
       replace hf1 := hf1.mono leFs
       replace hC2 := hC2.mono leFs
       rw [(envs_of_sat (l := [(3, ((vals 3)))]) ⟨(e3).symm, trivial⟩).symm]
       refine XG.op (XOp.buildSlice (s := 1) [((vals 3))] [(.slice none 0 0)] [(0, [((vals 3))])] Try.runUnderlying49 Try.sizeOf22 Try.zeroValue22 rfl (by decide) rfl (.cons (cells_one (IntsF.isSl f3_1ha)) CellsAre.nil) rfl ?_)
       intro v7 hv3
       exact ⟨hv3, rfl⟩
      exact stepsG.nil
     ·intro vals F3 le3 hphi
      have e0 : vals 0 = ptr b3 0 := hphi 0 (by decide)
      have e1 : vals 1 = ov2 := hphi 1 (by decide)
      have e2 : vals 2 = a1 := hphi 2 (by decide)
      obtain ⟨e3, f3_1ha, f3_1hz⟩ := hphi 3 (by decide)
      have f4 : ∃ b, (vals 4) = .slice (some ⟨b, 0, none⟩) 1 1 := hphi 4 (by decide)
      generalize hu1 : ((vals 3)) = u1 at e0 e1 e2 e3 f3_1ha f3_1hz f4
      generalize hu4 : vals 4 = u2 at e0 e1 e2 e3 f3_1ha f3_1hz f4
      rw [(envs_of_sat (l := [(0, ptr b3 0), (1, ov2), (2, a1), (3, u1), (4, u2)]) ⟨e0, e1, e2, hu1, hu4, trivial⟩).symm]
      replace hs := hs.mono le3
      replace hC := hC.mono le3
      replace ha1 := ha1.mono le3
      replace hf1 := hf1.mono le3
      replace hC2 := hC2.mono le3
      show XL _ _ _ _ _ _ _ (slH 22 1 u2 1 [u1] :: slH 22 1 ov2 m2 ocs2 :: cellsH b3 [ov2] 96 :: cellsH b2 [(.slice none 0 0)] 96 :: cellsH b1 [sv] 96 :: L)
      refine XL.cons (XOp.append (m := 1) (bytes := 24) (cs := ocs2) [_] _ [u1] Try.runUnderlying49 Try.typeInfo22 rfl rfl rfl rfl rfl rfl rfl (SlV.own [] rfl) rfl (Rd.lit [] rfl) (ones_cons (one_sl (IntsF.isSl f3_1ha)) ones_nil) (by (try simp only [List.length_append, List.length_nil, List.length_cons, List.length_singleton]); omega) (by (try simp only [List.length_append, List.length_nil, List.length_cons, List.length_singleton]); omega) ?_)
      intro v8 hs5 hn2 hm2
      have hc2 := RowsC.snoc hC2 f3_1ha
      skip
      refine XL.cons (XOp.fieldP (b := b3) (0) Try.runUnderlying96 rfl Try.sizeOf49 (by decide) rfl rfl ?_)
      refine XL.cons (XOp.store1 (v := v8) [_, _] _ [v8] Try.sizeOf49 rfl rfl (one_sl hs5) rfl rfl rfl ?_)
      refine XL.nil ?_
      refine X.region ?_
      refine XL.cons (XOp.addR (a := ((k : Nat) : Int)) (b := 1) (((k + 1 : Nat) : Int)) rfl rfl (by omega) (by omega) ?_)
      refine XL.cons (XOp.move (.int .i64 (((k + 1 : Nat) : Int))) rfl ?_)
      refine XL.nil ?_
      exact ⟨(k + 1, v8, os2 ++ [(((s.getD k [])))], ocs2 ++ [u1], Vs ++ [intsH 2 u1 ((((s.getD k []))))], (m2) + 1, F3), _, (FLe.trans (FLe.trans (FLe.trans leG1 le1) leG2) le3), (FLe.refl _), ⟨rfl, rfl, rfl, rfl, rfl, trivial⟩, (Sub.drop (Sub.cons (Sub.cons (Sub.cons (Sub.cons (Sub.refl _)))))), ⟨rfl, (FLe.trans (FLe.trans (FLe.trans leG1 le1) leG2) le3), (hs5), (hc2), (by (try dsimp only); rw [List.length_append, List.length_singleton]; omega), (DeepL.snoc hD2 rfl ⟨_, rfl, rfl⟩), ((Fresh.app hZ2 (FLe.trans (FLe.trans leG1 le1) leG2) (Fresh.one f3_1hz) le3)), (plain_put (m := os2) (by omega) (by intro e; have := congrArg List.length e; simp only [List.length_nil] at this; omega) (by assumption) (by rw [hos2, hos]; exact plain_padded (by rw [← hos, ← hos2, List.length_take, plainGo_length]; omega))), (by (try dsimp only) <;> omega)⟩, (by omega)⟩
 ·refine X.exit (thenQ_exit (thenQ_exit (blockQ_exit ?_)))
  refine X.seq ?_
  refine X.region ?_
  refine XL.cons (XOp.loadN [ov] Try.isAgg96 Try.sizeOf96 rfl rfl (Rd.ownN [_] rfl rfl) ?_)
  refine XL.cons (XOp.storeN (vs := [ov]) [_, _] _ [ov] Try.sizeOf96 rfl rfl rfl (ones_cons (one_sl hov) ones_nil) rfl rfl rfl ?_)
  refine XL.nil ?_
  refine X.freezeF [] _ _ rfl (fun F4 le4 hz3 => ?_)
  replace hs := hs.mono le4
  replace hC := hC.mono le4
  have hf3 : RowsF F4 ov os := CO.fz hC (by first | rfl | simp | omega) hz3.fz
  refine X.ret (retEnd (L' := L) [.agg #[ov]] (.agg #[ov]) (.cell rfl (loadNV [ov] Try.isAgg96 Try.sizeOf96 rfl (Rd.ownN [_] rfl rfl)) .nil) rfl (FLe.trans leG1 le4) (FLe.refl _) (Sub.drop (Sub.drop (Sub.drop (Sub.refl _)))) ?_)
  have e : os = plainL s := by rw [hos, show k = s.length from by omega, plain_all]
  exact ⟨_, rfl, by rw [← e]; exact hf3, by rw [← e]; exact (Fresh.one (Fresh.deep hD hZ leG1 hz3 (by omega) le4)), rfl⟩

/- impl.match -/
theorem matchZ_spec {F : FH} {L : List HP} {arv : Value} {ar : List Int} (har : IntsF F arv ar) {pv : Value} {p : List Int} (hp : IntsF F pv p) {tv : Value} {t : List Int} (ht : IntsF F tv t) (ho : termOk ar t = true) (hpo : termOk ar p = true) :
    Does Try.prog 130 [.agg #[arv], pv, tv] F (L) (fun v F' L' => ∃ (a : Value), (.tuple #[.agg #[a], .bool ((matchB ar p t).isSome)] : Value) = v ∧ (RowsF F' a (matchP ar p t)) ∧ (Fresh F F' (star [rowsD 2 22 a (matchP ar p t)])) ∧ L = L') := by
 refine Does.of_X Try.func130 rfl rfl rfl ?_
 have hpl := termOk_len hpo
 have hpg := fun k (hk : k < p.length) => termOk_ge hpo hk
 refine X.seq ?_
 refine X.region ?_
 refine XL.cons (XOp.box [arv] rfl rfl ?_)
 intro b1
 refine XL.cons (XOp.alloc [(.slice none 0 0)] Try.zeroValue96 rfl ?_)
 intro b2
 refine XL.cons (XOp.assign (.bool (false)) rfl ?_)
 refine XL.nil ?_
 refine X.seq ?_
 refine X.region ?_
 refine XL.cons (XOp.loadN [arv] Try.isAgg30 Try.sizeOf30 rfl rfl (Rd.ownN [_] rfl rfl) ?_)
 refine XL.cons (XOp.move (pv) rfl ?_)
 refine XL.cons (XOp.move (tv) rfl ?_)
 refine XL.cons (XOp.build0 (List.replicate 24 (Value.slice none 0 0)) Try.runUnderlying178 ⟨_, Try.sizeOf22⟩ Try.zeroValue178 rfl ?_)
 have hc1 : BindC F _ _ := BindC.nils 24
 refine XL.cons (XOp.call (args := [.agg #[arv], pv, tv, .agg (List.replicate 24 (Value.slice none 0 0)).toArray]) Try.call147 rfl (matchInto_spec har hp ht hc1 ((by first | assumption | rfl | simp | omega)) (ho := (by first | assumption | rfl | omega | (left; simp; done) | (right; simp; done))) (hpl := (by first | assumption | rfl | omega | (left; simp; done) | (right; simp; done))) (hpg := (by first | assumption | rfl | omega | (left; simp; done) | (right; simp; done)))) ?_)
 rintro _ _ _ _ ⟨rfl, x1, x2, rfl, hr1, hr2, hr3, rfl⟩
 have hbl24 := hr2
 refine XL.cons (XOp.move (.tuple #[.agg (x1).toArray, .bool ((mGo ar t p 0 (List.replicate 24 ([] : List Int))).isSome)]) rfl ?_)
 refine XL.cons (XOp.extract (.agg (x1).toArray) rfl rfl ?_)
 refine XL.cons (XOp.extract (.bool ((mGo ar t p 0 (List.replicate 24 ([] : List Int))).isSome)) rfl rfl ?_)
 refine XL.cons (XOp.alloc (List.replicate 24 (Value.slice none 0 0)) Try.zeroValue178 rfl ?_)
 intro b3
 have hc2 : BindC F _ _ := BindC.nils 24
 refine XL.cons (XOp.storeN (vs := x1) [] _ x1 Try.sizeOf178 rfl rfl (by have := CO.len hr1; (try simp only [List.length_set, List.length_replicate] at this ⊢) <;> omega) hr1.ones rfl (Nat.ble_eq_true_of_le (Nat.le_of_eq (by have := CO.len hc2; (try simp only [List.length_set, List.length_replicate] at this ⊢) <;> omega))) (arr_over (by have := CO.len hc2; (try simp only [List.length_set, List.length_replicate] at this ⊢) <;> omega)) ?_)
 refine XL.cons (XOp.assign (.bool ((mGo ar t p 0 (List.replicate 24 ([] : List Int))).isSome)) rfl ?_)
 refine XL.nil ?_
 refine X.seq ?_
 refine X.seq ?_
 refine X.region ?_
 refine XL.cons (XOp.move (.bool ((mGo ar t p 0 (List.replicate 24 ([] : List Int))).isSome)) rfl ?_)
 refine XL.cons (XOp.notB (b := (mGo ar t p 0 (List.replicate 24 ([] : List Int))).isSome) rfl ?_)
 refine XL.nil ?_
 refine X.cond (t := !((mGo ar t p 0 (List.replicate 24 ([] : List Int))).isSome)) rfl (fun h1 => ?_) (fun h1 => ?_)
 ·refine X.seq ?_
  refine X.region ?_
  refine XL.cons (XOp.build [(.slice none 0 0)] [(.slice none 0 0)] [(0, 1)] [] Try.runUnderlying96 Try.zeroValue96 rfl (.cons rfl Try.sizeOf49 PlacesAre.nil) rfl CellsAre.nil ?_)
  refine XL.cons (XOp.storeN (vs := [(.slice none 0 0)]) [_] _ [(.slice none 0 0)] Try.sizeOf96 rfl rfl rfl (ones_cons rfl ones_nil) rfl rfl rfl ?_)
  refine XL.cons (XOp.assign (.bool (false)) rfl ?_)
  refine XL.nil ?_
  refine X.ret (thenQ_ret (retEnd (L' := L) [.agg #[(.slice none 0 0)], .bool (false)] (.tuple #[.agg #[(.slice none 0 0)], .bool (false)]) (.cell rfl (loadNV [(.slice none 0 0)] Try.isAgg96 Try.sizeOf96 rfl (Rd.ownN [_] rfl rfl)) (.tmp rfl .nil)) rfl (FLe.refl _) (FLe.refl _) (Sub.drop (Sub.drop (Sub.drop (Sub.refl _)))) ?_))
  have hz : matchB ar p t = none := by have h0 := h1; simpa [matchB] using h0
  exact ⟨_, by rw [hz]; rfl, by rw [matchP, hz]; exact SlOf.nilV, by rw [matchP, hz]; exact Fresh.empty nilRowsD, rfl⟩
 ·have hz : ∃ r, matchB ar p t = some r := Option.isSome_iff_exists.1 (by have h0 := h1; simpa [matchB] using h0)
  have hmb : ∀ i, (x2.getD i []).length ≤ t.length := by obtain ⟨r, hz⟩ := hz; have e := hr3 _ hz; rw [e]; exact (matchB_len hz).2
  have htl := termOk_len ho
  refine X.skip ?_
  refine X.seq ?_
  refine X.region ?_
  refine XL.cons (XOp.loadN x1 Try.isAgg178 Try.sizeOf178 (by have := CO.len hr1; (try simp only [List.length_set, List.length_replicate] at this ⊢) <;> omega) rfl (Rd.ownN [] rfl take_all) ?_)
  refine XL.cons (XOp.call (args := [.agg (x1).toArray]) Try.call149 rfl (subst_spec hr1 ((by first | assumption | rfl | simp | omega))) ?_)
  rintro _ F2 _ le2 ⟨x3, rfl, hr4, rfl⟩
  replace har := har.mono le2
  replace hp := hp.mono le2
  replace ht := ht.mono le2
  replace hc1 := hc1.mono le2
  replace hr1 := hr1.mono le2
  replace hc2 := hc2.mono le2
  refine XL.cons (XOp.call (args := [.agg #[x3]]) Try.call148 rfl (plainZ_spec hr4 (hsl := (by first | assumption | rfl | omega | (left; simp; done) | (right; simp; done))) (hsb := (fun i hi => by have := hmb i; omega))) ?_)
  rintro _ F3 _ le3 ⟨x4, rfl, hr5, hr6, rfl⟩
  replace har := har.mono le3
  replace hp := hp.mono le3
  replace ht := ht.mono le3
  replace hc1 := hc1.mono le3
  replace hr1 := hr1.mono le3
  replace hc2 := hc2.mono le3
  replace hr4 := hr4.mono le3
  refine XL.cons (XOp.storeN (vs := [x4]) [_] _ [x4] Try.sizeOf96 rfl rfl rfl (ones_cons (one_sl (RowsF.isSl hr5)) ones_nil) rfl rfl rfl ?_)
  refine XL.cons (XOp.assign (.bool (true)) rfl ?_)
  refine XL.nil ?_
  refine X.ret (retEnd (L' := L) [.agg #[x4], .bool (true)] (.tuple #[.agg #[x4], .bool (true)]) (.cell rfl (loadNV [x4] Try.isAgg96 Try.sizeOf96 rfl (Rd.ownN [_] rfl rfl)) (.tmp rfl .nil)) rfl (FLe.trans le2 le3) (FLe.refl _) (Sub.drop (Sub.drop (Sub.drop (Sub.refl _)))) ?_)
  obtain ⟨b0, hz⟩ := Option.isSome_iff_exists.1 (show (matchB ar p t).isSome = true from by have h0 := h1; simpa [matchB] using h0)
  have hb0 := hr3 _ hz
  exact ⟨_, by rw [hz]; rfl, by rw [matchP, hz]; subst hb0; exact hr5, by rw [matchP, hz]; subst hb0; exact (hr6.base le2), rfl⟩

/- impl.loopFrom$1 -/
theorem loopFrom1_spec {F : FH} {L : List HP} {p : Nat} {arv : Value} {ar : List Int} (har : IntsF F arv ar) {rsv : Value} {rs : List (List Int × List Int)} (hrs : PairsF F rsv rs) {bs : Nat} (hzbs : FzC F bs [arv, rsv]) {tv : Value} {t : List Int} (ht : IntsF F tv t) {bt : Nat} (hzbt : FzC F bt [tv]) {i1 : Int} {i2 : Int} {uv : Value} {u : List Int} (hu : IntsF F uv u) {bu : Nat} (hzbu : FzC F bu [.int .i64 (i1), .int .i64 (i2), uv]) (ho : termOk ar t = true) (huo : termOk ar u = true) (hp : p < u.length) :
    Does Try.prog 129 [.int .i64 (((p : Nat) : Int)), ptr bs 0, ptr bt 0, ptr bu 0] F (L) (fun v F' L' => ∃ (a : Value), (.tuple #[.agg #[a], .bool ((matchB ar t (sub ar u p)).isSome)] : Value) = v ∧ (RowsF F' a (matchP ar t (sub ar u p))) ∧ (Fresh F F' (star [rowsD 2 22 a (matchP ar t (sub ar u p))])) ∧ L = L') := by
 refine Does.of_X Try.func129 rfl rfl rfl ?_
 have hun := notNil_of_pos hu (by have := termOk_len huo; omega)
 have hso := sub_ok huo hp
 refine X.seq ?_
 refine X.region ?_
 refine XL.cons (XOp.alloc [(.slice none 0 0)] Try.zeroValue96 rfl ?_)
 intro b1
 refine XL.cons (XOp.assign (.bool (false)) rfl ?_)
 refine XL.nil ?_
 refine X.seq ?_
 refine X.drawG [cellsH b1 [(.slice none 0 0)] 96] L 12 [[], [], [], [], [], [], [], [], [], [], [9], []] [[], [0], [], [], [3], [], [5], [], [4, 6, 7], [1, 2, 8], [9], [9]] [[], [], [], [], [], [], [], [], [], [], [], []] (phiG [fun FF us v => v = ptr bs 0, fun FF us v => v = (.agg #[arv] : Value), fun FF us v => v = tv, fun FF us v => v = ptr bs 0, fun FF us v => v = (.agg #[arv] : Value), fun FF us v => v = ptr bu 2, fun FF us v => v = uv, fun FF us v => v = (.int .i64 (((p : Nat) : Int)) : Value), fun FF us v => ((v) : Value) = v ∧ (IntsF FF (v) (sub ar u p)) ∧ (isNil (v) = false), fun FF us v => (.tuple #[.agg #[((aggAt (tupAt v 0) 0))], .bool ((matchB ar t ((sub ar u p))).isSome)] : Value) = v ∧ (RowsF FF ((aggAt (tupAt v 0) 0)) (matchP ar t ((sub ar u p)))) ∧ (FreshsF F FF (star [rowsD 2 22 ((aggAt (tupAt v 0) 0)) (matchP ar t ((sub ar u p)))])), fun FF us v => v = (.agg #[((aggAt (tupAt (us.getD 0 undef) 0) 0))] : Value), fun FF us v => v = (.bool ((matchB ar t ((sub ar u p))).isSome) : Value)]) (ownL [fun us v => [], fun us v => [], fun us v => [], fun us v => [], fun us v => [], fun us v => [], fun us v => [], fun us v => [], fun us v => [], fun us v => [], fun us v => [], fun us v => []]) mixed rfl rfl (by kernel_rfl) (by kernel_rfl) (MonoG.get (MonoG.cons (fun le h => h) (MonoG.cons (fun le h => h) (MonoG.cons (fun le h => h) (MonoG.cons (fun le h => h) (MonoG.cons (fun le h => h) (MonoG.cons (fun le h => h) (MonoG.cons (fun le h => h) (MonoG.cons (fun le h => h) (MonoG.cons (fun le h => ⟨h.1, h.2.1.mono le, h.2.2⟩) (MonoG.cons (fun le h => ⟨h.1, h.2.1.mono le, h.2.2.mono le⟩) (MonoG.cons (fun le h => h) (MonoG.cons (fun le h => h) MonoG.nil))))))))))))) ?_ ?_
 ·refine stepsG.cons (fun vals Fs R leFs hpZ => ?_) ?_
  ·refine XG.op (XOp.fieldP (b := bs) (0) Try.runUnderlying33 rfl Try.sizeOf30 (by decide) rfl rfl ?_)
   exact ⟨rfl, rfl⟩
  refine stepsG.cons (fun vals Fs R leFs hpZ => ?_) ?_
  ·have e0 : vals 0 = ptr bs 0 := hpZ 0 (by decide)
   replace har := har.mono leFs
   replace hrs := hrs.mono leFs
   replace hzbs := hzbs.mono leFs
   replace ht := ht.mono leFs
   replace hzbt := hzbt.mono leFs
   replace hu := hu.mono leFs
   replace hzbu := hzbu.mono leFs
   rw [(envs_of_sat (l := [(0, ptr bs 0)]) ⟨e0, trivial⟩).symm]
   refine XG.op (XOp.loadN [arv] Try.isAgg30 Try.sizeOf30 rfl rfl (FzC.rdN (o := 0) hzbs rfl) ?_)
   exact ⟨rfl, rfl⟩
  refine stepsG.cons (fun vals Fs R leFs hpZ => ?_) ?_
  ·replace har := har.mono leFs
   replace hrs := hrs.mono leFs
   replace hzbs := hzbs.mono leFs
   replace ht := ht.mono leFs
   replace hzbt := hzbt.mono leFs
   replace hu := hu.mono leFs
   replace hzbu := hzbu.mono leFs
   refine XG.op (XOp.load1 (v := tv) Try.isAgg22 rfl (FzC.rd1 hzbt rfl) ?_)
   exact ⟨rfl, rfl⟩
  refine stepsG.cons (fun vals Fs R leFs hpZ => ?_) ?_
  ·refine XG.op (XOp.fieldP (b := bs) (0) Try.runUnderlying33 rfl Try.sizeOf30 (by decide) rfl rfl ?_)
   exact ⟨rfl, rfl⟩
  refine stepsG.cons (fun vals Fs R leFs hpZ => ?_) ?_
  ·have e3 : vals 3 = ptr bs 0 := hpZ 3 (by decide)
   replace har := har.mono leFs
   replace hrs := hrs.mono leFs
   replace hzbs := hzbs.mono leFs
   replace ht := ht.mono leFs
   replace hzbt := hzbt.mono leFs
   replace hu := hu.mono leFs
   replace hzbu := hzbu.mono leFs
   rw [(envs_of_sat (l := [(3, ptr bs 0)]) ⟨e3, trivial⟩).symm]
   refine XG.op (XOp.loadN [arv] Try.isAgg30 Try.sizeOf30 rfl rfl (FzC.rdN (o := 0) hzbs rfl) ?_)
   exact ⟨rfl, rfl⟩
  refine stepsG.cons (fun vals Fs R leFs hpZ => ?_) ?_
  ·refine XG.op (XOp.fieldP (b := bu) (2) Try.runUnderlying77 rfl Try.sizeOf22 (by decide) rfl rfl ?_)
   exact ⟨rfl, rfl⟩
  refine stepsG.cons (fun vals Fs R leFs hpZ => ?_) ?_
  ·have e5 : vals 5 = ptr bu 2 := hpZ 5 (by decide)
   replace har := har.mono leFs
   replace hrs := hrs.mono leFs
   replace hzbs := hzbs.mono leFs
   replace ht := ht.mono leFs
   replace hzbt := hzbt.mono leFs
   replace hu := hu.mono leFs
   replace hzbu := hzbu.mono leFs
   rw [(envs_of_sat (l := [(5, ptr bu 2)]) ⟨e5, trivial⟩).symm]
   refine XG.op (XOp.load1 (v := uv) Try.isAgg22 rfl (FzC.rd1 hzbu rfl) ?_)
   exact ⟨rfl, rfl⟩
  refine stepsG.cons (fun vals Fs R leFs hpZ => ?_) ?_
  ·refine XG.op (XOp.move (.int .i64 (((p : Nat) : Int))) rfl ?_)
   exact ⟨rfl, rfl⟩
  refine stepsG.cons (fun vals Fs R leFs hpZ => ?_) ?_
  ·have e4 : vals 4 = (.agg #[arv] : Value) := hpZ 4 (by decide)
   have e6 : vals 6 = uv := hpZ 6 (by decide)
   have e7 : vals 7 = (.int .i64 (((p : Nat) : Int)) : Value) := hpZ 7 (by decide)
   replace har := har.mono leFs
   replace hrs := hrs.mono leFs
   replace hzbs := hzbs.mono leFs
   replace ht := ht.mono leFs
   replace hzbt := hzbt.mono leFs
   replace hu := hu.mono leFs
   replace hzbu := hzbu.mono leFs
   rw [(envs_of_sat (l := [(4, (.agg #[arv] : Value)), (6, uv), (7, (.int .i64 (((p : Nat) : Int)) : Value))]) ⟨e4, e6, e7, trivial⟩).symm]
   refine XG.op (XOp.call (args := [.agg #[arv], uv, .int .i64 ((p : Nat) : Int)]) Try.call131 rfl (subAt_spec (p := p) har hu (ho := (huo)) (hp := (hp)) (hnn := (by first | assumption | exact hun))) ?_)
   rintro v2 _ _ _ ⟨rfl, rfl, hv2, hn2⟩
   exact ⟨⟨rfl, hv2, hn2⟩, rfl⟩
  refine stepsG.cons (fun vals Fs R leFs hpZ => ?_) ?_
  ·have e1 : vals 1 = (.agg #[arv] : Value) := hpZ 1 (by decide)
   have e2 : vals 2 = tv := hpZ 2 (by decide)
   obtain ⟨e8, f8_1ha, f8_1hn⟩ := hpZ 8 (by decide)
   replace har := har.mono leFs
   replace hrs := hrs.mono leFs
   replace hzbs := hzbs.mono leFs
   replace ht := ht.mono leFs
   replace hzbt := hzbt.mono leFs
   replace hu := hu.mono leFs
   replace hzbu := hzbu.mono leFs
   rw [(envs_of_sat (l := [(1, (.agg #[arv] : Value)), (2, tv), (8, ((vals 8)))]) ⟨e1, e2, (e8).symm, trivial⟩).symm]
   refine XG.op (XOp.call (args := [.agg #[arv], tv, ((vals 8))]) Try.call130 rfl (matchZ_spec har ht f8_1ha (ho := (hso)) (hpo := (ho))) ?_)
   rintro _ F2 _ le2 ⟨x2, rfl, hr3, hr4, rfl⟩
   replace har := har.mono le2
   replace hrs := hrs.mono le2
   replace hzbs := hzbs.mono le2
   replace ht := ht.mono le2
   replace hzbt := hzbt.mono le2
   replace hu := hu.mono le2
   replace hzbu := hzbu.mono le2
   replace f8_1ha := f8_1ha.mono le2
   exact ⟨⟨rfl, hr3, (hr4.base leFs)⟩, rfl⟩
  refine stepsG.cons (fun vals Fs R leFs hpZ => ?_) ?_
  ·obtain ⟨e9, f9_1hr, f9_1hz⟩ := hpZ 9 (by decide)
   rw [(envs_of_sat (l := [(9, (.tuple #[.agg #[((aggAt (tupAt (vals 9) 0) 0))], .bool ((matchB ar t ((sub ar u p))).isSome)] : Value))]) ⟨(e9).symm, trivial⟩).symm]
   refine XG.op (XOp.extract (.agg #[((aggAt (tupAt (vals 9) 0) 0))]) rfl rfl ?_)
   exact ⟨rfl, rfl⟩
  refine stepsG.cons (fun vals Fs R leFs hpZ => ?_) ?_
  ·obtain ⟨e9, f9_1hr, f9_1hz⟩ := hpZ 9 (by decide)
   rw [(envs_of_sat (l := [(9, (.tuple #[.agg #[((aggAt (tupAt (vals 9) 0) 0))], .bool ((matchB ar t ((sub ar u p))).isSome)] : Value))]) ⟨(e9).symm, trivial⟩).symm]
   refine XG.op (XOp.extract (.bool ((matchB ar t ((sub ar u p))).isSome)) rfl rfl ?_)
   exact ⟨rfl, rfl⟩
  exact stepsG.nil
 ·intro vals F3 le3 hphi
  have e0 : vals 0 = ptr bs 0 := hphi 0 (by decide)
  have e1 : vals 1 = (.agg #[arv] : Value) := hphi 1 (by decide)
  have e2 : vals 2 = tv := hphi 2 (by decide)
  have e3 : vals 3 = ptr bs 0 := hphi 3 (by decide)
  have e4 : vals 4 = (.agg #[arv] : Value) := hphi 4 (by decide)
  have e5 : vals 5 = ptr bu 2 := hphi 5 (by decide)
  have e6 : vals 6 = uv := hphi 6 (by decide)
  have e7 : vals 7 = (.int .i64 (((p : Nat) : Int)) : Value) := hphi 7 (by decide)
  obtain ⟨e8, f8_1ha, f8_1hn⟩ := hphi 8 (by decide)
  obtain ⟨e9, f9_1hr, f9_1hz⟩ := hphi 9 (by decide)
  have e10 : vals 10 = (.agg #[((aggAt (tupAt (vals 9) 0) 0))] : Value) := hphi 10 (by decide)
  have e11 : vals 11 = (.bool ((matchB ar t ((sub ar u p))).isSome) : Value) := hphi 11 (by decide)
  generalize hu1 : ((vals 8)) = u1 at e0 e1 e2 e3 e4 e5 e6 e7 e8 f8_1ha f8_1hn e9 f9_1hr f9_1hz e10 e11
  generalize hu2 : ((aggAt (tupAt (vals 9) 0) 0)) = u2 at e0 e1 e2 e3 e4 e5 e6 e7 e8 f8_1ha f8_1hn e9 f9_1hr f9_1hz e10 e11
  rw [(envs_of_sat (l := [(0, ptr bs 0), (1, (.agg #[arv] : Value)), (2, tv), (3, ptr bs 0), (4, (.agg #[arv] : Value)), (5, ptr bu 2), (6, uv), (7, (.int .i64 (((p : Nat) : Int)) : Value)), (8, u1), (9, (.tuple #[.agg #[u2], .bool ((matchB ar t ((sub ar u p))).isSome)] : Value)), (10, (.agg #[u2] : Value)), (11, (.bool ((matchB ar t ((sub ar u p))).isSome) : Value))]) ⟨e0, e1, e2, e3, e4, e5, e6, e7, hu1, (e9).symm, e10, e11, trivial⟩).symm]
  replace har := har.mono le3
  replace hrs := hrs.mono le3
  replace hzbs := hzbs.mono le3
  replace ht := ht.mono le3
  replace hzbt := hzbt.mono le3
  replace hu := hu.mono le3
  replace hzbu := hzbu.mono le3
  show XL _ _ _ _ _ _ _ (cellsH b1 [(.slice none 0 0)] 96 :: L)
  refine XL.cons (XOp.storeN (vs := [u2]) [] _ [u2] Try.sizeOf96 rfl rfl rfl (ones_cons (one_sl (RowsF.isSl f9_1hr)) ones_nil) rfl rfl rfl ?_)
  refine XL.cons (XOp.assign (.bool ((matchB ar t ((sub ar u p))).isSome)) rfl ?_)
  refine XL.nil ?_
  refine X.ret (retEnd (L' := L) [.agg #[u2], .bool ((matchB ar t ((sub ar u p))).isSome)] (.tuple #[.agg #[u2], .bool ((matchB ar t ((sub ar u p))).isSome)]) (.cell rfl (loadNV [u2] Try.isAgg96 Try.sizeOf96 rfl (Rd.ownN [] rfl rfl)) (.tmp rfl .nil)) rfl le3 (FLe.refl _) (Sub.drop (Sub.refl _)) ?_)
  exact ⟨_, rfl, f9_1hr, f9_1hz, rfl⟩

/- impl.firstPlace -/
theorem firstPlace_spec {F : FH} {L : List HP} {wv : Value} {w : List Int} (hw : IntsF F wv w) {arv : Value} {ar : List Int} (har : IntsF F arv ar) {rsv : Value} {rs : List (List Int × List Int)} (hrs : PairsF F rsv rs) {bs : Nat} (hzbs : FzC F bs [arv, rsv]) {tv : Value} {t : List Int} (ht : IntsF F tv t) {bt : Nat} (hzbt : FzC F bt [tv]) {i1 : Int} {i2 : Int} {uv : Value} {u : List Int} (hu : IntsF F uv u) {bu : Nat} (hzbu : FzC F bu [.int .i64 (i1), .int .i64 (i2), uv]) (ho : termOk ar t = true) (huo : termOk ar u = true) (hwl : w.length = u.length) :
    Does Try.prog 128 [wv, .func (.func 129) #[] #[ptr bs 0, ptr bt 0, ptr bu 0]] F (L) (fun v F' L' => ∃ (a : Value), (.tuple #[.int .i64 (instI ar t u), .agg #[a]] : Value) = v ∧ (RowsF F' a (placeS ar t u)) ∧ (Fresh F F' (star [rowsD 2 22 a (placeS ar t u)])) ∧ L = L') := by
 refine Does.of_X Try.func128 rfl rfl rfl ?_
 have hul := termOk_len huo
 refine X.seq ?_
 refine X.region ?_
 refine XL.cons (XOp.assign (.int .i64 (0)) rfl ?_)
 refine XL.cons (XOp.alloc [(.slice none 0 0)] Try.zeroValue96 rfl ?_)
 intro b1
 refine XL.nil ?_
 refine X.seq ?_
 refine X.seq ?_
 refine X.region ?_
 refine XL.cons (XOp.move (wv) rfl ?_)
 refine XL.cons (XOp.lenS (v := wv) (n := (w).length) Try.runUnderlying22 rfl hw.slv ?_)
 refine XL.cons (XOp.move (.int .i64 (0)) rfl ?_)
 refine XL.nil ?_
 refine X.block ?_
 refine X.loop (α := Nat × FH) (fun xQ => [(1, .func (.func 129) #[] #[ptr bs 0, ptr bt 0, ptr bu 0]), (5, ptr b1 0), (10, .int .i64 ((((w).length : Nat) : Int))), (11, .int .i64 (((xQ.1 : Nat) : Int)))]) (fun xQ => cellsH b1 [(.slice none 0 0)] 96 :: L) (fun xQ F' => xQ.2 = F' ∧ F ≤ xQ.2 ∧ (xQ.1 ≤ u.length) ∧ (∀ i, i < xQ.1 → (matchB ar t (sub ar u i)).isSome = false)) (fun xQ => u.length - xQ.1) (0, F) ⟨rfl, rfl, rfl, rfl, trivial⟩ (Sub.cons (Sub.refl _)) ⟨rfl, FLe.refl _, (by (try dsimp only) <;> omega), (fun i hi => absurd hi (by omega))⟩ ?_
 rintro ⟨k, G1⟩ rE _ _ ⟨rfl, leG, hk, hall⟩
 show X _ _ _ _ (envs [(1, .func (.func 129) #[] #[ptr bs 0, ptr bt 0, ptr bu 0]), (5, ptr b1 0), (10, .int .i64 ((((w).length : Nat) : Int))), (11, .int .i64 (((k : Nat) : Int)))] rE) _ (cellsH b1 [(.slice none 0 0)] 96 :: L)
 replace leG : F ≤ G1 := leG
 dsimp only at hk hall
 have leG1 := leG
 replace hw := hw.mono leG1
 replace har := har.mono leG1
 replace hrs := hrs.mono leG1
 replace hzbs := hzbs.mono leG1
 replace ht := ht.mono leG1
 replace hzbt := hzbt.mono leG1
 replace hu := hu.mono leG1
 replace hzbu := hzbu.mono leG1
 refine X.seq ?_
 refine X.region ?_
 refine XL.cons (XOp.lss (a := ((k : Nat) : Int)) (b := (((w).length : Nat) : Int)) rfl rfl ?_)
 refine XL.nil ?_
 refine X.seq ?_
 refine X.condD (p := (((k : Nat) : Int) : Int) < (((w).length : Nat) : Int)) rfl (fun h1 => ?_) (fun h1 => ?_)
 ·refine X.skip ?_
  refine X.seq ?_
  refine X.block ?_
  refine X.seq ?_
  refine X.region ?_
  refine XL.cons (XOp.move (.int .i64 (((k : Nat) : Int))) rfl ?_)
  refine XL.cons (XOp.assign (.int .i64 (((k : Nat) : Int))) rfl ?_)
  refine XL.nil ?_
  refine X.seq ?_
  refine X.region ?_
  refine XL.cons (XOp.move (.func (.func 129) #[] #[ptr bs 0, ptr bt 0, ptr bu 0]) rfl ?_)
  refine XL.cons (XOp.move (.int .i64 (((k : Nat) : Int))) rfl ?_)
  refine XL.cons (XOp.callV (first := []) (captured := [ptr bs 0, ptr bt 0, ptr bu 0]) (args := [.int .i64 ((k : Nat) : Int), ptr bs 0, ptr bt 0, ptr bu 0]) Try.call129 rfl rfl (loopFrom1_spec (p := k) har hrs hzbs ht hzbt hu hzbu (ho := (by first | assumption | rfl | omega | (left; simp; done) | (right; simp; done))) (huo := (by first | assumption | rfl | omega | (left; simp; done) | (right; simp; done))) (hp := (by first | assumption | rfl | omega | (left; simp; done) | (right; simp; done)))) ?_)
  rintro _ F1 _ le1 ⟨x1, rfl, hr1, hr2, rfl⟩
  replace hw := hw.mono le1
  replace har := har.mono le1
  replace hrs := hrs.mono le1
  replace hzbs := hzbs.mono le1
  replace ht := ht.mono le1
  replace hzbt := hzbt.mono le1
  replace hu := hu.mono le1
  replace hzbu := hzbu.mono le1
  refine XL.cons (XOp.move (.tuple #[.agg #[x1], .bool ((matchB ar t (sub ar u k)).isSome)]) rfl ?_)
  refine XL.cons (XOp.extract (.agg #[x1]) rfl rfl ?_)
  refine XL.cons (XOp.extract (.bool ((matchB ar t (sub ar u k)).isSome)) rfl rfl ?_)
  refine XL.cons (XOp.alloc [(.slice none 0 0)] Try.zeroValue96 rfl ?_)
  intro b2
  refine XL.cons (XOp.storeN (vs := [x1]) [] _ [x1] Try.sizeOf96 rfl rfl rfl (ones_cons (one_sl (RowsF.isSl hr1)) ones_nil) rfl rfl rfl ?_)
  refine XL.cons (XOp.assign (.bool ((matchB ar t (sub ar u k)).isSome)) rfl ?_)
  refine XL.nil ?_
  refine X.seq ?_
  refine X.region ?_
  refine XL.cons (XOp.move (.bool ((matchB ar t (sub ar u k)).isSome)) rfl ?_)
  refine XL.nil ?_
  refine X.cond (t := (matchB ar t (sub ar u k)).isSome) rfl (fun h2 => ?_) (fun h2 => ?_)
  ·refine X.seq ?_
   refine X.draw [cellsH b2 [x1] 96, cellsH b1 [(.slice none 0 0)] 96] L 3 [[], [], []] [[], [], [0]] (phiL [fun us v => v = (.int .i64 (((k : Nat) : Int)) : Value), fun us v => v = (.agg #[x1] : Value), fun us v => v = (.int .i64 (((k : Nat) : Int)) : Value)]) (ownL [fun us v => [], fun us v => [], fun us v => []]) mixed rfl rfl (by kernel_rfl) ?_ ?_
   ·refine stepsP.cons (fun vals R hpZ => ?_) ?_
    ·refine XG.op (XOp.move (.int .i64 (((k : Nat) : Int))) rfl ?_)
     exact ⟨rfl, rfl, rfl⟩
    refine stepsP.cons (fun vals R hpZ => ?_) ?_
    ·refine XG.op (XOp.loadN [x1] Try.isAgg96 Try.sizeOf96 rfl rfl (Rd.ownN [] rfl rfl) ?_)
     exact ⟨rfl, rfl, rfl⟩
    refine stepsP.cons (fun vals R hpZ => ?_) ?_
    ·rw [(envs_of_sat (l := [(0, (.int .i64 (((k : Nat) : Int)) : Value))]) ⟨hpZ 0 (by decide), trivial⟩).symm]
     refine XG.op (XOp.assign (.int .i64 (((k : Nat) : Int))) rfl ?_)
     exact ⟨rfl, rfl, rfl⟩
    exact stepsP.nil
   ·intro vals hphi
    have e0 : vals 0 = (.int .i64 (((k : Nat) : Int)) : Value) := hphi 0 (by decide)
    have e1 : vals 1 = (.agg #[x1] : Value) := hphi 1 (by decide)
    have e2 : vals 2 = (.int .i64 (((k : Nat) : Int)) : Value) := hphi 2 (by decide)
    rw [(envs_of_sat (l := [(0, (.int .i64 (((k : Nat) : Int)) : Value)), (1, (.agg #[x1] : Value)), (2, (.int .i64 (((k : Nat) : Int)) : Value))]) ⟨e0, e1, e2, trivial⟩).symm]
    show XL _ _ _ _ _ _ _ (cellsH b2 [x1] 96 :: cellsH b1 [(.slice none 0 0)] 96 :: L)
    refine XL.cons (XOp.storeN (vs := [x1]) [_] _ [x1] Try.sizeOf96 rfl rfl rfl (ones_cons (one_sl (RowsF.isSl hr1)) ones_nil) rfl rfl rfl ?_)
    refine XL.nil ?_
    refine X.ret (blockQ_ret (thenQ_ret (thenQ_ret (blockQ_ret (thenQ_ret (retEnd (L' := L) [.int .i64 (((k : Nat) : Int)), .agg #[x1]] (.tuple #[.int .i64 (((k : Nat) : Int)), .agg #[x1]]) (.tmp rfl (.cell rfl (loadNV [x1] Try.isAgg96 Try.sizeOf96 rfl (Rd.ownN [_] rfl rfl)) .nil)) rfl (FLe.trans leG1 le1) (FLe.refl _) (Sub.drop (Sub.drop (Sub.refl _))) ?_))))))
    have e := instI_at (by omega) (by assumption) hall
    have e2 := placeS_at e
    exact ⟨_, by rw [e], by rw [e2]; exact hr1, by rw [e2]; exact (hr2.base leG1), rfl⟩
  ·refine X.skip ?_
   refine X.region ?_
   refine XL.cons (XOp.addR (a := ((k : Nat) : Int)) (b := 1) (((k + 1 : Nat) : Int)) rfl rfl (by omega) (by omega) ?_)
   refine XL.cons (XOp.move (.int .i64 (((k + 1 : Nat) : Int))) rfl ?_)
   refine XL.nil ?_
   exact ⟨(k + 1, F1), _, (FLe.trans leG1 le1), (FLe.refl _), ⟨rfl, rfl, rfl, rfl, trivial⟩, (Sub.drop (Sub.cons (Sub.refl _))), ⟨rfl, (FLe.trans leG1 le1), (by (try dsimp only) <;> omega), (fun i hi => (Nat.lt_or_ge i k).elim (fun h => hall i h) (fun h => by obtain rfl : i = k := (by omega); assumption))⟩, (by omega)⟩
 ·refine X.exit (thenQ_exit (thenQ_exit (blockQ_exit ?_)))
  refine X.seq ?_
  refine X.region ?_
  refine XL.cons (XOp.build [(.slice none 0 0)] [(.slice none 0 0)] [(0, 1)] [] Try.runUnderlying96 Try.zeroValue96 rfl (.cons rfl Try.sizeOf49 PlacesAre.nil) rfl CellsAre.nil ?_)
  refine XL.cons (XOp.assign (.int .i64 (-1)) rfl ?_)
  refine XL.cons (XOp.storeN (vs := [(.slice none 0 0)]) [] _ [(.slice none 0 0)] Try.sizeOf96 rfl rfl rfl (ones_cons rfl ones_nil) rfl rfl rfl ?_)
  refine XL.nil ?_
  refine X.ret (retEnd (L' := L) [.int .i64 (-1), .agg #[(.slice none 0 0)]] (.tuple #[.int .i64 (-1), .agg #[(.slice none 0 0)]]) (.tmp rfl (.cell rfl (loadNV [(.slice none 0 0)] Try.isAgg96 Try.sizeOf96 rfl (Rd.ownN [] rfl rfl)) .nil)) rfl leG1 (FLe.refl _) (Sub.drop (Sub.refl _)) ?_)
  have e := instI_none (fun i hi => hall i (by omega))
  have e2 := placeS_none e
  exact ⟨_, by rw [e], by rw [e2]; exact SlOf.nilV, by rw [e2]; exact Fresh.empty nilRowsD, rfl⟩

/- impl.loopFrom -/
set_option maxHeartbeats 1000000 in
set_option maxRecDepth 20000 in
theorem loopFrom_spec {F : FH} {L : List HP} {arv : Value} {ar : List Int} (har : IntsF F arv ar) {rsv : Value} {rs : List (List Int × List Int)} (hrs : PairsF F rsv rs) {tv : Value} {t : List Int} (ht : IntsF F tv t) {n : Int} (hsys : sysOk ar rs = true) (ho : termOk ar t = true) (hn20 : 1 ≤ n ∧ n ≤ 20) :
    Does Try.prog 104 [.agg #[arv, rsv], tv, .int .i64 (n)] F (L) (fun v F' L' => ∃ (a : Value), ∃ (b : Value), ∃ (c : Value), (.tuple #[.agg #[a, b, .int .i64 ((loop0 ar rs t (reachL ar rs t (n - 1)).1).2.2.1), c], .bool ((loop0 ar rs t (reachL ar rs t (n - 1)).1).2.2.2.2)] : Value) = v ∧ (IntsF F' a (loop0 ar rs t (reachL ar rs t (n - 1)).1).1) ∧ (StepsF F' b (loop0 ar rs t (reachL ar rs t (n - 1)).1).2.1) ∧ (RowsF F' c (loop0 ar rs t (reachL ar rs t (n - 1)).1).2.2.2.1) ∧ (Fresh F F' (star [intsH 2 a (loop0 ar rs t (reachL ar rs t (n - 1)).1).1, stepsD 2 77 b (loop0 ar rs t (reachL ar rs t (n - 1)).1).2.1, rowsD 2 22 c (loop0 ar rs t (reachL ar rs t (n - 1)).1).2.2.2.1])) ∧ L = L') := by
 refine Does.of_X Try.func104 rfl rfl rfl ?_
 have hgd := reachL_good (ar := ar) (rs := rs) (t := t) (n := n - 1) (by omega)
 have hrk := reachL_ok (n := n - 1) hsys ho
 have hrl := hrk.1
 have hrd : ∀ i, i < (reachL ar rs t (n - 1)).1.length → (EL (reachL ar rs t (n - 1)).1 i).1.length ≤ 60 := fun i hi => (termOk_len (hrk.2 i hi)).2
 have hrs12 := (sysOk_iff.1 hsys).2.1
 refine X.seq ?_
 refine X.region ?_
 refine XL.cons (XOp.box [arv, rsv] rfl rfl ?_)
 intro b1
 refine XL.cons (XOp.box [tv] rfl (cells_one (IntsF.isSl ht)) ?_)
 intro b2
 refine XL.cons (XOp.alloc [(.slice none 0 0), (.slice none 0 0), .int .i64 (0), (.slice none 0 0)] Try.zeroValue98 rfl ?_)
 intro b3
 refine XL.cons (XOp.assign (.bool (false)) rfl ?_)
 refine XL.nil ?_
 refine X.seq ?_
 refine X.region ?_
 refine XL.cons (XOp.loadN [arv, rsv] Try.isAgg33 Try.sizeOf33 rfl rfl (Rd.ownN [_, _] rfl rfl) ?_)
 refine XL.cons (XOp.load1 (v := tv) Try.isAgg22 rfl (Rd.own [_] rfl rfl) ?_)
 refine XL.cons (XOp.move (.int .i64 (n)) rfl ?_)
 refine XL.cons (XOp.subR (a := n) (b := 1) (n - 1) rfl rfl (by omega) (by omega) ?_)
 refine XL.cons (XOp.call (args := [.agg #[arv, rsv], tv, .int .i64 (n - 1)]) Try.call66 rfl (reach_spec (n := n - 1) har hrs ht (hsys := (by first | assumption | rfl | omega | (left; simp; done) | (right; simp; done))) (ho := (by first | assumption | rfl | omega | (left; simp; done) | (right; simp; done))) (hn20 := (by first | assumption | rfl | omega | (left; simp; done) | (right; simp; done)))) ?_)
 rintro _ F1 _ le1 ⟨x1, xcs1, xLs1, rfl, hx1, hxD1, hxZ1, rfl⟩
 replace har := har.mono le1
 replace hrs := hrs.mono le1
 replace ht := ht.mono le1
 refine XL.cons (XOp.move (.tuple #[x1, .bool ((reachL ar rs t (n - 1)).2)]) rfl ?_)
 refine XL.cons (XOp.extract (x1) rfl rfl ?_)
 refine XL.cons (XOp.extract (.bool ((reachL ar rs t (n - 1)).2)) rfl rfl ?_)
 refine XL.cons (XOp.assign (x1) rfl ?_)
 refine XL.cons (XOp.assign (.bool ((reachL ar rs t (n - 1)).2)) rfl ?_)
 refine XL.nil ?_
 refine X.seq ?_
 refine X.seq ?_
 refine X.region ?_
 refine XL.freeze [_, _] _ _ rfl (fun F2 le2 hz1 => ?_)
 replace har := har.mono le2
 replace hrs := hrs.mono le2
 replace ht := ht.mono le2
 replace hx1 := hx1.mono le2
 have hf1 : FzC F2 b1 [arv, rsv] := Fz.cells hz1
 refine XL.freeze [_] _ _ rfl (fun F3 le3 hz2 => ?_)
 replace har := har.mono le3
 replace hrs := hrs.mono le3
 replace ht := ht.mono le3
 replace hx1 := hx1.mono le3
 replace hf1 := hf1.mono le3
 have hf2 : FzC F3 b2 [tv] := Fz.cells hz2
 skip
 refine XL.cons (XOp.move (x1) rfl ?_)
 refine XL.cons (XOp.lenS (v := x1) (n := ((reachL ar rs t (n - 1)).1).length) Try.runUnderlying87 rfl hx1.slv ?_)
 refine XL.cons (XOp.move (.int .i64 (0)) rfl ?_)
 refine XL.nil ?_
 refine X.block ?_
 refine X.loop (α := Nat × FH) (fun xQ => [(3, ptr b1 0), (4, ptr b2 0), (6, ptr b3 0), (8, x1), (27, x1), (28, .int .i64 (((((reachL ar rs t (n - 1)).1).length : Nat) : Int))), (29, .int .i64 (((xQ.1 : Nat) : Int)))]) (fun xQ => cellsH b3 [(.slice none 0 0), (.slice none 0 0), .int .i64 (0), (.slice none 0 0)] 98 :: L) (fun xQ F' => xQ.2 = F' ∧ F3 ≤ xQ.2 ∧ (xQ.1 ≤ (reachL ar rs t (n - 1)).1.length) ∧ (∀ i, i < xQ.1 → nextI ar t (stepsL ar rs (EL (reachL ar rs t (n - 1)).1 i).1) < 0)) (fun xQ => (reachL ar rs t (n - 1)).1.length - xQ.1) (0, F3) ⟨rfl, rfl, rfl, rfl, rfl, rfl, rfl, trivial⟩ (Sub.cons (Sub.refl _)) ⟨rfl, FLe.refl _, (by (try dsimp only) <;> omega), (fun i hi => absurd hi (by omega))⟩ ?_
 rintro ⟨k, G1⟩ rE _ _ ⟨rfl, leG, hk, hno⟩
 show X _ _ _ _ (envs [(3, ptr b1 0), (4, ptr b2 0), (6, ptr b3 0), (8, x1), (27, x1), (28, .int .i64 (((((reachL ar rs t (n - 1)).1).length : Nat) : Int))), (29, .int .i64 (((k : Nat) : Int)))] rE) _ (cellsH b3 [(.slice none 0 0), (.slice none 0 0), .int .i64 (0), (.slice none 0 0)] 98 :: L)
 replace leG : F3 ≤ G1 := leG
 dsimp only at hk hno
 have hka := fun (h : k < (reachL ar rs t (n - 1)).1.length) => (show termOk ar ((reachL ar rs t (n - 1)).1.getD k ([], 0, (0, 0, []), 0)).1 = true from hrk.2 k h)
 have hkl := fun (h : k < (reachL ar rs t (n - 1)).1.length) => termOk_len (hka h)
 have leG1 := leG
 replace har := har.mono leG1
 replace hrs := hrs.mono leG1
 replace ht := ht.mono leG1
 replace hx1 := hx1.mono leG1
 replace hf1 := hf1.mono leG1
 replace hf2 := hf2.mono leG1
 refine X.seq ?_
 refine X.region ?_
 refine XL.cons (XOp.lss (a := ((k : Nat) : Int)) (b := ((((reachL ar rs t (n - 1)).1).length : Nat) : Int)) rfl rfl ?_)
 refine XL.nil ?_
 refine X.seq ?_
 refine X.condD (p := (((k : Nat) : Int) : Int) < ((((reachL ar rs t (n - 1)).1).length : Nat) : Int)) rfl (fun h1 => ?_) (fun h1 => ?_)
 ·refine X.skip ?_
  refine X.seq ?_
  refine X.block ?_
  refine X.seq ?_
  refine X.region ?_
  refine XL.cons (XOp.move (.int .i64 (((k : Nat) : Int))) rfl ?_)
  refine XL.cons (XOp.indexS (v := x1) (i := ((k : Nat) : Int)) (n := ((reachL ar rs t (n - 1)).1).length) k Try.runUnderlying87 Try.sizeOf91 rfl rfl rfl hx1.slv (by omega) rfl ?_)
  obtain ⟨a1, a2, ha1, ha2, hrg1, hq1⟩ := hx1.rd (i := k) (by omega)
  refine XL.cons (XOp.loadN [a1, .int .i64 ((((reachL ar rs t (n - 1)).1).getD k ([], 0, (0, 0, []), 0)).2.1), .int .i64 ((((reachL ar rs t (n - 1)).1).getD k ([], 0, (0, 0, []), 0)).2.2.1.1), .int .i64 ((((reachL ar rs t (n - 1)).1).getD k ([], 0, (0, 0, []), 0)).2.2.1.2.1), a2, .int .i64 ((((reachL ar rs t (n - 1)).1).getD k ([], 0, (0, 0, []), 0)).2.2.2)] Try.isAgg91 Try.sizeOf91 rfl rfl (Rd.all (hrg1 _)) ?_)
  refine XL.cons (XOp.alloc [(.slice none 0 0), .int .i64 (0), .int .i64 (0), .int .i64 (0), (.slice none 0 0), .int .i64 (0)] Try.zeroValue91 rfl ?_)
  intro b4
  refine XL.cons (XOp.assign (.int .i64 (((k : Nat) : Int))) rfl ?_)
  refine XL.cons (XOp.storeN (vs := [a1, .int .i64 ((((reachL ar rs t (n - 1)).1).getD k ([], 0, (0, 0, []), 0)).2.1), .int .i64 ((((reachL ar rs t (n - 1)).1).getD k ([], 0, (0, 0, []), 0)).2.2.1.1), .int .i64 ((((reachL ar rs t (n - 1)).1).getD k ([], 0, (0, 0, []), 0)).2.2.1.2.1), a2, .int .i64 ((((reachL ar rs t (n - 1)).1).getD k ([], 0, (0, 0, []), 0)).2.2.2)]) [] _ [a1, .int .i64 ((((reachL ar rs t (n - 1)).1).getD k ([], 0, (0, 0, []), 0)).2.1), .int .i64 ((((reachL ar rs t (n - 1)).1).getD k ([], 0, (0, 0, []), 0)).2.2.1.1), .int .i64 ((((reachL ar rs t (n - 1)).1).getD k ([], 0, (0, 0, []), 0)).2.2.1.2.1), a2, .int .i64 ((((reachL ar rs t (n - 1)).1).getD k ([], 0, (0, 0, []), 0)).2.2.2)] Try.sizeOf91 rfl rfl rfl (ones_cons (one_sl (IntsF.isSl ha1)) (ones_cons rfl (ones_cons rfl (ones_cons rfl (ones_cons (one_sl (IntsF.isSl ha2)) (ones_cons rfl ones_nil)))))) rfl rfl rfl ?_)
  refine XL.nil ?_
  refine X.seq ?_
  refine X.region ?_
  refine XL.cons (XOp.loadN [arv, rsv] Try.isAgg33 Try.sizeOf33 rfl rfl (FzC.rd hf1 rfl) ?_)
  refine XL.cons (XOp.fieldP (b := b4) (0) Try.runUnderlying91 rfl Try.sizeOf22 (by decide) rfl rfl ?_)
  refine XL.cons (XOp.load1 (v := a1) Try.isAgg22 rfl (Rd.own [] rfl rfl) ?_)
  refine XL.cons (XOp.call (args := [.agg #[arv, rsv], a1]) Try.call84 rfl (stepsFrom_spec har hrs ha1 (hsys := (hsys)) (ho := (hka (by omega)))) ?_)
  rintro _ F4 _ le4 ⟨x2, rfl, hx2, rfl⟩
  replace har := har.mono le4
  replace hrs := hrs.mono le4
  replace ht := ht.mono le4
  replace hx1 := hx1.mono le4
  replace hf1 := hf1.mono le4
  replace hf2 := hf2.mono le4
  replace ha1 := ha1.mono le4
  replace ha2 := ha2.mono le4
  replace hrg1 := fun L9 j9 u9 h9 => Rd.mono (hrg1 L9 j9 u9 h9) le4
  refine XL.cons (XOp.move (.tuple #[x2, .bool (longL ar rs ((((reachL ar rs t (n - 1)).1).getD k ([], 0, (0, 0, []), 0)).1))]) rfl ?_)
  refine XL.cons (XOp.extract (x2) rfl rfl ?_)
  refine XL.cons (XOp.extract (.bool (longL ar rs ((((reachL ar rs t (n - 1)).1).getD k ([], 0, (0, 0, []), 0)).1))) rfl rfl ?_)
  refine XL.cons (XOp.assign (x2) rfl ?_)
  refine XL.cons (XOp.assign (.bool (longL ar rs ((((reachL ar rs t (n - 1)).1).getD k ([], 0, (0, 0, []), 0)).1))) rfl ?_)
  refine XL.nil ?_
  refine X.seq ?_
  refine X.region ?_
  obtain ⟨cso1, Lso1, hXo1, hDo1, hZo1⟩ := hx2
  skip
  refine XL.cons (XOp.move (x2) rfl ?_)
  refine XL.cons (XOp.lenS (v := x2) (n := ((stepsL ar rs ((((reachL ar rs t (n - 1)).1).getD k ([], 0, (0, 0, []), 0)).1))).length) Try.runUnderlying39 rfl hXo1.slv ?_)
  refine XL.cons (XOp.move (.int .i64 (0)) rfl ?_)
  refine XL.nil ?_
  refine X.block ?_
  refine X.loop (α := Nat × FH) (fun xQ => [(3, ptr b1 0), (4, ptr b2 0), (6, ptr b3 0), (8, x1), (10, .int .i64 (((k : Nat) : Int))), (27, x1), (28, .int .i64 (((((reachL ar rs t (n - 1)).1).length : Nat) : Int))), (29, .int .i64 (((k : Nat) : Int))), (41, x2), (42, .int .i64 (((((stepsL ar rs ((((reachL ar rs t (n - 1)).1).getD k ([], 0, (0, 0, []), 0)).1))).length : Nat) : Int))), (43, .int .i64 (((xQ.1 : Nat) : Int)))]) (fun xQ => cellsH b4 [a1, .int .i64 ((((reachL ar rs t (n - 1)).1).getD k ([], 0, (0, 0, []), 0)).2.1), .int .i64 ((((reachL ar rs t (n - 1)).1).getD k ([], 0, (0, 0, []), 0)).2.2.1.1), .int .i64 ((((reachL ar rs t (n - 1)).1).getD k ([], 0, (0, 0, []), 0)).2.2.1.2.1), a2, .int .i64 ((((reachL ar rs t (n - 1)).1).getD k ([], 0, (0, 0, []), 0)).2.2.2)] 91 :: cellsH b3 [(.slice none 0 0), (.slice none 0 0), .int .i64 (0), (.slice none 0 0)] 98 :: L) (fun xQ F' => xQ.2 = F' ∧ F4 ≤ xQ.2 ∧ (xQ.1 ≤ (stepsL ar rs ((reachL ar rs t (n - 1)).1.getD k ([], 0, (0, 0, []), 0)).1).length) ∧ (∀ i, i < xQ.1 → instI ar t ((stepsL ar rs ((reachL ar rs t (n - 1)).1.getD k ([], 0, (0, 0, []), 0)).1).getD i (0, 0, [])).2.2 < 0)) (fun xQ => (stepsL ar rs ((reachL ar rs t (n - 1)).1.getD k ([], 0, (0, 0, []), 0)).1).length - xQ.1) (0, F4) ⟨rfl, rfl, rfl, rfl, rfl, rfl, rfl, rfl, rfl, rfl, rfl, trivial⟩ (Sub.cons (Sub.cons (Sub.refl _))) ⟨rfl, FLe.refl _, (by (try dsimp only) <;> omega), (fun i hi => absurd hi (by omega))⟩ ?_
  rintro ⟨q, G2⟩ rE _ _ ⟨rfl, leG, hq, hnq⟩
  show X _ _ _ _ (envs [(3, ptr b1 0), (4, ptr b2 0), (6, ptr b3 0), (8, x1), (10, .int .i64 (((k : Nat) : Int))), (27, x1), (28, .int .i64 (((((reachL ar rs t (n - 1)).1).length : Nat) : Int))), (29, .int .i64 (((k : Nat) : Int))), (41, x2), (42, .int .i64 (((((stepsL ar rs ((((reachL ar rs t (n - 1)).1).getD k ([], 0, (0, 0, []), 0)).1))).length : Nat) : Int))), (43, .int .i64 (((q : Nat) : Int)))] rE) _ (cellsH b4 [a1, .int .i64 ((((reachL ar rs t (n - 1)).1).getD k ([], 0, (0, 0, []), 0)).2.1), .int .i64 ((((reachL ar rs t (n - 1)).1).getD k ([], 0, (0, 0, []), 0)).2.2.1.1), .int .i64 ((((reachL ar rs t (n - 1)).1).getD k ([], 0, (0, 0, []), 0)).2.2.1.2.1), a2, .int .i64 ((((reachL ar rs t (n - 1)).1).getD k ([], 0, (0, 0, []), 0)).2.2.2)] 91 :: cellsH b3 [(.slice none 0 0), (.slice none 0 0), .int .i64 (0), (.slice none 0 0)] 98 :: L)
  replace leG : F4 ≤ G2 := leG
  dsimp only at hq hnq
  have hnl : (stepsL ar rs ((reachL ar rs t (n - 1)).1.getD k ([], 0, (0, 0, []), 0)).1).length ≤ 1000 := by have h9 := stepsTo_len (ar := ar) (t := ((reachL ar rs t (n - 1)).1.getD k ([], 0, (0, 0, []), 0)).1) (rs := rs) hrs12 ((reachL ar rs t (n - 1)).1.getD k ([], 0, (0, 0, []), 0)).1.length; have h8 := hkl (by omega); show (stepsTo ar rs ((reachL ar rs t (n - 1)).1.getD k ([], 0, (0, 0, []), 0)).1 ((reachL ar rs t (n - 1)).1.getD k ([], 0, (0, 0, []), 0)).1.length).length ≤ 1000; omega
  have hqo := fun (h : q < (stepsL ar rs ((reachL ar rs t (n - 1)).1.getD k ([], 0, (0, 0, []), 0)).1).length) => steps_ok hsys (hka (by omega)) h
  have hql := fun (h : q < (stepsL ar rs ((reachL ar rs t (n - 1)).1.getD k ([], 0, (0, 0, []), 0)).1).length) => termOk_len (hqo h)
  have leG2 := leG
  replace har := har.mono leG2
  replace hrs := hrs.mono leG2
  replace ht := ht.mono leG2
  replace hx1 := hx1.mono leG2
  replace hf1 := hf1.mono leG2
  replace hf2 := hf2.mono leG2
  replace ha1 := ha1.mono leG2
  replace ha2 := ha2.mono leG2
  replace hXo1 := hXo1.mono leG2
  refine X.seq ?_
  refine X.region ?_
  refine XL.cons (XOp.lss (a := ((q : Nat) : Int)) (b := ((((stepsL ar rs ((((reachL ar rs t (n - 1)).1).getD k ([], 0, (0, 0, []), 0)).1))).length : Nat) : Int)) rfl rfl ?_)
  refine XL.nil ?_
  refine X.seq ?_
  refine X.condD (p := (((q : Nat) : Int) : Int) < ((((stepsL ar rs ((((reachL ar rs t (n - 1)).1).getD k ([], 0, (0, 0, []), 0)).1))).length : Nat) : Int)) rfl (fun h2 => ?_) (fun h2 => ?_)
  ·refine X.skip ?_
   refine X.seq ?_
   refine X.block ?_
   refine X.seq ?_
   refine X.region ?_
   refine XL.cons (XOp.indexS (v := x2) (i := ((q : Nat) : Int)) (n := ((stepsL ar rs ((((reachL ar rs t (n - 1)).1).getD k ([], 0, (0, 0, []), 0)).1))).length) q Try.runUnderlying39 Try.sizeOf77 rfl rfl rfl hXo1.slv (by omega) rfl ?_)
   obtain ⟨a3, ha3, hr1, hr2, hr3, hq2⟩ := hXo1.rd (i := q) (by omega)
   refine XL.cons (XOp.loadN [.int .i64 ((((stepsL ar rs ((((reachL ar rs t (n - 1)).1).getD k ([], 0, (0, 0, []), 0)).1))).getD q (0, 0, [])).1), .int .i64 ((((stepsL ar rs ((((reachL ar rs t (n - 1)).1).getD k ([], 0, (0, 0, []), 0)).1))).getD q (0, 0, [])).2.1), a3] Try.isAgg77 Try.sizeOf77 rfl rfl (Rd.three (hr1 _) (hr2 _) (hr3 _)) ?_)
   refine XL.cons (XOp.alloc [.int .i64 (0), .int .i64 (0), (.slice none 0 0)] Try.zeroValue77 rfl ?_)
   intro b5
   refine XL.cons (XOp.storeN (vs := [.int .i64 ((((stepsL ar rs ((((reachL ar rs t (n - 1)).1).getD k ([], 0, (0, 0, []), 0)).1))).getD q (0, 0, [])).1), .int .i64 ((((stepsL ar rs ((((reachL ar rs t (n - 1)).1).getD k ([], 0, (0, 0, []), 0)).1))).getD q (0, 0, [])).2.1), a3]) [] _ [.int .i64 ((((stepsL ar rs ((((reachL ar rs t (n - 1)).1).getD k ([], 0, (0, 0, []), 0)).1))).getD q (0, 0, [])).1), .int .i64 ((((stepsL ar rs ((((reachL ar rs t (n - 1)).1).getD k ([], 0, (0, 0, []), 0)).1))).getD q (0, 0, [])).2.1), a3] Try.sizeOf77 rfl rfl rfl (ones_cons rfl (ones_cons rfl (ones_cons (one_sl (IntsF.isSl ha3)) ones_nil))) rfl rfl rfl ?_)
   refine XL.nil ?_
   refine X.seq ?_
   refine X.region ?_
   refine XL.cons (XOp.fieldP (b := b5) (2) Try.runUnderlying77 rfl Try.sizeOf22 (by decide) rfl rfl ?_)
   refine XL.cons (XOp.load1 (v := a3) Try.isAgg22 rfl (Rd.own [] rfl rfl) ?_)
   refine XL.cons (XOp.makeFuncL [] [ptr b1 0, ptr b2 0, ptr b5 0] rfl rfl ?_)
   refine XL.freeze [] _ _ rfl (fun F5 le5 hz3 => ?_)
   replace har := har.mono le5
   replace hrs := hrs.mono le5
   replace ht := ht.mono le5
   replace hx1 := hx1.mono le5
   replace hf1 := hf1.mono le5
   replace hf2 := hf2.mono le5
   replace ha1 := ha1.mono le5
   replace ha2 := ha2.mono le5
   replace hXo1 := hXo1.mono le5
   replace ha3 := ha3.mono le5
   replace hr1 := Rd.monoA hr1 le5
   replace hr2 := Rd.monoA hr2 le5
   replace hr3 := Rd.monoA hr3 le5
   have hf3 : FzC F5 b5 [.int .i64 ((((stepsL ar rs ((((reachL ar rs t (n - 1)).1).getD k ([], 0, (0, 0, []), 0)).1))).getD q (0, 0, [])).1), .int .i64 ((((stepsL ar rs ((((reachL ar rs t (n - 1)).1).getD k ([], 0, (0, 0, []), 0)).1))).getD q (0, 0, [])).2.1), a3] := Fz.cells hz3
   refine XL.cons (XOp.call (args := [a3, .func (.func 129) #[] #[ptr b1 0, ptr b2 0, ptr b5 0]]) Try.call128 rfl (firstPlace_spec ha3 har hrs hf1 ht hf2 ha3 hf3 (ho := (ho)) (huo := (hqo (by omega))) (hwl := (rfl))) ?_)
   rintro _ F6 _ le6 ⟨x3, rfl, hr4, hr5, rfl⟩
   replace har := har.mono le6
   replace hrs := hrs.mono le6
   replace ht := ht.mono le6
   replace hx1 := hx1.mono le6
   replace hf1 := hf1.mono le6
   replace hf2 := hf2.mono le6
   replace ha1 := ha1.mono le6
   replace ha2 := ha2.mono le6
   replace hXo1 := hXo1.mono le6
   replace ha3 := ha3.mono le6
   replace hf3 := hf3.mono le6
   replace hr1 := Rd.monoA hr1 le6
   replace hr2 := Rd.monoA hr2 le6
   replace hr3 := Rd.monoA hr3 le6
   refine XL.cons (XOp.move (.tuple #[.int .i64 (instI ar t ((((stepsL ar rs ((((reachL ar rs t (n - 1)).1).getD k ([], 0, (0, 0, []), 0)).1))).getD q (0, 0, [])).2.2)), .agg #[x3]]) rfl ?_)
   refine XL.cons (XOp.extract (.int .i64 (instI ar t ((((stepsL ar rs ((((reachL ar rs t (n - 1)).1).getD k ([], 0, (0, 0, []), 0)).1))).getD q (0, 0, [])).2.2))) rfl rfl ?_)
   refine XL.cons (XOp.extract (.agg #[x3]) rfl rfl ?_)
   refine XL.cons (XOp.alloc [(.slice none 0 0)] Try.zeroValue96 rfl ?_)
   intro b6
   refine XL.cons (XOp.assign (.int .i64 (instI ar t ((((stepsL ar rs ((((reachL ar rs t (n - 1)).1).getD k ([], 0, (0, 0, []), 0)).1))).getD q (0, 0, [])).2.2))) rfl ?_)
   refine XL.cons (XOp.storeN (vs := [x3]) [] _ [x3] Try.sizeOf96 rfl rfl rfl (ones_cons (one_sl (RowsF.isSl hr4)) ones_nil) rfl rfl rfl ?_)
   refine XL.nil ?_
   refine X.seq ?_
   refine X.region ?_
   refine XL.cons (XOp.move (.int .i64 (instI ar t ((((stepsL ar rs ((((reachL ar rs t (n - 1)).1).getD k ([], 0, (0, 0, []), 0)).1))).getD q (0, 0, [])).2.2))) rfl ?_)
   refine XL.cons (XOp.geq (a := instI ar t ((((stepsL ar rs ((((reachL ar rs t (n - 1)).1).getD k ([], 0, (0, 0, []), 0)).1))).getD q (0, 0, [])).2.2)) (b := 0) rfl rfl ?_)
   refine XL.nil ?_
   refine X.condD (p := (instI ar t ((((stepsL ar rs ((((reachL ar rs t (n - 1)).1).getD k ([], 0, (0, 0, []), 0)).1))).getD q (0, 0, [])).2.2) : Int) ≥ 0) rfl (fun h3 => ?_) (fun h3 => ?_)
   ·have hwl9 := (walkL_len hgd.1 hgd.2.2.1 (k := k) (by omega)).2
    have hql9 := hql (by omega)
    refine X.seq ?_
    refine X.region ?_
    refine XL.cons (XOp.move (x1) rfl ?_)
    refine XL.cons (XOp.move (.int .i64 (((k : Nat) : Int))) rfl ?_)
    refine XL.cons (XOp.thawL ?_)
    refine id (XOp.call (args := [x1, .int .i64 ((k : Nat) : Int)]) Try.call102 rfl (walkBack_spec (k := k) hx1 (hk := (by omega)) (hll := (hrl)) (hlk := (hgd.1)) (hbd := (hrd))) ?_)
    rintro _ F7 _ le7 ⟨x4, x5, rfl, hr6, hr7, hr8, rfl⟩
    refine ⟨[intsH 2 x4 ((EL ((reachL ar rs t (n - 1)).1) 0).1), stepsD 2 77 x5 (walkL ((reachL ar rs t (n - 1)).1) k)], hr8, ?_⟩
    show XL _ _ _ _ _ _ _ (intsH 2 x4 ((EL ((reachL ar rs t (n - 1)).1) 0).1) :: stepsD 2 77 x5 (walkL ((reachL ar rs t (n - 1)).1) k) :: cellsH b6 [x3] 96 :: cellsH b4 [a1, .int .i64 ((((reachL ar rs t (n - 1)).1).getD k ([], 0, (0, 0, []), 0)).2.1), .int .i64 ((((reachL ar rs t (n - 1)).1).getD k ([], 0, (0, 0, []), 0)).2.2.1.1), .int .i64 ((((reachL ar rs t (n - 1)).1).getD k ([], 0, (0, 0, []), 0)).2.2.1.2.1), a2, .int .i64 ((((reachL ar rs t (n - 1)).1).getD k ([], 0, (0, 0, []), 0)).2.2.2)] 91 :: cellsH b3 [(.slice none 0 0), (.slice none 0 0), .int .i64 (0), (.slice none 0 0)] 98 :: L)
    refine XL.cons (XOp.alloc [(.slice none 0 0), (.slice none 0 0)] Try.zeroValue41 rfl ?_)
    intro b7
    refine XL.cons (XOp.storeN (vs := [x4, x5]) [] _ [x4, x5] Try.sizeOf41 rfl rfl rfl (ones_cons (one_sl (IntsF.isSl hr6)) (ones_cons (one_sl (StepsF.isSl hr7)) ones_nil)) rfl rfl rfl ?_)
    refine XL.nil ?_
    refine X.seq ?_
    refine X.region ?_
    refine XL.openD [_, _] _ rfl (fun cs1 Ls1 F8 le8 hs1 hD1 hZ1 => ?_)
    replace har := har.mono le8
    replace hrs := hrs.mono le8
    replace ht := ht.mono le8
    replace hx1 := hx1.mono le8
    replace hf1 := hf1.mono le8
    replace hf2 := hf2.mono le8
    replace ha1 := ha1.mono le8
    replace ha2 := ha2.mono le8
    replace hXo1 := hXo1.mono le8
    replace ha3 := ha3.mono le8
    replace hf3 := hf3.mono le8
    replace hr4 := hr4.mono le8
    replace hr1 := Rd.monoA hr1 le8
    replace hr2 := Rd.monoA hr2 le8
    replace hr3 := Rd.monoA hr3 le8
    have hc1 := hD1.steps hZ1
    show XL _ _ _ _ _ _ _ (cellsH b7 [x4, x5] 41 :: intsH 2 x4 ((EL ((reachL ar rs t (n - 1)).1) 0).1) :: slH 77 3 x5 ((walkL ((reachL ar rs t (n - 1)).1) k).length) cs1 :: cellsH b6 [x3] 96 :: cellsH b4 [a1, .int .i64 ((((reachL ar rs t (n - 1)).1).getD k ([], 0, (0, 0, []), 0)).2.1), .int .i64 ((((reachL ar rs t (n - 1)).1).getD k ([], 0, (0, 0, []), 0)).2.2.1.1), .int .i64 ((((reachL ar rs t (n - 1)).1).getD k ([], 0, (0, 0, []), 0)).2.2.1.2.1), a2, .int .i64 ((((reachL ar rs t (n - 1)).1).getD k ([], 0, (0, 0, []), 0)).2.2.2)] 91 :: cellsH b3 [(.slice none 0 0), (.slice none 0 0), .int .i64 (0), (.slice none 0 0)] 98 :: L)
    skip
    refine XL.cons (XOp.loadN [.int .i64 ((((stepsL ar rs ((((reachL ar rs t (n - 1)).1).getD k ([], 0, (0, 0, []), 0)).1))).getD q (0, 0, [])).1), .int .i64 ((((stepsL ar rs ((((reachL ar rs t (n - 1)).1).getD k ([], 0, (0, 0, []), 0)).1))).getD q (0, 0, [])).2.1), a3] Try.isAgg77 Try.sizeOf77 rfl rfl (FzC.rd hf3 rfl) ?_)
    refine XL.weaken (Sub.front (A := [_, _])) ?_
    show XL _ _ _ _ _ _ _ (slH 77 3 x5 ((walkL ((reachL ar rs t (n - 1)).1) k).length) cs1 :: cellsH b7 [x4, x5] 41 :: intsH 2 x4 ((EL ((reachL ar rs t (n - 1)).1) 0).1) :: cellsH b6 [x3] 96 :: cellsH b4 [a1, .int .i64 ((((reachL ar rs t (n - 1)).1).getD k ([], 0, (0, 0, []), 0)).2.1), .int .i64 ((((reachL ar rs t (n - 1)).1).getD k ([], 0, (0, 0, []), 0)).2.2.1.1), .int .i64 ((((reachL ar rs t (n - 1)).1).getD k ([], 0, (0, 0, []), 0)).2.2.1.2.1), a2, .int .i64 ((((reachL ar rs t (n - 1)).1).getD k ([], 0, (0, 0, []), 0)).2.2.2)] 91 :: cellsH b3 [(.slice none 0 0), (.slice none 0 0), .int .i64 (0), (.slice none 0 0)] 98 :: L)
    refine XL.weaken (Sub.front (A := [_])) ?_
    show XL _ _ _ _ _ _ _ (cellsH b7 [x4, x5] 41 :: slH 77 3 x5 ((walkL ((reachL ar rs t (n - 1)).1) k).length) cs1 :: intsH 2 x4 ((EL ((reachL ar rs t (n - 1)).1) 0).1) :: cellsH b6 [x3] 96 :: cellsH b4 [a1, .int .i64 ((((reachL ar rs t (n - 1)).1).getD k ([], 0, (0, 0, []), 0)).2.1), .int .i64 ((((reachL ar rs t (n - 1)).1).getD k ([], 0, (0, 0, []), 0)).2.2.1.1), .int .i64 ((((reachL ar rs t (n - 1)).1).getD k ([], 0, (0, 0, []), 0)).2.2.1.2.1), a2, .int .i64 ((((reachL ar rs t (n - 1)).1).getD k ([], 0, (0, 0, []), 0)).2.2.2)] 91 :: cellsH b3 [(.slice none 0 0), (.slice none 0 0), .int .i64 (0), (.slice none 0 0)] 98 :: L)
    refine XL.cons (XOp.call (args := [ptr b7 0, .agg #[.int .i64 ((((stepsL ar rs ((((reachL ar rs t (n - 1)).1).getD k ([], 0, (0, 0, []), 0)).1))).getD q (0, 0, [])).1), .int .i64 ((((stepsL ar rs ((((reachL ar rs t (n - 1)).1).getD k ([], 0, (0, 0, []), 0)).1))).getD q (0, 0, [])).2.1), a3]]) Try.call125 rfl (walkAdd_spec ha3 hs1 hc1 (by first | rfl | assumption | omega) (by omega) (by omega)) ?_)
    rintro _ F9 _ le9 ⟨sw1, cw1, hs2, hw1, hf4, rfl⟩
    replace har := har.mono le9
    replace hrs := hrs.mono le9
    replace ht := ht.mono le9
    replace hx1 := hx1.mono le9
    replace hf1 := hf1.mono le9
    replace hf2 := hf2.mono le9
    replace ha1 := ha1.mono le9
    replace ha2 := ha2.mono le9
    replace hXo1 := hXo1.mono le9
    replace ha3 := ha3.mono le9
    replace hf3 := hf3.mono le9
    replace hr4 := hr4.mono le9
    replace hc1 := hc1.mono le9
    replace hr1 := Rd.monoA hr1 le9
    replace hr2 := Rd.monoA hr2 le9
    replace hr3 := Rd.monoA hr3 le9
    have hc2 := StepsC.snoc hc1 (i := (((stepsL ar rs ((((reachL ar rs t (n - 1)).1).getD k ([], 0, (0, 0, []), 0)).1))).getD q (0, 0, [])).1) (j := (((stepsL ar rs ((((reachL ar rs t (n - 1)).1).getD k ([], 0, (0, 0, []), 0)).1))).getD q (0, 0, [])).2.1) hw1
    show XL _ _ _ _ _ _ _ (cellsH b7 [x4, sw1] 41 :: slH 77 3 sw1 (((walkL ((reachL ar rs t (n - 1)).1) k).length) + 1) ((cs1 ++ [.int .i64 ((((stepsL ar rs ((((reachL ar rs t (n - 1)).1).getD k ([], 0, (0, 0, []), 0)).1))).getD q (0, 0, [])).1), .int .i64 ((((stepsL ar rs ((((reachL ar rs t (n - 1)).1).getD k ([], 0, (0, 0, []), 0)).1))).getD q (0, 0, [])).2.1), cw1])) :: intsH 2 x4 ((EL ((reachL ar rs t (n - 1)).1) 0).1) :: cellsH b6 [x3] 96 :: cellsH b4 [a1, .int .i64 ((((reachL ar rs t (n - 1)).1).getD k ([], 0, (0, 0, []), 0)).2.1), .int .i64 ((((reachL ar rs t (n - 1)).1).getD k ([], 0, (0, 0, []), 0)).2.2.1.1), .int .i64 ((((reachL ar rs t (n - 1)).1).getD k ([], 0, (0, 0, []), 0)).2.2.1.2.1), a2, .int .i64 ((((reachL ar rs t (n - 1)).1).getD k ([], 0, (0, 0, []), 0)).2.2.2)] 91 :: cellsH b3 [(.slice none 0 0), (.slice none 0 0), .int .i64 (0), (.slice none 0 0)] 98 :: L)
    refine XL.nil ?_
    refine X.seq ?_
    refine X.region ?_
    refine XL.cons (XOp.loadN [x4, sw1] Try.isAgg41 Try.sizeOf41 rfl rfl (Rd.ownN [] rfl rfl) ?_)
    refine XL.cons (XOp.move (.int .i64 (instI ar t ((((stepsL ar rs ((((reachL ar rs t (n - 1)).1).getD k ([], 0, (0, 0, []), 0)).1))).getD q (0, 0, [])).2.2))) rfl ?_)
    refine XL.cons (XOp.loadN [x3] Try.isAgg96 Try.sizeOf96 rfl rfl (Rd.ownN [_, _, _] rfl rfl) ?_)
    refine XL.cons (XOp.build [x4, sw1, .int .i64 (instI ar t ((((stepsL ar rs ((((reachL ar rs t (n - 1)).1).getD k ([], 0, (0, 0, []), 0)).1))).getD q (0, 0, [])).2.2)), x3] [(.slice none 0 0), (.slice none 0 0), .int .i64 (0), (.slice none 0 0)] [(0, 2), (2, 1), (3, 1)] [(0, [x4, sw1]), (1, [.int .i64 (instI ar t ((((stepsL ar rs ((((reachL ar rs t (n - 1)).1).getD k ([], 0, (0, 0, []), 0)).1))).getD q (0, 0, [])).2.2))]), (2, [x3])] Try.runUnderlying98 Try.zeroValue98 rfl (.cons rfl Try.sizeOf41 (.cons rfl Try.sizeOf2 (.cons rfl Try.sizeOf96 PlacesAre.nil))) rfl (.cons rfl (.cons rfl (.cons rfl CellsAre.nil))) ?_)
    refine XL.cons (XOp.storeN (vs := [x4, sw1, .int .i64 (instI ar t ((((stepsL ar rs ((((reachL ar rs t (n - 1)).1).getD k ([], 0, (0, 0, []), 0)).1))).getD q (0, 0, [])).2.2)), x3]) [_, _, _, _, _] _ [x4, sw1, .int .i64 (instI ar t ((((stepsL ar rs ((((reachL ar rs t (n - 1)).1).getD k ([], 0, (0, 0, []), 0)).1))).getD q (0, 0, [])).2.2)), x3] Try.sizeOf98 rfl rfl rfl (ones_cons (one_sl (IntsF.isSl hr6)) (ones_cons (one_sl hs2) (ones_cons rfl (ones_cons (one_sl (RowsF.isSl hr4)) ones_nil)))) rfl rfl rfl ?_)
    refine XL.cons (XOp.assign (.bool (true)) rfl ?_)
    refine XL.nil ?_
    refine X.freezeF [_, _] _ _ rfl (fun F10 le10 hz4 => ?_)
    replace har := har.mono le10
    replace hrs := hrs.mono le10
    replace ht := ht.mono le10
    replace hx1 := hx1.mono le10
    replace hf1 := hf1.mono le10
    replace hf2 := hf2.mono le10
    replace ha1 := ha1.mono le10
    replace ha2 := ha2.mono le10
    replace hXo1 := hXo1.mono le10
    replace ha3 := ha3.mono le10
    replace hf3 := hf3.mono le10
    replace hr4 := hr4.mono le10
    replace hc1 := hc1.mono le10
    replace hw1 := hw1.mono le10
    replace hc2 := hc2.mono le10
    replace hr1 := Rd.monoA hr1 le10
    replace hr2 := Rd.monoA hr2 le10
    replace hr3 := Rd.monoA hr3 le10
    have hf5 : IntsF F10 x4 ((EL ((reachL ar rs t (n - 1)).1) 0).1) := intsH.fz (xs := (EL ((reachL ar rs t (n - 1)).1) 0).1) hz4.fz
    refine X.freezeF [_] _ _ rfl (fun F11 le11 hz5 => ?_)
    replace har := har.mono le11
    replace hrs := hrs.mono le11
    replace ht := ht.mono le11
    replace hx1 := hx1.mono le11
    replace hf1 := hf1.mono le11
    replace hf2 := hf2.mono le11
    replace ha1 := ha1.mono le11
    replace ha2 := ha2.mono le11
    replace hXo1 := hXo1.mono le11
    replace ha3 := ha3.mono le11
    replace hf3 := hf3.mono le11
    replace hr4 := hr4.mono le11
    replace hc1 := hc1.mono le11
    replace hw1 := hw1.mono le11
    replace hc2 := hc2.mono le11
    replace hf5 := hf5.mono le11
    replace hr1 := Rd.monoA hr1 le11
    replace hr2 := Rd.monoA hr2 le11
    replace hr3 := Rd.monoA hr3 le11
    have hf6 : StepsF F11 sw1 ((walkL ((reachL ar rs t (n - 1)).1) k ++ [((((stepsL ar rs ((((reachL ar rs t (n - 1)).1).getD k ([], 0, (0, 0, []), 0)).1))).getD q (0, 0, [])).1, (((stepsL ar rs ((((reachL ar rs t (n - 1)).1).getD k ([], 0, (0, 0, []), 0)).1))).getD q (0, 0, [])).2.1, (((stepsL ar rs ((((reachL ar rs t (n - 1)).1).getD k ([], 0, (0, 0, []), 0)).1))).getD q (0, 0, [])).2.2)])) := CO.fz hc2 (by first | rfl | simp | omega) hz5.fz
    refine X.ret (blockQ_ret (thenQ_ret (thenQ_ret (blockQ_ret (blockQ_ret (thenQ_ret (thenQ_ret (blockQ_ret (thenQ_ret (retEnd (L' := L) [.agg #[x4, sw1, .int .i64 (instI ar t ((((stepsL ar rs ((((reachL ar rs t (n - 1)).1).getD k ([], 0, (0, 0, []), 0)).1))).getD q (0, 0, [])).2.2)), x3], .bool (true)] (.tuple #[.agg #[x4, sw1, .int .i64 (instI ar t ((((stepsL ar rs ((((reachL ar rs t (n - 1)).1).getD k ([], 0, (0, 0, []), 0)).1))).getD q (0, 0, [])).2.2)), x3], .bool (true)]) (.cell rfl (loadNV [x4, sw1, .int .i64 (instI ar t ((((stepsL ar rs ((((reachL ar rs t (n - 1)).1).getD k ([], 0, (0, 0, []), 0)).1))).getD q (0, 0, [])).2.2)), x3] Try.isAgg98 Try.sizeOf98 rfl (Rd.ownN [_, _, _] rfl rfl)) (.tmp rfl .nil)) rfl (FLe.trans (FLe.trans (FLe.trans (FLe.trans (FLe.trans (FLe.trans (FLe.trans (FLe.trans (FLe.trans (FLe.trans (FLe.trans le1 le2) le3) leG1) le4) leG2) le5) le6) le8) le9) le10) le11) (FLe.refl _) (Sub.drop (Sub.drop (Sub.drop (Sub.drop (Sub.refl _))))) ?_))))))))))
    have hk9 : k < (reachL ar rs t (n - 1)).1.length := by omega
    have hq9 : q < (stepsL ar rs ((reachL ar rs t (n - 1)).1.getD k ([], 0, (0, 0, []), 0)).1).length := by omega
    have hi9 : 0 ≤ instI ar t ((stepsL ar rs ((reachL ar rs t (n - 1)).1.getD k ([], 0, (0, 0, []), 0)).1).getD q (0, 0, [])).2.2 := by omega
    have e : loop0 ar rs t (reachL ar rs t (n - 1)).1 = ((EL (reachL ar rs t (n - 1)).1 0).1, walkL (reachL ar rs t (n - 1)).1 k ++ [(((stepsL ar rs ((reachL ar rs t (n - 1)).1.getD k ([], 0, (0, 0, []), 0)).1).getD q (0, 0, [])).1, ((stepsL ar rs ((reachL ar rs t (n - 1)).1.getD k ([], 0, (0, 0, []), 0)).1).getD q (0, 0, [])).2.1, ((stepsL ar rs ((reachL ar rs t (n - 1)).1.getD k ([], 0, (0, 0, []), 0)).1).getD q (0, 0, [])).2.2)], instI ar t ((stepsL ar rs ((reachL ar rs t (n - 1)).1.getD k ([], 0, (0, 0, []), 0)).1).getD q (0, 0, [])).2.2, placeS ar t ((stepsL ar rs ((reachL ar rs t (n - 1)).1.getD k ([], 0, (0, 0, []), 0)).1).getD q (0, 0, [])).2.2, true) := by rw [loop0_at (k := k) (q := q) hk9 hno hq9 hi9 hnq, loopAt, hgd.2.2.2, placeS_yes hi9]
    exact ⟨_, _, _, by rw [e], by rw [e]; exact hf5, by rw [e]; exact hf6, by rw [e]; exact hr4, by rw [e]; exact (((Fresh.app hr5 le6 (Fresh.deepM (M := [_]) (DeepL.snoc hD1 rfl ⟨_, rfl, rfl⟩) (Fresh.cons (Fresh.app (M := Ls1) hZ1 le8 (Fresh.one hf4) le9) (FLe.trans le8 le9) hz4 le10) (FLe.trans (FLe.trans le8 le9) le10) hz5 (by first | rfl | omega | (rw [List.length_append]; rfl)) le11) (FLe.trans (FLe.trans (FLe.trans le8 le9) le10) le11)).perm (List.perm_append_comm (l₁ := [_]) (l₂ := [_, _]))).base (FLe.trans (FLe.trans (FLe.trans (FLe.trans (FLe.trans (FLe.trans le1 le2) le3) leG1) le4) leG2) le5)), rfl⟩
   ·refine X.skip ?_
    refine X.region ?_
    refine XL.cons (XOp.addR (a := ((q : Nat) : Int)) (b := 1) (((q + 1 : Nat) : Int)) rfl rfl (by omega) (by omega) ?_)
    refine XL.cons (XOp.move (.int .i64 (((q + 1 : Nat) : Int))) rfl ?_)
    refine XL.nil ?_
    exact ⟨(q + 1, F6), _, (FLe.trans (FLe.trans leG2 le5) le6), (FLe.refl _), ⟨rfl, rfl, rfl, rfl, rfl, rfl, rfl, rfl, rfl, rfl, rfl, trivial⟩, (Sub.drop (Sub.cons (Sub.cons (Sub.refl _)))), ⟨rfl, (FLe.trans (FLe.trans leG2 le5) le6), (by (try dsimp only) <;> omega), (fun i hi => (Nat.lt_or_ge i q).elim (fun h => hnq i h) (fun h => by obtain rfl : i = q := (by omega); omega))⟩, (by omega)⟩
  ·refine X.exit (thenQ_exit (thenQ_exit (blockQ_exit ?_)))
   refine X.region ?_
   refine XL.cons (XOp.addR (a := ((k : Nat) : Int)) (b := 1) (((k + 1 : Nat) : Int)) rfl rfl (by omega) (by omega) ?_)
   refine XL.cons (XOp.move (.int .i64 (((k + 1 : Nat) : Int))) rfl ?_)
   refine XL.nil ?_
   exact ⟨(k + 1, G2), _, (FLe.trans (FLe.trans leG1 le4) leG2), (FLe.refl _), ⟨rfl, rfl, rfl, rfl, rfl, rfl, rfl, trivial⟩, (Sub.drop (Sub.cons (Sub.refl _))), ⟨rfl, (FLe.trans (FLe.trans leG1 le4) leG2), (by (try dsimp only) <;> omega), (fun i hi => (Nat.lt_or_ge i k).elim (fun h => hno i h) (fun h => by obtain rfl : i = k := (by omega); have h9 := nextI_none (ar := ar) (t := t) (ss := stepsL ar rs (EL (reachL ar rs t (n - 1)).1 i).1) (fun j hj => hnq j (by have h8 : j < (stepsL ar rs ((reachL ar rs t (n - 1)).1.getD i ([], 0, (0, 0, []), 0)).1).length := hj; omega)); omega))⟩, (by omega)⟩
 ·refine X.exit (thenQ_exit (thenQ_exit (blockQ_exit ?_)))
  refine X.seq ?_
  refine X.region ?_
  refine XL.cons (XOp.build [(.slice none 0 0), (.slice none 0 0), .int .i64 (0), (.slice none 0 0)] [(.slice none 0 0), (.slice none 0 0), .int .i64 (0), (.slice none 0 0)] [(0, 2), (2, 1), (3, 1)] [] Try.runUnderlying98 Try.zeroValue98 rfl (.cons rfl Try.sizeOf41 (.cons rfl Try.sizeOf2 (.cons rfl Try.sizeOf96 PlacesAre.nil))) rfl CellsAre.nil ?_)
  refine XL.cons (XOp.storeN (vs := [(.slice none 0 0), (.slice none 0 0), .int .i64 (0), (.slice none 0 0)]) [] _ [(.slice none 0 0), (.slice none 0 0), .int .i64 (0), (.slice none 0 0)] Try.sizeOf98 rfl rfl rfl (ones_cons rfl (ones_cons rfl (ones_cons rfl (ones_cons rfl ones_nil)))) rfl rfl rfl ?_)
  refine XL.cons (XOp.assign (.bool (false)) rfl ?_)
  refine XL.nil ?_
  refine X.ret (retEnd (L' := L) [.agg #[(.slice none 0 0), (.slice none 0 0), .int .i64 (0), (.slice none 0 0)], .bool (false)] (.tuple #[.agg #[(.slice none 0 0), (.slice none 0 0), .int .i64 (0), (.slice none 0 0)], .bool (false)]) (.cell rfl (loadNV [(.slice none 0 0), (.slice none 0 0), .int .i64 (0), (.slice none 0 0)] Try.isAgg98 Try.sizeOf98 rfl (Rd.ownN [] rfl rfl)) (.tmp rfl .nil)) rfl (FLe.trans (FLe.trans (FLe.trans le1 le2) le3) leG1) (FLe.refl _) (Sub.drop (Sub.refl _)) ?_)
  have e : loop0 ar rs t (reachL ar rs t (n - 1)).1 = noLoop := loop0_none (fun i hi => hno i (by omega))
  exact ⟨_, _, _, by rw [e], by rw [e]; exact IntsF.nilV, by rw [e]; exact SlOf.nilV, by rw [e]; exact SlOf.nilV, by rw [e]; exact Fresh.empty nilLoop, rfl⟩

/- impl.loopSteps -/
theorem loopSteps_spec {F : FH} {L : List HP} {n : Int} :
    Does Try.prog 74 [.int .i64 (n)] F (L) (fun v F' L' => (.bool (decide (1 ≤ n ∧ n ≤ 20)) : Value) = v ∧ F = F' ∧ L = L') := by
 refine Does.of_X Try.func74 rfl rfl rfl ?_
 refine X.seq ?_
 refine X.region ?_
 refine XL.cons (XOp.assign (.bool (false)) rfl ?_)
 refine XL.nil ?_
 refine X.seq ?_
 refine X.region ?_
 refine XL.cons (XOp.move (.int .i64 (n)) rfl ?_)
 refine XL.cons (XOp.geq (a := n) (b := 1) rfl rfl ?_)
 refine XL.cons (XOp.move (.bool (decide ((n : Int) ≥ 1))) rfl ?_)
 by_cases h1 : (n : Int) ≥ 1
 ·refine XL.yes (t := 5) rfl (congrArg Value.bool (decide_eq_true h1)) (XOp.move (.int .i64 (n)) rfl ?_)
  refine XL.yes (t := 5) rfl (congrArg Value.bool (decide_eq_true h1)) (XOp.leq (a := n) (b := 20) rfl rfl ?_)
  refine XL.cons (XOp.pickT (.bool (decide ((n : Int) ≤ 20))) (congrArg Value.bool (decide_eq_true h1)) rfl ?_)
  refine XL.cons (XOp.assign (.bool (decide ((n : Int) ≤ 20))) rfl ?_)
  refine XL.nil ?_
  refine X.ret (retEnd (L' := L) [.bool (decide ((n : Int) ≤ 20))] (.bool (decide ((n : Int) ≤ 20))) (.tmp rfl .nil) rfl (FLe.refl _) (FLe.refl _) (Sub.refl _) ?_)
  exact ⟨(congrArg Value.bool (by simp_all <;> omega)), rfl, rfl⟩
 ·refine XL.no (t := 5) rfl (congrArg Value.bool (decide_eq_false h1)) ?_
  refine XL.no (t := 5) rfl (congrArg Value.bool (decide_eq_false h1)) ?_
  refine XL.cons (XOp.pickF (.bool (false)) (congrArg Value.bool (decide_eq_false h1)) rfl ?_)
  refine XL.cons (XOp.assign (.bool (false)) rfl ?_)
  refine XL.nil ?_
  refine X.ret (retEnd (L' := L) [.bool (false)] (.bool (false)) (.tmp rfl .nil) rfl (FLe.refl _) (FLe.refl _) (Sub.refl _) ?_)
  exact ⟨(congrArg Value.bool (by simp_all <;> omega)), rfl, rfl⟩

/- impl.FirstLoop -/
set_option maxRecDepth 20000 in
theorem FirstLoop_spec {F : FH} {L : List HP} {arv : Value} {ar : List Int} (har : IntsF F arv ar) {rsv : Value} {rs : List (List Int × List Int)} (hrs : PairsF F rsv rs) {n : Int} :
    Does Try.prog 75 [.agg #[arv, rsv], .int .i64 (n)] F (L) (fun v F' L' => ∃ (a : Value), ∃ (b : Value), ∃ (c : Value), (.tuple #[.agg #[a, b, .int .i64 ((firstF ar rs n).2.2.1), c], .bool ((firstF ar rs n).2.2.2.2)] : Value) = v ∧ (IntsF F' a (firstF ar rs n).1) ∧ (StepsF F' b (firstF ar rs n).2.1) ∧ (RowsF F' c (firstF ar rs n).2.2.2.1) ∧ (Fresh F F' (star [intsH 2 a (firstF ar rs n).1, stepsD 2 77 b (firstF ar rs n).2.1, rowsD 2 22 c (firstF ar rs n).2.2.2.1])) ∧ L = L') := by
 refine Does.of_X Try.func75 rfl rfl rfl ?_
 refine X.seq ?_
 refine X.region ?_
 refine XL.cons (XOp.box [arv, rsv] rfl rfl ?_)
 intro b1
 refine XL.cons (XOp.alloc [(.slice none 0 0), (.slice none 0 0), .int .i64 (0), (.slice none 0 0)] Try.zeroValue98 rfl ?_)
 intro b2
 refine XL.cons (XOp.assign (.bool (false)) rfl ?_)
 refine XL.nil ?_
 refine X.seq ?_
 refine X.seq ?_
 refine X.region ?_
 refine XL.cons (XOp.loadN [arv, rsv] Try.isAgg33 Try.sizeOf33 rfl rfl (Rd.ownN [_] rfl rfl) ?_)
 refine XL.cons (XOp.call (args := [.agg #[arv, rsv]]) Try.call55 rfl (SystemOk_spec har hrs) ?_)
 rintro _ _ _ _ ⟨rfl, rfl, rfl⟩
 refine XL.cons (XOp.notB (b := sysOk ar rs) rfl ?_)
 refine XL.cons (XOp.move (.bool (!(sysOk ar rs))) rfl ?_)
 by_cases h1 : (!(sysOk ar rs)) = true
 ·refine XL.no (t := 13) rfl (congrArg Value.bool h1) ?_
  refine XL.no (t := 13) rfl (congrArg Value.bool h1) ?_
  refine XL.no (t := 13) rfl (congrArg Value.bool h1) ?_
  refine XL.cons (XOp.pickT (.bool (true)) (congrArg Value.bool h1) rfl ?_)
  refine XL.nil ?_
  refine X.condT rfl ?_
  refine X.seq ?_
  refine X.region ?_
  refine XL.cons (XOp.build [(.slice none 0 0), (.slice none 0 0), .int .i64 (0), (.slice none 0 0)] [(.slice none 0 0), (.slice none 0 0), .int .i64 (0), (.slice none 0 0)] [(0, 2), (2, 1), (3, 1)] [] Try.runUnderlying98 Try.zeroValue98 rfl (.cons rfl Try.sizeOf41 (.cons rfl Try.sizeOf2 (.cons rfl Try.sizeOf96 PlacesAre.nil))) rfl CellsAre.nil ?_)
  refine XL.cons (XOp.storeN (vs := [(.slice none 0 0), (.slice none 0 0), .int .i64 (0), (.slice none 0 0)]) [] _ [(.slice none 0 0), (.slice none 0 0), .int .i64 (0), (.slice none 0 0)] Try.sizeOf98 rfl rfl rfl (ones_cons rfl (ones_cons rfl (ones_cons rfl (ones_cons rfl ones_nil)))) rfl rfl rfl ?_)
  refine XL.cons (XOp.assign (.bool (false)) rfl ?_)
  refine XL.nil ?_
  refine X.ret (thenQ_ret (retEnd (L' := L) [.agg #[(.slice none 0 0), (.slice none 0 0), .int .i64 (0), (.slice none 0 0)], .bool (false)] (.tuple #[.agg #[(.slice none 0 0), (.slice none 0 0), .int .i64 (0), (.slice none 0 0)], .bool (false)]) (.cell rfl (loadNV [(.slice none 0 0), (.slice none 0 0), .int .i64 (0), (.slice none 0 0)] Try.isAgg98 Try.sizeOf98 rfl (Rd.ownN [] rfl rfl)) (.tmp rfl .nil)) rfl (FLe.refl _) (FLe.refl _) (Sub.drop (Sub.drop (Sub.refl _))) ?_))
  have e : firstF ar rs n = noLoop := firstF_no (by simp_all)
  exact ⟨_, _, _, by rw [e], by rw [e]; exact IntsF.nilV, by rw [e]; exact SlOf.nilV, by rw [e]; exact SlOf.nilV, by rw [e]; exact Fresh.empty nilLoop, rfl⟩
 ·rw [Bool.not_eq_true] at h1
  have hsys : sysOk ar rs = true := by simpa using h1
  have hrs12 := (sysOk_iff.1 hsys).2.1
  refine XL.yes (t := 13) rfl (congrArg Value.bool h1) (XOp.move (.int .i64 (n)) rfl ?_)
  refine XL.yes (t := 13) rfl (congrArg Value.bool h1) (XOp.call (args := [.int .i64 (n)]) Try.call74 rfl (loopSteps_spec (n := n)) ?_)
  rintro _ _ _ _ ⟨rfl, rfl, rfl⟩
  refine XL.yes (t := 13) rfl (congrArg Value.bool h1) (XOp.notD (p := 1 ≤ n ∧ n ≤ 20) rfl ?_)
  refine XL.cons (XOp.pickF (.bool (decide (¬(1 ≤ n ∧ n ≤ 20)))) (congrArg Value.bool h1) rfl ?_)
  refine XL.nil ?_
  refine X.condD (p := ¬(1 ≤ n ∧ n ≤ 20)) rfl (fun h2 => ?_) (fun h2 => ?_)
  ·refine X.seq ?_
   refine X.region ?_
   refine XL.cons (XOp.build [(.slice none 0 0), (.slice none 0 0), .int .i64 (0), (.slice none 0 0)] [(.slice none 0 0), (.slice none 0 0), .int .i64 (0), (.slice none 0 0)] [(0, 2), (2, 1), (3, 1)] [] Try.runUnderlying98 Try.zeroValue98 rfl (.cons rfl Try.sizeOf41 (.cons rfl Try.sizeOf2 (.cons rfl Try.sizeOf96 PlacesAre.nil))) rfl CellsAre.nil ?_)
   refine XL.cons (XOp.storeN (vs := [(.slice none 0 0), (.slice none 0 0), .int .i64 (0), (.slice none 0 0)]) [] _ [(.slice none 0 0), (.slice none 0 0), .int .i64 (0), (.slice none 0 0)] Try.sizeOf98 rfl rfl rfl (ones_cons rfl (ones_cons rfl (ones_cons rfl (ones_cons rfl ones_nil)))) rfl rfl rfl ?_)
   refine XL.cons (XOp.assign (.bool (false)) rfl ?_)
   refine XL.nil ?_
   refine X.ret (thenQ_ret (retEnd (L' := L) [.agg #[(.slice none 0 0), (.slice none 0 0), .int .i64 (0), (.slice none 0 0)], .bool (false)] (.tuple #[.agg #[(.slice none 0 0), (.slice none 0 0), .int .i64 (0), (.slice none 0 0)], .bool (false)]) (.cell rfl (loadNV [(.slice none 0 0), (.slice none 0 0), .int .i64 (0), (.slice none 0 0)] Try.isAgg98 Try.sizeOf98 rfl (Rd.ownN [] rfl rfl)) (.tmp rfl .nil)) rfl (FLe.refl _) (FLe.refl _) (Sub.drop (Sub.drop (Sub.refl _))) ?_))
   have e : firstF ar rs n = noLoop := firstF_no (by simp_all)
   exact ⟨_, _, _, by rw [e], by rw [e]; exact IntsF.nilV, by rw [e]; exact SlOf.nilV, by rw [e]; exact SlOf.nilV, by rw [e]; exact Fresh.empty nilLoop, rfl⟩
  ·have hn20 : 1 ≤ n ∧ n ≤ 20 := by first | exact Classical.not_not.1 h2 | simpa using h2
   refine X.skip ?_
   refine X.seq ?_
   refine X.seq ?_
   refine X.region ?_
   refine XL.cons (XOp.fieldP (b := b1) (1) Try.runUnderlying33 rfl Try.sizeOf31 (by decide) rfl rfl ?_)
   refine XL.cons (XOp.load1 (v := rsv) Try.isAgg31 rfl (Rd.own [_] rfl rfl) ?_)
   refine XL.cons (XOp.lenS (v := rsv) (n := (rs).length) Try.runUnderlying31 rfl hrs.slv ?_)
   refine XL.cons (XOp.move (.int .i64 (0)) rfl ?_)
   refine XL.nil ?_
   refine X.block ?_
   refine X.loop (α := Nat × FH) (fun xQ => [(1, .int .i64 (n)), (2, ptr b1 0), (4, ptr b2 0), (20, rsv), (21, .int .i64 ((((rs).length : Nat) : Int))), (22, .int .i64 (((xQ.1 : Nat) : Int)))]) (fun xQ => cellsH b2 [(.slice none 0 0), (.slice none 0 0), .int .i64 (0), (.slice none 0 0)] 98 :: cellsH b1 [arv, rsv] 33 :: L) (fun xQ F' => xQ.2 = F' ∧ F ≤ xQ.2 ∧ (xQ.1 ≤ rs.length) ∧ (∀ i, i < xQ.1 → (loopF ar rs (rs.getD i ([], [])).1 n).2.2.2.2 = false)) (fun xQ => rs.length - xQ.1) (0, F) ⟨rfl, rfl, rfl, rfl, rfl, rfl, trivial⟩ (Sub.cons (Sub.cons (Sub.refl _))) ⟨rfl, FLe.refl _, (by (try dsimp only) <;> omega), (fun i hi => absurd hi (by omega))⟩ ?_
   rintro ⟨k, G1⟩ rE _ _ ⟨rfl, leG, hk, hall⟩
   show X _ _ _ _ (envs [(1, .int .i64 (n)), (2, ptr b1 0), (4, ptr b2 0), (20, rsv), (21, .int .i64 ((((rs).length : Nat) : Int))), (22, .int .i64 (((k : Nat) : Int)))] rE) _ (cellsH b2 [(.slice none 0 0), (.slice none 0 0), .int .i64 (0), (.slice none 0 0)] 98 :: cellsH b1 [arv, rsv] 33 :: L)
   replace leG : F ≤ G1 := leG
   dsimp only at hk hall
   have hrl := fun (h : k < rs.length) => (ruleOk_iff.1 ((sysOk_iff.1 hsys).2.2 k h)).left
   have hlf := fun (h : k < rs.length) => loopF_yes (ar := ar) (rs := rs) (t := (rs.getD k ([], [])).1) (n := n) ⟨⟨hsys, hrl h⟩, hn20⟩
   have leG1 := leG
   replace har := har.mono leG1
   replace hrs := hrs.mono leG1
   refine X.seq ?_
   refine X.region ?_
   refine XL.cons (XOp.lss (a := ((k : Nat) : Int)) (b := (((rs).length : Nat) : Int)) rfl rfl ?_)
   refine XL.nil ?_
   refine X.seq ?_
   refine X.condD (p := (((k : Nat) : Int) : Int) < (((rs).length : Nat) : Int)) rfl (fun h3 => ?_) (fun h3 => ?_)
   ·refine X.skip ?_
    refine X.seq ?_
    refine X.block ?_
    refine X.seq ?_
    refine X.region ?_
    refine XL.cons (XOp.indexS (v := rsv) (i := ((k : Nat) : Int)) (n := (rs).length) k Try.runUnderlying31 Try.sizeOf105 rfl rfl rfl hrs.slv (by omega) rfl ?_)
    obtain ⟨a1, a2, ha1, ha2, hr1, hr2⟩ := hrs.rd (i := k) (by omega)
    refine XL.cons (XOp.loadN [a1, a2] Try.isAgg105 Try.sizeOf105 rfl rfl (Rd.two (hr1 _) (hr2 _)) ?_)
    refine XL.cons (XOp.alloc [(.slice none 0 0), (.slice none 0 0)] Try.zeroValue105 rfl ?_)
    intro b3
    refine XL.cons (XOp.storeN (vs := [a1, a2]) [] _ [a1, a2] Try.sizeOf105 rfl rfl rfl (ones_cons (one_sl (IntsF.isSl ha1)) (ones_cons (one_sl (IntsF.isSl ha2)) ones_nil)) rfl rfl rfl ?_)
    refine XL.nil ?_
    refine X.seq ?_
    refine X.region ?_
    refine XL.cons (XOp.loadN [arv, rsv] Try.isAgg33 Try.sizeOf33 rfl rfl (Rd.ownN [_, _] rfl rfl) ?_)
    refine XL.cons (XOp.fieldP (b := b3) (0) Try.runUnderlying105 rfl Try.sizeOf22 (by decide) rfl rfl ?_)
    refine XL.cons (XOp.load1 (v := a1) Try.isAgg22 rfl (Rd.own [] rfl rfl) ?_)
    refine XL.cons (XOp.move (.int .i64 (n)) rfl ?_)
    refine XL.cons (XOp.call (args := [.agg #[arv, rsv], a1, .int .i64 (n)]) Try.call104 rfl (loopFrom_spec (n := n) har hrs ha1 (hsys := (hsys)) (ho := (hrl (by omega))) (hn20 := (hn20))) ?_)
    rintro _ F1 _ le1 ⟨x1, x2, x3, rfl, hr3, hr4, hr5, hr6, rfl⟩
    replace har := har.mono le1
    replace hrs := hrs.mono le1
    replace ha1 := ha1.mono le1
    replace ha2 := ha2.mono le1
    replace hr1 := Rd.monoA hr1 le1
    replace hr2 := Rd.monoA hr2 le1
    refine XL.cons (XOp.move (.tuple #[.agg #[x1, x2, .int .i64 ((loop0 ar rs ((rs.getD k ([], [])).1) (reachL ar rs ((rs.getD k ([], [])).1) (n - 1)).1).2.2.1), x3], .bool ((loop0 ar rs ((rs.getD k ([], [])).1) (reachL ar rs ((rs.getD k ([], [])).1) (n - 1)).1).2.2.2.2)]) rfl ?_)
    refine XL.cons (XOp.extract (.agg #[x1, x2, .int .i64 ((loop0 ar rs ((rs.getD k ([], [])).1) (reachL ar rs ((rs.getD k ([], [])).1) (n - 1)).1).2.2.1), x3]) rfl rfl ?_)
    refine XL.cons (XOp.extract (.bool ((loop0 ar rs ((rs.getD k ([], [])).1) (reachL ar rs ((rs.getD k ([], [])).1) (n - 1)).1).2.2.2.2)) rfl rfl ?_)
    refine XL.cons (XOp.alloc [(.slice none 0 0), (.slice none 0 0), .int .i64 (0), (.slice none 0 0)] Try.zeroValue98 rfl ?_)
    intro b4
    refine XL.cons (XOp.storeN (vs := [x1, x2, .int .i64 ((loop0 ar rs ((rs.getD k ([], [])).1) (reachL ar rs ((rs.getD k ([], [])).1) (n - 1)).1).2.2.1), x3]) [] _ [x1, x2, .int .i64 ((loop0 ar rs ((rs.getD k ([], [])).1) (reachL ar rs ((rs.getD k ([], [])).1) (n - 1)).1).2.2.1), x3] Try.sizeOf98 rfl rfl rfl (ones_cons (one_sl (IntsF.isSl hr3)) (ones_cons (one_sl (StepsF.isSl hr4)) (ones_cons rfl (ones_cons (one_sl (RowsF.isSl hr5)) ones_nil)))) rfl rfl rfl ?_)
    refine XL.cons (XOp.assign (.bool ((loop0 ar rs ((rs.getD k ([], [])).1) (reachL ar rs ((rs.getD k ([], [])).1) (n - 1)).1).2.2.2.2)) rfl ?_)
    refine XL.nil ?_
    refine X.seq ?_
    refine X.region ?_
    refine XL.cons (XOp.move (.bool ((loop0 ar rs ((rs.getD k ([], [])).1) (reachL ar rs ((rs.getD k ([], [])).1) (n - 1)).1).2.2.2.2)) rfl ?_)
    refine XL.nil ?_
    refine X.cond (t := (loop0 ar rs ((rs.getD k ([], [])).1) (reachL ar rs ((rs.getD k ([], [])).1) (n - 1)).1).2.2.2.2) rfl (fun h4 => ?_) (fun h4 => ?_)
    ·have hb9 : (loopF ar rs (rs.getD k ([], [])).1 n).2.2.2.2 = true := by rw [hlf (by omega)]; exact h4
     refine X.seq ?_
     refine X.region ?_
     refine XL.cons (XOp.loadN [x1, x2, .int .i64 ((loop0 ar rs ((rs.getD k ([], [])).1) (reachL ar rs ((rs.getD k ([], [])).1) (n - 1)).1).2.2.1), x3] Try.isAgg98 Try.sizeOf98 rfl rfl (Rd.ownN [] rfl rfl) ?_)
     refine XL.cons (XOp.storeN (vs := [x1, x2, .int .i64 ((loop0 ar rs ((rs.getD k ([], [])).1) (reachL ar rs ((rs.getD k ([], [])).1) (n - 1)).1).2.2.1), x3]) [_, _] _ [x1, x2, .int .i64 ((loop0 ar rs ((rs.getD k ([], [])).1) (reachL ar rs ((rs.getD k ([], [])).1) (n - 1)).1).2.2.1), x3] Try.sizeOf98 rfl rfl rfl (ones_cons (one_sl (IntsF.isSl hr3)) (ones_cons (one_sl (StepsF.isSl hr4)) (ones_cons rfl (ones_cons (one_sl (RowsF.isSl hr5)) ones_nil)))) rfl rfl rfl ?_)
     refine XL.cons (XOp.assign (.bool (true)) rfl ?_)
     refine XL.nil ?_
     refine X.ret (blockQ_ret (thenQ_ret (thenQ_ret (blockQ_ret (thenQ_ret (retEnd (L' := L) [.agg #[x1, x2, .int .i64 ((loop0 ar rs ((rs.getD k ([], [])).1) (reachL ar rs ((rs.getD k ([], [])).1) (n - 1)).1).2.2.1), x3], .bool (true)] (.tuple #[.agg #[x1, x2, .int .i64 ((loop0 ar rs ((rs.getD k ([], [])).1) (reachL ar rs ((rs.getD k ([], [])).1) (n - 1)).1).2.2.1), x3], .bool (true)]) (.cell rfl (loadNV [x1, x2, .int .i64 ((loop0 ar rs ((rs.getD k ([], [])).1) (reachL ar rs ((rs.getD k ([], [])).1) (n - 1)).1).2.2.1), x3] Try.isAgg98 Try.sizeOf98 rfl (Rd.ownN [_, _] rfl rfl)) (.tmp rfl .nil)) rfl (FLe.trans leG1 le1) (FLe.refl _) (Sub.drop (Sub.drop (Sub.drop (Sub.drop (Sub.refl _))))) ?_))))))
     have e := (firstF_at ⟨hsys, hn20⟩ (k := k) (by omega) hb9 hall).trans (hlf (by omega))
     have hb8 := hb9
     rw [hlf (by omega)] at hb8
     exact ⟨_, _, _, by rw [e, hb8], by rw [e]; exact hr3, by rw [e]; exact hr4, by rw [e]; exact hr5, by rw [e]; exact (hr6.base leG1), rfl⟩
    ·have hb9 : (loopF ar rs (rs.getD k ([], [])).1 n).2.2.2.2 = false := by rw [hlf (by omega)]; exact h4
     refine X.skip ?_
     refine X.region ?_
     refine XL.cons (XOp.addR (a := ((k : Nat) : Int)) (b := 1) (((k + 1 : Nat) : Int)) rfl rfl (by omega) (by omega) ?_)
     refine XL.cons (XOp.move (.int .i64 (((k + 1 : Nat) : Int))) rfl ?_)
     refine XL.nil ?_
     exact ⟨(k + 1, F1), _, (FLe.trans leG1 le1), (FLe.refl _), ⟨rfl, rfl, rfl, rfl, rfl, rfl, trivial⟩, (Sub.drop (Sub.drop (Sub.cons (Sub.cons (Sub.refl _))))), ⟨rfl, (FLe.trans leG1 le1), (by (try dsimp only) <;> omega), (fun i hi => (Nat.lt_or_ge i k).elim (fun h => hall i h) (fun h => by obtain rfl : i = k := (by omega); exact hb9))⟩, (by omega)⟩
   ·refine X.exit (thenQ_exit (thenQ_exit (blockQ_exit ?_)))
    refine X.seq ?_
    refine X.region ?_
    refine XL.cons (XOp.build [(.slice none 0 0), (.slice none 0 0), .int .i64 (0), (.slice none 0 0)] [(.slice none 0 0), (.slice none 0 0), .int .i64 (0), (.slice none 0 0)] [(0, 2), (2, 1), (3, 1)] [] Try.runUnderlying98 Try.zeroValue98 rfl (.cons rfl Try.sizeOf41 (.cons rfl Try.sizeOf2 (.cons rfl Try.sizeOf96 PlacesAre.nil))) rfl CellsAre.nil ?_)
    refine XL.cons (XOp.storeN (vs := [(.slice none 0 0), (.slice none 0 0), .int .i64 (0), (.slice none 0 0)]) [] _ [(.slice none 0 0), (.slice none 0 0), .int .i64 (0), (.slice none 0 0)] Try.sizeOf98 rfl rfl rfl (ones_cons rfl (ones_cons rfl (ones_cons rfl (ones_cons rfl ones_nil)))) rfl rfl rfl ?_)
    refine XL.cons (XOp.assign (.bool (false)) rfl ?_)
    refine XL.nil ?_
    refine X.ret (retEnd (L' := L) [.agg #[(.slice none 0 0), (.slice none 0 0), .int .i64 (0), (.slice none 0 0)], .bool (false)] (.tuple #[.agg #[(.slice none 0 0), (.slice none 0 0), .int .i64 (0), (.slice none 0 0)], .bool (false)]) (.cell rfl (loadNV [(.slice none 0 0), (.slice none 0 0), .int .i64 (0), (.slice none 0 0)] Try.isAgg98 Try.sizeOf98 rfl (Rd.ownN [] rfl rfl)) (.tmp rfl .nil)) rfl leG1 (FLe.refl _) (Sub.drop (Sub.drop (Sub.refl _))) ?_)
    have e : firstF ar rs n = noLoop := firstF_none (fun i hi => hall i (by omega))
    exact ⟨_, _, _, by rw [e], by rw [e]; exact IntsF.nilV, by rw [e]; exact SlOf.nilV, by rw [e]; exact SlOf.nilV, by rw [e]; exact Fresh.empty nilLoop, rfl⟩

/- impl.LoopWithin -/
set_option maxRecDepth 20000 in
theorem LoopWithin_spec {F : FH} {L : List HP} {arv : Value} {ar : List Int} (har : IntsF F arv ar) {rsv : Value} {rs : List (List Int × List Int)} (hrs : PairsF F rsv rs) {n : Int} :
    Does Try.prog 36 [.agg #[arv, rsv], .int .i64 (n)] F (L) (fun v F' L' => (.int .i64 (withinF ar rs n) : Value) = v ∧ L = L') := by
 refine Does.of_X Try.func36 rfl rfl rfl ?_
 refine X.seq ?_
 refine X.region ?_
 refine XL.cons (XOp.box [arv, rsv] rfl rfl ?_)
 intro b1
 refine XL.cons (XOp.assign (.int .i64 (0)) rfl ?_)
 refine XL.nil ?_
 refine X.seq ?_
 refine X.seq ?_
 refine X.region ?_
 refine XL.cons (XOp.loadN [arv, rsv] Try.isAgg33 Try.sizeOf33 rfl rfl (Rd.ownN [] rfl rfl) ?_)
 refine XL.cons (XOp.call (args := [.agg #[arv, rsv]]) Try.call55 rfl (SystemOk_spec har hrs) ?_)
 rintro _ _ _ _ ⟨rfl, rfl, rfl⟩
 refine XL.cons (XOp.notB (b := sysOk ar rs) rfl ?_)
 refine XL.cons (XOp.move (.bool (!(sysOk ar rs))) rfl ?_)
 by_cases h1 : (!(sysOk ar rs)) = true
 ·refine XL.no (t := 11) rfl (congrArg Value.bool h1) ?_
  refine XL.no (t := 11) rfl (congrArg Value.bool h1) ?_
  refine XL.no (t := 11) rfl (congrArg Value.bool h1) ?_
  refine XL.cons (XOp.pickT (.bool (true)) (congrArg Value.bool h1) rfl ?_)
  refine XL.nil ?_
  refine X.condT rfl ?_
  refine X.seq ?_
  refine X.region ?_
  refine XL.cons (XOp.assign (.int .i64 (0)) rfl ?_)
  refine XL.nil ?_
  refine X.ret (thenQ_ret (retEnd (L' := L) [.int .i64 (0)] (.int .i64 (0)) (.tmp rfl .nil) rfl (FLe.refl _) (FLe.refl _) (Sub.drop (Sub.refl _)) ?_))
  exact ⟨congrArg (Value.int .i64) (withinF_no (by simp_all)), rfl⟩
 ·rw [Bool.not_eq_true] at h1
  have hsys : sysOk ar rs = true := by simpa using h1
  have hrs12 := (sysOk_iff.1 hsys).2.1
  refine XL.yes (t := 11) rfl (congrArg Value.bool h1) (XOp.move (.int .i64 (n)) rfl ?_)
  refine XL.yes (t := 11) rfl (congrArg Value.bool h1) (XOp.call (args := [.int .i64 (n)]) Try.call74 rfl (loopSteps_spec (n := n)) ?_)
  rintro _ _ _ _ ⟨rfl, rfl, rfl⟩
  refine XL.yes (t := 11) rfl (congrArg Value.bool h1) (XOp.notD (p := 1 ≤ n ∧ n ≤ 20) rfl ?_)
  refine XL.cons (XOp.pickF (.bool (decide (¬(1 ≤ n ∧ n ≤ 20)))) (congrArg Value.bool h1) rfl ?_)
  refine XL.nil ?_
  refine X.condD (p := ¬(1 ≤ n ∧ n ≤ 20)) rfl (fun h2 => ?_) (fun h2 => ?_)
  ·refine X.seq ?_
   refine X.region ?_
   refine XL.cons (XOp.assign (.int .i64 (0)) rfl ?_)
   refine XL.nil ?_
   refine X.ret (thenQ_ret (retEnd (L' := L) [.int .i64 (0)] (.int .i64 (0)) (.tmp rfl .nil) rfl (FLe.refl _) (FLe.refl _) (Sub.drop (Sub.refl _)) ?_))
   exact ⟨congrArg (Value.int .i64) (withinF_no (by simp_all)), rfl⟩
  ·have hn20 : 1 ≤ n ∧ n ≤ 20 := by first | exact Classical.not_not.1 h2 | simpa using h2
   refine X.skip ?_
   refine X.seq ?_
   refine X.seq ?_
   refine X.region ?_
   refine XL.cons (XOp.move (.int .i64 (n)) rfl ?_)
   refine XL.cons (XOp.move (.int .i64 (0)) rfl ?_)
   refine XL.nil ?_
   refine X.block ?_
   refine X.loop (α := Nat × FH) (fun xQ => [(2, ptr b1 0), (16, .int .i64 (n)), (17, .int .i64 (((xQ.1 : Nat) : Int)))]) (fun xQ => cellsH b1 [arv, rsv] 33 :: L) (fun xQ F' => xQ.2 = F' ∧ F ≤ xQ.2 ∧ (xQ.1 ≤ n.toNat) ∧ (∀ i : Nat, i < xQ.1 → (firstF ar rs ((i : Int) + 1)).2.2.2.2 = false)) (fun xQ => n.toNat - xQ.1) (0, F) ⟨rfl, rfl, rfl, trivial⟩ (Sub.cons (Sub.refl _)) ⟨rfl, FLe.refl _, (by (try dsimp only) <;> omega), (fun i hi => absurd hi (by omega))⟩ ?_
   rintro ⟨k, G1⟩ rE _ _ ⟨rfl, leG, hk, hall⟩
   show X _ _ _ _ (envs [(2, ptr b1 0), (16, .int .i64 (n)), (17, .int .i64 (((k : Nat) : Int)))] rE) _ (cellsH b1 [arv, rsv] 33 :: L)
   replace leG : F ≤ G1 := leG
   dsimp only at hk hall
   have leG1 := leG
   replace har := har.mono leG1
   replace hrs := hrs.mono leG1
   refine X.seq ?_
   refine X.region ?_
   refine XL.cons (XOp.lss (a := ((k : Nat) : Int)) (b := n) rfl rfl ?_)
   refine XL.nil ?_
   refine X.seq ?_
   refine X.condD (p := (((k : Nat) : Int) : Int) < n) rfl (fun h3 => ?_) (fun h3 => ?_)
   ·refine X.skip ?_
    refine X.seq ?_
    refine X.block ?_
    refine X.seq ?_
    refine X.region ?_
    refine XL.cons (XOp.move (.int .i64 (((k : Nat) : Int))) rfl ?_)
    refine XL.cons (XOp.assign (.int .i64 (((k : Nat) : Int))) rfl ?_)
    refine XL.nil ?_
    refine X.seq ?_
    refine X.region ?_
    refine XL.cons (XOp.loadN [arv, rsv] Try.isAgg33 Try.sizeOf33 rfl rfl (Rd.ownN [] rfl rfl) ?_)
    refine XL.cons (XOp.move (.int .i64 (((k : Nat) : Int))) rfl ?_)
    refine XL.cons (XOp.addR (a := ((k : Nat) : Int)) (b := 1) (((k + 1 : Nat) : Int)) rfl rfl (by omega) (by omega) ?_)
    refine XL.cons (XOp.call (args := [.agg #[arv, rsv], .int .i64 (((k + 1 : Nat) : Int))]) Try.call75 rfl (FirstLoop_spec (n := ((k + 1 : Nat) : Int)) har hrs) ?_)
    rintro _ F1 _ le1 ⟨x1, x2, x3, rfl, hr1, hr2, hr3, hr4, rfl⟩
    replace har := har.mono le1
    replace hrs := hrs.mono le1
    refine XL.cons (XOp.move (.tuple #[.agg #[x1, x2, .int .i64 ((firstF ar rs (((k + 1 : Nat) : Int))).2.2.1), x3], .bool ((firstF ar rs (((k + 1 : Nat) : Int))).2.2.2.2)]) rfl ?_)
    refine XL.cons (XOp.extract (.agg #[x1, x2, .int .i64 ((firstF ar rs (((k + 1 : Nat) : Int))).2.2.1), x3]) rfl rfl ?_)
    refine XL.cons (XOp.extract (.bool ((firstF ar rs (((k + 1 : Nat) : Int))).2.2.2.2)) rfl rfl ?_)
    refine XL.cons (XOp.alloc [(.slice none 0 0), (.slice none 0 0), .int .i64 (0), (.slice none 0 0)] Try.zeroValue98 rfl ?_)
    intro b2
    refine XL.cons (XOp.storeN (vs := [x1, x2, .int .i64 ((firstF ar rs (((k + 1 : Nat) : Int))).2.2.1), x3]) [] _ [x1, x2, .int .i64 ((firstF ar rs (((k + 1 : Nat) : Int))).2.2.1), x3] Try.sizeOf98 rfl rfl rfl (ones_cons (one_sl (IntsF.isSl hr1)) (ones_cons (one_sl (StepsF.isSl hr2)) (ones_cons rfl (ones_cons (one_sl (RowsF.isSl hr3)) ones_nil)))) rfl rfl rfl ?_)
    refine XL.cons (XOp.assign (.bool ((firstF ar rs (((k + 1 : Nat) : Int))).2.2.2.2)) rfl ?_)
    refine XL.nil ?_
    refine X.seq ?_
    refine X.region ?_
    refine XL.cons (XOp.move (.bool ((firstF ar rs (((k + 1 : Nat) : Int))).2.2.2.2)) rfl ?_)
    refine XL.nil ?_
    refine X.cond (t := (firstF ar rs (((k + 1 : Nat) : Int))).2.2.2.2) rfl (fun h4 => ?_) (fun h4 => ?_)
    ·have hb9 : (firstF ar rs (((k : Nat) : Int) + 1)).2.2.2.2 = true := h4
     refine X.seq ?_
     refine X.region ?_
     refine XL.cons (XOp.move (.int .i64 (((k : Nat) : Int))) rfl ?_)
     refine XL.cons (XOp.addR (a := ((k : Nat) : Int)) (b := 1) (((k + 1 : Nat) : Int)) rfl rfl (by omega) (by omega) ?_)
     refine XL.cons (XOp.assign (.int .i64 (((k + 1 : Nat) : Int))) rfl ?_)
     refine XL.nil ?_
     refine X.ret (blockQ_ret (thenQ_ret (thenQ_ret (blockQ_ret (thenQ_ret (retEnd (L' := L) [.int .i64 (((k + 1 : Nat) : Int))] (.int .i64 (((k + 1 : Nat) : Int))) (.tmp rfl .nil) rfl (FLe.trans leG1 le1) (FLe.refl _) (Sub.drop (Sub.drop (Sub.refl _))) ?_))))))
     exact ⟨congrArg (Value.int .i64) (withinF_at hn20 (k := k) (by omega) hb9 hall), rfl⟩
    ·have hb9 : (firstF ar rs (((k : Nat) : Int) + 1)).2.2.2.2 = false := h4
     refine X.skip ?_
     refine X.region ?_
     refine XL.cons (XOp.addR (a := ((k : Nat) : Int)) (b := 1) (((k + 1 : Nat) : Int)) rfl rfl (by omega) (by omega) ?_)
     refine XL.cons (XOp.move (.int .i64 (((k + 1 : Nat) : Int))) rfl ?_)
     refine XL.nil ?_
     exact ⟨(k + 1, F1), _, (FLe.trans leG1 le1), (FLe.refl _), ⟨rfl, rfl, rfl, trivial⟩, (Sub.drop (Sub.cons (Sub.refl _))), ⟨rfl, (FLe.trans leG1 le1), (by (try dsimp only) <;> omega), (fun i hi => (Nat.lt_or_ge i k).elim (fun h => hall i h) (fun h => by obtain rfl : i = k := (by omega); exact hb9))⟩, (by omega)⟩
   ·refine X.exit (thenQ_exit (thenQ_exit (blockQ_exit ?_)))
    refine X.seq ?_
    refine X.region ?_
    refine XL.cons (XOp.assign (.int .i64 (0)) rfl ?_)
    refine XL.nil ?_
    refine X.ret (retEnd (L' := L) [.int .i64 (0)] (.int .i64 (0)) (.tmp rfl .nil) rfl leG1 (FLe.refl _) (Sub.drop (Sub.refl _)) ?_)
    exact ⟨congrArg (Value.int .i64) (withinF_none (fun i hi => hall i (by omega))), rfl⟩
end Go.Proofs.Ytiaanelimbmniaa
