/-
  Walks: the reference's redexes.
-/
import Derived.Test.YtnloeeaidknblaaQmFi
set_option linter.unusedSimpArgs false
set_option linter.unusedVariables false
namespace Go.Proofs.Ytnloeeaidknblaa
open Go X M

/- spec.l7Right -/
theorem l7Right_spec {F : FH} {L : List HP} {arv : Value} {ar : List Int} (har : IntsF F arv ar) {rsv : Value} {rs : List (List Int × List Int)} (hrs : PairsF F rsv rs) {tv : Value} {t : List Int} (ht : IntsF F tv t) (hla : ar.length ≤ 4000000) (hlr : rs.length ≤ 4000000) (hrb : ∀ i, i < rs.length → (rs.getD i ([], [])).1.length ≤ 4000000 ∧ (rs.getD i ([], [])).2.length ≤ 4000000) (hlt : t.length ≤ 4000000) :
    Does Try.prog 111 [.agg #[arv, rsv], tv] F (L) (fun v F' L' => (.bool (rightB ar rs t) : Value) = v ∧ F = F' ∧ L = L') := by
  refine Does.of_X Try.func111 rfl rfl rfl ?_
  refine X.seq ?_
  refine X.region ?_
  refine XL.cons (XOp.box [arv, rsv] rfl rfl ?_)
  intro b1
  refine XL.cons (XOp.assign (.bool (false)) rfl ?_)
  refine XL.nil ?_
  refine X.seq ?_
  refine X.region ?_
  refine XL.cons (XOp.loadN [arv, rsv] Try.isAgg36 Try.sizeOf36 rfl rfl (Rd.ownN [] rfl rfl) ?_)
  refine XL.cons (XOp.call (args := [.agg #[arv, rsv]]) Try.call56 rfl (sSystemOk_spec har hrs (hla := (by first | assumption | rfl | omega | (left; simp; done) | (right; simp; done))) (hlr := (by first | assumption | rfl | omega | (left; simp; done) | (right; simp; done))) (hrb := (by first | assumption | rfl | omega | (left; simp; done) | (right; simp; done)))) ?_)
  rintro _ _ _ _ ⟨rfl, rfl, rfl⟩
  refine XL.cons (XOp.move (.bool (sysOk ar rs)) rfl ?_)
  by_cases h1 : (sysOk ar rs) = true
  · refine XL.yes (t := 7) rfl (congrArg Value.bool h1) (XOp.fieldP (b := b1) (0) Try.runUnderlying36 rfl Try.sizeOf33 (by decide) rfl rfl ?_)
    refine XL.yes (t := 7) rfl (congrArg Value.bool h1) (XOp.loadN [arv] Try.isAgg33 Try.sizeOf33 rfl rfl (Rd.ownN [] rfl rfl) ?_)
    refine XL.yes (t := 7) rfl (congrArg Value.bool h1) (XOp.move (tv) rfl ?_)
    refine XL.yes (t := 7) rfl (congrArg Value.bool h1) (XOp.call (args := [.agg #[arv], tv]) Try.call113 rfl (sTermOk_spec har ht (hla := (by first | assumption | rfl | omega | (left; simp; done) | (right; simp; done))) (hlt := (by first | assumption | rfl | omega | (left; simp; done) | (right; simp; done)))) ?_)
    rintro _ _ _ _ ⟨rfl, rfl, rfl⟩
    refine XL.cons (XOp.pickT (.bool (termOk ar t)) (congrArg Value.bool h1) rfl ?_)
    refine XL.cons (XOp.assign (.bool (termOk ar t)) rfl ?_)
    refine XL.nil ?_
    refine X.ret (retEnd (L' := L) [.bool (termOk ar t)] (.bool (termOk ar t)) (.tmp rfl .nil) rfl (FLe.refl _) (FLe.refl _) (Sub.drop (Sub.refl _)) ?_)
    exact ⟨(congrArg Value.bool (by rw [rightB]; simp_all)), rfl, rfl⟩
  · rw [Bool.not_eq_true] at h1
    refine XL.no (t := 7) rfl (congrArg Value.bool h1) ?_
    refine XL.no (t := 7) rfl (congrArg Value.bool h1) ?_
    refine XL.no (t := 7) rfl (congrArg Value.bool h1) ?_
    refine XL.no (t := 7) rfl (congrArg Value.bool h1) ?_
    refine XL.cons (XOp.pickF (.bool (false)) (congrArg Value.bool h1) rfl ?_)
    refine XL.cons (XOp.assign (.bool (false)) rfl ?_)
    refine XL.nil ?_
    refine X.ret (retEnd (L' := L) [.bool (false)] (.bool (false)) (.tmp rfl .nil) rfl (FLe.refl _) (FLe.refl _) (Sub.drop (Sub.refl _)) ?_)
    exact ⟨(congrArg Value.bool (by rw [rightB]; simp_all)), rfl, rfl⟩
end Go.Proofs.Ytnloeeaidknblaa
