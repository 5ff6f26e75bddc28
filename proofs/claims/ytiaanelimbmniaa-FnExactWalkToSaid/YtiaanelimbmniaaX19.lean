/-
  Scopes, and operations behind a guard that was passed over.
-/
import Derived.Test.YtiaanelimbmniaaX10
import Derived.Test.YtiaanelimbmniaaX12
import Derived.Scope
set_option linter.unusedSimpArgs false
set_option linter.unusedVariables false
namespace Go.Proofs.Ytiaanelimbmniaa.X
open Go

theorem yielded_undef {n : Nat} {a : Act} {ρ : Env} (r : Rep n a ρ) {ops : Array Oper} {g : Nat} {t : Tmp} (ht : (ops[g]?).bind (·.dst) = some t) (hv : ρ t = undef) : yielded ops a.tmps g = none := by
  unfold yielded
  rw [ht]
  have := r.get t
  rw [hv, Array.getD_eq_getD_getElem?] at this
  cases hx : a.tmps[t]? with
  | none => simp [hx]
  | some x => rw [hx] at this; simp at this; subst this; simp [hx, undef]
/-- An operation behind a guard that was itself passed over. -/
theorem XL.noU {P : Program} {n : Nat} {ops : Array Oper} {l : List Oper} {Q : QX} {ρ : Env} {F : FH} {L : List HP}
    {d : Option Tmp} {op : Op} {ty : TypeId} {pos : String} {af : Array Edge} {g : Nat} {b : Bool} {t : Tmp} (ht : (ops[g]?).bind (·.dst) = some t) (hv : ρ t = undef)
    (h : XL P n ops l Q (putE ρ d undef) F L) : XL P n ops (⟨d, op, ty, pos, af, some (g, b)⟩ :: l) Q ρ F L := by
  intro ok a w r H
  simp only [opsOk, List.all_cons, Bool.and_eq_true] at ok
  unfold wpList
  rw [if_neg (by simp [Region.wanted, yielded_undef r ht hv])]
  exact h ok.2 _ _ (r.put ok.1 undef) H

def scopeQ (Q : QX) : QX
  | .goto _, _, _, _ => False
  | e, ρ, F, L => Q e ρ F L
theorem scopeQ_ret {Q : QX} {ρ : Env} {F : FH} {L : List HP} (h : Q .ret ρ F L) : scopeQ Q .ret ρ F L := h
theorem scopeQ_exit {Q : QX} {ρ : Env} {F : FH} {L : List HP} {i : Nat} (h : Q (.exit i) ρ F L) : scopeQ Q (.exit i) ρ F L := h
theorem X.scope {P : Program} {n : Nat} {Q : QX} {ρ : Env} {F : FH} {L : List HP} {c : Code} (h : X P n c (scopeQ Q) ρ F L) : X P n (.scope c) Q ρ F L := by
  intro ok a w r H
  refine wp_scope_straight (Code.wp_mono ?_ (h ok a w r H))
  rintro e a' w' ⟨ρ', F', L', r', le, H', q⟩
  cases e <;> first | exact ⟨ρ', F', L', r', le, H', q⟩ | exact q.elim

/-- numbers that were made between two heaps -/
def FrIntsF (F0 F : FH) (e : TypeId) (v : Value) (xs : List Int) : Prop := Fresh F0 F (intsH e v xs)
theorem FrIntsF.mono {F0 F F' : FH} {e : TypeId} {v : Value} {xs : List Int} (h : FrIntsF F0 F e v xs) (le : F ≤ F') : FrIntsF F0 F' e v xs := Fresh.mono h le
theorem FrIntsF.base {F0 F F1 : FH} {e : TypeId} {v : Value} {xs : List Int} (h : FrIntsF F1 F e v xs) (le : F0 ≤ F1) : FrIntsF F0 F e v xs := Fresh.base h le
end Go.Proofs.Ytiaanelimbmniaa.X
