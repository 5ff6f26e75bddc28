/-
  Rules for code, over the heap of XX1: one operation (XOp), a region in its text's order (XL), code (X), a function (Does).
-/
import Derived.Test.YtiaanelimbmniaaX1
set_option linter.unusedSimpArgs false
set_option linter.unusedVariables false
namespace Go.Proofs.Ytiaanelimbmniaa.X
open Go

/- 1. THE SLOTS -/

abbrev Env := Nat → Value
def upd (ρ : Env) (i : Nat) (v : Value) : Env := fun j => bif Nat.beq j i then v else ρ j
def putE (ρ : Env) (d : Option Tmp) (v : Value) : Env := match d with | some i => upd ρ i v | none => ρ
def evO (ρ : Env) : Operand → Value
  | .tmp t => ρ t
  | .const v => v
  | .global g => .pointer (some ⟨g, 0, none⟩)
  | .func f => .func (.func f) #[] #[]
def env0 (l : List Value) : Env := fun i => l.getD i undef
def envs : List (Nat × Value) → Env → Env
  | [], r => r
  | p :: l, r => upd (envs l r) p.1 p.2
def sat (ρ : Env) : List (Nat × Value) → Prop
  | [] => True
  | p :: l => ρ p.1 = p.2 ∧ sat ρ l

theorem upd_self (ρ : Env) (i : Nat) : upd ρ i (ρ i) = ρ := by
  funext j
  unfold upd
  cases h : Nat.beq j i with
  | true => simp [Nat.eq_of_beq_eq_true h]
  | false => rfl
theorem envs_of_sat {ρ : Env} : ∀ {l : List (Nat × Value)}, sat ρ l → envs l ρ = ρ
  | [], _ => rfl
  | p :: l, ⟨h1, h2⟩ => by rw [envs, envs_of_sat h2, ← h1, upd_self]

/-- The act's slots are what ρ says; n of them. -/
structure Rep (n : Nat) (a : Act) (ρ : Env) : Prop where
  size : a.tmps.size = n
  defers : a.defers = []
  get : ∀ i, a.tmps.getD i undef = ρ i

theorem Rep.eval {n : Nat} {a : Act} {ρ : Env} (h : Rep n a ρ) : a.eval = evO ρ := by
  funext x
  cases x <;> first | rfl | exact h.get _

def dOk (n : Nat) : Option Tmp → Bool
  | some d => Nat.blt d n
  | none => true
theorem Rep.put {n : Nat} {a : Act} {ρ : Env} (h : Rep n a ρ) {d : Option Tmp} (hd : dOk n d = true) (v : Value) : Rep n (a.put d v) (putE ρ d v) := by
  cases d with
  | none => exact h
  | some d =>
    refine ⟨by simp [Act.put, h.size], h.defers, fun i => ?_⟩
    have hd' : d < a.tmps.size := by
      rw [h.size]
      simp only [dOk, Nat.blt] at hd
      exact Nat.le_of_ble_eq_true hd
    have hg := h.get i
    simp only [Act.put, putE, upd, Array.getD_eq_getD_getElem?, Array.getElem?_setIfInBounds] at hg ⊢
    by_cases hi : d = i
    · subst hi; simp [hd', Nat.beq_refl]
    · have : Nat.beq i d = false := by
        cases hb : Nat.beq i d with
        | false => rfl
        | true => exact absurd (Nat.eq_of_beq_eq_true hb).symm hi
      simp only [hi, if_false, this, cond_false]
      exact hg

/- 2. ONE OPERATION -/

abbrev Post := Value → FH → List HP → Prop

def XOp (P : Program) (o : Oper) (ρ : Env) (F : FH) (L : List HP) (K : Post) : Prop :=
  ∀ w, Holds F L w →
    (∃ v w' F' L', (execOp (evO ρ) o).run P w = .ok (.value v) w' ∧ F ≤ F' ∧ Holds F' L' w' ∧ K v F' L') ∨
    (∃ w' F' L', (execOp (evO ρ) o).run P w = .ok .skip w' ∧ F ≤ F' ∧ Holds F' L' w' ∧ K undef F' L') ∨
    (∃ f args w', (execOp (evO ρ) o).run P w = .ok (.enter f args) w' ∧
      Calls P f args w' fun e w'' => ∃ v F' L', e = .returned v ∧ F ≤ F' ∧ Holds F' L' w'' ∧ K v F' L')

theorem XOp.mono {P : Program} {o : Oper} {ρ : Env} {F : FH} {L : List HP} {K K' : Post} (h : XOp P o ρ F L K) (hk : ∀ v F' L', F ≤ F' → K v F' L' → K' v F' L') : XOp P o ρ F L K' := by
  intro w H
  rcases h w H with ⟨v, w', F', L', h1, h2, h3, h4⟩ | ⟨w', F', L', h1, h2, h3, h4⟩ | ⟨f, args, w', h1, h2⟩
  · exact .inl ⟨v, w', F', L', h1, h2, h3, hk _ _ _ h2 h4⟩
  · exact .inr (.inl ⟨w', F', L', h1, h2, h3, hk _ _ _ h2 h4⟩)
  · exact .inr (.inr ⟨f, args, w', h1, h2.mono fun e w'' ⟨v, F', L', a, b, c, d⟩ => ⟨v, F', L', a, b, c, hk _ _ _ b d⟩⟩)

theorem XOp.weaken {P : Program} {o : Oper} {ρ : Env} {F : FH} {L L' : List HP} {K : Post} (s : Sub L L') (h : XOp P o ρ F L' K) : XOp P o ρ F L K :=
  fun w H => h w (s.holds H)

theorem XOp.value {P : Program} {o : Oper} {ρ : Env} {F : FH} {L : List HP} {K : Post} {v : Value}
    (h : ∀ w, Holds F L w → (execOp (evO ρ) o).run P w = .ok (.value v) w) (hk : K v F L) : XOp P o ρ F L K :=
  fun w H => .inl ⟨v, w, F, L, h w H, FLe.refl F, H, hk⟩

/-- Freeze a chunk for one operation; what comes back must not speak of the greater frozen heap. -/
theorem XOp.lend {P : Program} {o : Oper} {ρ : Env} {F : FH} {L : List HP} {K : Post} (A B : List HP) (h : HP) (hL : L = A ++ h :: B)
    (H : ∀ F', F ≤ F' → Fz h F' → XOp P o ρ F' (A ++ B) fun v _ L' => K v F (h :: L')) : XOp P o ρ F L K := by
  subst hL
  intro w Hw
  obtain ⟨F', le, fz, H', back⟩ := Hw.lend
  rcases H F' le fz w H' with ⟨v, w', F'', L', h1, h2, h3, h4⟩ | ⟨w', F'', L', h1, h2, h3, h4⟩ | ⟨f, args, w', h1, h2⟩
  · exact .inl ⟨v, w', F, _, h1, FLe.refl F, back _ _ _ h2 h3, h4⟩
  · exact .inr (.inl ⟨w', F, _, h1, FLe.refl F, back _ _ _ h2 h3, h4⟩)
  · exact .inr (.inr ⟨f, args, w', h1, h2.mono fun e w'' ⟨v, F'', L', a, b, c, d⟩ => ⟨v, F, _, a, FLe.refl F, back _ _ _ b c, d⟩⟩)

/- 3. A REGION IN ITS TEXT's ORDER -/

abbrev QX := Exit → Env → FH → List HP → Prop

/-- What a walk's post says of the machine's own state. -/
def low (n : Nat) (F : FH) (Q : QX) : Exit → Act → World → Prop := fun e a w => ∃ ρ F' L, Rep n a ρ ∧ F ≤ F' ∧ Holds F' L w ∧ Q e ρ F' L
theorem low_le {n : Nat} {F F' : FH} {Q : QX} (le : F ≤ F') {e : Exit} {a : Act} {w : World} (h : low n F' Q e a w) : low n F Q e a w :=
  let ⟨ρ, F'', L, r, l, H, q⟩ := h; ⟨ρ, F'', L, r, le.trans l, H, q⟩

def opsOk (n : Nat) (l : List Oper) : Bool := l.all fun o => dOk n o.dst

def XL (P : Program) (n : Nat) (ops : Array Oper) (l : List Oper) (Q : QX) (ρ : Env) (F : FH) (L : List HP) : Prop :=
  opsOk n l = true → ∀ a w, Rep n a ρ → Holds F L w → wpList P ops (low n F Q) l a w

theorem wpList_mono {P : Program} {ops : Array Oper} {Q Q' : Exit → Act → World → Prop} (h : ∀ e a w, Q e a w → Q' e a w) :
    ∀ (l : List Oper) (a : Act) (w : World), wpList P ops Q l a w → wpList P ops Q' l a w
  | [], a, w, k => h _ _ _ k
  | o :: l, a, w, k => by
    unfold wpList at *
    have hout : LetsOut Q → LetsOut Q' := fun ⟨a0, w0, hq⟩ => ⟨a0, w0, h _ _ _ hq⟩
    split
    · rename_i hw
      rw [if_pos hw] at k
      rcases k with k | ⟨k1, k2⟩
      · refine .inl ?_
        unfold Oper.wp at *
        generalize (execOp a.eval o).run P w = r at *
        cases r with
        | ok m w' =>
          cases m <;> simp only [Oper.upon] at k ⊢ <;>
            first
              | exact wpList_mono h l _ _ k
              | exact Calls.mono k (fun e w'' he => by cases e <;> first | exact wpList_mono h l _ _ he | exact h _ _ _ he | exact hout he)
              | exact Rows.mono k (fun _ _ he => wpList_mono h l _ _ he)
        | halt x w' => cases x <;> simp only [Oper.upon] at k ⊢ <;> exact h _ _ _ k
      · exact .inr ⟨k1, hout k2⟩
    · rename_i hw
      rw [if_neg hw] at k
      exact wpList_mono h l _ _ k

theorem XL.nil {P : Program} {n : Nat} {ops : Array Oper} {Q : QX} {ρ : Env} {F : FH} {L : List HP} (h : Q .normal ρ F L) : XL P n ops [] Q ρ F L :=
  fun _ _ _ r H => ⟨ρ, F, L, r, FLe.refl F, H, h⟩

theorem XL.weaken {P : Program} {n : Nat} {ops : Array Oper} {l : List Oper} {Q : QX} {ρ : Env} {F : FH} {L L' : List HP} (s : Sub L L') (h : XL P n ops l Q ρ F L') : XL P n ops l Q ρ F L :=
  fun ok a w r H => h ok a w r (s.holds H)

theorem wp_of_XOp {P : Program} {n : Nat} {o : Oper} {ρ : Env} {F : FH} {L : List HP} {K : Post} {a : Act} {w : World} {Q : Exit → Act → World → Prop} {N : Act → World → Prop}
    (h : XOp P o ρ F L K) (r : Rep n a ρ) (H : Holds F L w) (hd : dOk n o.dst = true)
    (hN : ∀ v F' L' w', F ≤ F' → Holds F' L' w' → K v F' L' → Rep n (a.put o.dst v) (putE ρ o.dst v) → N (a.put o.dst v) w') : o.wp P a w N Q := by
  unfold Oper.wp
  rw [r.eval]
  rcases h w H with ⟨v, w', F', L', h1, h2, h3, h4⟩ | ⟨w', F', L', h1, h2, h3, h4⟩ | ⟨f, args, w', h1, h2⟩
  · rw [h1]; exact hN v F' L' w' h2 h3 h4 (r.put hd v)
  · rw [h1]; exact hN undef F' L' w' h2 h3 h4 (r.put hd undef)
  · rw [h1]
    refine h2.mono fun e w'' ⟨v, F', L', he, hle, hH, hk⟩ => ?_
    subst he
    exact hN v F' L' w'' hle hH hk (r.put hd v)

theorem XL.cons {P : Program} {n : Nat} {ops : Array Oper} {l : List Oper} {Q : QX} {ρ : Env} {F : FH} {L : List HP}
    {d : Option Tmp} {op : Op} {ty : TypeId} {pos : String} {af : Array Edge}
    (h : XOp P ⟨d, op, ty, pos, af, none⟩ ρ F L fun v F' L' => XL P n ops l Q (putE ρ d v) F' L') : XL P n ops (⟨d, op, ty, pos, af, none⟩ :: l) Q ρ F L := by
  intro ok a w r H
  simp only [opsOk, List.all_cons, Bool.and_eq_true] at ok
  unfold wpList
  rw [if_pos (by simp [Region.wanted])]
  exact .inl (wp_of_XOp h r H ok.1 fun v F' L' w' le H' k r' => wpList_mono (fun _ _ _ q => low_le le q) _ _ _ (k ok.2 _ _ r' H'))

theorem yielded_of_rep {n : Nat} {a : Act} {ρ : Env} (r : Rep n a ρ) {ops : Array Oper} {g : Nat} {t : Tmp} {b : Bool} (ht : (ops[g]?).bind (·.dst) = some t) (hv : ρ t = .bool b) : yielded ops a.tmps g = some b := by
  unfold yielded
  rw [ht]
  have := r.get t
  rw [hv, Array.getD_eq_getD_getElem?] at this
  cases hx : a.tmps[t]? with
  | none => rw [hx] at this; simp [undef] at this
  | some x => rw [hx] at this; simp at this; subst this; simp [hx]

/-- An operation behind a guard that says yes. -/
theorem XL.yes {P : Program} {n : Nat} {ops : Array Oper} {l : List Oper} {Q : QX} {ρ : Env} {F : FH} {L : List HP}
    {d : Option Tmp} {op : Op} {ty : TypeId} {pos : String} {af : Array Edge} {g : Nat} {t : Tmp} {b : Bool} (ht : (ops[g]?).bind (·.dst) = some t) (hv : ρ t = .bool b)
    (h : XOp P ⟨d, op, ty, pos, af, some (g, b)⟩ ρ F L fun v F' L' => XL P n ops l Q (putE ρ d v) F' L') : XL P n ops (⟨d, op, ty, pos, af, some (g, b)⟩ :: l) Q ρ F L := by
  intro ok a w r H
  simp only [opsOk, List.all_cons, Bool.and_eq_true] at ok
  unfold wpList
  rw [if_pos (by simp [Region.wanted, yielded_of_rep r ht hv])]
  exact .inl (wp_of_XOp h r H ok.1 fun v F' L' w' le H' k r' => wpList_mono (fun _ _ _ q => low_le le q) _ _ _ (k ok.2 _ _ r' H'))

/-- An operation behind a guard that says no. -/
theorem XL.no {P : Program} {n : Nat} {ops : Array Oper} {l : List Oper} {Q : QX} {ρ : Env} {F : FH} {L : List HP}
    {d : Option Tmp} {op : Op} {ty : TypeId} {pos : String} {af : Array Edge} {g : Nat} {b : Bool} {t : Tmp} (ht : (ops[g]?).bind (·.dst) = some t) (hv : ρ t = .bool (!b))
    (h : XL P n ops l Q (putE ρ d undef) F L) : XL P n ops (⟨d, op, ty, pos, af, some (g, b)⟩ :: l) Q ρ F L := by
  intro ok a w r H
  simp only [opsOk, List.all_cons, Bool.and_eq_true] at ok
  unfold wpList
  rw [if_neg (by simp [Region.wanted, yielded_of_rep r ht hv])]
  exact h ok.2 _ _ (r.put ok.1 undef) H

/-- Freeze a chunk for good. -/
theorem XL.freeze {P : Program} {n : Nat} {ops : Array Oper} {l : List Oper} {Q : QX} {ρ : Env} {F : FH} {L : List HP} (A B : List HP) (h : HP) (hL : L = A ++ h :: B)
    (H : ∀ F', F ≤ F' → Fz h F' → XL P n ops l Q ρ F' (A ++ B)) : XL P n ops l Q ρ F L := by
  subst hL
  intro ok a w r Hw
  obtain ⟨F', le, fz, H'⟩ := Hw.freeze
  exact wpList_mono (fun _ _ _ q => low_le le q) _ _ _ (H F' le fz ok a w r H')

/- 4. CODE -/

def cOk (n : Nat) : Code → Bool
  | .region _ ops _ => opsOk n ops.toList
  | .seq a b => cOk n a && cOk n b
  | .cond _ a b => cOk n a && cOk n b
  | .block _ a => cOk n a
  | .loop a => cOk n a
  | .scope a => cOk n a
  | .rangeFunc _ _ a b => cOk n a && cOk n b
  | _ => true

def X (P : Program) (n : Nat) (c : Code) (Q : QX) (ρ : Env) (F : FH) (L : List HP) : Prop :=
  cOk n c = true → ∀ a w, Rep n a ρ → Holds F L w → c.wp P (low n F Q) a w

def thenQ (N : Env → FH → List HP → Prop) (Q : QX) : QX
  | .normal, ρ, F, L => N ρ F L
  | e, ρ, F, L => Q e ρ F L
def blockQ (id : Nat) (Q : QX) : QX
  | .exit i, ρ, F, L => if i = id then Q .normal ρ F L else Q (.exit i) ρ F L
  | e, ρ, F, L => Q e ρ F L

theorem wp_loop_ghost {P : Program} {c : Code} {Q : Exit → Act → World → Prop} {a : Act} {w : World} {α : Type} (I : α → Act → World → Prop) (μ : α → Nat) (x0 : α) (h0 : I x0 a w)
    (round : ∀ x a w, I x a w → c.wp P (Exit.then (fun a' w' => ∃ x', I x' a' w' ∧ μ x' < μ x) Q) a w) : (Code.loop c).wp P Q a w := by
  intro b k cs
  have key : ∀ m x a w, μ x = m → I x a w →
      ∃ e a' w', Q e a' w' ∧ Arrives P (lone (b.at a (.code c :: .inLoop c :: k)) cs w) b k cs e a' w' := by
    intro m
    induction m using Nat.strongRecOn with
    | _ m ih =>
      intro x a w hm hI
      obtain ⟨e, a1, w1, hq, harr⟩ := round x a w hI b (.inLoop c :: k) cs
      cases e with
      | normal =>
        obtain ⟨x', hI1, hlt⟩ := hq
        obtain ⟨e2, a2, w2, hq2, harr2⟩ := ih (μ x') (hm ▸ hlt) x' a1 w1 rfl hI1
        exact ⟨e2, a2, w2, hq2, .of_steps (Steps.trans harr (.one step_inLoop)) harr2⟩
      | exit id => exact ⟨_, a1, w1, hq, .pass (x := .inLoop c) rfl (fun _ _ => .inl (by simp)) harr⟩
      | goto l => exact ⟨_, a1, w1, hq, .pass (x := .inLoop c) rfl (fun _ _ => .inl (by simp)) harr⟩
      | ret => exact ⟨_, a1, w1, hq, .pass (x := .inLoop c) rfl (fun _ _ => .inl (by simp)) harr⟩
      | panic ch => exact ⟨_, a1, w1, hq, .pass (x := .inLoop c) rfl (fun _ _ => .inl (by simp)) harr⟩
      | outgrown => exact ⟨_, a1, w1, hq, .pass (x := .inLoop c) rfl (fun _ _ => .inl (by simp)) harr⟩
  obtain ⟨e, a', w', hq, harr⟩ := key _ x0 a w rfl h0
  exact ⟨e, a', w', hq, .of_steps (.one step_loop) harr⟩

section
variable {P : Program} {n : Nat} {Q : QX} {ρ : Env} {F : FH} {L : List HP}

theorem thenQ_ret {N : Env → FH → List HP → Prop} (h : Q .ret ρ F L) : thenQ N Q .ret ρ F L := h
theorem blockQ_ret {id : Nat} (h : Q .ret ρ F L) : blockQ id Q .ret ρ F L := h
theorem thenQ_exit {N : Env → FH → List HP → Prop} {i : Nat} (h : Q (.exit i) ρ F L) : thenQ N Q (.exit i) ρ F L := h
theorem blockQ_exit {id : Nat} (h : Q .normal ρ F L) : blockQ id Q (.exit id) ρ F L := by simp only [blockQ, if_true]; exact h
theorem blockQ_other {id i : Nat} (hne : ¬ i = id) (h : Q (.exit i) ρ F L) : blockQ id Q (.exit i) ρ F L := by simp only [blockQ, if_neg hne]; exact h

theorem X.weaken {c : Code} {L' : List HP} (s : Sub L L') (h : X P n c Q ρ F L') : X P n c Q ρ F L := fun ok a w r H => h ok a w r (s.holds H)
theorem X.mono {c : Code} {Q' : QX} (h : X P n c Q ρ F L) (hq : ∀ e ρ' F' L', F ≤ F' → Q e ρ' F' L' → Q' e ρ' F' L') : X P n c Q' ρ F L :=
  fun ok a w r H => Code.wp_mono (fun _ _ _ ⟨ρ', F', L', r', le, H', q⟩ => ⟨ρ', F', L', r', le, H', hq _ _ _ _ le q⟩) (h ok a w r H)

theorem X.freeze {c : Code} (A B : List HP) (h : HP) (hL : L = A ++ h :: B) (H : ∀ F', F ≤ F' → Fz h F' → X P n c Q ρ F' (A ++ B)) : X P n c Q ρ F L := by
  subst hL
  intro ok a w r Hw
  obtain ⟨F', le, fz, H'⟩ := Hw.freeze
  exact Code.wp_mono (fun _ _ _ q => low_le le q) (H F' le fz ok a w r H')
/-- Freeze a chunk while c runs. -/
theorem X.lend {c : Code} (A B : List HP) (h : HP) (hL : L = A ++ h :: B) (H : ∀ F', F ≤ F' → Fz h F' → X P n c (fun e ρ' _ L' => Q e ρ' F (h :: L')) ρ F' (A ++ B)) : X P n c Q ρ F L := by
  subst hL
  intro ok a w r Hw
  obtain ⟨F', le, fz, H', back⟩ := Hw.lend
  exact Code.wp_mono (fun _ _ _ ⟨ρ', F'', L', r', le', H'', q⟩ => ⟨ρ', F, _, r', FLe.refl F, back _ _ _ le' H'', q⟩) (H F' le fz ok a w r H')

theorem X.skip (h : Q .normal ρ F L) : X P n .skip Q ρ F L := fun _ _ _ r H => wp_skip ⟨ρ, F, L, r, FLe.refl F, H, h⟩
theorem X.exit {i : Nat} (h : Q (.exit i) ρ F L) : X P n (.exit i) Q ρ F L := fun _ _ _ r H => wp_exit ⟨ρ, F, L, r, FLe.refl F, H, h⟩
theorem X.ret (h : Q .ret ρ F L) : X P n .ret Q ρ F L := fun _ _ _ r H => wp_ret ⟨ρ, F, L, r, FLe.refl F, H, h⟩
theorem X.label {l : Nat} (h : Q .normal ρ F L) : X P n (.label l) Q ρ F L := fun _ _ _ r H => wp_label ⟨ρ, F, L, r, FLe.refl F, H, h⟩

theorem X.seq {x y : Code} (h : X P n x (thenQ (fun ρ' F' L' => X P n y Q ρ' F' L') Q) ρ F L) : X P n (.seq x y) Q ρ F L := by
  intro ok a w r H
  simp only [cOk, Bool.and_eq_true] at ok
  refine wp_seq (Code.wp_mono ?_ (h ok.1 a w r H))
  rintro e a' w' ⟨ρ', F', L', r', le, H', q⟩
  cases e with
  | normal => exact Code.wp_mono (fun _ _ _ q => low_le le q) (q ok.2 a' w' r' H')
  | _ => exact ⟨ρ', F', L', r', le, H', q⟩

theorem X.block {id : Nat} {c : Code} (h : X P n c (blockQ id Q) ρ F L) : X P n (.block id c) Q ρ F L := by
  intro ok a w r H
  refine wp_block (Code.wp_mono ?_ (h ok a w r H))
  rintro e a' w' ⟨ρ', F', L', r', le, H', q⟩
  cases e with
  | exit i =>
    simp only [Exit.inBlock, blockQ] at q ⊢
    split
    · rename_i hi; rw [if_pos hi] at q; exact ⟨ρ', F', L', r', le, H', q⟩
    · rename_i hi; rw [if_neg hi] at q; exact ⟨ρ', F', L', r', le, H', q⟩
  | _ => exact ⟨ρ', F', L', r', le, H', q⟩

theorem X.cond {c : Operand} {x y : Code} {t : Bool} (hc : evO ρ c = .bool t) (ht : t = true → X P n x Q ρ F L) (hf : t = false → X P n y Q ρ F L) : X P n (.cond c x y) Q ρ F L := by
  intro ok a w r H
  simp only [cOk, Bool.and_eq_true] at ok
  exact wp_cond_split (t := t) (by rw [r.eval]; exact hc) (fun h => ht h ok.1 a w r H) (fun h => hf h ok.2 a w r H)
theorem X.condD {c : Operand} {x y : Code} {p : Prop} [Decidable p] (hc : evO ρ c = .bool (decide p)) (ht : p → X P n x Q ρ F L) (hf : ¬p → X P n y Q ρ F L) : X P n (.cond c x y) Q ρ F L :=
  X.cond hc (fun h => ht (of_decide_eq_true h)) (fun h => hf (of_decide_eq_false h))
theorem X.condT {c : Operand} {x y : Code} (hc : evO ρ c = .bool true) (ht : X P n x Q ρ F L) : X P n (.cond c x y) Q ρ F L := X.cond hc (fun _ => ht) (fun h => by cases h)
theorem X.condF {c : Operand} {x y : Code} (hc : evO ρ c = .bool false) (hf : X P n y Q ρ F L) : X P n (.cond c x y) Q ρ F L := X.cond hc (fun h => by cases h) (fun _ => hf)

theorem X.region {id : Nat} {l : List Oper} (h : XL P n l.toArray l Q ρ F L) : X P n (.region id l.toArray false) Q ρ F L :=
  fun ok a w r H => wp_region_lit (h (by simpa [cOk] using ok) a w r H)

/-- The slots that matter, the rest forgotten. -/
theorem X.slots {c : Code} (l : List (Nat × Value)) (hs : sat ρ l) (h : ∀ r, X P n c Q (envs l r) F L) : X P n c Q ρ F L := by
  have := h ρ
  rwa [envs_of_sat hs] at this
theorem XL.slots {ops : Array Oper} {k : List Oper} (l : List (Nat × Value)) (hs : sat ρ l) (h : ∀ r, XL P n ops k Q (envs l r) F L) : XL P n ops k Q ρ F L := by
  have := h ρ
  rwa [envs_of_sat hs] at this

/-- A loop: at each round's head, for some x: the slots 'sl x', the chunks 'ow x', the fact 'iv x' of the frozen heap; 'μ' goes down. -/
theorem X.loop {c : Code} {α : Type} (sl : α → List (Nat × Value)) (ow : α → List HP) (iv : α → FH → Prop) (μ : α → Nat) (x0 : α)
    (hs : sat ρ (sl x0)) (hL : Sub L (ow x0)) (hi : iv x0 F)
    (round : ∀ x r F', F ≤ F' → iv x F' →
      X P n c (thenQ (fun ρ' F'' L' => ∃ x' F2, F ≤ F2 ∧ F2 ≤ F'' ∧ sat ρ' (sl x') ∧ Sub L' (ow x') ∧ iv x' F2 ∧ μ x' < μ x) Q) (envs (sl x) r) F' (ow x)) : X P n (.loop c) Q ρ F L := by
  intro ok a w r H
  refine wp_loop_ghost (fun x a w => ∃ ρ F', F ≤ F' ∧ Rep n a ρ ∧ sat ρ (sl x) ∧ iv x F' ∧ Holds F' (ow x) w) μ x0 ⟨ρ, F, FLe.refl F, r, hs, hi, hL.holds H⟩ ?_
  rintro x a w ⟨ρ, F', le, r, hs, hi, H⟩
  have hX := round x ρ F' le hi
  rw [envs_of_sat hs] at hX
  refine Code.wp_mono ?_ (hX ok a w r H)
  rintro e a' w' ⟨ρ', F'', L', r', le', H', q⟩
  cases e with
  | normal =>
    obtain ⟨x', F2, l1, l2, hs', hsub, hi', hlt⟩ := q
    exact ⟨x', ⟨ρ', F2, l1, r', hs', hi', hsub.holds (H'.forget l2)⟩, hlt⟩
  | _ => exact ⟨ρ', F'', L', r', le.trans le', H', q⟩

/-- The ways through c meet again: what holds then, for some x. -/
theorem X.cut {c d : Code} {α : Type} (sl : α → List (Nat × Value)) (ow : α → List HP) (iv : α → FH → Prop)
    (hc : X P n c (thenQ (fun ρ' F' L' => ∃ x F2, F ≤ F2 ∧ F2 ≤ F' ∧ sat ρ' (sl x) ∧ Sub L' (ow x) ∧ iv x F2) Q) ρ F L)
    (hd : ∀ x r F', F ≤ F' → iv x F' → X P n d Q (envs (sl x) r) F' (ow x)) : X P n (.seq c d) Q ρ F L := by
  intro ok a w r H
  simp only [cOk, Bool.and_eq_true] at ok
  refine wp_seq (Code.wp_mono ?_ (hc ok.1 a w r H))
  rintro e a' w' ⟨ρ', F', L', r', le, H', q⟩
  cases e with
  | normal =>
    obtain ⟨x, F2, l1, l2, hs, hsub, hi⟩ := q
    have hX := hd x ρ' F2 l1 hi
    rw [envs_of_sat hs] at hX
    exact Code.wp_mono (fun _ _ _ q => low_le l1 q) (hX ok.2 a' w' r' (hsub.holds (H'.forget l2)))
  | _ => exact ⟨ρ', F', L', r', le, H', q⟩
end

/- 5. A FUNCTION -/

/-- Called with args, where F and L hold, f returns a value of which Q holds. -/
def Does (P : Program) (f : FuncId) (args : List Value) (F : FH) (L : List HP) (Q : Post) : Prop :=
  ∀ w, Holds F L w → Calls P f args.toArray w fun e w' => ∃ v F' L', e = .returned v ∧ F ≤ F' ∧ Holds F' L' w' ∧ Q v F' L'

theorem Does.mono {P : Program} {f : FuncId} {args : List Value} {F : FH} {L : List HP} {Q Q' : Post} (h : Does P f args F L Q) (hq : ∀ v F' L', F ≤ F' → Q v F' L' → Q' v F' L') : Does P f args F L Q' :=
  fun w H => (h w H).mono fun _ _ ⟨v, F', L', he, le, H', q⟩ => ⟨v, F', L', he, le, H', hq _ _ _ le q⟩
theorem Does.weaken {P : Program} {f : FuncId} {args : List Value} {F : FH} {L L' : List HP} {Q : Post} (s : Sub L L') (h : Does P f args F L' Q) : Does P f args F L Q :=
  fun w H => h w (s.holds H)
theorem Does.lend {P : Program} {f : FuncId} {args : List Value} {F : FH} {L : List HP} {Q : Post} (A B : List HP) (h : HP) (hL : L = A ++ h :: B)
    (H : ∀ F', F ≤ F' → Fz h F' → Does P f args F' (A ++ B) fun v _ L' => Q v F (h :: L')) : Does P f args F L Q := by
  subst hL
  intro w Hw
  obtain ⟨F', le, fz, H', back⟩ := Hw.lend
  exact (H F' le fz w H').mono fun _ _ ⟨v, F'', L', he, le', H'', q⟩ => ⟨v, F, _, he, FLe.refl F, back _ _ _ le' H'', q⟩

/-- What the function's result variables hold. -/
inductive ResAll (P : Program) (F : FH) (L : List HP) (ρ : Env) : List ResultVar → List Value → Prop
  | nil : ResAll P F L ρ [] []
  | tmp {t : Tmp} {v : Value} {rs : List ResultVar} {vs : List Value} (h : ρ t = v) (r : ResAll P F L ρ rs vs) : ResAll P F L ρ (.tmp t :: rs) (v :: vs)
  | cell {a : Tmp} {ad : Addr} {t : TypeId} {v : Value} {rs : List ResultVar} {vs : List Value} (h : ρ a = .pointer (some ad)) (hl : ∀ w, Holds F L w → (loadVar t ad).run P w = .ok v w) (r : ResAll P F L ρ rs vs) :
      ResAll P F L ρ (.cell a t :: rs) (v :: vs)

def oneOr : List Value → Value
  | [v] => v
  | vs => .tuple vs.toArray

def retQ (P : Program) (fn : Func) (F0 : FH) (Q : Post) : QX := fun e ρ F L => (e = .ret ∨ e = .normal) ∧ ∃ vs L' F2, ResAll P F L ρ fn.results.toList vs ∧ F0 ≤ F2 ∧ F2 ≤ F ∧ Sub L L' ∧ Q (oneOr vs) F2 L'

theorem run_mapM_res {P : Program} {F : FH} {L : List HP} {w : World} {ρ : Env} (H : Holds F L w) (f : ResultVar → Sem Value) (hf : ∀ t, f (.tmp t) = pure (ρ t)) (hc : ∀ a t ad, ρ a = .pointer (some ad) → (f (.cell a t)).run P w = (loadVar t ad).run P w) :
    ∀ {rs : List ResultVar} {vs : List Value}, ResAll P F L ρ rs vs → (rs.mapM f).run P w = .ok vs w := by
  intro rs vs h
  induction h with
  | nil => simp
  | tmp h _ ih => simp only [List.mapM_cons, Sem.run_bind, Sem.run_pure, Result.andThen_ok, ih, hf, h]
  | cell h hl _ ih => simp only [List.mapM_cons, Sem.run_bind, Sem.run_pure, Result.andThen_ok, hc _ _ _ h, hl w H, ih]

theorem results_run {P : Program} {fn : Func} {n : Nat} {a : Act} {ρ : Env} {F : FH} {L : List HP} {w : World} {vs : List Value} (r : Rep n a ρ) (H : Holds F L w) (h : ResAll P F L ρ fn.results.toList vs) :
    (results fn a.tmps).run P w = .ok (oneOr vs) w := by
  have e : fn.results = fn.results.toList.toArray := by simp
  unfold results
  rw [e, List.mapM_toArray]
  simp only [Sem.run_bind, Sem.run_map]
  rw [run_mapM_res (ρ := ρ) H _ ?_ ?_ h]
  · simp only [Result.andThen_ok, Sem.run_pure]
    congr 1
    match vs with
    | [] => rfl
    | [v] => rfl
    | x :: y :: l => rw [dif_neg (by simp)]; rfl
  · intro t
    show pure (a.tmps.getD t undef) = _
    rw [r.get t]
  · intro b t ad hb
    show ((asAddr (a.tmps.getD b undef)) >>= fun x => loadVar t x).run P w = _
    rw [r.get b, hb]
    simp [asAddr, Sem.run_bind]

theorem Does.of_X {P : Program} {f : FuncId} {fn : Func} {c : Code} {args : List Value} {F : FH} {L : List HP} {Q : Post}
    (hf : P.funcs[f]? = some fn) (hb : fn.body = some c) (hd : cOk fn.ntmps c = true) (hn : Nat.ble args.length fn.ntmps = true)
    (h : X P fn.ntmps c (retQ P fn F Q) (env0 args) F L) : Does P f args F L Q := by
  intro w H
  refine calls_of_wp hf hb (Code.wp_mono ?_ (h hd _ w ⟨?_, rfl, fun i => ?_⟩ H))
  · rintro e a' w' ⟨ρ', F', L', r', le, H', he, vs, L'', F2, hv, l1, l2, hsub, q⟩
    have hr := results_run (P := P) (w := w') r' H' hv
    rcases he with rfl | rfl
    · exact ⟨r'.defers, _, hr, _, F2, L'', rfl, l1, hsub.holds (H'.forget l2), q⟩
    · exact ⟨r'.defers, _, hr, _, F2, L'', rfl, l1, hsub.holds (H'.forget l2), q⟩
  · have := Nat.le_of_ble_eq_true hn
    simp
    omega
  · simp only [env0, Array.getD_eq_getD_getElem?, List.getD_eq_getElem?_getD, Array.getElem?_append, List.size_toArray, List.getElem?_toArray, Array.getElem?_replicate]
    split
    · rfl
    · rename_i hi
      rw [List.getElem?_eq_none (Nat.le_of_not_lt hi)]
      split <;> rfl

/- 6. RETURNING -/

theorem retEnd {P : Program} {fn : Func} {F0 F2 : FH} {Q : Post} {ρ : Env} {F : FH} {L L' : List HP} (vs : List Value) (v : Value) (hr : ResAll P F L ρ fn.results.toList vs) (hv : oneOr vs = v) (l1 : F0 ≤ F2) (l2 : F2 ≤ F) (s : Sub L L') (h : Q v F2 L') : retQ P fn F0 Q .ret ρ F L :=
  ⟨.inl rfl, vs, L', F2, hr, l1, l2, s, hv ▸ h⟩
theorem retEndN {P : Program} {fn : Func} {F0 F2 : FH} {Q : Post} {ρ : Env} {F : FH} {L L' : List HP} (vs : List Value) (v : Value) (hr : ResAll P F L ρ fn.results.toList vs) (hv : oneOr vs = v) (l1 : F0 ≤ F2) (l2 : F2 ≤ F) (s : Sub L L') (h : Q v F2 L') : retQ P fn F0 Q .normal ρ F L :=
  ⟨.inr rfl, vs, L', F2, hr, l1, l2, s, hv ▸ h⟩
end Go.Proofs.Ytiaanelimbmniaa.X
