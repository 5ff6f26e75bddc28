/-
  The walk's rules at a fence: an activation that holds deferred calls (behind a loop over an iterator), and a round of such a loop.
-/
import Derived.Test.YtiaanelimbmniaaX15
import Derived.Test.YtiaanelimbmniaaX12
import Derived.OrdersIn
import Derived.TacticsIn
import Derived.RangeFuncSeq
import Derived.RangeFuncRecord
import Derived.RangeFuncLeaves
set_option linter.unusedSimpArgs false
set_option linter.unusedVariables false
namespace Go.Proofs.Ytiaanelimbmniaa.X
open Go

def FR (r : Option Nat) : Fence := { Fence.wide with round := r }
theorem callsIn_FR {r : Option Nat} {n : Nat} {P : Program} {f : FuncId} {args : Array Value} {w : World} {R : Ending → World → Prop} (h : Calls P f args w R) : CallsIn (FR r) n P f args w R := by
  have h1 : CallsIn Fence.wide n P f args w R := callsIn_wide.2 h
  exact h1
theorem wpIn_any {r : Option Nat} {m m' : Nat} {P : Program} {c : Code} {Q : Exit → Act → World → Prop} {a : Act} {w : World} (h : c.wpIn (FR r) m P Q a w) : c.wpIn (FR r) m' P Q a w :=
  fun b k cs hro hb hr => h b k cs hro hb (fun _ hd => by cases hd)

structure RepD (n : Nat) (d : List Deferred) (a : Act) (ρ : Env) : Prop where
  size : a.tmps.size = n
  defers : a.defers = d
  get : ∀ i, a.tmps.getD i undef = ρ i
theorem RepD.eval {n : Nat} {d : List Deferred} {a : Act} {ρ : Env} (h : RepD n d a ρ) : a.eval = evO ρ := by
  funext x
  cases x <;> first | rfl | exact h.get _
theorem Rep.toD {n : Nat} {a : Act} {ρ : Env} (h : Rep n a ρ) : RepD n [] a ρ := ⟨h.size, h.defers, h.get⟩
theorem RepD.of {n : Nat} {a : Act} {ρ : Env} (h : RepD n [] a ρ) : Rep n a ρ := ⟨h.size, h.defers, h.get⟩
theorem RepD.put {n : Nat} {ds : List Deferred} {a : Act} {ρ : Env} (h : RepD n ds a ρ) {d : Option Tmp} (hd : dOk n d = true) (v : Value) : RepD n ds (a.put d v) (putE ρ d v) := by
  have h' : Rep n { a with defers := [] } ρ := ⟨h.size, rfl, h.get⟩
  have := h'.put hd v
  refine ⟨?_, ?_, ?_⟩
  · have := this.size; cases d <;> exact this
  · cases d <;> exact h.defers
  · have := this.get; cases d <;> exact this

def notDef (o : Oper) : Bool := match o.op with | .defer _ => false | _ => true
theorem notDef_spec {o : Oper} (h : notDef o = true) : ∀ c, o.op ≠ .defer c := by
  intro c e; simp [notDef, e] at h
def opsOkI (n : Nat) (l : List Oper) : Bool := l.all fun o => dOk n o.dst && notDef o
theorem opsOkI_ops {n : Nat} {l : List Oper} (h : opsOkI n l = true) : opsOk n l = true := by
  simp only [opsOkI, opsOk, List.all_eq_true, Bool.and_eq_true] at h ⊢
  exact fun o ho => (h o ho).1
theorem opsOkI_def {n : Nat} {l : List Oper} (h : opsOkI n l = true) : ∀ o ∈ l, ∀ c, o.op ≠ .defer c := by
  simp only [opsOkI, List.all_eq_true, Bool.and_eq_true] at h
  exact fun o ho => notDef_spec (h o ho).2

def lowI (n : Nat) (d : List Deferred) (F : FH) (Q : QX) : Exit → Act → World → Prop := fun e a w => ∃ ρ F' L, RepD n d a ρ ∧ F ≤ F' ∧ Holds F' L w ∧ Q e ρ F' L
theorem lowI_le {n : Nat} {d : List Deferred} {F F' : FH} {Q : QX} (le : F ≤ F') {e : Exit} {a : Act} {w : World} (h : lowI n d F' Q e a w) : lowI n d F Q e a w :=
  let ⟨ρ, F'', L, r, l, H, q⟩ := h; ⟨ρ, F'', L, r, le.trans l, H, q⟩

theorem wpListIn_mono {F : Fence} {n : Nat} {P : Program} {ops : Array Oper} {Q Q' : Exit → Act → World → Prop} (h : ∀ e a w, Q e a w → Q' e a w) :
    ∀ (l : List Oper) (a : Act) (w : World), wpListIn F n P ops Q l a w → wpListIn F n P ops Q' l a w
  | [], a, w, k => h _ _ _ k
  | o :: l, a, w, k => by
    unfold wpListIn at *
    have hout : LetsOut Q → LetsOut Q' := fun ⟨a0, w0, hq⟩ => ⟨a0, w0, h _ _ _ hq⟩
    split
    · rename_i hw
      rw [if_pos hw] at k
      refine ⟨k.1, ?_⟩
      have k := k.2
      generalize (o.semAt F.round a.eval).run P w = r at *
      cases r with
      | ok m w' =>
        cases m <;> simp only [Oper.uponIn] at k ⊢ <;>
          first
            | exact wpListIn_mono h l _ _ k
            | exact ⟨k.1, CallsIn.mono k.2 (fun e w'' he => by cases e <;> first | exact wpListIn_mono h l _ _ he | exact h _ _ _ he | exact hout he)⟩
            | exact ⟨k.1, RowsIn.mono k.2 (fun _ _ he => wpListIn_mono h l _ _ he)⟩
            | exact ⟨k.1, RoundIn.mono k.2 (fun e w'' he => by cases e <;> first | exact wpListIn_mono h l _ _ he | exact h _ _ _ he | exact hout he)⟩
      | halt x w' => cases x <;> simp only [Oper.uponIn] at k ⊢ <;> first | exact h _ _ _ k | exact k.elim
    · rename_i hw
      rw [if_neg hw] at k
      exact ⟨k.1, wpListIn_mono h l _ _ k.2⟩

def XIL (P : Program) (n : Nat) (r0 : Option Nat) (d0 : List Deferred) (ops : Array Oper) (l : List Oper) (Q : QX) (ρ : Env) (F : FH) (L : List HP) : Prop :=
  opsOkI n l = true → ∀ a w, RepD n d0 a ρ → Holds F L w → wpListIn (FR r0) 9 P ops (lowI n d0 F Q) l a w

section
variable {P : Program} {n : Nat} {r0 : Option Nat} {d0 : List Deferred} {ops : Array Oper} {l : List Oper} {Q : QX} {ρ : Env} {F : FH} {L : List HP}
theorem XIL.nil (h : Q .normal ρ F L) : XIL P n r0 d0 ops [] Q ρ F L := fun _ _ _ r H => ⟨ρ, F, L, r, FLe.refl F, H, h⟩
theorem XIL.weaken {L' : List HP} (s : Sub L L') (h : XIL P n r0 d0 ops l Q ρ F L') : XIL P n r0 d0 ops l Q ρ F L := fun ok a w r H => h ok a w r (s.holds H)

theorem wpIn_of_XOp {o : Oper} {K : Post} {a : Act} {w : World} {Q : Exit → Act → World → Prop} {N : Act → World → Prop}
    (h : XOp P o ρ F L K) (r : RepD n d0 a ρ) (H : Holds F L w) (hd : dOk n o.dst = true) (hn : ∀ c, o.op ≠ .defer c)
    (hN : ∀ v F' L' w', F ≤ F' → Holds F' L' w' → K v F' L' → RepD n d0 (a.put o.dst v) (putE ρ o.dst v) → N (a.put o.dst v) w') : o.wpIn (FR r0) 9 P a w N Q := by
  refine ⟨fun _ _ => trivial, ?_⟩
  rw [Oper.semAt_eq _ _ _ hn, r.eval]
  rcases h w H with ⟨v, w', F', L', h1, h2, h3, h4⟩ | ⟨w', F', L', h1, h2, h3, h4⟩ | ⟨f, args, w', h1, h2⟩
  · rw [h1]; exact hN v F' L' w' h2 h3 h4 (r.put hd v)
  · rw [h1]; exact hN undef F' L' w' h2 h3 h4 (r.put hd undef)
  · rw [h1]
    refine ⟨fun _ => by decide, callsIn_FR (h2.mono fun e w'' ⟨v, F', L', he, hle, hH, hk⟩ => ?_)⟩
    subst he
    exact hN v F' L' w'' hle hH hk (r.put hd v)

theorem yielded_of_repD {a : Act} (r : RepD n d0 a ρ) {g : Nat} {t : Tmp} {b : Bool} (ht : (ops[g]?).bind (·.dst) = some t) (hv : ρ t = .bool b) : yielded ops a.tmps g = some b := by
  unfold yielded
  rw [ht]
  have := r.get t
  rw [hv, Array.getD_eq_getD_getElem?] at this
  cases hx : a.tmps[t]? with
  | none => rw [hx] at this; simp [undef] at this
  | some x => rw [hx] at this; simp at this; subst this; simp [hx]

theorem XIL.cons {d : Option Tmp} {op : Op} {ty : TypeId} {pos : String} {af : Array Edge}
    (h : XOp P ⟨d, op, ty, pos, af, none⟩ ρ F L fun v F' L' => XIL P n r0 d0 ops l Q (putE ρ d v) F' L') : XIL P n r0 d0 ops (⟨d, op, ty, pos, af, none⟩ :: l) Q ρ F L := by
  intro ok a w r H
  have hd := opsOkI_def ok
  simp only [opsOkI, List.all_cons, Bool.and_eq_true] at ok
  unfold wpListIn
  rw [if_pos (by simp [Region.wanted])]
  exact wpIn_of_XOp h r H ok.1.1 (hd _ (by simp)) fun v F' L' w' le H' k r' => wpListIn_mono (fun _ _ _ q => lowI_le le q) _ _ _ (k ok.2 _ _ r' H')
theorem XIL.yes {d : Option Tmp} {op : Op} {ty : TypeId} {pos : String} {af : Array Edge} {g : Nat} {t : Tmp} {b : Bool} (ht : (ops[g]?).bind (·.dst) = some t) (hv : ρ t = .bool b)
    (h : XOp P ⟨d, op, ty, pos, af, some (g, b)⟩ ρ F L fun v F' L' => XIL P n r0 d0 ops l Q (putE ρ d v) F' L') : XIL P n r0 d0 ops (⟨d, op, ty, pos, af, some (g, b)⟩ :: l) Q ρ F L := by
  intro ok a w r H
  have hd := opsOkI_def ok
  simp only [opsOkI, List.all_cons, Bool.and_eq_true] at ok
  unfold wpListIn
  rw [if_pos (by simp [Region.wanted, yielded_of_repD r ht hv])]
  exact wpIn_of_XOp h r H ok.1.1 (hd _ (by simp)) fun v F' L' w' le H' k r' => wpListIn_mono (fun _ _ _ q => lowI_le le q) _ _ _ (k ok.2 _ _ r' H')
theorem XIL.no {d : Option Tmp} {op : Op} {ty : TypeId} {pos : String} {af : Array Edge} {g : Nat} {b : Bool} {t : Tmp} (ht : (ops[g]?).bind (·.dst) = some t) (hv : ρ t = .bool (!b))
    (h : XIL P n r0 d0 ops l Q (putE ρ d undef) F L) : XIL P n r0 d0 ops (⟨d, op, ty, pos, af, some (g, b)⟩ :: l) Q ρ F L := by
  intro ok a w r H
  simp only [opsOkI, List.all_cons, Bool.and_eq_true] at ok
  unfold wpListIn
  rw [if_neg (by simp [Region.wanted, yielded_of_repD r ht hv])]
  exact ⟨fun _ _ => trivial, h ok.2 _ _ (r.put ok.1.1 undef) H⟩
theorem XIL.freeze (A B : List HP) (h : HP) (hL : L = A ++ h :: B)
    (H : ∀ F', F ≤ F' → Fz h F' → XIL P n r0 d0 ops l Q ρ F' (A ++ B)) : XIL P n r0 d0 ops l Q ρ F L := by
  subst hL
  intro ok a w r Hw
  obtain ⟨F', le, fz, H'⟩ := Hw.freeze
  exact wpListIn_mono (fun _ _ _ q => lowI_le le q) _ _ _ (H F' le fz ok a w r H')
theorem XIL.freezeF (A B : List HP) (h : HP) (hL : L = A ++ h :: B)
    (H : ∀ F', F ≤ F' → Fresh F F' h → XIL P n r0 d0 ops l Q ρ F' (A ++ B)) : XIL P n r0 d0 ops l Q ρ F L := by
  subst hL
  intro ok a w r Hw
  obtain ⟨F', le, fz, H', _⟩ := Hw.lendF
  exact wpListIn_mono (fun _ _ _ q => lowI_le le q) _ _ _ (H F' le fz ok a w r H')
theorem XIL.slots (k : List (Nat × Value)) (hs : sat ρ k) (h : ∀ r, XIL P n r0 d0 ops l Q (envs k r) F L) : XIL P n r0 d0 ops l Q ρ F L := by
  have := h ρ
  rwa [envs_of_sat hs] at this

/-- A call of yield: L turns by a round; the round's word is 'Yld'. -/
def Yld (P : Program) (l : Nat) (args : List Value) (F : FH) (L : List HP) (K : Post) : Prop :=
  ∀ w, Holds F L w → YieldAt Fence.wide 9 P l args.toArray w fun e w' => ∃ v F' L', e = .returned v ∧ F ≤ F' ∧ Holds F' L' w' ∧ K v F' L'
theorem Yld.mono {k : Nat} {args : List Value} {K K' : Post} (h : Yld P k args F L K) (hk : ∀ v F' L', F ≤ F' → K v F' L' → K' v F' L') : Yld P k args F L K' := by
  intro w H
  obtain ⟨fn, tmps, assign, body, hy, hr⟩ := h w H
  exact ⟨fn, tmps, assign, body, hy, hr.mono fun e w' ⟨v, F', L', a, b, c, d⟩ => ⟨v, F', L', a, b, c, hk _ _ _ b d⟩⟩
theorem Yld.weaken {k : Nat} {args : List Value} {K : Post} {L' : List HP} (s : Sub L L') (h : Yld P k args F L' K) : Yld P k args F L K := fun w H => h w (s.holds H)
theorem roundIn_FR {r : Option Nat} {m m' k : Nat} {f : FuncId} {tmps : Array Value} {assign body : Code} {w : World} {R : Ending → World → Prop} (h : RoundIn Fence.wide m P k f tmps assign body w R) : RoundIn (FR r) m' P k f tmps assign body w R :=
  ⟨trivial, fun c cs hr => h.2 c cs (fun _ hd => by cases hd)⟩
theorem XIL.yield {k : Nat} {d : Option Tmp} {c : Operand} {as : List Operand} {ts : Array TypeId} {ty : TypeId} {pos : String} {af : Array Edge} {args : List Value}
    (hc : evO ρ c = .func (.yield k) #[] #[]) (ha : as.map (evO ρ) = args)
    (h : Yld P k args F L fun v F' L' => XIL P n r0 d0 ops l Q (putE ρ d v) F' L') :
    XIL P n r0 d0 ops (⟨d, .call { callee := .value c, args := as.toArray, argTypes := ts }, ty, pos, af, none⟩ :: l) Q ρ F L := by
  intro ok a w r H
  simp only [opsOkI, List.all_cons, Bool.and_eq_true] at ok
  unfold wpListIn
  rw [if_pos (by simp [Region.wanted])]
  refine ⟨fun _ _ => trivial, ?_⟩
  rw [Oper.semAt_eq _ _ _ (by simp), r.eval]
  obtain ⟨fn, tmps, assign, body, hy, hr⟩ := h w H
  have e : (execOp (evO ρ) ⟨d, .call { callee := .value c, args := as.toArray, argTypes := ts }, ty, pos, af, none⟩).run P w = .ok (.round k fn tmps assign body) w := by
    subst ha
    simp [execOp, resolve, hc, Deferred.ofValue, invoke, hy, Sem.run_bind, Sem.run_pure, Result.andThen]
  rw [e]
  refine ⟨fun _ => by decide, (roundIn_FR hr).mono ?_⟩
  rintro e w'' ⟨v, F', L', rfl, le, H', hk⟩
  exact wpListIn_mono (fun _ _ _ q => lowI_le le q) _ _ _ (hk ok.2 _ _ (r.put ok.1.1 v) H')
end

def cOkI (n : Nat) : Code → Bool
  | .region _ ops _ => opsOkI n ops.toList
  | .seq a b => cOkI n a && cOkI n b
  | .cond _ a b => cOkI n a && cOkI n b
  | .block _ a => cOkI n a
  | .loop a => cOkI n a
  | .scope a => cOkI n a
  | .rangeFunc _ _ a b => cOkI n a && cOkI n b
  | _ => true

def XI (P : Program) (n : Nat) (r0 : Option Nat) (d0 : List Deferred) (c : Code) (Q : QX) (ρ : Env) (F : FH) (L : List HP) : Prop :=
  cOkI n c = true → ∀ a w, RepD n d0 a ρ → Holds F L w → c.wpIn (FR r0) 9 P (lowI n d0 F Q) a w

section
variable {P : Program} {n : Nat} {r0 : Option Nat} {d0 : List Deferred} {Q : QX} {ρ : Env} {F : FH} {L : List HP}
theorem X.ofI {c : Code} (hok : cOkI n c = true) (h : XI P n none [] c Q ρ F L) : X P n c Q ρ F L := by
  intro _ a w r H
  refine Code.wp_mono ?_ (wpIn_wide.1 (h hok a w r.toD H))
  rintro e a' w' ⟨ρ', F', L', r', le, H', q⟩
  exact ⟨ρ', F', L', r'.of, le, H', q⟩
theorem XI.weaken {c : Code} {L' : List HP} (s : Sub L L') (h : XI P n r0 d0 c Q ρ F L') : XI P n r0 d0 c Q ρ F L := fun ok a w r H => h ok a w r (s.holds H)
theorem XI.freeze {c : Code} (A B : List HP) (h : HP) (hL : L = A ++ h :: B) (H : ∀ F', F ≤ F' → Fz h F' → XI P n r0 d0 c Q ρ F' (A ++ B)) : XI P n r0 d0 c Q ρ F L := by
  subst hL
  intro ok a w r Hw
  obtain ⟨F', le, fz, H'⟩ := Hw.freeze
  exact wpIn_mono (H F' le fz ok a w r H') (fun _ _ _ q => lowI_le le q)
theorem XI.freezeF {c : Code} (A B : List HP) (h : HP) (hL : L = A ++ h :: B) (H : ∀ F', F ≤ F' → Fresh F F' h → XI P n r0 d0 c Q ρ F' (A ++ B)) : XI P n r0 d0 c Q ρ F L := by
  subst hL
  intro ok a w r Hw
  obtain ⟨F', le, fz, H', _⟩ := Hw.lendF
  exact wpIn_mono (H F' le fz ok a w r H') (fun _ _ _ q => lowI_le le q)
theorem XI.block {id : Nat} {c : Code} (h : XI P n r0 d0 c (blockQ id Q) ρ F L) : XI P n r0 d0 (.block id c) Q ρ F L := by
  intro ok a w r H
  refine wpIn_block (wpIn_mono (h ok a w r H) ?_)
  rintro e a' w' ⟨ρ', F', L', r', le, H', q⟩
  cases e with
  | exit i =>
    simp only [Exit.inBlock, blockQ] at q ⊢
    split
    · rename_i hi; rw [if_pos hi] at q; exact ⟨ρ', F', L', r', le, H', q⟩
    · rename_i hi; rw [if_neg hi] at q; exact ⟨ρ', F', L', r', le, H', q⟩
  | _ => exact ⟨ρ', F', L', r', le, H', q⟩
theorem XI.exit {i : Nat} (h : Q (.exit i) ρ F L) : XI P n r0 d0 (.exit i) Q ρ F L := fun _ _ _ r H => wpIn_exit ⟨ρ, F, L, r, FLe.refl F, H, h⟩
theorem XI.skip (h : Q .normal ρ F L) : XI P n r0 d0 .skip Q ρ F L := fun _ _ _ r H => wpIn_skip ⟨ρ, F, L, r, FLe.refl F, H, h⟩
theorem XI.ret (h : Q .ret ρ F L) : XI P n r0 d0 .ret Q ρ F L := fun _ _ _ r H => wpIn_ret ⟨ρ, F, L, r, FLe.refl F, H, h⟩
theorem XI.seq {x y : Code} (h : XI P n r0 d0 x (thenQ (fun ρ' F' L' => XI P n r0 d0 y Q ρ' F' L') Q) ρ F L) : XI P n r0 d0 (.seq x y) Q ρ F L := by
  intro ok a w r H
  simp only [cOkI, Bool.and_eq_true] at ok
  refine wpIn_seq (wpIn_mono (h ok.1 a w r H) ?_)
  rintro e a' w' ⟨ρ', F', L', r', le, H', q⟩
  cases e with
  | normal => exact wpIn_mono (q ok.2 a' w' r' H') (fun _ _ _ q => lowI_le le q)
  | _ => exact ⟨ρ', F', L', r', le, H', q⟩
theorem XI.cond {c : Operand} {x y : Code} {t : Bool} (hc : evO ρ c = .bool t) (ht : t = true → XI P n r0 d0 x Q ρ F L) (hf : t = false → XI P n r0 d0 y Q ρ F L) : XI P n r0 d0 (.cond c x y) Q ρ F L := by
  intro ok a w r H
  simp only [cOkI, Bool.and_eq_true] at ok
  exact wpIn_cond_split (t := t) (by rw [r.eval]; exact hc) (fun h => ht h ok.1 a w r H) (fun h => hf h ok.2 a w r H)
theorem XI.condD {c : Operand} {x y : Code} {p : Prop} [Decidable p] (hc : evO ρ c = .bool (decide p)) (ht : p → XI P n r0 d0 x Q ρ F L) (hf : ¬p → XI P n r0 d0 y Q ρ F L) : XI P n r0 d0 (.cond c x y) Q ρ F L :=
  XI.cond hc (fun h => ht (of_decide_eq_true h)) (fun h => hf (of_decide_eq_false h))
theorem XI.condT {c : Operand} {x y : Code} (hc : evO ρ c = .bool true) (ht : XI P n r0 d0 x Q ρ F L) : XI P n r0 d0 (.cond c x y) Q ρ F L := XI.cond hc (fun _ => ht) (fun h => by cases h)
theorem XI.condF {c : Operand} {x y : Code} (hc : evO ρ c = .bool false) (hf : XI P n r0 d0 y Q ρ F L) : XI P n r0 d0 (.cond c x y) Q ρ F L := XI.cond hc (fun h => by cases h) (fun _ => hf)
theorem XI.region {id : Nat} {l : List Oper} (h : XIL P n r0 d0 l.toArray l Q ρ F L) : XI P n r0 d0 (.region id l.toArray false) Q ρ F L :=
  fun ok a w r H => wpIn_region_lit (h (by simpa [cOkI] using ok) a w r H)
theorem XI.slots {c : Code} (l : List (Nat × Value)) (hs : sat ρ l) (h : ∀ r, XI P n r0 d0 c Q (envs l r) F L) : XI P n r0 d0 c Q ρ F L := by
  have := h ρ
  rwa [envs_of_sat hs] at this
end

theorem XI.draw {P : Program} {n id : Nat} {r0 : Option Nat} {d0 : List Deferred} {Q : QX} {ρ : Env} {F : FH} {L : List HP} {l : List Oper} (Bs L0 : List HP) (m : Nat) (uses cls : List (List Nat)) (phi : Nat → List Value → Value → Prop) (own : Nat → List Value → Value → List HP)
    (hmix : P.follows .mixedOrders = true) (hL : L = Bs ++ L0) (hm : Nat.ble m l.length = true) (hok : drawOk l m uses cls = true)
    (hstep : stepsP P l ρ F Bs phi own uses cls (l.take m) 0)
    (hend : ∀ vals : Nat → Value, (∀ i, i < m → phi i ((uses.getD i []).map vals) (vals i)) → XIL P n r0 d0 l.toArray (l.drop m) Q (canon vals (l.take m) 0 ρ) F (made own uses vals (List.range m) ++ (Bs ++ L0))) :
    XI P n r0 d0 (.region id l.toArray true) Q ρ F L := by
  subst hL
  have hm' : m ≤ l.length := Nat.le_of_ble_eq_true hm
  have ok := drawOk_spec hok
  intro cok a w r H
  have cokI : opsOkI n l = true := by simpa [cOkI] using cok
  have cok' := opsOkI_ops cokI
  have cokD := opsOkI_def cokI
  refine wpIn_region_any hmix ?_
  have H1 : Holds F (Bs ++ L0) { w with drawn := w.drawn + 1 } := H.drew
  generalize { w with drawn := w.drawn + 1 } = w0 at H1
  -- the tail, in its text's order
  have tailP : ∀ (k : Nat) (fuel : Nat) (listed : Array Bool) (a : Act) (w : World), fuel + k = l.length → m ≤ k → listed.size = l.length → (∀ i, i < k → listed.getD i true = true) → (∀ i, k ≤ i → i < l.length → listed.getD i true = false) →
      wpListIn (FR r0) 9 P l.toArray (lowI n d0 F Q) (l.drop k) a w → wpAnyIn (FR r0) 9 P .any l.toArray (lowI n d0 F Q) fuel listed a w := by
    intro k fuel
    induction fuel generalizing k with
    | zero =>
      intro listed a w hk hmk hsz hin hout h
      have hk' : k = l.length := by omega
      subst hk'
      rw [List.drop_length] at h
      refine ⟨?_, h⟩
      unfold Region.ready
      rw [List.filter_eq_nil_iff]
      intro i hi
      have hi' : i < l.length := by simpa using hi
      simp [hin i hi']
    | succ fuel ih =>
      intro listed a w hk hmk hsz hin hout h
      have hkl : k < l.length := by omega
      obtain ⟨o, ho⟩ : ∃ o, l[k]? = some o := ⟨l[k], List.getElem?_eq_getElem hkl⟩
      have hready : ∀ i, i ∈ Region.ready .any l.toArray listed → i = k := by
        intro i hi
        obtain ⟨hun, oi, hoi, hall⟩ := mem_ready.1 hi
        have hoi' : l[i]? = some oi := by simpa using hoi
        have hil : i < l.length := (List.getElem?_eq_some_iff.1 hoi').1
        have hki : k ≤ i := by
          rcases Nat.lt_or_ge i k with h' | h'
          · have := hin i h'; rw [this] at hun; cases hun
          · exact h'
        rcases Nat.lt_or_ge k i with h' | h'
        · -- k is ahead of i: so some edge of i's leads to k, which is not listed
          exfalso
          have hmem := ok.tail i (by omega) hil k h'
          have key : ∀ (t j : Nat), (∀ oj : Oper, l[j]? = some oj → ∀ e ∈ oj.after, Region.binds .any e = true → listed.getD e.on false = true) → j ≤ t → k ∈ clo l j → (j < l.length) → False := by
            intro t
            induction t with
            | zero =>
              intro j hj hjt hkj hjl
              obtain ⟨e, he, hb, hlt, _⟩ := mem_clo (List.getElem?_eq_getElem hjl) hkj
              omega
            | succ t iht =>
              intro j hj hjt hkj hjl
              obtain ⟨e, he, hb, hlt, hor⟩ := mem_clo (List.getElem?_eq_getElem hjl) hkj
              have hl := hj _ (List.getElem?_eq_getElem hjl) e (by simpa using he) hb
              rcases hor with rfl | hmem
              · have := hout _ (Nat.le_refl _) hkl
                simp only [Array.getD_eq_getD_getElem?] at this hl
                rw [Array.getElem?_eq_getElem (by omega)] at this hl
                simp at this hl
                rw [this] at hl; cases hl
              · have hon : e.on < k := by
                  rcases Nat.lt_or_ge e.on k with h'' | h''
                  · exact h''
                  · have := hout e.on h'' (by omega)
                    simp only [Array.getD_eq_getD_getElem?] at this hl
                    rw [Array.getElem?_eq_getElem (by omega)] at this hl
                    simp at this hl
                    rw [this] at hl; cases hl
                -- below k everything in the closure is below k
                obtain ⟨e2, he2, hb2, hlt2, hor2⟩ := mem_clo (List.getElem?_eq_getElem (show e.on < l.length by omega)) hmem
                have low : ∀ (t j : Nat), j ≤ t → j < k → k ∈ clo l j → False := by
                  intro t
                  induction t with
                  | zero => intro j hjt hjk hkj; obtain ⟨e, _, _, hlt, _⟩ := mem_clo (List.getElem?_eq_getElem (show j < l.length by omega)) hkj; omega
                  | succ t iht2 =>
                    intro j hjt hjk hkj
                    obtain ⟨e, _, _, hlt, hor⟩ := mem_clo (List.getElem?_eq_getElem (show j < l.length by omega)) hkj
                    rcases hor with rfl | hmem
                    · omega
                    · exact iht2 e.on (by omega) (by omega) hmem
                exact low _ _ (Nat.le_refl _) hon hmem
          refine key i i (fun oj hoj e he hb => ?_) (Nat.le_refl _) hmem hil
          rw [hoi'] at hoj; cases hoj
          exact hall e he hb
        · omega
      have hkready : k ∈ Region.ready .any l.toArray listed := by
        refine mem_ready.2 ⟨hout k (Nat.le_refl _) hkl, o, by simpa using ho, fun e he hb => ?_⟩
        have hlt := ok.back k o ho e (by simpa using he) hb
        have := hin e.on hlt
        simp only [Array.getD_eq_getD_getElem?] at this ⊢
        rw [Array.getElem?_eq_getElem (by omega)] at this ⊢
        simpa using this
      refine ⟨fun h0 => (by rw [h0] at hkready; cases hkready), fun i hi => ?_⟩
      obtain rfl := hready i hi
      have hdrop : l.drop i = o :: l.drop (i + 1) := by
        rw [List.drop_eq_getElem_cons hkl]
        have := (List.getElem?_eq_some_iff.1 ho).2
        rw [this]
      rw [hdrop] at h
      unfold wpListIn at h
      unfold wpOpIn
      have hoA : l.toArray[i]? = some o := by simpa using ho
      rw [hoA]
      have nxt : ∀ a' w', wpListIn (FR r0) 9 P l.toArray (lowI n d0 F Q) (l.drop (i + 1)) a' w' → wpAnyIn (FR r0) 9 P .any l.toArray (lowI n d0 F Q) fuel (listed.setIfInBounds i true) a' w' := by
        intro a' w' h'
        refine ih (i + 1) (listed.setIfInBounds i true) a' w' (by omega) (by omega) (by simp [hsz]) ?_ ?_ h'
        · intro j hj
          simp only [Array.getD_eq_getD_getElem?, Array.getElem?_setIfInBounds]
          by_cases hij : i = j
          · subst hij; simp [hsz, hkl]
          · simp only [hij, if_false]
            have := hin j (by omega)
            simpa [Array.getD_eq_getD_getElem?] using this
        · intro j hj hjl
          simp only [Array.getD_eq_getD_getElem?, Array.getElem?_setIfInBounds]
          have hij : ¬ i = j := by omega
          simp only [hij, if_false]
          have := hout j (by omega) hjl
          simpa [Array.getD_eq_getD_getElem?] using this
      show (if Region.wanted o (yielded l.toArray a.tmps) = true then _ else _)
      split
      · rename_i hw
        rw [if_pos hw] at h
        exact Oper.wpIn_mono nxt h
      · rename_i hw
        rw [if_neg hw] at h
        exact ⟨h.1, nxt _ _ h.2⟩
  -- all of the head is done
  have finish : ∀ (fuel : Nat) (listed : Array Bool) (ex : List Nat) (vals : Nat → Value) (a : Act) (w : World), fuel + ex.length = l.length → listed.size = l.length → ex.Nodup → (∀ i, i ∈ ex ↔ i < m) →
      (∀ i, i < l.length → (listed.getD i true = true ↔ i ∈ ex)) → (∀ i ∈ ex, phi i ((uses.getD i []).map vals) (vals i)) →
      a.tmps.size = n → a.defers = d0 → (∀ i ∈ ex, ∀ o : Oper, l[i]? = some o → ∀ s, o.dst = some s → a.tmps.getD s undef = vals i) → (∀ s, (∀ i ∈ ex, ∀ o : Oper, l[i]? = some o → o.dst ≠ some s) → a.tmps.getD s undef = ρ s) →
      Holds F (made own uses vals ex ++ (Bs ++ L0)) w → wpAnyIn (FR r0) 9 P .any l.toArray (lowI n d0 F Q) fuel listed a w := by
    intro fuel listed ex vals a w hf hsz hnd hmem hlist hphi hsize hdef hs1 hs2 HH
    have hperm : ex.Perm (List.range m) := perm_of_mem hnd List.nodup_range (fun i => by rw [hmem]; simp)
    have hlen : ex.length = m := by rw [hperm.length_eq]; simp
    have hX := hend vals (fun i hi => hphi i ((hmem i).2 hi))
    have hone : ∀ (i j : Nat) (o q : Oper), (l.take m)[i]? = some o → (l.take m)[j]? = some q → ∀ d, o.dst = some d → q.dst = some d → i = j := by
      intro i j o q ho hq d hd hqd
      rw [List.getElem?_take] at ho hq
      split at ho
      · split at hq
        · rename_i h1 h2
          exact ok.one i j o q h1 h2 ho hq d hd hqd
        · cases hq
      · cases ho
    have rep : RepD n d0 a (canon vals (l.take m) 0 ρ) := by
      refine ⟨hsize, hdef, fun s => ?_⟩
      obtain ⟨c1, c2⟩ := canon_get vals (l.take m) 0 ρ s hone
      by_cases hw : ∃ i o, i < m ∧ l[i]? = some o ∧ o.dst = some s
      · obtain ⟨i, o, hi, ho, hd⟩ := hw
        rw [hs1 i ((hmem i).2 hi) o ho s hd, c1 i o (by rw [List.getElem?_take, if_pos hi]; exact ho) hd, Nat.zero_add]
      · rw [hs2 s (fun i hi o ho hd => hw ⟨i, o, (hmem i).1 hi, ho, hd⟩), c2 (fun i o ho hd => by
          rw [List.getElem?_take] at ho
          split at ho
          · rename_i hi; exact hw ⟨i, o, hi, ho, hd⟩
          · cases ho)]
    have hsub : Sub (made own uses vals ex ++ (Bs ++ L0)) (made own uses vals (List.range m) ++ (Bs ++ L0)) :=
      Sub.append (Sub.perm (hperm.flatMap_right _)) (Sub.refl _)
    have hwp := hX (by
      simp only [opsOkI, List.all_eq_true] at cokI ⊢
      exact fun o ho => cokI o (List.mem_of_mem_drop ho)) a w rep (hsub.holds HH)
    exact tailP m fuel listed a w (by omega) (Nat.le_refl _) hsz (fun i hi => (hlist i (by omega)).2 ((hmem i).2 hi)) (fun i hi hil => by
      cases hb : listed.getD i true with
      | false => rfl
      | true => have := (hmem i).1 ((hlist i hil).1 hb); omega) hwp
  -- the head, in any order
  have headP : ∀ (fuel : Nat) (listed : Array Bool) (ex : List Nat) (vals : Nat → Value) (a : Act) (w : World), fuel + ex.length = l.length → listed.size = l.length → ex.Nodup → (∀ i, i ∈ ex → i < m) →
      (∀ i, i < l.length → (listed.getD i true = true ↔ i ∈ ex)) → (∀ i ∈ ex, ∀ j ∈ clo l i, j ∈ ex) → (∀ i ∈ ex, phi i ((uses.getD i []).map vals) (vals i)) →
      a.tmps.size = n → a.defers = d0 → (∀ i ∈ ex, ∀ o : Oper, l[i]? = some o → ∀ s, o.dst = some s → a.tmps.getD s undef = vals i) → (∀ s, (∀ i ∈ ex, ∀ o : Oper, l[i]? = some o → o.dst ≠ some s) → a.tmps.getD s undef = ρ s) →
      Holds F (made own uses vals ex ++ (Bs ++ L0)) w → wpAnyIn (FR r0) 9 P .any l.toArray (lowI n d0 F Q) fuel listed a w := by
    intro fuel
    induction fuel with
    | zero =>
      intro listed ex vals a w hf hsz hnd hlt hlist hdown hphi hsize hdef hs1 hs2 HH
      have hall : ∀ i, i ∈ ex ↔ i < m := by
        intro i
        refine ⟨hlt i, fun hi => ?_⟩
        rcases Classical.em (i ∈ ex) with h' | h'
        · exact h'
        · have := nodup_lt m (i :: ex) (List.nodup_cons.2 ⟨h', hnd⟩) (fun k hk => by
            rcases List.mem_cons.1 hk with rfl | hk
            · exact hi
            · exact hlt k hk)
          simp at this
          omega
      exact finish 0 listed ex vals a w hf hsz hnd hall hlist hphi hsize hdef hs1 hs2 HH
    | succ fuel ih =>
      intro listed ex vals a w hf hsz hnd hlt hlist hdown hphi hsize hdef hs1 hs2 HH
      by_cases hcov : ∀ i, i < m → i ∈ ex
      · exact finish (fuel + 1) listed ex vals a w hf hsz hnd (fun i => ⟨hlt i, hcov i⟩) hlist hphi hsize hdef hs1 hs2 HH
      -- an operation that is ready: what stands ahead of it is done
      have ahead : ∀ i ∈ Region.ready .any l.toArray listed, i < l.length ∧ i ∉ ex ∧ ∀ j ∈ clo l i, j ∈ ex := by
        intro i hi
        obtain ⟨hun, o, ho, hall⟩ := mem_ready.1 hi
        have ho' : l[i]? = some o := by simpa using ho
        have hil : i < l.length := (List.getElem?_eq_some_iff.1 ho').1
        refine ⟨hil, fun hm => ?_, fun j hj => ?_⟩
        · rw [(hlist i hil).2 hm] at hun; cases hun
        · obtain ⟨e, he, hb, hlt', hor⟩ := mem_clo ho' hj
          have hl := hall e (by simpa using he) hb
          have hex : e.on ∈ ex := by
            refine (hlist e.on (by omega)).1 ?_
            simp only [Array.getD_eq_getD_getElem?] at hl ⊢
            rw [Array.getElem?_eq_getElem (by omega)] at hl ⊢
            simpa using hl
          rcases hor with rfl | hj'
          · exact hex
          · exact hdown _ hex _ hj'
      have small : ∀ i ∈ Region.ready .any l.toArray listed, i < m := by
        intro i hi
        obtain ⟨hil, _, hc⟩ := ahead i hi
        rcases Nat.lt_or_ge i m with h' | h'
        · exact h'
        · exact absurd (fun j hj => hc j (ok.tail i h' hil j (by omega))) hcov
      refine ⟨fun h0 => ?_, fun i hi => ?_⟩
      · -- not all is done, so something is ready: the least that is not listed
        exfalso
        apply hcov
        intro i
        induction i using Nat.strongRecOn with
        | _ i ihs =>
          intro him
          rcases Classical.em (i ∈ ex) with h' | h'
          · exact h'
          · exfalso
            have hil : i < l.length := by omega
            have : i ∈ Region.ready .any l.toArray listed := by
              refine mem_ready.2 ⟨?_, l[i], by simp [hil], fun e he hb => ?_⟩
              · cases hb : listed.getD i true with
                | false => rfl
                | true => exact absurd ((hlist i hil).1 hb) h'
              · have hlt' := ok.back i l[i] (List.getElem?_eq_getElem hil) e (by simpa using he) hb
                have := (hlist e.on (by omega)).2 (ihs e.on hlt' (by omega))
                simp only [Array.getD_eq_getD_getElem?] at this ⊢
                rw [Array.getElem?_eq_getElem (by omega)] at this ⊢
                simpa using this
            rw [h0] at this
            cases this
      · obtain ⟨hil, hnex, hclo⟩ := ahead i hi
        have him := small i hi
        obtain ⟨o, ho⟩ : ∃ o, l[i]? = some o := ⟨l[i], List.getElem?_eq_getElem hil⟩
        have hG := stepsP_get (l.take m) 0 hstep i o (by rw [List.getElem?_take, if_pos him]; exact ho) vals (made own uses vals ex ++ L0) (fun j hj => hphi j (hclo j (ok.cls i hil j (by simpa using hj))))
        rw [Nat.zero_add] at hG
        have H2 : Holds F (Bs ++ (made own uses vals ex ++ L0)) w := by
          refine Sub.holds (Sub.perm ?_) HH
          rw [← List.append_assoc, ← List.append_assoc]
          exact List.perm_append_comm.append_right L0
        have hone : ∀ (k j : Nat) (o q : Oper), (l.take i)[k]? = some o → (l.take i)[j]? = some q → ∀ d, o.dst = some d → q.dst = some d → k = j := by
          intro k j o q ho hq d hd hqd
          rw [List.getElem?_take] at ho hq
          split at ho
          · split at hq
            · rename_i h1 h2
              exact ok.one k j o q (by omega) (by omega) ho hq d hd hqd
            · cases hq
          · cases ho
        have slot : ∀ s ∈ o.looksAt l.toArray, a.tmps.getD s undef = canon vals (l.take i) 0 ρ s := by
          intro s hs
          obtain ⟨c1, c2⟩ := canon_get vals (l.take i) 0 ρ s hone
          by_cases hw : ∃ j q, j < m ∧ l[j]? = some q ∧ q.dst = some s
          · obtain ⟨j, q, hj, hq, hd⟩ := hw
            obtain ⟨hjc, hji⟩ := ok.read i j o q him hj ho hq s hs hd
            rw [hs1 j (hclo j hjc) q hq s hd, c1 j q (by rw [List.getElem?_take, if_pos hji]; exact hq) hd, Nat.zero_add]
          · rw [hs2 s (fun j hj q hq hd => hw ⟨j, q, hlt j hj, hq, hd⟩), c2 (fun j q hq hd => by
              rw [List.getElem?_take] at hq
              split at hq
              · rename_i hj; exact hw ⟨j, q, by omega, hq, hd⟩
              · cases hq)]
        have hev : execOp a.eval o = execOp (evO (canon vals (l.take i) 0 ρ)) o := by
          refine execOp_congr o (ok.sel i o ho) fun x hx => ?_
          cases x with
          | tmp t => exact slot t (List.mem_append_left _ (List.mem_filterMap.2 ⟨.tmp t, by simpa using hx, rfl⟩))
          | _ => rfl
        have hus : ∀ j ∈ uses.getD i [], j ≠ i := fun j hj e => hnex (hclo i (e ▸ ok.uses i hil j hj))
        have husx : ∀ k ∈ ex, i ∉ uses.getD k [] := fun k hk hm => hnex (hdown k hk i (ok.uses k (by have := hlt k hk; omega) i hm))
        have hdo : dOk n o.dst = true := by
          simp only [opsOk, List.all_eq_true] at cok'
          exact cok' o (List.mem_of_getElem? ho)
        have next : ∀ v w', Holds F (own i ((uses.getD i []).map vals) v ++ (Bs ++ (made own uses vals ex ++ L0))) w' → phi i ((uses.getD i []).map vals) v → wpAnyIn (FR r0) 9 P .any l.toArray (lowI n d0 F Q) fuel (listed.setIfInBounds i true) (a.put o.dst v) w' := by
          intro v w' H3 hp
          have hi' : (uses.getD i []).map (fun j => if j = i then v else vals j) = (uses.getD i []).map vals := map_upd (fun h => hus i h rfl)
          have hx' : ∀ k ∈ ex, (uses.getD k []).map (fun j => if j = i then v else vals j) = (uses.getD k []).map vals := fun k hk => map_upd (husx k hk)
          have hki : ∀ k ∈ ex, k ≠ i := fun k hk e => hnex (e ▸ hk)
          have hmade : made own uses (fun j => if j = i then v else vals j) (i :: ex) = own i ((uses.getD i []).map vals) v ++ made own uses vals ex := by
            simp only [made, List.flatMap_cons, hi', if_true]
            congr 1
            rw [List.flatMap_def, List.flatMap_def]
            congr 1
            apply List.map_congr_left
            intro k hk
            rw [hx' k hk, if_neg (hki k hk)]
          refine ih (listed.setIfInBounds i true) (i :: ex) (fun j => if j = i then v else vals j) _ w' (by simp; omega) (by simp [hsz]) (List.nodup_cons.2 ⟨hnex, hnd⟩) ?_ ?_ ?_ ?_ ?_ ?_ ?_ ?_ ?_
          · intro k hk; rcases List.mem_cons.1 hk with rfl | hk
            · exact him
            · exact hlt k hk
          · intro k hk
            simp only [Array.getD_eq_getD_getElem?, Array.getElem?_setIfInBounds, List.mem_cons]
            by_cases hik : i = k
            · subst hik; simp [hsz, hil]
            · have := hlist k hk
              simp only [Array.getD_eq_getD_getElem?] at this
              simp only [hik, if_false, this]
              constructor
              · exact fun h => .inr h
              · rintro (rfl | h)
                · exact absurd rfl hik
                · exact h
          · intro k hk j hj
            rcases List.mem_cons.1 hk with rfl | hk
            · exact List.mem_cons_of_mem _ (hclo j hj)
            · exact List.mem_cons_of_mem _ (hdown k hk j hj)
          · intro k hk
            rcases List.mem_cons.1 hk with rfl | hk
            · rw [hi', if_pos rfl]; exact hp
            · rw [hx' k hk, if_neg (hki k hk)]; exact hphi k hk
          · cases o.dst <;> simp [Act.put, hsize]
          · cases o.dst <;> simp [Act.put, hdef]
          · intro k hk q hq s hd
            rcases List.mem_cons.1 hk with rfl | hk
            · rw [ho] at hq; cases hq
              rw [if_pos rfl, hd]
              have hsn : s < n := by rw [hd] at hdo; exact Nat.le_of_ble_eq_true hdo
              simp [Act.put, Array.getD_eq_getD_getElem?, Array.getElem?_setIfInBounds, hsize, hsn]
            · rw [if_neg (hki k hk)]
              have hne : o.dst ≠ some s := fun e => hki k hk (ok.one k i q o (hlt k hk) him hq ho s hd e)
              have := hs1 k hk q hq s hd
              cases hod : o.dst with
              | none => simpa [Act.put] using this
              | some d =>
                have hds : d ≠ s := fun e => hne (by rw [hod, e])
                simp only [Act.put, Array.getD_eq_getD_getElem?, Array.getElem?_setIfInBounds_ne hds] at this ⊢
                exact this
          · intro s hno
            have hne : o.dst ≠ some s := hno i List.mem_cons_self o ho
            have := hs2 s (fun k hk q hq => hno k (List.mem_cons_of_mem _ hk) q hq)
            cases hod : o.dst with
            | none => simpa [Act.put] using this
            | some d =>
              have hds : d ≠ s := fun e => hne (by rw [hod, e])
              simp only [Act.put, Array.getD_eq_getD_getElem?, Array.getElem?_setIfInBounds_ne hds] at this ⊢
              exact this
          · rw [hmade]
            refine Sub.holds (Sub.perm ?_) H3
            rw [List.append_assoc]
            refine List.Perm.append_left _ ?_
            rw [← List.append_assoc, ← List.append_assoc]
            exact List.perm_append_comm.append_right L0
        have opwp : XOp P o (canon vals (l.take i) 0 ρ) F (Bs ++ (made own uses vals ex ++ L0)) (fun v F' L' => F = F' ∧ phi i ((uses.getD i []).map vals) v ∧ L' = own i ((uses.getD i []).map vals) v ++ (Bs ++ (made own uses vals ex ++ L0))) →
            o.wpIn (FR r0) 9 P a w (wpAnyIn (FR r0) 9 P .any l.toArray (lowI n d0 F Q) fuel (listed.setIfInBounds i true)) (lowI n d0 F Q) := by
          intro hop
          refine ⟨fun _ _ => trivial, ?_⟩
          rw [Oper.semAt_eq _ _ _ (cokD o (List.mem_of_getElem? ho)), hev]
          rcases hop w H2 with ⟨v, w', F', L', h1, _, h3, rfl, hp, rfl⟩ | ⟨w', F', L', h1, _, h3, rfl, hp, rfl⟩ | ⟨f, args, w', h1, h2⟩
          · rw [h1]; exact next v w' h3 hp
          · rw [h1]; exact next undef w' h3 hp
          · rw [h1]
            refine ⟨fun _ => by decide, callsIn_FR (h2.mono fun e w'' ⟨v, F', L', he, _, hH, hk⟩ => ?_)⟩
            obtain ⟨rfl, hp, rfl⟩ := hk
            subst he
            exact next v w'' hH hp
        unfold wpOpIn
        have hoA : l.toArray[i]? = some o := by simpa using ho
        rw [hoA]
        show (if Region.wanted o (yielded l.toArray a.tmps) = true then _ else _)
        unfold XG at hG
        cases hg : o.guard with
        | none =>
          rw [hg] at hG
          rw [if_pos (by simp [Region.wanted, hg])]
          exact opwp hG
        | some gw =>
          obtain ⟨j, want⟩ := gw
          rw [hg] at hG
          obtain ⟨t, b, ht, hv, hif⟩ := hG
          have hy : yielded l.toArray a.tmps j = some b := by
            unfold yielded
            rw [ht]
            have hts := slot t (List.mem_append_right _ (by simp only [hg]; simpa using ht))
            rw [hv, Array.getD_eq_getD_getElem?] at hts
            cases hx : a.tmps[t]? with
            | none => rw [hx] at hts; simp [undef] at hts
            | some x => rw [hx] at hts; simp at hts; subst hts; simp [hx]
          by_cases hb : b = want
          · rw [if_pos hb] at hif
            rw [if_pos (by simp [Region.wanted, hg, hy, hb])]
            exact opwp hif
          · rw [if_neg hb] at hif
            rw [if_neg (by simp [Region.wanted, hg, hy, hb])]
            obtain ⟨_, hp, hL'⟩ := hif
            have := next undef w (by rw [← hL']; exact H2) hp
            exact ⟨fun _ _ => trivial, this⟩
  refine headP l.toArray.size (Array.replicate l.toArray.size false) [] (fun _ => undef) a w0 (by simp) (by simp) List.nodup_nil (by simp) ?_ (by simp) (by simp) r.size r.defers (by simp) (fun s _ => r.get s) H1
  intro i hi
  simp only [Array.getD_eq_getD_getElem?, Array.getElem?_replicate]
  simp [hi]

/- 2. A ROUND -/

/-- The slots of a round: the record's, the loop's variables set. -/
def setP : List (Tmp × Value) → Env → Env
  | [], ρ => ρ
  | p :: l, ρ => setP l (upd ρ p.1 p.2)
theorem setP_rep {n : Nat} : ∀ (l : List (Tmp × Value)) (t : Array Value) (ρ : Env), t.size = n → (∀ i, t.getD i undef = ρ i) → (∀ p ∈ l, p.1 < n) →
    ((l.foldl (fun t (p : Tmp × Value) => t.setIfInBounds p.1 p.2) t).size = n ∧ ∀ i, (l.foldl (fun t (p : Tmp × Value) => t.setIfInBounds p.1 p.2) t).getD i undef = setP l ρ i)
  | [], t, ρ, h1, h2, _ => ⟨h1, h2⟩
  | p :: l, t, ρ, h1, h2, h3 => by
    rw [List.foldl_cons]
    refine setP_rep l _ _ (by simp [h1]) (fun i => ?_) (fun q hq => h3 q (List.mem_cons_of_mem _ hq))
    have hp := h3 p (by simp)
    have r : Rep n { tmps := t, defers := [] } ρ := ⟨h1, rfl, h2⟩
    have := (r.put (d := some p.1) (by simpa [dOk, Nat.blt] using Nat.ble_eq_true_of_le hp) p.2).get i
    simpa [Act.put, putE] using this

/-- How a round may end here: off its body's end, the record busy as the round left it. -/
def roundQ (l : Nat) (R : Loop) (K : Post) : QX := fun e _ F L => e = .normal ∧ ∃ L0, Sub L (objH l (.loop { R with state := .busy }) :: L0) ∧ K (.bool true) F (objH l (.loop { R with state := .ready, pending := none }) :: L0)

theorem Holds.turn {F : FH} {L : List HP} {l : Nat} {o o' : Obj} {w : World} (H : Holds F (objH l o :: L) w) : Holds F (objH l o' :: L) (w.putObj l o') := by
  have hg := Holds.get (A := []) H
  have hlt := (Array.getElem?_eq_some_iff.1 hg).1
  exact Holds.put (A := []) H rfl rfl rfl (World.putObj_heap_same hlt) (fun k hk => World.putObj_heap_other hk)

theorem Yld.of_round {P : Program} {n l : Nat} {R : Loop} {ps : Array Tmp} {assign body : Code} {args : List Value} {F : FH} {L : List HP} {ρ : Env} {K : Post}
    (hr : R.state = .ready) (hp0 : R.pending = none) (hps : R.params = ps) (ha : R.assign = assign) (hb : R.body = body) (hsz : R.tmps.size = n) (hget : ∀ i, R.tmps.getD i undef = ρ i)
    (hlen : args.length = ps.size) (hlt0 : (ps.toList.all fun p => Nat.blt p n) = true) (oka : cOkI n assign = true) (okb : cOkI n body = true)
    (h : XI P n (some l) [] assign (thenQ (fun ρ1 F1 L1 => ∃ L2, Sub L1 (objH l (.loop R) :: L2) ∧ XI P n (some l) [] body (roundQ l R K) ρ1 F1 (objH l (.loop { R with state := .busy }) :: L2)) (fun _ _ _ _ => False)) (setP (ps.toList.zip args) ρ) F (objH l (.loop R) :: L)) :
    Yld P l args F (objH l (.loop R) :: L) K := by
  have hlt : ∀ p ∈ ps.toList, p < n := fun p hp => Nat.le_of_ble_eq_true (List.all_eq_true.1 hlt0 p hp)
  intro w H
  have hl := Holds.get (A := []) H
  have hy := run_yield (P := P) (args := args.toArray) hl (by rw [hps]; simp [hlen])
  refine ⟨_, _, _, _, hy, roundIn_of_wpIn trivial ?_⟩
  have hfold : (R.params.zip args.toArray).foldl (fun tmps (x : Tmp × Value) => tmps.setIfInBounds x.1 x.2) R.tmps = (ps.toList.zip args).foldl (fun t (p : Tmp × Value) => t.setIfInBounds p.1 p.2) R.tmps := by
    rw [hps, ← Array.foldl_toList, Array.toList_zip]
  have hset := setP_rep (n := n) (ps.toList.zip args) R.tmps ρ hsz hget (fun p hp => hlt p.1 (List.of_mem_zip hp).1)
  have hrep : RepD n [] { tmps := (R.params.zip args.toArray).foldl (fun tmps (x : Tmp × Value) => tmps.setIfInBounds x.1 x.2) R.tmps, defers := [] } (setP (ps.toList.zip args) ρ) := by
    rw [hfold]; exact ⟨hset.1, rfl, hset.2⟩
  rw [ha, hb]
  refine wpIn_mono (F := Fence.wide.inRound l) (n := 9) (show Code.wpIn (Fence.wide.inRound l) 9 P assign _ _ w from h oka _ w hrep H) ?_
  rintro e a1 w1 ⟨ρ1, F1, L1, r1, le1, H1, q⟩
  cases e with
  | normal =>
    obtain ⟨L2, s2, q2⟩ := q
    have H2 := s2.holds H1
    have hl2 := Holds.get (A := []) H2
    refine ⟨_, run_beginRound hl2 hr, ?_⟩
    refine wpIn_mono (F := Fence.wide.inRound l) (n := 9) (show Code.wpIn (Fence.wide.inRound l) 9 P body _ _ _ from q2 okb a1 _ r1 H2.turn) ?_
    rintro e a3 w3 ⟨ρ3, F3, L3, r3, le3, H3, he, L4, s4, k4⟩
    subst he
    have H4 := s4.holds H3
    have hl4 := Holds.get (A := []) H4
    refine ⟨_, _, run_endRound none hl4, _, F3, _, rfl, le1.trans le3, H4.turn, ?_⟩
    exact k4
  | _ => exact q.elim

/- 3. THE LOOP, AND THE FUNCTION THAT HOLDS IT -/

def markD (D : Nat) : List Deferred := [{ target := .collected D, args := #[] }]
def fin (P : Program) (F0 : FH) (Q : Post) : Ending → World → Prop := fun e w' => ∃ v F' L', e = .returned v ∧ F0 ≤ F' ∧ Holds F' L' w' ∧ Q v F' L'
/-- A function's code, up to its end: what its walk must achieve, be there a mark among its deferred calls or not. -/
def XF (P : Program) (fn : Func) (F0 : FH) (c : Code) (Q : Post) (ρ : Env) (F : FH) (L : List HP) : Prop :=
  cOkI fn.ntmps c = true → ∀ a w, Rep fn.ntmps a ρ → Holds F L w → c.wpIn Fence.wide 9 P (bodyPostM Fence.wide 9 P fn (fin P F0 Q)) a w

theorem Does.of_XF {P : Program} {f : FuncId} {fn : Func} {c : Code} {args : List Value} {F : FH} {L : List HP} {Q : Post}
    (hf : P.funcs[f]? = some fn) (hb : fn.body = some c) (hd : cOkI fn.ntmps c = true) (hn : Nat.ble args.length fn.ntmps = true)
    (h : XF P fn F c Q (env0 args) F L) : Does P f args F L Q := by
  intro w H
  refine callsIn_wide.1 (callsIn_of_wp_marks (n := 9) hf hb trivial (h hd _ w ⟨?_, rfl, fun i => ?_⟩ H))
  · have := Nat.le_of_ble_eq_true hn
    simp
    omega
  · simp only [env0, Array.getD_eq_getD_getElem?, List.getD_eq_getElem?_getD, Array.getElem?_append, List.size_toArray, List.getElem?_toArray, Array.getElem?_replicate]
    split
    · rfl
    · rename_i hi
      rw [List.getElem?_eq_none (Nat.le_of_not_lt hi)]
      split <;> rfl

theorem cOkI_cOk {n : Nat} : ∀ {c : Code}, cOkI n c = true → cOk n c = true
  | .region _ ops _, h => opsOkI_ops (l := ops.toList) h
  | .seq a b, h => by simp only [cOkI, cOk, Bool.and_eq_true] at h ⊢; exact ⟨cOkI_cOk h.1, cOkI_cOk h.2⟩
  | .cond _ a b, h => by simp only [cOkI, cOk, Bool.and_eq_true] at h ⊢; exact ⟨cOkI_cOk h.1, cOkI_cOk h.2⟩
  | .block _ a, h => by simp only [cOkI, cOk] at h ⊢; exact cOkI_cOk h
  | .loop a, h => by simp only [cOkI, cOk] at h ⊢; exact cOkI_cOk h
  | .scope a, h => by simp only [cOkI, cOk] at h ⊢; exact cOkI_cOk h
  | .rangeFunc _ _ a b, h => by simp only [cOkI, cOk, Bool.and_eq_true] at h ⊢; exact ⟨cOkI_cOk h.1, cOkI_cOk h.2⟩
  | .skip, _ => rfl
  | .exit _, _ => rfl
  | .ret, _ => rfl
  | .label _, _ => rfl
  | .goto _, _ => rfl
  | .refuse _, _ => rfl

/-- The end of a function whose deferred calls are the one mark. -/
def finD (P : Program) (fn : Func) (F0 : FH) (D : Nat) (Q : Post) : QX := fun e ρ F L => (e = .ret ∨ e = .normal) ∧ ∃ vs L1 L' F2, ResAll P F (objH D (.deferred none) :: L1) ρ fn.results.toList vs ∧ F0 ≤ F2 ∧ F2 ≤ F ∧ Sub L (objH D (.deferred (some [])) :: L1) ∧ Sub L1 L' ∧ Q (oneOr vs) F2 L'
theorem retEndD {P : Program} {fn : Func} {F0 F2 : FH} {D : Nat} {Q : Post} {ρ : Env} {F : FH} {L L' : List HP} (vs : List Value) (v : Value) (hr : ∀ F L, ResAll P F L ρ fn.results.toList vs) (hv : oneOr vs = v) (l1 : F0 ≤ F2) (l2 : F2 ≤ F) (s : Sub L (objH D (.deferred (some [])) :: L')) (h : Q v F2 L') : finD P fn F0 D Q .ret ρ F L :=
  ⟨.inl rfl, vs, L', L', F2, hr _ _, l1, l2, s, Sub.refl _, hv ▸ h⟩
theorem retEndC {P : Program} {fn : Func} {F0 F2 : FH} {D : Nat} {Q : Post} {ρ : Env} {F : FH} {L L' : List HP} (L1 : List HP) (vs : List Value) (v : Value) (hr : ResAll P F (objH D (.deferred none) :: L1) ρ fn.results.toList vs) (hv : oneOr vs = v) (l1 : F0 ≤ F2) (l2 : F2 ≤ F) (s : Sub L (objH D (.deferred (some [])) :: L1)) (s2 : Sub L1 L') (h : Q v F2 L') : finD P fn F0 D Q .ret ρ F L :=
  ⟨.inl rfl, vs, L1, L', F2, hr, l1, l2, s, s2, hv ▸ h⟩

section
variable {P : Program} {fn : Func} {Q : Post} {ρ : Env} {F F0 : FH} {L : List HP}
theorem XF.seq {x y : Code} (h : X P fn.ntmps x (thenQ (fun ρ' F' L' => XF P fn F0 y Q ρ' F' L') (fun _ _ _ _ => False)) ρ F L) : XF P fn F0 (.seq x y) Q ρ F L := by
  intro ok a w r H
  simp only [cOkI, Bool.and_eq_true] at ok
  refine wpIn_seq (wpIn_mono (wpIn_wide.2 (h (cOkI_cOk ok.1) a w r H)) ?_)
  rintro e a' w' ⟨ρ', F', L', r', le, H', q⟩
  cases e with
  | normal => exact q ok.2 a' w' r' H'
  | _ => exact q.elim
/-- The function's code, c and then the rest, up to its end. -/
def XR (P : Program) (fn : Func) (F0 : FH) (c rest : Code) (Q : Post) (ρ : Env) (F : FH) (L : List HP) : Prop :=
  cOkI fn.ntmps c = true → cOkI fn.ntmps rest = true → ∀ a w, Rep fn.ntmps a ρ → Holds F L w →
    c.wpIn Fence.wide 9 P (Exit.then (rest.wpIn Fence.wide 9 P (bodyPostM Fence.wide 9 P fn (fin P F0 Q))) (bodyPostM Fence.wide 9 P fn (fin P F0 Q))) a w
theorem XF.ofR {c rest : Code} (h : XR P fn F0 c rest Q ρ F L) : XF P fn F0 (.seq c rest) Q ρ F L := by
  intro ok a w r H
  simp only [cOkI, Bool.and_eq_true] at ok
  exact wpIn_seq (h ok.1 ok.2 a w r H)
theorem XR.seq {x y rest : Code} (h : X P fn.ntmps x (thenQ (fun ρ' F' L' => XR P fn F0 y rest Q ρ' F' L') (fun _ _ _ _ => False)) ρ F L) : XR P fn F0 (.seq x y) rest Q ρ F L := by
  intro ok okr a w r H
  simp only [cOkI, Bool.and_eq_true] at ok
  refine wpIn_seq (wpIn_mono (wpIn_wide.2 (h (cOkI_cOk ok.1) a w r H)) ?_)
  rintro e a' w' ⟨ρ', F', L', r', le, H', q⟩
  cases e with
  | normal => exact q ok.2 okr a' w' r' H'
  | _ => exact q.elim
theorem XF.freeze {c : Code} (A B : List HP) (h : HP) (hL : L = A ++ h :: B) (H : ∀ F', F ≤ F' → Fz h F' → XF P fn F0 c Q ρ F' (A ++ B)) : XF P fn F0 c Q ρ F L := by
  subst hL
  intro ok a w r Hw
  obtain ⟨F', le, fz, H'⟩ := Hw.freeze
  exact H F' le fz ok a w r H'
theorem XF.weaken {c : Code} {L' : List HP} (s : Sub L L') (h : XF P fn F0 c Q ρ F L') : XF P fn F0 c Q ρ F L := fun ok a w r H => h ok a w r (s.holds H)
theorem XF.slots {c : Code} (l : List (Nat × Value)) (hs : sat ρ l) (h : ∀ r, XF P fn F0 c Q (envs l r) F L) : XF P fn F0 c Q ρ F L := by
  have := h ρ
  rwa [envs_of_sat hs] at this

theorem XF.range {g : Operand} {ps : Array Tmp} {assign body rest : Code} {gf : Nat} {lb : List Value}
    (hg : evO ρ g = .func (.func gf) #[] lb.toArray) (eg : ∀ args w, (callFunc gf args).run P w = .ok (.enter gf args) w)
    (h : ∀ (l D : Nat) (R : Loop), R.state = .ready → R.pending = none → R.params = ps → R.assign = assign → R.body = body → R.tmps.size = fn.ntmps → (∀ i, R.tmps.getD i undef = ρ i) →
      Does P gf (.func (.yield l) #[] #[] :: lb) F (objH l (.loop R) :: objH D (.deferred (some [])) :: L) (fun _ F' L' => ∃ (R' : Loop) (L2 : List HP), R'.state ≠ .busy ∧ R'.pending = none ∧
        Sub L' (objH l (.loop R') :: objH D (.deferred (some [])) :: L2) ∧ XI P fn.ntmps none (markD D) rest (finD P fn F0 D Q) ρ F' (objH D (.deferred (some [])) :: L2))) :
    XF P fn F0 (.seq (.rangeFunc g ps assign body) rest) Q ρ F L := by
  intro ok a w r H
  simp only [cOkI, Bool.and_eq_true] at ok
  refine wpIn_seq (wpIn_rangeFunc (fun fid _ => ?_))
  have H1 := H.new (.deferred (some []))
  have H2 := H1.new (.loop { state := .ready, pending := none, fn := fid, tmps := a.tmps, params := ps, assign, body, defers := w.heap.size })
  rw [World.size_alloc] at H2
  have he := run_enterLoop_outer (P := P) (w := w) fid a.tmps ps assign body
  generalize (w.alloc (.deferred (some []))).alloc (.loop { state := .ready, pending := none, fn := fid, tmps := a.tmps, params := ps, assign, body, defers := w.heap.size }) = W1 at he H2
  have hd := h (w.heap.size + 1) w.heap.size { state := .ready, pending := none, fn := fid, tmps := a.tmps, params := ps, assign, body, defers := w.heap.size } rfl rfl rfl rfl rfl r.size r.get W1 H2
  refine ⟨w.heap.size + 1, markD w.heap.size, W1, { target := .fn (.func gf) lb.toArray, args := #[.func (.yield (w.heap.size + 1)) #[] #[]] }, W1, gf, #[.func (.yield (w.heap.size + 1)) #[] #[]] ++ lb.toArray, W1, he, ?_, fun _ _ => trivial, ?_, fun _ => by decide, ?_⟩
  · have hg' : a.eval g = .func (.func gf) #[] lb.toArray := by rw [r.eval]; exact hg
    simp only [resolve, hg', Deferred.ofValue]
    simp [go_sem, Act.eval]
  · simp [invoke, go_sem, eg]
  · have hargs : (Value.func (.yield (w.heap.size + 1)) #[] #[] :: lb).toArray = #[.func (.yield (w.heap.size + 1)) #[] #[]] ++ lb.toArray := by simp
    rw [hargs] at hd
    refine callsIn_wide.2 (hd.mono ?_)
    rintro e w3 ⟨v, F', L', rfl, le, H3, R', L2, hb, hp, hs, hx⟩
    have H4 := hs.holds H3
    have hl := Holds.get (A := []) H4
    have hend := (run_endLoop (P := P) hl hb).trans (congrArg (fun p => Result.ok p _) hp)
    have H5 := (Sub.drop (Sub.refl _)).holds (H4.turn (o' := .loop { R' with state := .exhausted }))
    refine ⟨none, _, hend, ?_⟩
    have r' : RepD fn.ntmps (markD w.heap.size) { a with defers := markD w.heap.size ++ a.defers } ρ := ⟨r.size, by simp [r.defers], r.get⟩
    refine wpIn_mono (hx ok.2 _ _ r' H5) ?_
    rintro e a4 w4 ⟨ρ4, F4, L4, r4, le4, H6, he, vs, L5, L6, F2, hv, l1, l2, hsub, hsub2, q⟩
    have H7 := hsub.holds H6
    have hk := Holds.get (A := []) H7
    have H8 := H7.turn (o' := .deferred none)
    have hres := results_run (P := P) (fn := fn) (n := fn.ntmps) (a := { a4 with defers := [] }) (w := w4.putObj w.heap.size (.deferred none)) ⟨r4.size, rfl, r4.get⟩ H8 hv
    have hfin : fin P F0 Q (.returned (oneOr vs)) (w4.putObj w.heap.size (.deferred none)) := ⟨_, F2, L6, rfl, l1, ((Sub.drop hsub2).holds H8).forget l2, q⟩
    have hlv : LeavesInM Fence.wide 9 P fn a4.tmps (fin P F0 Q) (markD w.heap.size) .returning w4 := ⟨by simp, .inl ⟨_, _, rfl, run_takeDeferred hk, ⟨_, hres, hfin⟩⟩⟩
    rcases he with rfl | rfl
    · show LeavesInM _ _ _ _ _ _ a4.defers _ _
      rw [r4.defers]; exact hlv
    · show LeavesInM _ _ _ _ _ _ a4.defers _ _
      rw [r4.defers]; exact hlv
theorem XR.rangeB {id : Nat} {g : Operand} {ps : Array Tmp} {assign body rest : Code} {gf : Nat} {lb : List Value}
    (hg : evO ρ g = .func (.func gf) #[] lb.toArray) (eg : ∀ args w, (callFunc gf args).run P w = .ok (.enter gf args) w)
    (h : ∀ (l D : Nat) (R : Loop), R.state = .ready → R.pending = none → R.params = ps → R.assign = assign → R.body = body → R.tmps.size = fn.ntmps → (∀ i, R.tmps.getD i undef = ρ i) →
      Does P gf (.func (.yield l) #[] #[] :: lb) F (objH l (.loop R) :: objH D (.deferred (some [])) :: L) (fun _ F' L' => ∃ (R' : Loop) (L2 : List HP), R'.state ≠ .busy ∧ R'.pending = none ∧
        Sub L' (objH l (.loop R') :: objH D (.deferred (some [])) :: L2) ∧ XI P fn.ntmps none (markD D) rest (finD P fn F0 D Q) ρ F' (objH D (.deferred (some [])) :: L2))) :
    XR P fn F0 (.block id (.rangeFunc g ps assign body)) rest Q ρ F L := by
  intro ok1 okr a w r H
  have ok : cOkI fn.ntmps (.block id (.rangeFunc g ps assign body)) = true ∧ cOkI fn.ntmps rest = true := ⟨ok1, okr⟩
  refine wpIn_block (wpIn_rangeFunc (fun fid _ => ?_))
  have H1 := H.new (.deferred (some []))
  have H2 := H1.new (.loop { state := .ready, pending := none, fn := fid, tmps := a.tmps, params := ps, assign, body, defers := w.heap.size })
  rw [World.size_alloc] at H2
  have he := run_enterLoop_outer (P := P) (w := w) fid a.tmps ps assign body
  generalize (w.alloc (.deferred (some []))).alloc (.loop { state := .ready, pending := none, fn := fid, tmps := a.tmps, params := ps, assign, body, defers := w.heap.size }) = W1 at he H2
  have hd := h (w.heap.size + 1) w.heap.size { state := .ready, pending := none, fn := fid, tmps := a.tmps, params := ps, assign, body, defers := w.heap.size } rfl rfl rfl rfl rfl r.size r.get W1 H2
  refine ⟨w.heap.size + 1, markD w.heap.size, W1, { target := .fn (.func gf) lb.toArray, args := #[.func (.yield (w.heap.size + 1)) #[] #[]] }, W1, gf, #[.func (.yield (w.heap.size + 1)) #[] #[]] ++ lb.toArray, W1, he, ?_, fun _ _ => trivial, ?_, fun _ => by decide, ?_⟩
  · have hg' : a.eval g = .func (.func gf) #[] lb.toArray := by rw [r.eval]; exact hg
    simp only [resolve, hg', Deferred.ofValue]
    simp [go_sem, Act.eval]
  · simp [invoke, go_sem, eg]
  · have hargs : (Value.func (.yield (w.heap.size + 1)) #[] #[] :: lb).toArray = #[.func (.yield (w.heap.size + 1)) #[] #[]] ++ lb.toArray := by simp
    rw [hargs] at hd
    refine callsIn_wide.2 (hd.mono ?_)
    rintro e w3 ⟨v, F', L', rfl, le, H3, R', L2, hb, hp, hs, hx⟩
    have H4 := hs.holds H3
    have hl := Holds.get (A := []) H4
    have hend := (run_endLoop (P := P) hl hb).trans (congrArg (fun p => Result.ok p _) hp)
    have H5 := (Sub.drop (Sub.refl _)).holds (H4.turn (o' := .loop { R' with state := .exhausted }))
    refine ⟨none, _, hend, ?_⟩
    have r' : RepD fn.ntmps (markD w.heap.size) { a with defers := markD w.heap.size ++ a.defers } ρ := ⟨r.size, by simp [r.defers], r.get⟩
    refine wpIn_mono (hx ok.2 _ _ r' H5) ?_
    rintro e a4 w4 ⟨ρ4, F4, L4, r4, le4, H6, he, vs, L5, L6, F2, hv, l1, l2, hsub, hsub2, q⟩
    have H7 := hsub.holds H6
    have hk := Holds.get (A := []) H7
    have H8 := H7.turn (o' := .deferred none)
    have hres := results_run (P := P) (fn := fn) (n := fn.ntmps) (a := { a4 with defers := [] }) (w := w4.putObj w.heap.size (.deferred none)) ⟨r4.size, rfl, r4.get⟩ H8 hv
    have hfin : fin P F0 Q (.returned (oneOr vs)) (w4.putObj w.heap.size (.deferred none)) := ⟨_, F2, L6, rfl, l1, ((Sub.drop hsub2).holds H8).forget l2, q⟩
    have hlv : LeavesInM Fence.wide 9 P fn a4.tmps (fin P F0 Q) (markD w.heap.size) .returning w4 := ⟨by simp, .inl ⟨_, _, rfl, run_takeDeferred hk, ⟨_, hres, hfin⟩⟩⟩
    rcases he with rfl | rfl
    · show LeavesInM _ _ _ _ _ _ a4.defers _ _
      rw [r4.defers]; exact hlv
    · show LeavesInM _ _ _ _ _ _ a4.defers _ _
      rw [r4.defers]; exact hlv
end
end Go.Proofs.Ytiaanelimbmniaa.X
