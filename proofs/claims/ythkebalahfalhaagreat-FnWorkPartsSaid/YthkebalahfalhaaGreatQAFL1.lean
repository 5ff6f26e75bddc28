/-
  What the walks rest on (part 2).
-/
import Derived.Orders
import Derived.Tactics
import Derived.Below
import Derived.Laws.CopyRow
import Derived.Laws.AppendOwn
import Derived.IntWalk
import Derived.Lib.AppendZeros
import Derived.Scope
import Derived.OrdersIn
import Derived.TacticsIn
import Derived.RangeFuncSeq
import Derived.RangeFuncRecord
import Derived.RangeFuncLeaves
import Derived.Laws.Append
import Derived.WalkKit
import Derived.ProofKit
import Derived.OpenShut
import Derived.JoinedCond
import Derived.Carry
import Derived.Deep.Slices
import Derived.Test.YthkebalahfalhaaGreatQAFL0
set_option linter.unusedSimpArgs false
set_option linter.unusedVariables false
namespace Go.Proofs.YthkebalahfalhaaGreat.M
def argsGo (ar t : List Int) : Nat → Nat → List Int
 | 0, _ => []
 | n + 1, q => (q : Int) :: argsGo ar t n (endN ar t q)
def argsL (ar t : List Int) (p : Nat) : List Int := argsGo ar t (arity ar (t.getD p 0)).toNat (p + 1)
def Stand (ar t : List Int) (n q e : Nat) : Prop := endGo ar (t.drop q) n = some (e - q) ∧ q ≤ e ∧ e ≤ t.length
theorem stand_start {ar t : List Int} (h : termOk ar t = true) {p : Nat} (hp : p < t.length) : Stand ar t (arity ar (t.getD p 0)).toNat (p + 1) (endN ar t p) := by
 have he := endN_spec h hp
 obtain ⟨e, h1, h2, h3⟩ := endAt_some h hp
 have hN : endN ar t p = e := by simp [endN, h1]
 unfold endAt at h1
 rw [endGo_step (by omega) hp (termOk_lt h hp)] at h1
 rw [Nat.sub_self, Nat.zero_add] at h1
 refine ⟨?_, by omega, by omega⟩
 cases hg : endGo ar (t.drop (p + 1)) (arity ar (t.getD p 0)).toNat with
 | none => rw [hg] at h1; cases h1
 | some q => rw [hg] at h1; simp only [Option.map_some, Option.some.injEq] at h1; rw [Option.some.injEq]; omega
theorem stand_step {ar t : List Int} (h : termOk ar t = true) {n q e : Nat} (hs : Stand ar t (n + 1) q e) : q < t.length ∧ Stand ar t n (endN ar t q) e ∧ q < endN ar t q ∧ endN ar t q ≤ e := by
 obtain ⟨h1, h2, h3⟩ := hs
 have hpos := endGo_pos h1
 have hq : q < t.length := by omega
 have h1' := h1
 rw [Nat.add_comm] at h1
 obtain ⟨e1, e2, g1, g2, g3⟩ := endGo_split h1
 have hN : endN ar t q = q + e1 := by simp [endN, endAt, g1]
 have hE := endN_spec h hq
 rw [List.drop_drop] at g2
 refine ⟨hq, ⟨?_, by omega, h3⟩, by omega, by omega⟩
 rw [hN, g2]; congr 1; omega
theorem argsGo_len (ar t : List Int) : ∀ n q, (argsGo ar t n q).length = n
 | 0, _ => rfl
 | n + 1, q => by simp [argsGo, argsGo_len ar t n]
theorem argsGo_in {ar t : List Int} (h : termOk ar t = true) : ∀ {n q e : Nat}, Stand ar t n q e → ∀ k, k < n → (q : Int) ≤ (argsGo ar t n q).getD k 0 ∧ (argsGo ar t n q).getD k 0 < (e : Int)
 | 0, _, _, _, k, hk => absurd hk (by omega)
 | n + 1, q, e, hs, k, hk => by
  obtain ⟨h1, h2, h3, h4⟩ := stand_step h hs
  cases k with
  | zero => simp only [argsGo, List.getD_cons_zero]; omega
  | succ k =>
   have := argsGo_in h h2 k (by omega)
   simp only [argsGo, List.getD_cons_succ]; omega
theorem argsL_len {ar t : List Int} {p : Nat} : (argsL ar t p).length = (arity ar (t.getD p 0)).toNat := argsGo_len ..
theorem argsL_le {ar t : List Int} (h : termOk ar t = true) {p : Nat} (hp : p < t.length) : (argsL ar t p).length ≤ 3 := by
 have := arity_le (termOk_sig h) (termOk_lt h hp)
 rw [argsL_len]; omega
theorem argsL_in {ar t : List Int} (h : termOk ar t = true) {p : Nat} (hp : p < t.length) {k : Nat} (hk : k < (argsL ar t p).length) : (p : Int) < (argsL ar t p).getD k 0 ∧ (argsL ar t p).getD k 0 < (endN ar t p : Int) ∧ (argsL ar t p).getD k 0 < (t.length : Int) := by
 rw [argsL_len] at hk
 have h1 := stand_start h hp
 have := argsGo_in h h1 k hk
 have := endN_spec h hp
 unfold argsL; omega
def inAt (ar t : List Int) (x : Nat) (q : Int) : Bool := decide (q ≤ (x : Int) ∧ (x : Int) < (endN ar t q.toNat : Int))
def nextK (ar t : List Int) (x p : Nat) : Nat := (argsL ar t p).findIdx (inAt ar t x)
def pathGo (ar t : List Int) (x : Nat) : Nat → Nat → List Int
 | 0, _ => []
 | f + 1, p => if p = x then [] else (nextK ar t x p : Int) :: pathGo ar t x f ((argsL ar t p).getD (nextK ar t x p) 0).toNat
def pathL (ar t : List Int) (x : Nat) : List Int := pathGo ar t x t.length 0
theorem endN_zero {ar t : List Int} (h : termOk ar t = true) : endN ar t 0 = t.length := by
 have hw := (termOk_iff.1 h).whole
 simp [endN, endAt, hw]
end Go.Proofs.YthkebalahfalhaaGreat.M
namespace Go.Proofs.YthkebalahfalhaaGreat.X
open Go
def FR (r : Option Nat) : Fence := { Fence.wide with round := r }
theorem callsIn_FR {r : Option Nat} {n : Nat} {P : Program} {f : FuncId} {args : Array Value} {w : World} {R : Ending → World → Prop} (h : Calls P f args w R) : CallsIn (FR r) n P f args w R := by
 have h1 : CallsIn Fence.wide n P f args w R := callsIn_wide.2 h
 exact h1
structure RepD (n : Nat) (d : List Deferred) (a : Act) (ρ : Env) : Prop where
 size : a.tmps.size = n
 defers : a.defers = d
 get : ∀ i, a.tmps.getD i undef = ρ i
theorem RepD.eval {n : Nat} {d : List Deferred} {a : Act} {ρ : Env} (h : RepD n d a ρ) : a.eval = evO ρ := by
 funext x
 cases x <;> first | rfl | exact h.get _
theorem Rep.toD {n : Nat} {a : Act} {ρ : Env} (h : Rep n a ρ) : RepD n [] a ρ := ⟨h.size, h.defers, h.get⟩
theorem RepD.of {n : Nat} {a : Act} {ρ : Env} (h : RepD n [] a ρ) : Rep n a ρ := ⟨h.size, h.defers, h.get⟩
theorem RepD.put {n : Nat} {ds : List Deferred} {a : Act} {ρ : Env} (h : RepD n ds a ρ) {d : Option Tmp} (hd : dOk n d = true) (v : Value) : RepD n ds (a.put d v) (putE ρ d v) := by
 have h' : Rep n { a with defers := [] } ρ := ⟨h.size, rfl, h.get⟩
 have := h'.put hd v
 refine ⟨?_, ?_, ?_⟩
 ·have := this.size; cases d <;> exact this
 ·cases d <;> exact h.defers
 ·have := this.get; cases d <;> exact this
def notDef (o : Oper) : Bool := match o.op with | .defer _ => false | _ => true
theorem notDef_spec {o : Oper} (h : notDef o = true) : ∀ c, o.op ≠ .defer c := by
 intro c e; simp [notDef, e] at h
def opsOkI (n : Nat) (l : List Oper) : Bool := l.all fun o => dOk n o.dst && notDef o
theorem opsOkI_ops {n : Nat} {l : List Oper} (h : opsOkI n l = true) : opsOk n l = true := by
 simp only [opsOkI, opsOk, List.all_eq_true, Bool.and_eq_true] at h ⊢
 exact fun o ho => (h o ho).1
theorem opsOkI_def {n : Nat} {l : List Oper} (h : opsOkI n l = true) : ∀ o ∈ l, ∀ c, o.op ≠ .defer c := by
 simp only [opsOkI, List.all_eq_true, Bool.and_eq_true] at h
 exact fun o ho => notDef_spec (h o ho).2
def lowI (n : Nat) (d : List Deferred) (F : FH) (Q : QX) : Exit → Act → World → Prop := fun e a w => ∃ ρ F' L, RepD n d a ρ ∧ F ≤ F' ∧ Holds F' L w ∧ Q e ρ F' L
theorem lowI_le {n : Nat} {d : List Deferred} {F F' : FH} {Q : QX} (le : F ≤ F') {e : Exit} {a : Act} {w : World} (h : lowI n d F' Q e a w) : lowI n d F Q e a w :=
 let ⟨ρ, F'', L, r, l, H, q⟩ := h; ⟨ρ, F'', L, r, le.trans l, H, q⟩
theorem wpListIn_mono {F : Fence} {n : Nat} {P : Program} {ops : Array Oper} {Q Q' : Exit → Act → World → Prop} (h : ∀ e a w, Q e a w → Q' e a w) :
  ∀ (l : List Oper) (a : Act) (w : World), wpListIn F n P ops Q l a w → wpListIn F n P ops Q' l a w
 | [], a, w, k => h _ _ _ k
 | o :: l, a, w, k => by
  unfold wpListIn at *
  have hout : LetsOut Q → LetsOut Q' := fun ⟨a0, w0, hq⟩ => ⟨a0, w0, h _ _ _ hq⟩
  split
  ·rename_i hw
   rw [if_pos hw] at k
   refine ⟨k.1, ?_⟩
   have k := k.2
   generalize (o.semAt F.round a.eval).run P w = r at *
   cases r with
   | ok m w' =>
    cases m <;> simp only [Oper.uponIn] at k ⊢ <;>
     first
      | exact wpListIn_mono h l _ _ k
      | exact ⟨k.1, CallsIn.mono k.2 (fun e w'' he => by cases e <;> first | exact wpListIn_mono h l _ _ he | exact h _ _ _ he | exact hout he)⟩
      | exact ⟨k.1, RowsIn.mono k.2 (fun _ _ he => wpListIn_mono h l _ _ he)⟩
      | exact ⟨k.1, RoundIn.mono k.2 (fun e w'' he => by cases e <;> first | exact wpListIn_mono h l _ _ he | exact h _ _ _ he | exact hout he)⟩
   | halt x w' => cases x <;> simp only [Oper.uponIn] at k ⊢ <;> first | exact h _ _ _ k | exact k.elim
  ·rename_i hw
   rw [if_neg hw] at k
   exact ⟨k.1, wpListIn_mono h l _ _ k.2⟩
def XIL (P : Program) (n : Nat) (r0 : Option Nat) (d0 : List Deferred) (ops : Array Oper) (l : List Oper) (Q : QX) (ρ : Env) (F : FH) (L : List HP) : Prop :=
 opsOkI n l = true → ∀ a w, RepD n d0 a ρ → Holds F L w → wpListIn (FR r0) 9 P ops (lowI n d0 F Q) l a w
section
variable {P : Program} {n : Nat} {r0 : Option Nat} {d0 : List Deferred} {ops : Array Oper} {l : List Oper} {Q : QX} {ρ : Env} {F : FH} {L : List HP}
theorem XIL.nil (h : Q .normal ρ F L) : XIL P n r0 d0 ops [] Q ρ F L := fun _ _ _ r H => ⟨ρ, F, L, r, FLe.refl F, H, h⟩
theorem wpIn_of_XOp {o : Oper} {K : Post} {a : Act} {w : World} {Q : Exit → Act → World → Prop} {N : Act → World → Prop}
  (h : XOp P o ρ F L K) (r : RepD n d0 a ρ) (H : Holds F L w) (hd : dOk n o.dst = true) (hn : ∀ c, o.op ≠ .defer c)
  (hN : ∀ v F' L' w', F ≤ F' → Holds F' L' w' → K v F' L' → RepD n d0 (a.put o.dst v) (putE ρ o.dst v) → N (a.put o.dst v) w') : o.wpIn (FR r0) 9 P a w N Q := by
 refine ⟨fun _ _ => trivial, ?_⟩
 rw [Oper.semAt_eq _ _ _ hn, r.eval]
 rcases h w H with ⟨v, w', F', L', h1, h2, h3, h4⟩ | ⟨w', F', L', h1, h2, h3, h4⟩ | ⟨f, args, w', h1, h2⟩
 ·rw [h1]; exact hN v F' L' w' h2 h3 h4 (r.put hd v)
 ·rw [h1]; exact hN undef F' L' w' h2 h3 h4 (r.put hd undef)
 ·rw [h1]
  refine ⟨fun _ => by decide, callsIn_FR (h2.mono fun e w'' ⟨v, F', L', he, hle, hH, hk⟩ => ?_)⟩
  subst he
  exact hN v F' L' w'' hle hH hk (r.put hd v)
theorem yielded_of_repD {a : Act} (r : RepD n d0 a ρ) {g : Nat} {t : Tmp} {b : Bool} (ht : (ops[g]?).bind (·.dst) = some t) (hv : ρ t = .bool b) : yielded ops a.tmps g = some b := by
 unfold yielded
 rw [ht]
 have := r.get t
 rw [hv, Array.getD_eq_getD_getElem?] at this
 cases hx : a.tmps[t]? with
 | none => rw [hx] at this; simp [undef] at this
 | some x => rw [hx] at this; simp at this; subst this; simp [hx]
theorem XIL.cons {d : Option Tmp} {op : Op} {ty : TypeId} {pos : String} {af : Array Edge}
  (h : XOp P ⟨d, op, ty, pos, af, none⟩ ρ F L fun v F' L' => XIL P n r0 d0 ops l Q (putE ρ d v) F' L') : XIL P n r0 d0 ops (⟨d, op, ty, pos, af, none⟩ :: l) Q ρ F L := by
 intro ok a w r H
 have hd := opsOkI_def ok
 simp only [opsOkI, List.all_cons, Bool.and_eq_true] at ok
 unfold wpListIn
 rw [if_pos (by simp [Region.wanted])]
 exact wpIn_of_XOp h r H ok.1.1 (hd _ (by simp)) fun v F' L' w' le H' k r' => wpListIn_mono (fun _ _ _ q => lowI_le le q) _ _ _ (k ok.2 _ _ r' H')
theorem XIL.yes {d : Option Tmp} {op : Op} {ty : TypeId} {pos : String} {af : Array Edge} {g : Nat} {t : Tmp} {b : Bool} (ht : (ops[g]?).bind (·.dst) = some t) (hv : ρ t = .bool b)
  (h : XOp P ⟨d, op, ty, pos, af, some (g, b)⟩ ρ F L fun v F' L' => XIL P n r0 d0 ops l Q (putE ρ d v) F' L') : XIL P n r0 d0 ops (⟨d, op, ty, pos, af, some (g, b)⟩ :: l) Q ρ F L := by
 intro ok a w r H
 have hd := opsOkI_def ok
 simp only [opsOkI, List.all_cons, Bool.and_eq_true] at ok
 unfold wpListIn
 rw [if_pos (by simp [Region.wanted, yielded_of_repD r ht hv])]
 exact wpIn_of_XOp h r H ok.1.1 (hd _ (by simp)) fun v F' L' w' le H' k r' => wpListIn_mono (fun _ _ _ q => lowI_le le q) _ _ _ (k ok.2 _ _ r' H')
theorem XIL.no {d : Option Tmp} {op : Op} {ty : TypeId} {pos : String} {af : Array Edge} {g : Nat} {b : Bool} {t : Tmp} (ht : (ops[g]?).bind (·.dst) = some t) (hv : ρ t = .bool (!b))
  (h : XIL P n r0 d0 ops l Q (putE ρ d undef) F L) : XIL P n r0 d0 ops (⟨d, op, ty, pos, af, some (g, b)⟩ :: l) Q ρ F L := by
 intro ok a w r H
 simp only [opsOkI, List.all_cons, Bool.and_eq_true] at ok
 unfold wpListIn
 rw [if_neg (by simp [Region.wanted, yielded_of_repD r ht hv])]
 exact ⟨fun _ _ => trivial, h ok.2 _ _ (r.put ok.1.1 undef) H⟩
def Yld (P : Program) (l : Nat) (args : List Value) (F : FH) (L : List HP) (K : Post) : Prop :=
 ∀ w, Holds F L w → YieldAt Fence.wide 9 P l args.toArray w fun e w' => ∃ v F' L', e = .returned v ∧ F ≤ F' ∧ Holds F' L' w' ∧ K v F' L'
theorem Yld.mono {k : Nat} {args : List Value} {K K' : Post} (h : Yld P k args F L K) (hk : ∀ v F' L', F ≤ F' → K v F' L' → K' v F' L') : Yld P k args F L K' := by
 intro w H
 obtain ⟨fn, tmps, assign, body, hy, hr⟩ := h w H
 exact ⟨fn, tmps, assign, body, hy, hr.mono fun e w' ⟨v, F', L', a, b, c, d⟩ => ⟨v, F', L', a, b, c, hk _ _ _ b d⟩⟩
theorem Yld.weaken {k : Nat} {args : List Value} {K : Post} {L' : List HP} (s : Sub L L') (h : Yld P k args F L' K) : Yld P k args F L K := fun w H => h w (s.holds H)
theorem roundIn_FR {r : Option Nat} {m m' k : Nat} {f : FuncId} {tmps : Array Value} {assign body : Code} {w : World} {R : Ending → World → Prop} (h : RoundIn Fence.wide m P k f tmps assign body w R) : RoundIn (FR r) m' P k f tmps assign body w R :=
 ⟨trivial, fun c cs hr => h.2 c cs (fun _ hd => by cases hd)⟩
end
def cOkI (n : Nat) : Code → Bool
 | .region _ ops _ => opsOkI n ops.toList
 | .seq a b => cOkI n a && cOkI n b
 | .cond _ a b => cOkI n a && cOkI n b
 | .block _ a => cOkI n a
 | .loop a => cOkI n a
 | .scope a => cOkI n a
 | .rangeFunc _ _ a b => cOkI n a && cOkI n b
 | _ => true
def XI (P : Program) (n : Nat) (r0 : Option Nat) (d0 : List Deferred) (c : Code) (Q : QX) (ρ : Env) (F : FH) (L : List HP) : Prop :=
 cOkI n c = true → ∀ a w, RepD n d0 a ρ → Holds F L w → c.wpIn (FR r0) 9 P (lowI n d0 F Q) a w
section
variable {P : Program} {n : Nat} {r0 : Option Nat} {d0 : List Deferred} {Q : QX} {ρ : Env} {F : FH} {L : List HP}
theorem X.ofI {c : Code} (hok : cOkI n c = true) (h : XI P n none [] c Q ρ F L) : X P n c Q ρ F L := by
 intro _ a w r H
 refine Code.wp_mono ?_ (wpIn_wide.1 (h hok a w r.toD H))
 rintro e a' w' ⟨ρ', F', L', r', le, H', q⟩
 exact ⟨ρ', F', L', r'.of, le, H', q⟩
theorem XI.freezeF {c : Code} (A B : List HP) (h : HP) (hL : L = A ++ h :: B) (H : ∀ F', F ≤ F' → Fresh F F' h → XI P n r0 d0 c Q ρ F' (A ++ B)) : XI P n r0 d0 c Q ρ F L := by
 subst hL
 intro ok a w r Hw
 obtain ⟨F', le, fz, H', _⟩ := Hw.lendF
 exact wpIn_mono (H F' le fz ok a w r H') (fun _ _ _ q => lowI_le le q)
theorem XI.block {id : Nat} {c : Code} (h : XI P n r0 d0 c (blockQ id Q) ρ F L) : XI P n r0 d0 (.block id c) Q ρ F L := by
 intro ok a w r H
 refine wpIn_block (wpIn_mono (h ok a w r H) ?_)
 rintro e a' w' ⟨ρ', F', L', r', le, H', q⟩
 cases e with
 | exit i =>
  simp only [Exit.inBlock, blockQ] at q ⊢
  split
  ·rename_i hi; rw [if_pos hi] at q; exact ⟨ρ', F', L', r', le, H', q⟩
  ·rename_i hi; rw [if_neg hi] at q; exact ⟨ρ', F', L', r', le, H', q⟩
 | _ => exact ⟨ρ', F', L', r', le, H', q⟩
theorem XI.skip (h : Q .normal ρ F L) : XI P n r0 d0 .skip Q ρ F L := fun _ _ _ r H => wpIn_skip ⟨ρ, F, L, r, FLe.refl F, H, h⟩
theorem XI.ret (h : Q .ret ρ F L) : XI P n r0 d0 .ret Q ρ F L := fun _ _ _ r H => wpIn_ret ⟨ρ, F, L, r, FLe.refl F, H, h⟩
theorem XI.seq {x y : Code} (h : XI P n r0 d0 x (thenQ (fun ρ' F' L' => XI P n r0 d0 y Q ρ' F' L') Q) ρ F L) : XI P n r0 d0 (.seq x y) Q ρ F L := by
 intro ok a w r H
 simp only [cOkI, Bool.and_eq_true] at ok
 refine wpIn_seq (wpIn_mono (h ok.1 a w r H) ?_)
 rintro e a' w' ⟨ρ', F', L', r', le, H', q⟩
 cases e with
 | normal => exact wpIn_mono (q ok.2 a' w' r' H') (fun _ _ _ q => lowI_le le q)
 | _ => exact ⟨ρ', F', L', r', le, H', q⟩
theorem XI.cond {c : Operand} {x y : Code} {t : Bool} (hc : evO ρ c = .bool t) (ht : t = true → XI P n r0 d0 x Q ρ F L) (hf : t = false → XI P n r0 d0 y Q ρ F L) : XI P n r0 d0 (.cond c x y) Q ρ F L := by
 intro ok a w r H
 simp only [cOkI, Bool.and_eq_true] at ok
 exact wpIn_cond_split (t := t) (by rw [r.eval]; exact hc) (fun h => ht h ok.1 a w r H) (fun h => hf h ok.2 a w r H)
theorem XI.condD {c : Operand} {x y : Code} {p : Prop} [Decidable p] (hc : evO ρ c = .bool (decide p)) (ht : p → XI P n r0 d0 x Q ρ F L) (hf : ¬p → XI P n r0 d0 y Q ρ F L) : XI P n r0 d0 (.cond c x y) Q ρ F L :=
 XI.cond hc (fun h => ht (of_decide_eq_true h)) (fun h => hf (of_decide_eq_false h))
theorem XI.condT {c : Operand} {x y : Code} (hc : evO ρ c = .bool true) (ht : XI P n r0 d0 x Q ρ F L) : XI P n r0 d0 (.cond c x y) Q ρ F L := XI.cond hc (fun _ => ht) (fun h => by cases h)
theorem XI.region {id : Nat} {l : List Oper} (h : XIL P n r0 d0 l.toArray l Q ρ F L) : XI P n r0 d0 (.region id l.toArray false) Q ρ F L :=
 fun ok a w r H => wpIn_region_lit (h (by simpa [cOkI] using ok) a w r H)
theorem XI.slots {c : Code} (l : List (Nat × Value)) (hs : sat ρ l) (h : ∀ r, XI P n r0 d0 c Q (envs l r) F L) : XI P n r0 d0 c Q ρ F L := by
 have := h ρ
 rwa [envs_of_sat hs] at this
end
def setP : List (Tmp × Value) → Env → Env
 | [], ρ => ρ
 | p :: l, ρ => setP l (upd ρ p.1 p.2)
theorem setP_rep {n : Nat} : ∀ (l : List (Tmp × Value)) (t : Array Value) (ρ : Env), t.size = n → (∀ i, t.getD i undef = ρ i) → (∀ p ∈ l, p.1 < n) →
  ((l.foldl (fun t (p : Tmp × Value) => t.setIfInBounds p.1 p.2) t).size = n ∧ ∀ i, (l.foldl (fun t (p : Tmp × Value) => t.setIfInBounds p.1 p.2) t).getD i undef = setP l ρ i)
 | [], t, ρ, h1, h2, _ => ⟨h1, h2⟩
 | p :: l, t, ρ, h1, h2, h3 => by
  rw [List.foldl_cons]
  refine setP_rep l _ _ (by simp [h1]) (fun i => ?_) (fun q hq => h3 q (List.mem_cons_of_mem _ hq))
  have hp := h3 p (by simp)
  have r : Rep n { tmps := t, defers := [] } ρ := ⟨h1, rfl, h2⟩
  have := (r.put (d := some p.1) (by simpa [dOk, Nat.blt] using Nat.ble_eq_true_of_le hp) p.2).get i
  simpa [Act.put, putE] using this
theorem Holds.turn {F : FH} {L : List HP} {l : Nat} {o o' : Obj} {w : World} (H : Holds F (objH l o :: L) w) : Holds F (objH l o' :: L) (w.putObj l o') := by
 have hg := Holds.get (A := []) H
 have hlt := (Array.getElem?_eq_some_iff.1 hg).1
 exact Holds.put (A := []) H rfl rfl rfl (World.putObj_heap_same hlt) (fun k hk => World.putObj_heap_other hk)
def markD (D : Nat) : List Deferred := [{ target := .collected D, args := #[] }]
def fin (P : Program) (F0 : FH) (Q : Post) : Ending → World → Prop := fun e w' => ∃ v F' L', e = .returned v ∧ F0 ≤ F' ∧ Holds F' L' w' ∧ Q v F' L'
def XF (P : Program) (fn : Func) (F0 : FH) (c : Code) (Q : Post) (ρ : Env) (F : FH) (L : List HP) : Prop :=
 cOkI fn.ntmps c = true → ∀ a w, Rep fn.ntmps a ρ → Holds F L w → c.wpIn Fence.wide 9 P (bodyPostM Fence.wide 9 P fn (fin P F0 Q)) a w
theorem Does.of_XF {P : Program} {f : FuncId} {fn : Func} {c : Code} {args : List Value} {F : FH} {L : List HP} {Q : Post}
  (hf : P.funcs[f]? = some fn) (hb : fn.body = some c) (hd : cOkI fn.ntmps c = true) (hn : Nat.ble args.length fn.ntmps = true)
  (h : XF P fn F c Q (env0 args) F L) : Does P f args F L Q := by
 intro w H
 refine callsIn_wide.1 (callsIn_of_wp_marks (n := 9) hf hb trivial (h hd _ w ⟨?_, rfl, fun i => ?_⟩ H))
 ·have := Nat.le_of_ble_eq_true hn
  simp
  omega
 ·simp only [env0, Array.getD_eq_getD_getElem?, List.getD_eq_getElem?_getD, Array.getElem?_append, List.size_toArray, List.getElem?_toArray, Array.getElem?_replicate]
  split
  ·rfl
  ·rename_i hi
   rw [List.getElem?_eq_none (Nat.le_of_not_lt hi)]
   split <;> rfl
theorem cOkI_cOk {n : Nat} : ∀ {c : Code}, cOkI n c = true → cOk n c = true
 | .region _ ops _, h => opsOkI_ops (l := ops.toList) h
 | .seq a b, h => by simp only [cOkI, cOk, Bool.and_eq_true] at h ⊢; exact ⟨cOkI_cOk h.1, cOkI_cOk h.2⟩
 | .cond _ a b, h => by simp only [cOkI, cOk, Bool.and_eq_true] at h ⊢; exact ⟨cOkI_cOk h.1, cOkI_cOk h.2⟩
 | .block _ a, h => by simp only [cOkI, cOk] at h ⊢; exact cOkI_cOk h
 | .loop a, h => by simp only [cOkI, cOk] at h ⊢; exact cOkI_cOk h
 | .scope a, h => by simp only [cOkI, cOk] at h ⊢; exact cOkI_cOk h
 | .rangeFunc _ _ a b, h => by simp only [cOkI, cOk, Bool.and_eq_true] at h ⊢; exact ⟨cOkI_cOk h.1, cOkI_cOk h.2⟩
 | .skip, _ => rfl
 | .exit _, _ => rfl
 | .ret, _ => rfl
 | .label _, _ => rfl
 | .goto _, _ => rfl
 | .refuse _, _ => rfl
def finD (P : Program) (fn : Func) (F0 : FH) (D : Nat) (Q : Post) : QX := fun e ρ F L => (e = .ret ∨ e = .normal) ∧ ∃ vs L1 L' F2, ResAll P F (objH D (.deferred none) :: L1) ρ fn.results.toList vs ∧ F0 ≤ F2 ∧ F2 ≤ F ∧ Sub L (objH D (.deferred (some [])) :: L1) ∧ Sub L1 L' ∧ Q (oneOr vs) F2 L'
theorem retEndC {P : Program} {fn : Func} {F0 F2 : FH} {D : Nat} {Q : Post} {ρ : Env} {F : FH} {L L' : List HP} (L1 : List HP) (vs : List Value) (v : Value) (hr : ResAll P F (objH D (.deferred none) :: L1) ρ fn.results.toList vs) (hv : oneOr vs = v) (l1 : F0 ≤ F2) (l2 : F2 ≤ F) (s : Sub L (objH D (.deferred (some [])) :: L1)) (s2 : Sub L1 L') (h : Q v F2 L') : finD P fn F0 D Q .ret ρ F L :=
 ⟨.inl rfl, vs, L1, L', F2, hr, l1, l2, s, s2, hv ▸ h⟩
section
variable {P : Program} {fn : Func} {Q : Post} {ρ : Env} {F F0 : FH} {L : List HP}
def XR (P : Program) (fn : Func) (F0 : FH) (c rest : Code) (Q : Post) (ρ : Env) (F : FH) (L : List HP) : Prop :=
 cOkI fn.ntmps c = true → cOkI fn.ntmps rest = true → ∀ a w, Rep fn.ntmps a ρ → Holds F L w →
  c.wpIn Fence.wide 9 P (Exit.then (rest.wpIn Fence.wide 9 P (bodyPostM Fence.wide 9 P fn (fin P F0 Q))) (bodyPostM Fence.wide 9 P fn (fin P F0 Q))) a w
theorem XF.ofR {c rest : Code} (h : XR P fn F0 c rest Q ρ F L) : XF P fn F0 (.seq c rest) Q ρ F L := by
 intro ok a w r H
 simp only [cOkI, Bool.and_eq_true] at ok
 exact wpIn_seq (h ok.1 ok.2 a w r H)
theorem XR.seq {x y rest : Code} (h : X P fn.ntmps x (thenQ (fun ρ' F' L' => XR P fn F0 y rest Q ρ' F' L') (fun _ _ _ _ => False)) ρ F L) : XR P fn F0 (.seq x y) rest Q ρ F L := by
 intro ok okr a w r H
 simp only [cOkI, Bool.and_eq_true] at ok
 refine wpIn_seq (wpIn_mono (wpIn_wide.2 (h (cOkI_cOk ok.1) a w r H)) ?_)
 rintro e a' w' ⟨ρ', F', L', r', le, H', q⟩
 cases e with
 | normal => exact q ok.2 okr a' w' r' H'
 | _ => exact q.elim
end
theorem Rd.all {F : FH} {L : List HP} {v : Value} {k : Nat} {es : List Value} (h : ∀ j u, es[j]? = some u → Rd F L (elemA v (k + j)) u) : ∀ i u, es[i]? = some u → Rd F L ((elemA v k).add i) u := by
 intro i u hu
 rw [elemA_add]
 exact h i u hu
section
variable {F F' : FH} {A B M : List HP} {h : HP}
end
section
variable {F F' G F1 F2 : FH} {D D' : HP} {L M : List HP} {P : Program} {o : Oper} {ρ : Env} {K : Post} {e E : TypeId}
end
section
variable {F F' G : FH} {e E : TypeId} {v : Value}
end
section
variable {P : Program} {ρ : Env} {F : FH} {L : List HP} {K : Post} {d : Option Tmp} {ty : TypeId} {pos : String} {af : Array Edge} {g : Option (Nat × Bool)}
theorem XOp.remC {x y : Operand} {t u : TypeId} {k : IntKind} {a b : Int} (hx : evO ρ x = .int k a) (hy : evO ρ y = .int k b) (h0 : 0 ≤ a) (hb : b ≠ 0) (kk : K (.int k (a % b)) F L) : XOp P ⟨d, .binOp .rem t x y u, ty, pos, af, g⟩ ρ F L K :=
 XOp.value (fun w _ => by simp [execOp, hx, hy, eqGuard, binOp, Op.intDiv, hb, IntWalk.rem_in _ _ h0]) kk
end
def roundQ2 (l : Nat) (R : Loop) (K : Post) : QX := fun e _ F L =>
 (e = .normal ∧ ∃ L0, Sub L (objH l (.loop { R with state := .busy }) :: L0) ∧ K (.bool true) F (objH l (.loop { R with state := .ready, pending := none }) :: L0)) ∨
 (e = .ret ∧ ∃ L0, Sub L (objH l (.loop { R with state := .busy }) :: L0) ∧ K (.bool false) F (objH l (.loop { R with state := .done, pending := some .ret }) :: L0))
theorem roundNB {b l : Nat} {R : Loop} {K : Post} {ρ : Env} {F : FH} {L : List HP} (h : ∃ L0, Sub L (objH l (.loop { R with state := .busy }) :: L0) ∧ K (.bool true) F (objH l (.loop { R with state := .ready, pending := none }) :: L0)) : blockQ b (roundQ2 l R K) .normal ρ F L := .inl ⟨rfl, h⟩
theorem roundR {l : Nat} {R : Loop} {K : Post} {ρ : Env} {F : FH} {L : List HP} (h : ∃ L0, Sub L (objH l (.loop { R with state := .busy }) :: L0) ∧ K (.bool false) F (objH l (.loop { R with state := .done, pending := some .ret }) :: L0)) : roundQ2 l R K .ret ρ F L := .inr ⟨rfl, h⟩
theorem Yld.of_round2 {P : Program} {n l : Nat} {R : Loop} {ps : Array Tmp} {assign body : Code} {args : List Value} {F : FH} {L : List HP} {ρ : Env} {K : Post}
  (hr : R.state = .ready) (hp0 : R.pending = none) (hps : R.params = ps) (ha : R.assign = assign) (hb : R.body = body) (hsz : R.tmps.size = n) (hget : ∀ i, R.tmps.getD i undef = ρ i)
  (hlen : args.length = ps.size) (hlt0 : (ps.toList.all fun p => Nat.blt p n) = true) (oka : cOkI n assign = true) (okb : cOkI n body = true)
  (h : XI P n (some l) [] assign (thenQ (fun ρ1 F1 L1 => ∃ L2, Sub L1 (objH l (.loop R) :: L2) ∧ XI P n (some l) [] body (roundQ2 l R K) ρ1 F1 (objH l (.loop { R with state := .busy }) :: L2)) (fun _ _ _ _ => False)) (setP (ps.toList.zip args) ρ) F (objH l (.loop R) :: L)) :
  Yld P l args F (objH l (.loop R) :: L) K := by
 have hlt : ∀ p ∈ ps.toList, p < n := fun p hp => Nat.le_of_ble_eq_true (List.all_eq_true.1 hlt0 p hp)
 intro w H
 have hl := Holds.get (A := []) H
 have hy := run_yield (P := P) (args := args.toArray) hl (by rw [hps]; simp [hlen])
 refine ⟨_, _, _, _, hy, roundIn_of_wpIn trivial ?_⟩
 have hfold : (R.params.zip args.toArray).foldl (fun tmps (x : Tmp × Value) => tmps.setIfInBounds x.1 x.2) R.tmps = (ps.toList.zip args).foldl (fun t (p : Tmp × Value) => t.setIfInBounds p.1 p.2) R.tmps := by
  rw [hps, ← Array.foldl_toList, Array.toList_zip]
 have hset := setP_rep (n := n) (ps.toList.zip args) R.tmps ρ hsz hget (fun p hp => hlt p.1 (List.of_mem_zip hp).1)
 have hrep : RepD n [] { tmps := (R.params.zip args.toArray).foldl (fun tmps (x : Tmp × Value) => tmps.setIfInBounds x.1 x.2) R.tmps, defers := [] } (setP (ps.toList.zip args) ρ) := by
  rw [hfold]; exact ⟨hset.1, rfl, hset.2⟩
 rw [ha, hb]
 refine wpIn_mono (F := Fence.wide.inRound l) (n := 9) (show Code.wpIn (Fence.wide.inRound l) 9 P assign _ _ w from h oka _ w hrep H) ?_
 rintro e a1 w1 ⟨ρ1, F1, L1, r1, le1, H1, q⟩
 cases e with
 | normal =>
  obtain ⟨L2, s2, q2⟩ := q
  have H2 := s2.holds H1
  have hl2 := Holds.get (A := []) H2
  refine ⟨_, run_beginRound hl2 hr, ?_⟩
  refine wpIn_mono (F := Fence.wide.inRound l) (n := 9) (show Code.wpIn (Fence.wide.inRound l) 9 P body _ _ _ from q2 okb a1 _ r1 H2.turn) ?_
  rintro e a3 w3 ⟨ρ3, F3, L3, r3, le3, H3, he⟩
  rcases he with ⟨rfl, L4, s4, k4⟩ | ⟨rfl, L4, s4, k4⟩
  ·have H4 := s4.holds H3
   have hl4 := Holds.get (A := []) H4
   refine ⟨_, _, run_endRound none hl4, _, F3, _, rfl, le1.trans le3, H4.turn, ?_⟩
   exact k4
  ·have H4 := s4.holds H3
   have hl4 := Holds.get (A := []) H4
   refine ⟨_, _, run_endRound (some .ret) hl4, _, F3, _, rfl, le1.trans le3, H4.turn, ?_⟩
   exact k4
 | _ => exact q.elim
section
variable {P : Program} {fn : Func} {Q : Post} {ρ : Env} {F F0 : FH} {L : List HP}
theorem XF.seqR {x y : Code} (h : X P fn.ntmps x (thenQ (fun ρ' F' L' => XF P fn F0 y Q ρ' F' L') (retQ P fn F0 Q)) ρ F L) : XF P fn F0 (.seq x y) Q ρ F L := by
 intro ok a w r H
 simp only [cOkI, Bool.and_eq_true] at ok
 refine wpIn_seq (wpIn_mono (wpIn_wide.2 (h (cOkI_cOk ok.1) a w r H)) ?_)
 rintro e a' w' ⟨ρ', F', L', r', le, H', q⟩
 cases e with
 | normal => exact q ok.2 a' w' r' H'
 | ret =>
  obtain ⟨_, vs, L6, F2, hv, l1, l2, hsub, q⟩ := q
  have hres := results_run (P := P) (fn := fn) (n := fn.ntmps) (a := a') (w := w') r' H' hv
  show LeavesInM _ _ _ _ _ _ a'.defers _ _
  rw [r'.defers]
  exact ⟨_, hres, _, F2, L6, rfl, l1, hsub.holds (H'.forget l2), q⟩
 | _ => exact absurd q.1 (by simp)
theorem Does.at {f : FuncId} {args : List Value} {Q : Value → FH → Prop} {h : HP} (A : List HP) {B : List HP} (H : Does P f args F (h :: (A ++ B)) fun v F' L' => Q v F' ∧ h :: (A ++ B) = L') : Does P f args F (A ++ h :: B) fun v F' L' => Q v F' ∧ A ++ h :: B = L' := fun w Hw =>
 (H w (Sub.front.holds Hw)).mono fun _ _ ⟨v, F', L', he, le, H', hq, hl⟩ => ⟨v, F', _, he, le, Sub.back.holds (hl ▸ H'), hq, rfl⟩
theorem XR.rangeB2 {id : Nat} {g : Operand} {ps : Array Tmp} {assign body rest : Code} {gf : Nat} {lb : List Value}
  (hg : evO ρ g = .func (.func gf) #[] lb.toArray) (eg : ∀ args w, (callFunc gf args).run P w = .ok (.enter gf args) w)
  (h : ∀ (l D : Nat) (R : Loop), R.state = .ready → R.pending = none → R.params = ps → R.assign = assign → R.body = body → R.tmps.size = fn.ntmps → (∀ i, R.tmps.getD i undef = ρ i) →
   Does P gf (.func (.yield l) #[] #[] :: lb) F (objH l (.loop R) :: objH D (.deferred (some [])) :: L) (fun _ F' L' => ∃ (R' : Loop) (L2 : List HP), R'.state ≠ .busy ∧ Sub L' (objH l (.loop R') :: objH D (.deferred (some [])) :: L2) ∧
    ((R'.pending = none ∧ XI P fn.ntmps none (markD D) rest (finD P fn F0 D Q) ρ F' (objH D (.deferred (some [])) :: L2)) ∨ (R'.pending = some .ret ∧ finD P fn F0 D Q .ret ρ F' (objH D (.deferred (some [])) :: L2))))) :
  XR P fn F0 (.block id (.rangeFunc g ps assign body)) rest Q ρ F L := by
 intro ok1 okr a w r H
 have ok : cOkI fn.ntmps (.block id (.rangeFunc g ps assign body)) = true ∧ cOkI fn.ntmps rest = true := ⟨ok1, okr⟩
 refine wpIn_block (wpIn_rangeFunc (fun fid _ => ?_))
 have H1 := H.new (.deferred (some []))
 have H2 := H1.new (.loop { state := .ready, pending := none, fn := fid, tmps := a.tmps, params := ps, assign, body, defers := w.heap.size })
 rw [World.size_alloc] at H2
 have he := run_enterLoop_outer (P := P) (w := w) fid a.tmps ps assign body
 generalize (w.alloc (.deferred (some []))).alloc (.loop { state := .ready, pending := none, fn := fid, tmps := a.tmps, params := ps, assign, body, defers := w.heap.size }) = W1 at he H2
 have hd := h (w.heap.size + 1) w.heap.size { state := .ready, pending := none, fn := fid, tmps := a.tmps, params := ps, assign, body, defers := w.heap.size } rfl rfl rfl rfl rfl r.size r.get W1 H2
 refine ⟨w.heap.size + 1, markD w.heap.size, W1, { target := .fn (.func gf) lb.toArray, args := #[.func (.yield (w.heap.size + 1)) #[] #[]] }, W1, gf, #[.func (.yield (w.heap.size + 1)) #[] #[]] ++ lb.toArray, W1, he, ?_, fun _ _ => trivial, ?_, fun _ => by decide, ?_⟩
 ·have hg' : a.eval g = .func (.func gf) #[] lb.toArray := by rw [r.eval]; exact hg
  simp only [resolve, hg', Deferred.ofValue]
  simp [go_sem, Act.eval]
 ·simp [invoke, go_sem, eg]
 ·have hargs : (Value.func (.yield (w.heap.size + 1)) #[] #[] :: lb).toArray = #[.func (.yield (w.heap.size + 1)) #[] #[]] ++ lb.toArray := by simp
  rw [hargs] at hd
  refine callsIn_wide.2 (hd.mono ?_)
  rintro e w3 ⟨v, F', L', rfl, le, H3, R', L2, hb, hs, hx⟩
  have H4 := hs.holds H3
  have hl := Holds.get (A := []) H4
  have H5 := (Sub.drop (Sub.refl _)).holds (H4.turn (o' := .loop { R' with state := .exhausted }))
  have r' : RepD fn.ntmps (markD w.heap.size) { a with defers := markD w.heap.size ++ a.defers } ρ := ⟨r.size, by simp [r.defers], r.get⟩
  have leave : ∀ (a4 : Act) (w4 : World) (ρ4 : Env) (F4 : FH) (L4 : List HP), RepD fn.ntmps (markD w.heap.size) a4 ρ4 → Holds F4 L4 w4 → finD P fn F0 w.heap.size Q .ret ρ4 F4 L4 → LeavesInM Fence.wide 9 P fn a4.tmps (fin P F0 Q) a4.defers .returning w4 := by
   rintro a4 w4 ρ4 F4 L4 r4 H6 ⟨_, vs, L5, L6, F2, hv, l1, l2, hsub, hsub2, q⟩
   have H7 := hsub.holds H6
   have hk := Holds.get (A := []) H7
   have H8 := H7.turn (o' := .deferred none)
   have hres := results_run (P := P) (fn := fn) (n := fn.ntmps) (a := { a4 with defers := [] }) (w := w4.putObj w.heap.size (.deferred none)) ⟨r4.size, rfl, r4.get⟩ H8 hv
   have hfin : fin P F0 Q (.returned (oneOr vs)) (w4.putObj w.heap.size (.deferred none)) := ⟨_, F2, L6, rfl, l1, ((Sub.drop hsub2).holds H8).forget l2, q⟩
   rw [r4.defers]
   exact ⟨by simp, .inl ⟨_, _, rfl, run_takeDeferred hk, ⟨_, hres, hfin⟩⟩⟩
  rcases hx with ⟨hp, hx⟩ | ⟨hp, hx⟩
  ·have hend := (run_endLoop (P := P) hl hb).trans (congrArg (fun p => Result.ok p _) hp)
   refine ⟨none, _, hend, ?_⟩
   refine wpIn_mono (hx ok.2 _ _ r' H5) ?_
   rintro e a4 w4 ⟨ρ4, F4, L4, r4, le4, H6, he, hq⟩
   rcases he with rfl | rfl
   ·exact leave a4 w4 ρ4 F4 L4 r4 H6 ⟨.inl rfl, hq⟩
   ·exact leave a4 w4 ρ4 F4 L4 r4 H6 ⟨.inl rfl, hq⟩
  ·have hend := (run_endLoop (P := P) hl hb).trans (congrArg (fun p => Result.ok p _) hp)
   refine ⟨some .ret, _, hend, wpIn_ret ?_⟩
   exact leave _ _ ρ F' _ r' H5 hx
end
section
variable {P : Program} {ρ : Env} {F : FH} {L : List HP} {K : Post} {d : Option Tmp} {ty : TypeId} {pos : String} {af : Array Edge} {g : Option (Nat × Bool)}
end
abbrev PPost := List PanicEntry → FH → List HP → Prop
def DoesP (P : Program) (f : FuncId) (args : List Value) (F : FH) (L : List HP) (Q : Post) (K : PPost) : Prop :=
 ∀ w, Holds F L w → Calls P f args.toArray w fun e w' =>
  (∃ v F' L', e = .returned v ∧ F ≤ F' ∧ Holds F' L' w' ∧ Q v F' L') ∨ (∃ ch F' L', e = .panicked ch ∧ F ≤ F' ∧ Holds F' L' w' ∧ K ch F' L')
theorem XL.callP {P : Program} {n : Nat} {ops : Array Oper} {l : List Oper} {Q : QX} {ρ : Env} {F : FH} {L : List HP} {d : Option Tmp} {ty : TypeId} {pos : String} {af : Array Edge} {f : FuncId} {as : List Operand} {ts : Array TypeId} {Qr : Post} {K : PPost}
  (args : List Value) (hf : ∀ args w, (callFunc f args).run P w = .ok (.enter f args) w) (ha : as.map (evO ρ) = args) (h : DoesP P f args F L Qr K)
  (hp : ∀ ch F' L', F ≤ F' → K ch F' L' → Q (.panic ch) ρ F' L') (hk : ∀ v F' L', F ≤ F' → Qr v F' L' → XL P n ops l Q (putE ρ d v) F' L') :
  XL P n ops (⟨d, .call { callee := .value (.func f), args := as.toArray, argTypes := ts }, ty, pos, af, none⟩ :: l) Q ρ F L := by
 subst ha
 intro ok a w r H
 simp only [opsOk, List.all_cons, Bool.and_eq_true] at ok
 unfold wpList
 rw [if_pos (by simp [Region.wanted])]
 refine .inl ?_
 unfold Oper.wp
 rw [r.eval]
 have he : (execOp (evO ρ) ⟨d, .call { callee := .value (.func f), args := as.toArray, argTypes := ts }, ty, pos, af, none⟩).run P w = .ok (.enter f (as.map (evO ρ)).toArray) w := by
  simp [execOp, resolve, evO, Deferred.ofValue, invoke, hf]
 rw [he]
 refine (h w H).mono ?_
 rintro e w'' (⟨v, F', L', rfl, le, H', q⟩ | ⟨ch, F', L', rfl, le, H', q⟩)
 ·exact wpList_mono (fun _ _ _ q => low_le le q) _ _ _ (hk v F' L' le q ok.2 _ _ (r.put ok.1 v) H')
 ·exact ⟨ρ, F', L', r, le, H', hp ch F' L' le q⟩
theorem XL.panicI {P : Program} {n : Nat} {ops : Array Oper} {l : List Oper} {Q : QX} {ρ : Env} {F : FH} {L : List HP} {d : Option Tmp} {ty : TypeId} {pos : String} {af : Array Edge} {x : Operand} {T : TypeId} {u : Value}
  (hx : evO ρ x = .iface T u) (hp : Q (.panic [{ v := .iface T u, recovered := false }]) ρ F L) : XL P n ops (⟨d, .panic x, ty, pos, af, none⟩ :: l) Q ρ F L := by
 intro ok a w r H
 unfold wpList
 rw [if_pos (by simp [Region.wanted])]
 refine .inl ?_
 unfold Oper.wp
 rw [r.eval]
 have he : (execOp (evO ρ) ⟨d, .panic x, ty, pos, af, none⟩).run P w = .halt (.panic (.iface T u)) w := by
  simp [execOp, hx, Instr.panic, goPanic]
 rw [he]
 exact ⟨ρ, F, L, r, FLe.refl F, H, hp⟩
theorem XOp.iface {P : Program} {ρ : Env} {F : FH} {L : List HP} {K : Post} {d : Option Tmp} {ty : TypeId} {pos : String} {af : Array Edge} {g : Option (Nat × Bool)} {T : TypeId} {x : Operand} {v : Value} {fs : Array Field}
  (hu : ∀ w, (underlying T).run P w = .ok (.struct fs) w) (hx : evO ρ x = v) (k : K (.iface T v) F L) : XOp P ⟨d, .makeInterface T x, ty, pos, af, g⟩ ρ F L K :=
 XOp.value (fun w H => by simp [execOp, hx, Instr.makeInterface, hu]) k
theorem XOp.assertOk {P : Program} {ρ : Env} {F : FH} {L : List HP} {K : Post} {d : Option Tmp} {ty : TypeId} {pos : String} {af : Array Edge} {g : Option (Nat × Bool)} {S T : TypeId} {x : Operand} {v : Value} {fs : Array Field}
  (hu : ∀ w, (underlying T).run P w = .ok (.struct fs) w) (hx : evO ρ x = .iface T v) (k : K (.tuple #[v, .bool true]) F L) : XOp P ⟨d, .typeAssert x S T true, ty, pos, af, g⟩ ρ F L K :=
 XOp.value (fun w H => by simp [execOp, hx, Instr.typeAssert, hu]) k
def retQP (P : Program) (fn : Func) (F0 : FH) (Q : Post) (K : PPost) : QX := fun e ρ F L => retQ P fn F0 Q e ρ F L ∨ ∃ ch, e = .panic ch ∧ K ch F L
theorem DoesP.of_X {P : Program} {f : FuncId} {fn : Func} {c : Code} {args : List Value} {F : FH} {L : List HP} {Q : Post} {K : PPost}
  (hf : P.funcs[f]? = some fn) (hb : fn.body = some c) (hd : cOk fn.ntmps c = true) (hn : Nat.ble args.length fn.ntmps = true)
  (h : X P fn.ntmps c (retQP P fn F Q K) (env0 args) F L) : DoesP P f args F L Q K := by
 intro w H
 refine calls_of_wp hf hb (Code.wp_mono ?_ (h hd _ w ⟨?_, rfl, fun i => ?_⟩ H))
 ·rintro e a' w' ⟨ρ', F', L', r', le, H', (⟨he, vs, L'', F2, hv, l1, l2, hsub, q⟩ | ⟨ch, rfl, k⟩)⟩
  ·have hr := results_run (P := P) (w := w') r' H' hv
   rcases he with rfl | rfl
   ·exact ⟨r'.defers, _, hr, .inl ⟨_, F2, L'', rfl, l1, hsub.holds (H'.forget l2), q⟩⟩
   ·exact ⟨r'.defers, _, hr, .inl ⟨_, F2, L'', rfl, l1, hsub.holds (H'.forget l2), q⟩⟩
  ·exact ⟨r'.defers, .inr ⟨ch, F', L', rfl, le, H', k⟩⟩
 ·have := Nat.le_of_ble_eq_true hn
  simp
  omega
 ·simp only [env0, Array.getD_eq_getD_getElem?, List.getD_eq_getElem?_getD, Array.getElem?_append, List.size_toArray, List.getElem?_toArray, Array.getElem?_replicate]
  split
  ·rfl
  ·rename_i hi
   rw [List.getElem?_eq_none (Nat.le_of_not_lt hi)]
   split <;> rfl
theorem retEndP {P : Program} {fn : Func} {F0 F2 : FH} {Q : Post} {K : PPost} {ρ : Env} {F : FH} {L L' : List HP} (vs : List Value) (v : Value) (hr : ResAll P F L ρ fn.results.toList vs) (hv : oneOr vs = v) (l1 : F0 ≤ F2) (l2 : F2 ≤ F) (s : Sub L L') (h : Q v F2 L') : retQP P fn F0 Q K .ret ρ F L := .inl (retEnd vs v hr hv l1 l2 s h)
theorem retEndNP {P : Program} {fn : Func} {F0 F2 : FH} {Q : Post} {K : PPost} {ρ : Env} {F : FH} {L L' : List HP} (vs : List Value) (v : Value) (hr : ResAll P F L ρ fn.results.toList vs) (hv : oneOr vs = v) (l1 : F0 ≤ F2) (l2 : F2 ≤ F) (s : Sub L L') (h : Q v F2 L') : retQP P fn F0 Q K .normal ρ F L := .inl (retEndN vs v hr hv l1 l2 s h)
theorem wp_of_X {P : Program} {n : Nat} {c : Code} {Q : QX} {a : Act} {w : World} {F : FH} {L : List HP} (l : List (Nat × Value)) (hsz : a.tmps.size = n) (hd : a.defers = []) (hs : sat (fun i => a.tmps.getD i undef) l) (hok : cOk n c = true) (h : ∀ rE, X P n c Q (envs l rE) F L) (H : Holds F L w) :
  c.wp P (low n F Q) a w := by
 have := h (fun i => a.tmps.getD i undef)
 rw [envs_of_sat hs] at this
 exact this hok a w ⟨hsz, hd, fun i => rfl⟩ H
theorem wpList_one {P : Program} {ops : Array Oper} {Q : Exit → Act → World → Prop} {o : Oper} {l : List Oper} {a : Act} {w : World} (hg : o.guard = none) (h : o.wp P a w (wpList P ops Q l) Q) : wpList P ops Q (o :: l) a w := by
 unfold wpList
 rw [if_pos (by simp [Region.wanted, hg])]
 exact .inl h
theorem eval_raw (a : Act) : a.eval = evO (fun i => a.tmps.getD i undef) := by
 funext x
 cases x <;> rfl
theorem wp_XOp_raw {P : Program} {o : Oper} {a : Act} {w : World} {F : FH} {L : List HP} {K : Post} {N : Act → World → Prop} {Q : Exit → Act → World → Prop} (h : XOp P o (fun i => a.tmps.getD i undef) F L K) (H : Holds F L w)
  (hN : ∀ v F' L' w', F ≤ F' → Holds F' L' w' → K v F' L' → N (a.put o.dst v) w') : o.wp P a w N Q := by
 unfold Oper.wp
 rw [eval_raw]
 rcases h w H with ⟨v, w', F', L', h1, h2, h3, h4⟩ | ⟨w', F', L', h1, h2, h3, h4⟩ | ⟨f, args, w', h1, h2⟩
 ·rw [h1]; exact hN v F' L' w' h2 h3 h4
 ·rw [h1]; exact hN undef F' L' w' h2 h3 h4
 ·rw [h1]
  refine h2.mono fun e w'' ⟨v, F', L', he, hle, hH, hk⟩ => ?_
  subst he
  exact hN v F' L' w'' hle hH hk
theorem get_1 {bs : List Value} {s a : Value} {i : Nat} (h : bs[i]? = some a) : (s :: bs)[1 + i]? = some a := by rw [Nat.add_comm]; simpa using h
theorem set_1 {bs : List Value} {s a : Value} {i : Nat} : (s :: bs).set (1 + i) a = s :: bs.set i a := by rw [Nat.add_comm]; rfl
theorem blt_1 {bs : List Value} {s : Value} {i : Nat} (h : i < bs.length) : Nat.blt (1 + i) (s :: bs).length = true := by
 simp only [Nat.blt, List.length_cons]; exact Nat.ble_eq_true_of_le (by omega)
theorem ne_of_notNil {a : Value} {x : List Int} (hn : isNil a = decide (x = [])) (h : (!isNil a) = true) : x ≠ [] := fun e => by rw [hn, decide_eq_true e] at h; cases h
theorem eq_of_isNil {a : Value} {x : List Int} (hn : isNil a = decide (x = [])) (h : (!isNil a) = false) : x = [] := by
 rw [hn] at h
 exact of_decide_eq_true (by simpa using h)
abbrev bools (ss : List Bool) : List Value := ss.map Value.bool
theorem bools_get {ss : List Bool} {i : Nat} (h : i < ss.length) : (bools ss)[i]? = some (.bool (ss.getD i false)) := by simp [bools, List.getD, h]
theorem bools_set {ss : List Bool} {i : Nat} {b : Bool} : (bools ss).set i (.bool b) = bools (ss.set i b) := by simp [bools, List.map_set]
theorem bools_blt {ss : List Bool} {i : Nat} (h : i < ss.length) : Nat.blt i (bools ss).length = true := by
 simp only [Nat.blt, bools, List.length_map]; exact Nat.ble_eq_true_of_le (by omega)
end Go.Proofs.YthkebalahfalhaaGreat.X
namespace Go.Proofs.YthkebalahfalhaaGreat.M
def nm (t : List Int) : List Int := t.map fun x => if x < 0 then -1 else x
section
variable {ar t : List Int} {p n q e : Nat}
theorem nm_len : (nm t).length = t.length := by simp [nm]
theorem nm_drop : (nm t).drop p = nm (t.drop p) := by simp [nm, List.map_drop]
theorem nm_take : (nm t).take p = nm (t.take p) := by simp [nm, List.map_take]
theorem nm_get (hp : p < t.length) : (nm t).getD p 0 = if t.getD p 0 < 0 then -1 else t.getD p 0 := by simp [nm, List.getD, hp]
theorem arity_nm {x : Int} : arity ar (if x < 0 then -1 else x) = arity ar x := by
 by_cases hx : x < 0
 ·rw [if_pos hx]; unfold arity; rw [if_pos (by omega), if_pos hx]
 ·rw [if_neg hx]
theorem endGo_nm : ∀ (r : List Int) (n : Nat), endGo ar (nm r) n = endGo ar r n
 | r, 0 => by simp [endGo]
 | [], n + 1 => rfl
 | x :: r, n + 1 => by
  show endGo ar ((if x < 0 then -1 else x) :: nm r) (n + 1) = _
  simp only [endGo, arity_nm, endGo_nm r]
  by_cases hx : x < 0
  ·rw [if_pos hx, if_pos (by omega), if_pos (by omega)]
  ·rw [if_neg hx]
theorem endAt_nm : endAt ar (nm t) p = endAt ar t p := by unfold endAt; rw [nm_drop, endGo_nm]
theorem endN_nm : endN ar (nm t) p = endN ar t p := by unfold endN; rw [endAt_nm]
theorem endZ_nm : endZ ar (nm t) p = endZ ar t p := by unfold endZ; rw [endAt_nm]
theorem sub_nm : sub ar (nm t) p = nm (sub ar t p) := by unfold sub; rw [nm_drop, endN_nm, nm_take]
structure TermW (ar t : List Int) : Prop where
 sig : sigOk ar = true
 len : 1 ≤ t.length ∧ t.length ≤ 60
 whole : endGo ar t 1 = some t.length
 ge : ∀ x ∈ t, -48 ≤ x
theorem TermW.nm (h : TermW ar t) : termOk ar (nm t) = true := termOk_iff.2 (by
 have := h.len
 refine ⟨h.sig, by rw [nm_len]; omega, by rw [nm_len]; omega, ?_, by rw [endGo_nm, nm_len]; exact h.whole⟩
 intro x hx
 obtain ⟨y, _, rfl⟩ := List.mem_map.1 hx
 split <;> omega)
theorem termW_of (h : termOk ar t = true) : TermW ar t := by
 have h1 := termOk_iff.1 h
 exact ⟨h1.sig, ⟨h1.pos, h1.len⟩, h1.whole, fun x hx => by have := h1.ge x hx; omega⟩
theorem TermW.endN (h : TermW ar t) (hp : p < t.length) : p < endN ar t p ∧ M.endN ar t p ≤ t.length := by
 have := endN_spec h.nm (p := p) (by rw [nm_len]; exact hp)
 rwa [endN_nm, nm_len] at this
theorem TermW.endZ (h : TermW ar t) (hp : p < t.length) : endZ ar t p = (M.endN ar t p : Int) := by
 have := endZ_endN h.nm (p := p) (by rw [nm_len]; exact hp)
 rwa [endN_nm, endZ_nm] at this
theorem TermW.lt (h : TermW ar t) (hp : p < t.length) : t.getD p 0 < ar.length := by
 have := termOk_lt h.nm (p := p) (by rw [nm_len]; exact hp)
 rw [nm_get hp] at this
 split at this <;> omega
theorem TermW.geD (h : TermW ar t) (hp : p < t.length) : -48 ≤ t.getD p 0 := getD_all h.ge hp
theorem mem_sub {x : Int} (h : x ∈ sub ar t p) : x ∈ t := List.mem_of_mem_drop (List.mem_of_mem_take h)
theorem TermW.sub (h : TermW ar t) (hp : p < t.length) : TermW ar (sub ar t p) := by
 have := termOk_iff.1 (sub_ok h.nm (p := p) (by rw [nm_len]; exact hp))
 rw [sub_nm] at this
 have h1 := this.pos
 have h2 := this.len
 have h3 := this.whole
 rw [nm_len] at h1 h2 h3
 rw [endGo_nm] at h3
 exact ⟨h.sig, ⟨h1, h2⟩, h3, fun x hx => h.ge x (mem_sub hx)⟩
theorem Stand_nm : Stand ar (nm t) n q e ↔ Stand ar t n q e := by unfold Stand; rw [nm_drop, endGo_nm, nm_len]
theorem arityD_nm : arity ar ((nm t).getD p 0) = arity ar (t.getD p 0) := by
 by_cases hp : p < t.length
 ·rw [nm_get hp, arity_nm]
 ·simp [List.getD, nm, List.getElem?_eq_none (Nat.le_of_not_lt hp)]
theorem argsGo_nm : ∀ n q, argsGo ar (nm t) n q = argsGo ar t n q
 | 0, _ => rfl
 | n + 1, q => by rw [argsGo, argsGo, endN_nm, argsGo_nm]
theorem argsL_nm : argsL ar (nm t) p = argsL ar t p := by unfold argsL; rw [arityD_nm, argsGo_nm]
theorem TermW.stand0 (h : TermW ar t) (hp : p < t.length) : Stand ar t (arity ar (t.getD p 0)).toNat (p + 1) (M.endN ar t p) := by
 have := stand_start h.nm (p := p) (by rw [nm_len]; exact hp)
 rwa [Stand_nm, arityD_nm, endN_nm] at this
theorem TermW.stand (h : TermW ar t) (hs : Stand ar t (n + 1) q e) : q < t.length ∧ Stand ar t n (M.endN ar t q) e ∧ q < M.endN ar t q ∧ M.endN ar t q ≤ e := by
 have := stand_step h.nm (Stand_nm.2 hs)
 rwa [Stand_nm, nm_len, endN_nm] at this
theorem TermW.args_le (h : TermW ar t) (hp : p < t.length) : (argsL ar t p).length ≤ 3 := by
 have := argsL_le h.nm (p := p) (by rw [nm_len]; exact hp)
 rwa [argsL_nm] at this
theorem TermW.args_in (h : TermW ar t) (hp : p < t.length) {k : Nat} (hk : k < (argsL ar t p).length) : (p : Int) < (argsL ar t p).getD k 0 ∧ (argsL ar t p).getD k 0 < (M.endN ar t p : Int) := by
 have := argsL_in h.nm (p := p) (by rw [nm_len]; exact hp) (k := k) (by rw [argsL_nm]; exact hk)
 rw [argsL_nm, endN_nm] at this
 exact ⟨this.1, this.2.1⟩
theorem TermW.end0 (h : TermW ar t) : M.endN ar t 0 = t.length := by
 unfold M.endN endAt
 rw [List.drop_zero, h.whole]; simp
theorem TermW.ne (h : TermW ar t) : t ≠ [] := fun e => by have := h.len.1; rw [e] at this; simp at this
def WF (ar r : List Int) (n : Nat) : Prop := endGo ar r n = some r.length
theorem WF_nil : WF ar [] 0 := rfl
theorem WF_cons {x : Int} {r : List Int} : WF ar (x :: r) (n + 1) ↔ x < ar.length ∧ WF ar r (n + (arity ar x).toNat) := by
 unfold WF
 simp only [endGo, List.length_cons]
 by_cases hx : x < ar.length
 ·rw [if_pos hx]
  cases hr : endGo ar r (n + (arity ar x).toNat) with
  | none => simp
  | some k => simp [hx]
 ·rw [if_neg hx]; simp [hx]
theorem WF_app {a b : List Int} {m : Nat} (h : WF ar a n) (k : WF ar b m) : WF ar (a ++ b) (n + m) := by
 have := endGo_join (endGo_more (b := b) h) (m := m) (e2 := b.length) (by rw [List.drop_left]; exact k)
 unfold WF
 rw [List.length_append]; exact this
theorem WF_same {a b s r : List Int} (h : WF ar a n) (k : WF ar b n) (e : a ++ s = b ++ r) : a = b ∧ s = r := by
 have h1 := endGo_more (b := s) h
 rw [e, endGo_more (b := r) k] at h1
 exact List.append_inj e (Option.some.inj h1).symm
theorem WF_split {r : List Int} {m : Nat} (h : WF ar r (n + m)) : ∃ a b, r = a ++ b ∧ WF ar a n ∧ WF ar b m := by
 obtain ⟨e1, e2, h1, h2, h3⟩ := endGo_split h
 have hl := endGo_le h1
 refine ⟨r.take e1, r.drop e1, (List.take_append_drop ..).symm, ?_, ?_⟩
 ·unfold WF; rw [List.length_take, Nat.min_eq_left hl]; exact endGo_take h1
 ·unfold WF; rw [h2, List.length_drop]; congr 1; omega
theorem WF.zero {r : List Int} (h : WF ar r 0) : r = [] := by
 unfold WF at h
 simp only [endGo, Option.some.injEq] at h
 exact List.eq_nil_of_length_eq_zero h.symm
theorem WF.pos {r : List Int} (h : WF ar r (n + 1)) : r ≠ [] := fun e => by subst e; simp [WF, endGo] at h
theorem TermW.wf (h : TermW ar t) : WF ar t 1 := h.whole
theorem WF.var {x : Int} (hx : x < 0) : WF ar [x] 1 := WF_cons.2 ⟨by omega, by rw [show arity ar x = 0 from by unfold arity; rw [if_pos hx]]; exact WF_nil⟩
theorem WF.one {x : Int} {r : List Int} (h : WF ar (x :: r) 1) (hx : x < 0) : r = [] := by
 have := (WF_cons.1 h).2
 rw [show arity ar x = 0 from by unfold arity; rw [if_pos hx]] at this
 exact this.zero
theorem TermW.isvar (h : TermW ar t) (hx : t.getD 0 0 < 0) : t = [t.getD 0 0] := by
 cases t with
 | nil => exact absurd rfl h.ne
 | cons x r => simp only [List.getD_cons_zero] at hx ⊢; rw [h.wf.one hx]
theorem wf_sub (h : TermW ar t) (hp : p < t.length) : t.drop p = sub ar t p ++ t.drop (M.endN ar t p) := by
 have := h.endN hp
 unfold sub
 rw [show t.drop (M.endN ar t p) = (t.drop p).drop (M.endN ar t p - p) from by rw [List.drop_drop]; congr 1; omega, List.take_append_drop]
end
abbrev Sbs := Int → List Int
def ap (θ : Sbs) (t : List Int) : List Int := t.flatMap θ
structure GoodS (ar : List Int) (θ : Sbs) : Prop where
 sym : ∀ n, 0 ≤ n → θ n = [n]
 var : ∀ n, n < 0 → WF ar (θ n) 1
section
variable {ar t s r : List Int} {θ σ : Sbs} {n : Nat} {x : Int}
@[simp] theorem ap_nil : ap θ [] = [] := rfl
theorem ap_cons : ap θ (x :: t) = θ x ++ ap θ t := by simp [ap]
theorem ap_app : ap θ (t ++ s) = ap θ t ++ ap θ s := by simp [ap]
theorem ap_one : ap θ [x] = θ x := by simp [ap]
theorem ap_ap : ap θ (ap σ t) = ap (fun n => ap θ (σ n)) t := by
 induction t with
 | nil => rfl
 | cons x t ih => rw [ap_cons, ap_app, ih, ap_cons]
theorem ap_congr (h : ∀ x ∈ t, θ x = σ x) : ap θ t = ap σ t := by
 induction t with
 | nil => rfl
 | cons x t ih => rw [ap_cons, ap_cons, h x (by simp), ih (fun y hy => h y (by simp [hy]))]
theorem mem_ap {y : Int} : y ∈ ap θ t ↔ ∃ x ∈ t, y ∈ θ x := by simp [ap]
theorem GoodS.pos (h : GoodS ar θ) : 1 ≤ (θ x).length := by
 rcases Int.lt_or_le x 0 with hx | hx
 ·have := (h.var x hx).pos
  cases hl : θ x with
  | nil => exact absurd hl this
  | cons => simp
 ·rw [h.sym x hx]; simp
theorem GoodS.len (h : GoodS ar θ) : t.length ≤ (ap θ t).length := by
 induction t with
 | nil => simp
 | cons x t ih => rw [ap_cons, List.length_append, List.length_cons]; have := h.pos (x := x); omega
theorem GoodS.len_mem (h : GoodS ar θ) (hx : x ∈ t) : (θ x).length + t.length ≤ (ap θ t).length + 1 := by
 induction t with
 | nil => cases hx
 | cons y t ih =>
  rw [ap_cons, List.length_append, List.length_cons]
  rcases List.mem_cons.1 hx with rfl | hx
  ·have := h.len (t := t); omega
  ·have := ih hx; have := h.pos (x := y); omega
theorem ap_wf (h : GoodS ar θ) : ∀ {r : List Int} {n : Nat}, WF ar r n → WF ar (ap θ r) n
 | [], 0, _ => WF_nil
 | [], n + 1, k => absurd rfl k.pos
 | x :: r, 0, k => by have := k.zero; cases this
 | x :: r, n + 1, k => by
  obtain ⟨h1, h2⟩ := WF_cons.1 k
  rw [ap_cons]
  rcases Int.lt_or_le x 0 with hx | hx
  ·rw [show arity ar x = 0 from by unfold arity; rw [if_pos hx]] at h2
   rw [Nat.add_comm]
   exact WF_app (h.var x hx) (ap_wf h h2)
  ·rw [h.sym x hx]
   exact WF_cons.2 ⟨h1, ap_wf h h2⟩
theorem GoodS.id : GoodS ar (fun n => [n]) := ⟨fun _ _ => rfl, fun _ h => WF.var h⟩
theorem ap_id : ap (fun n => [n]) t = t := by simp [ap]
def partsL (ar t : List Int) : RowL := (argsL ar t 0).map fun q => sub ar t q.toNat
theorem parts_go (h : TermW ar t) : ∀ {n q e : Nat}, Stand ar t n q e → ((argsGo ar t n q).map fun q => sub ar t q.toNat).flatten = (t.drop q).take (e - q)
 | 0, q, e, hs => by
  have := hs.1
  simp only [endGo, Option.some.injEq] at this
  have := hs.2
  simp [argsGo, show e - q = 0 by omega]
 | n + 1, q, e, hs => by
  obtain ⟨h1, h2, h3, h4⟩ := h.stand hs
  rw [argsGo, List.map_cons, List.flatten_cons, parts_go h h2, Int.toNat_natCast]
  unfold sub
  rw [show e - q = (M.endN ar t q - q) + (e - M.endN ar t q) from by omega, List.take_add, List.drop_drop, show q + (M.endN ar t q - q) = M.endN ar t q from by omega]
theorem parts_flat (h : TermW ar t) : t = t.getD 0 0 :: (partsL ar t).flatten := by
 have hl := h.len
 unfold partsL argsL
 rw [parts_go h (h.stand0 (p := 0) (by omega)), h.end0, List.take_of_length_le (by rw [List.length_drop]; omega)]
 cases t with
 | nil => exact absurd rfl h.ne
 | cons x r => simp
theorem parts_wf (h : TermW ar t) : ∀ s ∈ partsL ar t, TermW ar s := by
 intro s hs
 unfold partsL at hs
 obtain ⟨q, hq, rfl⟩ := List.mem_map.1 hs
 obtain ⟨k, hk, rfl⟩ := List.getElem_of_mem hq
 have hl := h.len
 have := h.args_in (p := 0) (by omega) hk
 rw [h.end0] at this
 have e : (argsL ar t 0)[k] = (argsL ar t 0).getD k 0 := by simp [List.getD, hk]
 rw [e]
 exact h.sub (by omega)
theorem parts_len : (partsL ar t).length = (arity ar (t.getD 0 0)).toNat := by unfold partsL; rw [List.length_map, argsL_len]
theorem flat_same : ∀ {as bs : RowL}, as.length = bs.length → (∀ a ∈ as, WF ar a 1) → (∀ b ∈ bs, WF ar b 1) → as.flatten = bs.flatten → as = bs
 | [], [], _, _, _, _ => rfl
 | [], _ :: _, h, _, _, _ => by simp at h
 | _ :: _, [], h, _, _, _ => by simp at h
 | a :: as, b :: bs, h, ha, hb, e => by
  simp only [List.flatten_cons] at e
  obtain ⟨e1, e2⟩ := WF_same (ha a (by simp)) (hb b (by simp)) e
  rw [e1, flat_same (by simpa using h) (fun x hx => ha x (by simp [hx])) (fun x hx => hb x (by simp [hx])) e2]
theorem ap_flat {as : RowL} : ap θ as.flatten = (as.map (ap θ)).flatten := by
 induction as with
 | nil => rfl
 | cons a as ih => rw [List.flatten_cons, ap_app, ih, List.map_cons, List.flatten_cons]
theorem ap_parts {a c : List Int} (g : GoodS ar θ) (ha : TermW ar a) (hc : TermW ar c) (h0 : 0 ≤ a.getD 0 0) (he : a.getD 0 0 = c.getD 0 0) :
  ap θ a = ap θ c ↔ ∀ i, i < (partsL ar a).length → ap θ ((partsL ar a).getD i []) = ap θ ((partsL ar c).getD i []) := by
 have hl : (partsL ar a).length = (partsL ar c).length := by rw [parts_len, parts_len, he]
 have e1 : ap θ a = ap θ c ↔ (partsL ar a).map (ap θ) = (partsL ar c).map (ap θ) := by
  have ea : ap θ a = θ (a.getD 0 0) ++ ((partsL ar a).map (ap θ)).flatten := by
   have := congrArg (ap θ) (parts_flat ha); rwa [ap_cons, ap_flat] at this
  have ec : ap θ c = θ (a.getD 0 0) ++ ((partsL ar c).map (ap θ)).flatten := by
   have := congrArg (ap θ) (parts_flat hc); rwa [ap_cons, ap_flat, ← he] at this
  rw [ea, ec]
  constructor
  ·intro h
   exact flat_same (ar := ar) (by simp [hl]) (fun x hx => by obtain ⟨y, hy, rfl⟩ := List.mem_map.1 hx; exact ap_wf g (parts_wf ha y hy).wf) (fun x hx => by obtain ⟨y, hy, rfl⟩ := List.mem_map.1 hx; exact ap_wf g (parts_wf hc y hy).wf) (List.append_cancel_left h)
  ·intro h; rw [h]
 rw [e1]
 constructor
 ·intro h i hi
  have := congrArg (fun l : RowL => l.getD i []) h
  simpa [List.getD, hi, show i < (partsL ar c).length by omega] using this
 ·intro h
  refine List.ext_getElem (by simp [hl]) fun i h1 h2 => ?_
  have hi : i < (partsL ar a).length := by simpa using h1
  have := h i hi
  simpa [List.getD, hi, show i < (partsL ar c).length by omega] using this
theorem ap_heads {a c : List Int} (g : GoodS ar θ) (ha : TermW ar a) (hc : TermW ar c) (h0 : 0 ≤ a.getD 0 0) (h1 : 0 ≤ c.getD 0 0) (hn : a.getD 0 0 ≠ c.getD 0 0) : ap θ a ≠ ap θ c := by
 intro h
 have ea := congrArg (ap θ) (parts_flat ha)
 have ec := congrArg (ap θ) (parts_flat hc)
 rw [ap_cons, g.sym _ h0] at ea
 rw [ap_cons, g.sym _ h1] at ec
 rw [ea, ec] at h
 exact hn (List.cons.inj h).1
theorem part_lt (g : GoodS ar θ) (ha : TermW ar t) {i : Nat} (hi : i < (partsL ar t).length) : (ap θ ((partsL ar t).getD i [])).length < (ap θ t).length := by
 have e : ap θ t = θ (t.getD 0 0) ++ ap θ (partsL ar t).flatten := by
  have := congrArg (ap θ) (parts_flat ha); rwa [ap_cons] at this
 have hp := g.pos (x := t.getD 0 0)
 rw [e, List.length_append, ap_flat]
 have : ∀ (l : RowL) (j : Nat), j < l.length → (ap θ (l.getD j [])).length ≤ (l.map (ap θ)).flatten.length := by
  intro l
  induction l with
  | nil => intro j hj; simp at hj
  | cons x l ih =>
   intro j hj
   rw [List.map_cons, List.flatten_cons, List.length_append]
   cases j with
   | zero => simp
   | succ j => have := ih j (by simpa using hj); simp only [List.getD_cons_succ]; omega
 have := this _ i hi
 omega
end
def SatB (b : RowL) (θ : Sbs) : Prop := ∀ n, n < 0 → lkN b n ≠ [] → θ n = ap θ (lkN b n)
def Sol (b : RowL) (σ : Sbs) : Prop := ∀ n, σ n = if lkN b n = [] then [n] else ap σ (lkN b n)
def Acyc (b : RowL) (ρ : Int → Nat) : Prop := ∀ n, n < 0 → ∀ m ∈ lkN b n, m < 0 → ρ m < ρ n
structure BOk (ar : List Int) (b : RowL) : Prop where
 len : b.length = 48
 wt : ∀ n, n < 0 → lkN b n ≠ [] → TermW ar (lkN b n)
 acyc : ∃ ρ, Acyc b ρ
section
variable {ar t s : List Int} {b : RowL} {θ σ : Sbs} {ρ : Int → Nat} {x n : Int}
def solGo (b : RowL) : Nat → Sbs
 | 0, n => [n]
 | k + 1, n => if lkN b n = [] then [n] else ap (solGo b k) (lkN b n)
theorem solGo_sym (h : 0 ≤ n) : ∀ k, solGo b k n = [n]
 | 0 => rfl
 | k + 1 => by rw [solGo, if_pos (lkN_pos h)]
theorem solGo_stable (ha : Acyc b ρ) : ∀ (r : Nat) (n : Int), n < 0 → ρ n = r → ∀ k, r < k → solGo b k n = solGo b (r + 1) n := by
 intro r
 induction r using Nat.strongRecOn with
 | _ r ih =>
  intro n hn hr k hk
  obtain ⟨k, rfl⟩ : ∃ j, k = j + 1 := ⟨k - 1, by omega⟩
  rw [solGo, solGo]
  split
  ·rfl
  ·refine ap_congr fun m hm => ?_
   rcases Int.lt_or_le m 0 with h0 | h0
   ·have := ha n hn m hm h0
    rw [ih (ρ m) (by omega) m h0 rfl k (by omega), ih (ρ m) (by omega) m h0 rfl r (by omega)]
   ·rw [solGo_sym h0, solGo_sym h0]
theorem sol_exists (ha : Acyc b ρ) : ∃ σ, Sol b σ := by
 refine ⟨fun n => solGo b (ρ n + 1) n, fun n => ?_⟩
 dsimp only
 rw [solGo]
 split
 ·rfl
 ·refine ap_congr fun m hm => ?_
  rcases Int.lt_or_le m 0 with h0 | h0
  ·rcases Int.lt_or_le n 0 with hn | hn
   ·exact solGo_stable ha _ m h0 rfl _ (ha n hn m hm h0)
   ·rw [lkN_pos hn] at hm; cases hm
  ·rw [solGo_sym h0, solGo_sym h0]
theorem Sol.sym (h : Sol b σ) (hn : 0 ≤ n) : σ n = [n] := by rw [h n, if_pos (lkN_pos hn)]
theorem Sol.free (h : Sol b σ) (hn : lkN b n = []) : σ n = [n] := by rw [h n, if_pos hn]
theorem Sol.bound (h : Sol b σ) (hn : lkN b n ≠ []) : σ n = ap σ (lkN b n) := by rw [h n, if_neg hn]
theorem Sol.sat (h : Sol b σ) : SatB b σ := fun n _ hn => h.bound hn
theorem Sol.good (hb : BOk ar b) (h : Sol b σ) : GoodS ar σ := by
 obtain ⟨ρ, ha⟩ := hb.acyc
 refine ⟨fun n hn => h.sym hn, ?_⟩
 have key : ∀ (r : Nat) (n : Int), n < 0 → ρ n = r → WF ar (σ n) 1 := by
  intro r
  induction r using Nat.strongRecOn with
  | _ r ih =>
   intro n hn hr
   by_cases hl : lkN b n = []
   ·rw [h.free hl]; exact WF.var hn
   ·rw [h.bound hl]
    have g : GoodS ar (fun m => if m ∈ lkN b n then σ m else [m]) := by
     refine ⟨fun m hm => ?_, fun m hm => ?_⟩
     ·split
      ·exact h.sym hm
      ·rfl
     ·split
      ·rename_i hmem
       exact ih (ρ m) (by have := ha n hn m hmem hm; omega) m hm rfl
      ·exact WF.var hm
    rw [ap_congr (σ := fun m => if m ∈ lkN b n then σ m else [m]) (fun m hm => by simp [hm])]
    exact ap_wf g (hb.wt n hn hl).wf
 exact fun n hn => key _ n hn rfl
theorem Sol.most (ha : Acyc b ρ) (h : Sol b σ) (hs : ∀ n, 0 ≤ n → θ n = [n]) (hθ : SatB b θ) : ∀ n, ap θ (σ n) = θ n := by
 have key : ∀ (r : Nat) (n : Int), n < 0 → ρ n = r → ap θ (σ n) = θ n := by
  intro r
  induction r using Nat.strongRecOn with
  | _ r ih =>
   intro n hn hr
   by_cases hl : lkN b n = []
   ·rw [h.free hl, ap_one]
   ·rw [h.bound hl, ap_ap, hθ n hn hl]
    refine ap_congr fun m hm => ?_
    rcases Int.lt_or_le m 0 with h0 | h0
    ·exact ih (ρ m) (by have := ha n hn m hm h0; omega) m h0 rfl
    ·rw [h.sym h0, ap_one]
 intro n
 rcases Int.lt_or_le n 0 with h0 | h0
 ·exact key _ n h0 rfl
 ·rw [h.sym h0, ap_one]
theorem Sol.most_t (hb : BOk ar b) (h : Sol b σ) (g : GoodS ar θ) (hθ : SatB b θ) : ap θ (ap σ t) = ap θ t := by
 obtain ⟨ρ, ha⟩ := hb.acyc
 rw [ap_ap]
 exact ap_congr fun m _ => h.most ha g.sym hθ m
theorem BOk.sol (hb : BOk ar b) : ∃ σ, Sol b σ := let ⟨_, ha⟩ := hb.acyc; sol_exists ha
theorem lkN_nils : lkN (List.replicate 48 []) n = [] := by
 unfold lkN
 split
 ·rfl
 ·simp only [List.getD, List.getElem?_replicate]
  split <;> rfl
theorem BOk.nils : BOk ar (List.replicate 48 []) := ⟨by simp, fun n _ h => absurd lkN_nils h, ⟨fun _ => 0, fun n _ m hm => by rw [lkN_nils] at hm; cases hm⟩⟩
theorem SatB.nils : SatB (List.replicate 48 []) θ := fun n _ h => absurd lkN_nils h
theorem varIx_inj {x y : Int} (hx : x < 0) (hy : y < 0) (h : varIx x = varIx y) : x = y := by unfold varIx at h; omega
theorem lkN_set (hb : b.length = 48) (hx : x < 0) (hx48 : -48 ≤ x) : lkN (b.set (varIx x) t) n = if n = x then t else lkN b n := by
 unfold lkN
 by_cases hn : 0 ≤ n
 ·rw [if_pos hn, if_pos hn, if_neg (by omega)]
 ·rw [if_neg hn, if_neg hn]
  by_cases h : n = x
  ·subst h
   rw [if_pos rfl]
   simp only [List.getD, List.getElem?_set_self (show varIx n < b.length by rw [hb]; unfold varIx; omega), Option.getD_some]
  ·rw [if_neg h]
   simp only [List.getD]
   rw [List.getElem?_set_ne]
   intro e
   exact h (varIx_inj (by omega) hx e.symm)
theorem reach_mem {y : Int} (h : Sol b σ) (hm : n ∈ lkN b y) (hxn : x ∈ σ n) : x ∈ σ y := by
 rw [h.bound (fun e => by rw [e] at hm; cases hm)]
 exact mem_ap.2 ⟨n, hm, hxn⟩
theorem maxRank (l : List Int) (ρ : Int → Nat) : ∃ N, ∀ m ∈ l, ρ m < N := by
 induction l with
 | nil => exact ⟨0, fun _ h => by cases h⟩
 | cons x l ih =>
  obtain ⟨N, hN⟩ := ih
  refine ⟨N + ρ x + 1, fun m hm => ?_⟩
  rcases List.mem_cons.1 hm with rfl | hm
  ·omega
  ·have := hN m hm; omega
theorem BOk.bind (hb : BOk ar b) (h : Sol b σ) (hx : x < 0) (hx48 : -48 ≤ x) (hf : lkN b x = []) (ht : TermW ar t) (hno : x ∉ ap σ t) : BOk ar (b.set (varIx x) t) := by
 obtain ⟨ρ, ha⟩ := hb.acyc
 refine ⟨by rw [List.length_set]; exact hb.len, fun n hn hl => ?_, ?_⟩
 ·rw [lkN_set hb.len hx hx48] at hl ⊢
  split
  ·exact ht
  ·rename_i hne; rw [if_neg hne] at hl; exact hb.wt n hn hl
 ·obtain ⟨N, hN⟩ := maxRank t ρ
  refine ⟨fun y => if x ∈ σ y then ρ y + N else ρ y, fun n hn m hm h0 => ?_⟩
  dsimp only
  rw [lkN_set hb.len hx hx48] at hm
  split at hm
  ·rename_i he
   subst he
   have h1 : n ∉ σ m := fun hc => hno (mem_ap.2 ⟨m, hm, hc⟩)
   have h2 : n ∈ σ n := by rw [h.free hf]; simp
   rw [if_neg h1, if_pos h2]
   have := hN m hm; omega
  ·have := ha n hn m hm h0
   by_cases h1 : x ∈ σ m
   ·rw [if_pos h1, if_pos (reach_mem h hm h1)]; omega
   ·rw [if_neg h1]; split <;> omega
theorem SatB.bind (hb : b.length = 48) (hx : x < 0) (hx48 : -48 ≤ x) (hf : lkN b x = []) (ht : t ≠ []) : SatB (b.set (varIx x) t) θ ↔ SatB b θ ∧ θ x = ap θ t := by
 unfold SatB
 constructor
 ·intro h
  refine ⟨fun n hn hl => ?_, ?_⟩
  ·have := h n hn
   rw [lkN_set hb hx hx48, if_neg (fun e => by subst e; exact hl hf)] at this
   exact this hl
  ·have := h x hx
   rw [lkN_set hb hx hx48, if_pos rfl] at this
   exact this ht
 ·intro ⟨h1, h2⟩ n hn hl
  rw [lkN_set hb hx hx48] at hl ⊢
  split
  ·rename_i e; rw [e]; exact h2
  ·rename_i e; rw [if_neg e] at hl; exact h1 n hn hl
theorem no_occurs (hb : BOk ar b) (h : Sol b σ) (g : GoodS ar θ) (hθ : SatB b θ) (hx : x ∈ ap σ t) (h2 : 2 ≤ (ap σ t).length) : θ x ≠ ap θ t := by
 intro e
 rw [← h.most_t hb g hθ] at e
 have := g.len_mem hx
 have := congrArg List.length e
 omega
inductive RootOf (b : RowL) : List Int → List Int → Prop
 | here {t : List Int} (h : 0 ≤ t.getD 0 0 ∨ lkN b (t.getD 0 0) = []) : RootOf b t t
 | step {t u : List Int} (h0 : t.getD 0 0 < 0) (hl : lkN b (t.getD 0 0) ≠ []) (h : RootOf b (lkN b (t.getD 0 0)) u) : RootOf b t u
end
section
variable {ar t a c u w x y A C : List Int} {b b1 b2 : RowL} {θ σ : Sbs} {ρ : Int → Nat} {n m : Int} {k j N : Nat} {sn s1 s2 : List Bool} {E E1 E2 : Sbs → Prop}
def ClearM (σ : Sbs) (ρ : Int → Nat) (n : Int) (k : Nat) (sn : List Bool) : Prop := ∀ m : Int, m < 0 → sn.getD (varIx m) false = true → ρ m < k → n ∉ σ m
def MarkR (σ : Sbs) (n : Int) (sn s1 : List Bool) : Prop := ∀ m : Int, m < 0 → s1.getD (varIx m) false = true → sn.getD (varIx m) false = true ∨ n ∉ σ m
theorem MarkR.refl : MarkR σ n sn sn := fun _ _ h => .inl h
theorem set_mark (hl : s1.length = 48) (hm : m < 0) (hg : -48 ≤ m) (hy : n < 0) : (s1.set (varIx m) true).getD (varIx n) false = true ↔ n = m ∨ s1.getD (varIx n) false = true := by
 by_cases e : n = m
 ·subst e
  simp only [List.getD, List.getElem?_set_self (show varIx n < s1.length by rw [hl]; unfold varIx; omega), Option.getD_some, true_or]
 ·have : varIx m ≠ varIx n := fun h => e (varIx_inj hy hm h.symm)
  simp only [List.getD, List.getElem?_set_ne this, e, false_or]
theorem MarkR.step (h : MarkR σ n sn s1) (hl : s1.length = 48) (hm : m < 0) (hg : -48 ≤ m) (h2 : MarkR σ n (s1.set (varIx m) true) s2) (hno : n ∉ σ m) : MarkR σ n sn s2 := by
 intro y hy hs
 rcases h2 y hy hs with h3 | h3
 ·rcases (set_mark hl hm hg hy).1 h3 with rfl | h4
  ·exact .inr hno
  ·exact h y hy h4
 ·exact .inr h3
theorem MarkR.set (h : MarkR σ n sn s1) (hl : s1.length = 48) (hm : m < 0) (hg : -48 ≤ m) (hno : n ∉ σ m) : MarkR σ n sn (s1.set (varIx m) true) := h.step hl hm hg .refl hno
theorem ClearM.down (h : ClearM σ ρ n k sn) (h1 : MarkR σ n sn s1) (hl : s1.length = 48) (hm : m < 0) (hg : -48 ≤ m) (hk : ρ m < k) : ClearM σ ρ n (ρ m) (s1.set (varIx m) true) := by
 intro y hy hs hr
 rcases (set_mark hl hm hg hy).1 hs with rfl | h4
 ·omega
 ·rcases h1 y hy h4 with h5 | h5
  ·exact h y hy h5 (by omega)
  ·exact h5
theorem ClearM.seen (h : ClearM σ ρ n k sn) (h1 : MarkR σ n sn s1) (hm : m < 0) (hs : s1.getD (varIx m) false = true) (hk : ρ m < k) : n ∉ σ m := by
 rcases h1 m hm hs with h5 | h5
 ·exact h m hm h5 hk
 ·exact h5
theorem ClearM.nils : ClearM σ ρ n k (List.replicate N false) := by
 intro m hm h
 simp only [List.getD, List.getElem?_replicate] at h
 split at h <;> simp at h
theorem occ_here (hf : lkN b n = []) (h : Sol b σ) (hj : j < t.length) (he : t.getD j 0 = n) : n ∈ ap σ t := mem_ap.2 ⟨n, mem_of_getD hj he, by rw [h.free hf]; simp⟩
theorem occ_in (h : Sol b σ) (hj : j < t.length) (hm : t.getD j 0 = m) (hl : lkN b m ≠ []) (ho : n ∈ ap σ (lkN b m)) : n ∈ ap σ t := mem_ap.2 ⟨m, mem_of_getD hj hm, by rw [h.bound hl]; exact ho⟩
theorem occ_not (hall : ∀ i, i < t.length → n ∉ σ (t.getD i 0)) : n ∉ ap σ t := by
 intro h
 obtain ⟨x, hx, hn⟩ := mem_ap.1 h
 obtain ⟨i, hi, rfl⟩ := List.getElem_of_mem hx
 have := hall i hi
 simp only [List.getD, List.getElem?_eq_getElem hi, Option.getD_some] at this
 exact this hn
theorem sym_no (h : Sol b σ) (hn : n < 0) (hm : 0 ≤ m) : n ∉ σ m := by rw [h.sym hm]; simp; omega
theorem free_no (h : Sol b σ) (hne : m ≠ n) (hl : lkN b m = []) : n ∉ σ m := by rw [h.free hl]; simp; omega
theorem bound_no (h : Sol b σ) (hl : lkN b m ≠ []) (hno : n ∉ ap σ (lkN b m)) : n ∉ σ m := by rw [h.bound hl]; exact hno
theorem lkN_get (hm : m < 0) : lkN b m = b.getD (varIx m) [] := lkN_neg hm
structure Root (ar : List Int) (b : RowL) (t u : List Int) : Prop where
 w : TermW ar u
 top : 0 ≤ u.getD 0 0 ∨ lkN b (u.getD 0 0) = []
 same : ∀ θ : Sbs, SatB b θ → ap θ t = ap θ u
def RootTo (ar : List Int) (b : RowL) (t u : List Int) : Prop := TermW ar u ∧ ∀ θ : Sbs, SatB b θ → ap θ t = ap θ u
theorem RootTo.refl (h : TermW ar t) : RootTo ar b t t := ⟨h, fun _ _ => rfl⟩
theorem RootTo.next (hb : BOk ar b) (h : RootTo ar b t u) (h0 : u.getD 0 0 < 0) (hl : b.getD (varIx (u.getD 0 0)) [] ≠ []) : RootTo ar b t (b.getD (varIx (u.getD 0 0)) []) := by
 rw [← lkN_get h0] at hl ⊢
 refine ⟨hb.wt _ h0 hl, fun θ hθ => ?_⟩
 rw [h.2 θ hθ, h.1.isvar h0, ap_one, hθ _ h0 hl]
 rw [show [u.getD 0 0].getD 0 0 = u.getD 0 0 from rfl]
theorem RootTo.done (h : RootTo ar b t u) (ht : 0 ≤ u.getD 0 0 ∨ b.getD (varIx (u.getD 0 0)) [] = []) : Root ar b t u := by
 refine ⟨h.1, ?_, h.2⟩
 rcases Int.lt_or_le (u.getD 0 0) 0 with h0 | h0
 ·rw [lkN_get h0]; exact .inr (ht.resolve_left (by omega))
 ·exact .inl h0
def rootMu (ρ : Int → Nat) (u : List Int) : Nat := if u.getD 0 0 < 0 then ρ (u.getD 0 0) + 1 else 0
theorem rootMu_lt (ha : Acyc b ρ) (hb : BOk ar b) (h0 : u.getD 0 0 < 0) (hl : b.getD (varIx (u.getD 0 0)) [] ≠ []) : rootMu ρ (b.getD (varIx (u.getD 0 0)) []) < rootMu ρ u := by
 rw [← lkN_get h0] at hl ⊢
 unfold rootMu
 rw [if_pos h0]
 split
 ·rename_i h1
  have hw := (hb.wt _ h0 hl).len
  have := ha _ h0 ((lkN b (u.getD 0 0)).getD 0 0) (mem_of_getD (k := 0) (by omega) rfl) h1
  omega
 ·omega
def unb (b : RowL) : Nat := b.countP fun x => decide (x = [])
structure Solves (ar : List Int) (b b1 : RowL) (E : Sbs → Prop) : Prop where
 ok : BOk ar b1
 iff : ∀ θ, GoodS ar θ → (SatB b1 θ ↔ SatB b θ ∧ E θ)
 less : unb b1 < unb b ∨ b1 = b
theorem Solves.refl (hb : BOk ar b) (h : ∀ θ, GoodS ar θ → SatB b θ → E θ) : Solves ar b b E := ⟨hb, fun θ g => ⟨fun hs => ⟨hs, h θ g hs⟩, fun hs => hs.1⟩, .inr rfl⟩
theorem Solves.trans (h1 : Solves ar b b1 E1) (h2 : Solves ar b1 b2 E2) : Solves ar b b2 (fun θ => E1 θ ∧ E2 θ) := by
 refine ⟨h2.ok, fun θ g => ?_, ?_⟩
 ·rw [h2.iff θ g, h1.iff θ g, and_assoc]
 ·rcases h1.less with e1 | e1 <;> rcases h2.less with e2 | e2
  ·left; omega
  ·left; rw [e2]; exact e1
  ·left; rw [e1] at e2; exact e2
  ·right; rw [e2, e1]
theorem Solves.congr (h : Solves ar b b1 E) (hc : ∀ θ, GoodS ar θ → SatB b θ → (E θ ↔ E1 θ)) : Solves ar b b1 E1 := by
 refine ⟨h.ok, fun θ g => ?_, h.less⟩
 rw [h.iff θ g]
 exact ⟨fun ⟨p, q⟩ => ⟨p, (hc θ g p).1 q⟩, fun ⟨p, q⟩ => ⟨p, (hc θ g p).2 q⟩⟩
theorem unb_set : ∀ {b : RowL} {i : Nat} {t : List Int}, i < b.length → b.getD i [] = [] → t ≠ [] → unb (b.set i t) < unb b
 | [], i, t, h, _, _ => by simp at h
 | r :: b, 0, t, h, he, ht => by
  simp only [List.getD_cons_zero] at he
  subst he
  simp [unb, ht]
 | r :: b, i + 1, t, h, he, ht => by
  have := unb_set (b := b) (i := i) (t := t) (by simpa using h) (by simpa using he) ht
  simp only [unb, List.set_cons_succ, List.countP_cons] at this ⊢
  omega
theorem Solves.bind (hb : BOk ar b) (h : Sol b σ) (hn : n < 0) (hg : -48 ≤ n) (hf : lkN b n = []) (ht : TermW ar t) (hno : n ∉ ap σ t) : Solves ar b (b.set (varIx n) t) (fun θ => θ n = ap θ t) := by
 refine ⟨hb.bind h hn hg hf ht hno, fun θ _ => SatB.bind hb.len hn hg hf ht.ne, .inl ?_⟩
 rw [lkN_get hn] at hf
 exact unb_set (by rw [hb.len]; unfold varIx; omega) hf ht.ne
theorem bind_eq (hb : BOk ar b) (h : Sol b σ) (hx : Root ar b A x) (hy : Root ar b C y) (hn : x.getD 0 0 < 0) (hno : x.getD 0 0 ∉ ap σ y) : Solves ar b (b.set (varIx (x.getD 0 0)) y) (fun θ => ap θ A = ap θ C) := by
 have hl := hx.w.len
 refine (Solves.bind hb h hn (hx.w.geD (by omega)) (hx.top.resolve_left (by omega)) hy.w hno).congr fun θ g hs => ?_
 rw [hx.same θ hs, hy.same θ hs]
 have := congrArg (ap θ) (hx.w.isvar hn)
 rw [ap_one] at this
 rw [this]
theorem bind_var (h : Sol b σ) (hy : Root ar b C y) (hn : y.getD 0 0 < 0) (hne : x.getD 0 0 ≠ y.getD 0 0) : x.getD 0 0 ∉ ap σ y := by
 have := congrArg (ap σ) (hy.w.isvar hn)
 rw [ap_one, h.free (hy.top.resolve_left (by omega))] at this
 rw [this]
 exact fun h => hne (List.mem_singleton.1 h)
theorem occ_eq (hb : BOk ar b) (h : Sol b σ) (hx : Root ar b A x) (hy : Root ar b C y) (hn : x.getD 0 0 < 0) (h0 : 0 ≤ y.getD 0 0) (ho : x.getD 0 0 ∈ ap σ y) : ∀ θ, GoodS ar θ → SatB b θ → ap θ A ≠ ap θ C := by
 intro θ g hs
 rw [hx.same θ hs, hy.same θ hs]
 have e := congrArg (ap θ) (hx.w.isvar hn)
 rw [ap_one] at e
 rw [e]
 refine no_occurs hb h g hs ho ?_
 have gs := h.good hb
 have e2 : ap σ y = σ (y.getD 0 0) ++ ap σ (partsL ar y).flatten := by
  have := congrArg (ap σ) (parts_flat hy.w); rwa [ap_cons] at this
 rw [e2, h.sym h0] at ho ⊢
 rcases List.mem_append.1 ho with h1 | h1
 ·exact absurd (List.mem_singleton.1 h1) (by omega)
 ·cases hl : ap σ (partsL ar y).flatten with
  | nil => rw [hl] at h1; cases h1
  | cons => simp
theorem same_eq (hb : BOk ar b) (hx : Root ar b A x) (hy : Root ar b C y) (hn : x.getD 0 0 < 0) (he : x.getD 0 0 = y.getD 0 0) : Solves ar b b (fun θ => ap θ A = ap θ C) := by
 refine Solves.refl hb fun θ g hs => ?_
 rw [hx.same θ hs, hy.same θ hs, hx.w.isvar hn, hy.w.isvar (by omega), he]
theorem heads_ne (hx : Root ar b A x) (hy : Root ar b C y) (h0 : 0 ≤ x.getD 0 0) (h1 : 0 ≤ y.getD 0 0) (hn : x.getD 0 0 ≠ y.getD 0 0) : ∀ θ, GoodS ar θ → SatB b θ → ap θ A ≠ ap θ C := by
 intro θ g hs
 rw [hx.same θ hs, hy.same θ hs]
 exact ap_heads g hx.w hy.w h0 h1 hn
theorem Solves.swap (h : Solves ar b b1 (fun θ => ap θ A = ap θ C)) : Solves ar b b1 (fun θ => ap θ C = ap θ A) := h.congr fun _ _ _ => eq_comm
theorem no_swap (h : ∀ θ, GoodS ar θ → SatB b θ → ap θ A ≠ ap θ C) : ∀ θ, GoodS ar θ → SatB b θ → ap θ C ≠ ap θ A := fun θ g s e => h θ g s e.symm
def EqTo (ar x y : List Int) (j : Nat) (θ : Sbs) : Prop := ∀ i, i < j → ap θ ((partsL ar x).getD i []) = ap θ ((partsL ar y).getD i [])
theorem EqTo.start (hb : BOk ar b) : Solves ar b b (EqTo ar x y 0) := Solves.refl hb fun _ _ _ i hi => absurd hi (by omega)
theorem EqTo.next (h : Solves ar b b1 (EqTo ar x y j)) (h2 : Solves ar b1 b2 (fun θ => ap θ ((partsL ar x).getD j []) = ap θ ((partsL ar y).getD j []))) : Solves ar b b2 (EqTo ar x y (j + 1)) :=
 (h.trans h2).congr fun θ _ _ => ⟨fun ⟨p, q⟩ i hi => (Nat.lt_or_ge i j).elim (fun h => p i h) (fun h => by obtain rfl : i = j := (by omega); exact q), fun h => ⟨fun i hi => h i (by omega), h j (by omega)⟩⟩
theorem EqTo.stop (h : Solves ar b b1 (EqTo ar x y j)) (hx : Root ar b A x) (hy : Root ar b C y) (hj : j < (partsL ar x).length) (h0 : 0 ≤ x.getD 0 0) (he : x.getD 0 0 = y.getD 0 0)
  (h2 : ∀ θ, GoodS ar θ → SatB b1 θ → ap θ ((partsL ar x).getD j []) ≠ ap θ ((partsL ar y).getD j [])) : ∀ θ, GoodS ar θ → SatB b θ → ap θ A ≠ ap θ C := by
 intro θ g hs e
 rw [hx.same θ hs, hy.same θ hs] at e
 have hp := (ap_parts g hx.w hy.w h0 he).1 e
 exact h2 θ g ((h.iff θ g).2 ⟨hs, fun i hi => hp i (by omega)⟩) (hp j hj)
theorem EqTo.done (h : Solves ar b b1 (EqTo ar x y j)) (hx : Root ar b A x) (hy : Root ar b C y) (hj : j = (partsL ar x).length) (h0 : 0 ≤ x.getD 0 0) (he : x.getD 0 0 = y.getD 0 0) : Solves ar b b1 (fun θ => ap θ A = ap θ C) :=
 h.congr fun θ g hs => by
  rw [hx.same θ hs, hy.same θ hs, ap_parts g hx.w hy.w h0 he, ← hj]
  rfl
theorem EqTo.less (h : Solves ar b b1 (EqTo ar x y j)) (hb : BOk ar b) (hσ : Sol b σ) (hx : Root ar b A x) (hj : j < (partsL ar x).length) (hk : unb b ≤ k) (hN : (ap σ A).length ≤ N) :
  ∃ σ1 k1 N1, Sol b1 σ1 ∧ unb b1 ≤ k1 ∧ (ap σ1 ((partsL ar x).getD j [])).length ≤ N1 ∧ (k1 < k ∨ k1 = k ∧ N1 < N) := by
 rcases h.less with h1 | h1
 ·obtain ⟨σ1, h2⟩ := h.ok.sol
  exact ⟨σ1, unb b1, _, h2, Nat.le_refl _, Nat.le_refl _, .inl (by omega)⟩
 ·subst h1
  refine ⟨σ, k, _, hσ, hk, Nat.le_refl _, .inr ⟨rfl, ?_⟩⟩
  have := part_lt (hσ.good hb) hx.w hj
  rw [hx.same σ hσ.sat] at hN
  omega
theorem parts_get (hj : j < (argsL ar t 0).length) : (partsL ar t).getD j [] = sub ar t ((argsL ar t 0).getD j 0).toNat := by
 unfold partsL
 simp [List.getD, hj]
theorem parts_W (h : TermW ar t) (hj : j < (argsL ar t 0).length) : TermW ar ((partsL ar t).getD j []) := by
 have hl : j < (partsL ar t).length := by unfold partsL; simpa using hj
 refine parts_wf h _ ?_
 simp only [List.getD, List.getElem?_eq_getElem hl, Option.getD_some]
 exact List.getElem_mem hl
theorem args_same (he : x.getD 0 0 = y.getD 0 0) : (argsL ar x 0).length = (argsL ar y 0).length := by rw [argsL_len, argsL_len, he]
theorem parts_args : (partsL ar t).length = (argsL ar t 0).length := by unfold partsL; simp
end
theorem args_nextW {ar t : List Int} {p n q : Nat} {os : List Int} (hn : 1 ≤ n) (he : argsL ar t p = os ++ argsGo ar t n q) : argsL ar t p = (os ++ [(q : Int)]) ++ argsGo ar t (n - 1) (endN ar t q) := by
 obtain ⟨n, rfl⟩ : ∃ m, n = m + 1 := ⟨n - 1, by omega⟩
 rw [he, argsGo, Nat.add_sub_cancel, List.append_assoc]; rfl
section
variable {ar t os : List Int} {b : RowL} {σ : Sbs} {ρ : Int → Nat} {m : Int} {j : Nat}
def resOk (σ : Sbs) (os t : List Int) : Bool := decide (os.length + (ap σ t).length ≤ 60)
def resX (σ : Sbs) (os t : List Int) : List Int := if resOk σ os t = true then os ++ ap σ t else []
theorem ap_take (hj : j < t.length) : ap σ (t.take (j + 1)) = ap σ (t.take j) ++ σ (t.getD j 0) := by
 rw [take_succ_getD 0 hj, ap_app, ap_one]
theorem ap_len_take (hj : j < t.length) : (ap σ (t.take j)).length + (σ (t.getD j 0)).length ≤ (ap σ t).length := by
 have e : t = t.take (j + 1) ++ t.drop (j + 1) := (List.take_append_drop ..).symm
 have h : (ap σ t).length = (ap σ (t.take (j + 1))).length + (ap σ (t.drop (j + 1))).length := by
  have := congrArg (fun l => (ap σ l).length) e
  simpa only [ap_app, List.length_append] using this
 rw [h, ap_take hj, List.length_append]; omega
theorem res_no (hj : j < t.length) (h : 60 < os.length + (ap σ (t.take j)).length + (σ (t.getD j 0)).length) : resOk σ os t = false := by
 have := ap_len_take (σ := σ) hj
 exact decide_eq_false (by omega)
theorem res_end (hj : j = t.length) (h : os.length + (ap σ (t.take j)).length ≤ 60) : resOk σ os t = true ∧ resX σ os t = os ++ ap σ (t.take j) := by
 subst hj
 rw [List.take_length] at h ⊢
 have h1 : resOk σ os t = true := decide_eq_true h
 exact ⟨h1, by unfold resX; rw [if_pos h1]⟩
end
def awayL (t : List Int) : List Int := t.map fun n => if n < 0 then n - 24 else n
theorem away_at {t : List Int} {k : Nat} (h : k < t.length) : (awayL (t.take k) ++ t.drop k).getD k 0 = t.getD k 0 := by
 have hl : (awayL (t.take k)).length = k := by simp [awayL]; omega
 rw [List.getD_eq_getElem?_getD, List.getElem?_append_right (by omega), hl, Nat.sub_self, List.getElem?_drop, List.getD_eq_getElem?_getD, Nat.add_zero]
theorem away_next {t ws w2 : List Int} {k : Nat} (h : k < t.length) (hws : ws = awayL (t.take k) ++ t.drop k) (h2 : (w2 = ws.set k (ws.getD k 0 - 24) ∧ t.getD k 0 < 0) ∨ (w2 = ws ∧ 0 ≤ t.getD k 0)) : w2 = awayL (t.take (k + 1)) ++ t.drop (k + 1) := by
 have hl : (awayL (t.take k)).length = k := by simp [awayL]; omega
 have e : awayL (t.take (k + 1)) = awayL (t.take k) ++ [if t.getD k 0 < 0 then t.getD k 0 - 24 else t.getD k 0] := by
  unfold awayL; rw [take_succ_getD 0 h, List.map_append]; rfl
 rw [e, List.append_assoc]
 have hd := drop_cons h
 rcases h2 with ⟨rfl, h0⟩ | ⟨rfl, h0⟩
 ·rw [hws, away_at h, if_pos h0, List.set_append_right _ _ (by omega), hl, Nat.sub_self, hd]; rfl
 ·rw [hws, if_neg (by omega), hd]; rfl
end Go.Proofs.YthkebalahfalhaaGreat.M
namespace Go.Proofs.YthkebalahfalhaaGreat.X
open Go
theorem XA.drawG {P : Program} {n : Nat} {Q : QX} {ρ : Env} {F : FH} {L : List HP} {l : List Oper} (Bs L0 : List HP) (m : Nat) (uses cls tk : List (List Nat)) (phi : Nat → FH → List Value → Value → Prop) (own : Nat → List Value → Value → List HP)
  (hL : L = Bs ++ L0) (hm : Nat.ble m l.length = true) (hok : drawOk l m uses cls = true) (htk : takeOk l m tk = true)
  (hmono : ∀ i F F' us v, F ≤ F' → phi i F us v → phi i F' us v)
  (hstep : stepsG P l ρ F Bs phi own uses cls tk (l.take m) 0)
  (hend : ∀ (vals : Nat → Value) (F1 : FH), F ≤ F1 → (∀ i, i < m → phi i F1 ((uses.getD i []).map vals) (vals i)) → XL P n l.toArray (l.drop m) Q (canon vals (l.take m) 0 ρ) F1 (madeG own uses tk vals (List.range m) ++ (Bs ++ L0))) :
  XA P n l Q ρ F L := by
 refine XA.drawH Bs L0 m uses cls tk phi own (fun _ => []) ?_ hm hok htk hmono (stepsG.toT _ _ hstep) hend
 rw [hL]
 have h : ∀ l : List Nat, l.flatMap (fun _ => ([] : List HP)) = [] := by
  intro l
  induction l with
  | nil => rfl
  | cons a l ih => simp
 rw [h, List.nil_append]
def addE (o : Oper) : Oper := { o with after := o.after.push { on := 0, ground := .data } }
def edge0 : List Oper → List Oper
 | [] => []
 | o :: r => o :: r.map addE
theorem edge0_get (o : Oper) (r : List Oper) (i : Nat) : (edge0 (o :: r))[i]? = ((o :: r)[i]?).map fun x => if i = 0 then x else addE x := by
 cases i with
 | zero => simp [edge0]
 | succ i => simp [edge0]
theorem edge0_ready {o : Oper} {r : List Oper} {listed : Array Bool} (h0 : listed.getD 0 false = true) : Region.ready .any (edge0 (o :: r)).toArray listed = Region.ready .any (o :: r).toArray listed := by
 have hs : (edge0 (o :: r)).toArray.size = (o :: r).toArray.size := by simp [edge0]
 unfold Region.ready
 rw [hs]
 refine List.filter_congr fun i _ => ?_
 have e : (edge0 (o :: r)).toArray[i]? = ((o :: r).toArray[i]?).map fun x => if i = 0 then x else addE x := by simpa using edge0_get o r i
 rw [e]
 cases hx : (o :: r).toArray[i]? with
 | none => rfl
 | some x =>
  simp only [Option.map_some, Option.getD_some]
  split
  ·rfl
  ·congr 1
   simp only [addE, Array.all_push]
   have : (!Region.binds .any { on := 0, ground := .data } || listed.getD 0 false) = true := by rw [h0]; simp
   rw [this, Bool.and_true]
theorem edge0_yielded {o : Oper} {r : List Oper} {t : Array Value} : yielded (edge0 (o :: r)).toArray t = yielded (o :: r).toArray t := by
 funext j
 unfold yielded
 have e : (edge0 (o :: r)).toArray[j]? = ((o :: r).toArray[j]?).map fun x => if j = 0 then x else addE x := by simpa using edge0_get o r j
 rw [e]
 cases hx : (o :: r).toArray[j]? with
 | none => rfl
 | some x =>
  have hd : (if j = 0 then x else addE x).dst = x.dst := by split <;> rfl
  simp only [Option.map_some, Option.bind_some, hd]
theorem edge0_wpOp {P : Program} {Q : Exit → Act → World → Prop} {o : Oper} {r : List Oper} {i : Nat} {K K' : Act → World → Prop} {a : Act} {w : World} (hK : ∀ a w, K a w → K' a w) (h : wpOp P (edge0 (o :: r)).toArray Q i K a w) : wpOp P (o :: r).toArray Q i K' a w := by
 unfold wpOp at *
 have e : (edge0 (o :: r)).toArray[i]? = ((o :: r).toArray[i]?).map fun x => if i = 0 then x else addE x := by simpa using edge0_get o r i
 rw [e, edge0_yielded] at h
 cases hx : (o :: r).toArray[i]? with
 | none => rw [hx] at h; exact hK _ _ h
 | some x =>
  rw [hx] at h
  simp only [Option.map_some] at h ⊢
  have key : ∀ y : Oper, y = x ∨ y = addE x → ((if Region.wanted y (yielded (o :: r).toArray a.tmps) then y.wp P a w K Q ∨ (y.asks P a w ∧ LetsOut Q) else K (a.put y.dst undef) w) → if Region.wanted x (yielded (o :: r).toArray a.tmps) then x.wp P a w K' Q ∨ (x.asks P a w ∧ LetsOut Q) else K' (a.put x.dst undef) w) := by
   rintro y (rfl | rfl) h
   ·split
    ·rename_i hw
     rw [if_pos hw] at h
     exact h.imp (Oper.wp_mono hK) id
    ·rename_i hw
     rw [if_neg hw] at h
     exact hK _ _ h
   ·have hw : Region.wanted (addE x) (yielded (o :: r).toArray a.tmps) = Region.wanted x (yielded (o :: r).toArray a.tmps) := rfl
    rw [hw] at h
    split
    ·rename_i hw
     rw [if_pos hw] at h
     have h' : x.wp P a w K Q ∨ (x.asks P a w ∧ LetsOut Q) := h
     exact h'.imp (Oper.wp_mono hK) id
    ·rename_i hw
     rw [if_neg hw] at h
     exact hK _ _ h
  exact key _ (by split <;> simp) h
theorem edge0_any {P : Program} {Q : Exit → Act → World → Prop} {o : Oper} {r : List Oper} : ∀ (fuel : Nat) (listed : Array Bool) (a : Act) (w : World), listed.getD 0 false = true → wpAny P .any (edge0 (o :: r)).toArray Q fuel listed a w → wpAny P .any (o :: r).toArray Q fuel listed a w
 | 0, listed, a, w, h0, h => by
  unfold wpAny at *
  rwa [edge0_ready h0] at h
 | fuel + 1, listed, a, w, h0, h => by
  unfold wpAny at *
  rw [edge0_ready h0] at h
  exact ⟨h.1, fun i hi => edge0_wpOp (fun a w => edge0_any fuel _ a w (getD_set_true h0)) (h.2 i hi)⟩
theorem X.free0 {P : Program} {n id : Nat} {Q : QX} {ρ : Env} {F : FH} {L : List HP} {d : Tmp} {x : Operand} {ty : TypeId} {pos : String} {r : List Oper}
  (hmix : P.follows .mixedOrders = true) (hsel : Region.noSelect ((⟨some d, .move x, ty, pos, #[], none⟩ : Oper) :: r).toArray = true)
  (hf : Region.free .any ((⟨some d, .move x, ty, pos, #[], none⟩ : Oper) :: r).toArray (Array.replicate (r.length + 1) false) 0 = true)
  (hQ : ∀ ch ρ ρ' F L, Q (.panic ch) ρ F L → Q (.panic ch) ρ' F L) (hO : ∀ ρ F L, ¬ Q .outgrown ρ F L)
  (h : XA P n (edge0 ((⟨some d, .move x, ty, pos, #[], none⟩ : Oper) :: r)) Q ρ F L) : X P n (.region id ((⟨some d, .move x, ty, pos, #[], none⟩ : Oper) :: r).toArray true) Q ρ F L := by
 intro cok a w rp H
 have ok : opsOk n ((⟨some d, .move x, ty, pos, #[], none⟩ : Oper) :: r) = true := by simpa [cOk] using cok
 refine wp_region_any hmix ?_
 have ok2 : opsOk n (edge0 ((⟨some d, .move x, ty, pos, #[], none⟩ : Oper) :: r)) = true := by
  simp only [opsOk, edge0, List.all_cons, List.all_map, Bool.and_eq_true] at ok ⊢
  exact ok
 have hA := h ok2 a _ rp H.drew
 have hs : (edge0 ((⟨some d, .move x, ty, pos, #[], none⟩ : Oper) :: r)).toArray.size = r.length + 1 := by simp [edge0]
 have hs2 : ((⟨some d, .move x, ty, pos, #[], none⟩ : Oper) :: r).toArray.size = r.length + 1 := by simp
 rw [hs] at hA
 rw [hs2]
 have hev : ∀ w, (execOp a.eval ⟨some d, .move x, ty, pos, #[], none⟩).run P w = .ok (.value (a.eval x)) w := by
  intro w; simp [execOp]
 have hready : 0 ∈ Region.ready .any ((⟨some d, .move x, ty, pos, #[], none⟩ : Oper) :: r).toArray (Array.replicate (r.length + 1) false) :=
  mem_ready.2 ⟨by simp, _, rfl, fun e he => by simp at he⟩
 have hready2 : 0 ∈ Region.ready .any (edge0 ((⟨some d, .move x, ty, pos, #[], none⟩ : Oper) :: r)).toArray (Array.replicate (r.length + 1) false) :=
  mem_ready.2 ⟨by simp, ⟨some d, .move x, ty, pos, #[], none⟩, rfl, fun e he => by cases he with | mk h => simp at h⟩
 refine wpAny_take (i := 0) rfl hsel hf (by simpa using hready) ?_ (.inl ⟨by simp [Region.wanted], hev⟩) ?_
 ·rintro c a w ⟨ρ', F', L', r', le, H', q⟩
  refine ⟨fun i => a.tmps.getD i undef, F', L', ⟨?_, ?_, fun _ => rfl⟩, le, H', hQ _ _ _ _ _ q⟩
  ·have := r'.size; simpa [Act.put] using this
  ·have := r'.defers; simpa [Act.put] using this
 ·have h1 := hA.2 0 hready2
  refine edge0_any _ _ _ _ (by simp) ?_
  unfold wpOp at h1
  have e0 : (edge0 ((⟨some d, .move x, ty, pos, #[], none⟩ : Oper) :: r)).toArray[0]? = some ⟨some d, .move x, ty, pos, #[], none⟩ := rfl
  rw [e0] at h1
  simp only [Region.wanted, if_true] at h1
  rcases h1 with h1 | ⟨_, a0, w0, ρ', F', L', _, _, _, q⟩
  ·unfold Oper.wp at h1
   rw [hev] at h1
   exact h1
  ·exact absurd q (hO _ _ _)
end Go.Proofs.YthkebalahfalhaaGreat.X
namespace Go.Proofs.YthkebalahfalhaaGreat.M
structure Mgu (ar A C : List Int) (b : RowL) : Prop where
 ok : BOk ar b
 iff : ∀ θ, GoodS ar θ → (SatB b θ ↔ ap θ A = ap θ C)
theorem Mgu.of {ar A C : List Int} {b : RowL} (h : Solves ar (List.replicate 48 []) b (fun θ => ap θ A = ap θ C)) : Mgu ar A C b :=
 ⟨h.ok, fun θ g => by rw [h.iff θ g]; exact ⟨fun x => x.2, fun x => ⟨SatB.nils, x⟩⟩⟩
section
variable {ar A C t s : List Int} {b1 b2 : RowL} {σ1 σ2 : Sbs} {n m : Int}
theorem Mgu.into (h1 : Mgu ar A C b1) (s1 : Sol b1 σ1) (h2 : Mgu ar A C b2) (s2 : Sol b2 σ2) : ap σ2 (ap σ1 t) = ap σ2 t := by
 have g2 := s2.good h2.ok
 exact s1.most_t h1.ok g2 ((h1.iff σ2 g2).2 ((h2.iff σ2 g2).1 s2.sat))
def hd1 (σ : Sbs) (n : Int) : Int := (σ n).getD 0 0
theorem Mgu.one (h1 : Mgu ar A C b1) (s1 : Sol b1 σ1) (h2 : Mgu ar A C b2) (s2 : Sol b2 σ2) (hn : n ∈ ap σ1 t) : σ2 n = [hd1 σ2 n] := by
 have g1 := s1.good h1.ok
 have g2 := s2.good h2.ok
 have e1 : (ap σ2 (ap σ1 t)).length = (ap σ2 t).length := congrArg _ (h1.into s1 h2 s2)
 have e2 : (ap σ1 (ap σ2 t)).length = (ap σ1 t).length := congrArg _ (h2.into s2 h1 s1)
 have l1 := g1.len (t := ap σ2 t)
 have l2 := g2.len_mem hn
 have l3 := g2.pos (x := n)
 have h : (σ2 n).length = 1 := by omega
 unfold hd1
 match hs : σ2 n, h with
 | [y], _ => rfl
theorem ap_map (h : ∀ n ∈ t, σ1 n = [hd1 σ1 n]) : ap σ1 t = t.map (hd1 σ1) := by
 induction t with
 | nil => rfl
 | cons x t ih => rw [ap_cons, h x (by simp), ih (fun n hn => h n (by simp [hn]))]; rfl
theorem Mgu.map (h1 : Mgu ar A C b1) (s1 : Sol b1 σ1) (h2 : Mgu ar A C b2) (s2 : Sol b2 σ2) : ap σ2 t = (ap σ1 t).map (hd1 σ2) := by
 rw [← h1.into s1 h2 s2, ap_map fun n hn => h1.one s1 h2 s2 hn]
theorem map_back {f g : Int → Int} : ∀ {l : List Int}, (l.map f).map g = l → ∀ n ∈ l, g (f n) = n
 | [], _, n, hn => by cases hn
 | x :: l, h, n, hn => by
  simp only [List.map_cons, List.cons.injEq] at h
  rcases List.mem_cons.1 hn with rfl | hn
  ·exact h.1
  ·exact map_back h.2 n hn
theorem Mgu.back (h1 : Mgu ar A C b1) (s1 : Sol b1 σ1) (h2 : Mgu ar A C b2) (s2 : Sol b2 σ2) (hn : n ∈ ap σ1 t) : hd1 σ1 (hd1 σ2 n) = n := by
 have e : ((ap σ1 t).map (hd1 σ2)).map (hd1 σ1) = ap σ1 t := by rw [← h1.map s1 h2 s2, ← h2.map s2 h1 s1]
 exact map_back e n hn
theorem hd1_sym (s : Sol b1 σ1) (hn : 0 ≤ n) : hd1 σ1 n = n := by unfold hd1; rw [s.sym hn]; rfl
theorem Mgu.neg (h1 : Mgu ar A C b1) (s1 : Sol b1 σ1) (h2 : Mgu ar A C b2) (s2 : Sol b2 σ2) (hn : n ∈ ap σ1 t) : hd1 σ2 n < 0 ↔ n < 0 := by
 constructor
 ·intro h
  rcases Int.lt_or_le n 0 with h0 | h0
  ·exact h0
  ·rw [hd1_sym s2 h0] at h; omega
 ·intro h
  rcases Int.lt_or_le (hd1 σ2 n) 0 with h0 | h0
  ·exact h0
  ·have := h1.back s1 h2 s2 hn
   rw [hd1_sym s1 h0] at this; omega
end
def orderGo : List Int → List Int → List Int
 | s, [] => s
 | s, n :: t => orderGo (if n < 0 ∧ n ∉ s then s ++ [n] else s) t
def orderL (t : List Int) : List Int := orderGo [] t
def byL (o t : List Int) : List Int := t.map fun n => if n < 0 ∧ n ∈ o then -1 - indexZ o n else n
section
variable {o s t : List Int} {f g : Int → Int} {n : Int} {k : Nat}
theorem mem_orderGo : ∀ {t s : List Int} {n : Int}, n ∈ orderGo s t ↔ n ∈ s ∨ (n < 0 ∧ n ∈ t)
 | [], s, n => by simp [orderGo]
 | x :: t, s, n => by
  rw [orderGo, mem_orderGo]
  by_cases h : x < 0 ∧ x ∉ s
  ·rw [if_pos h]
   constructor
   ·rintro (h1 | h1)
    ·rcases List.mem_append.1 h1 with h1 | h1
     ·exact .inl h1
     ·rw [List.mem_singleton.1 h1]; exact .inr ⟨h.1, by simp⟩
    ·exact .inr ⟨h1.1, by simp [h1.2]⟩
   ·rintro (h1 | ⟨h0, h1⟩)
    ·exact .inl (by simp [h1])
    ·rcases List.mem_cons.1 h1 with rfl | h1
     ·exact .inl (by simp)
     ·exact .inr ⟨h0, h1⟩
  ·rw [if_neg h]
   constructor
   ·rintro (h1 | h1)
    ·exact .inl h1
    ·exact .inr ⟨h1.1, by simp [h1.2]⟩
   ·rintro (h1 | ⟨h0, h1⟩)
    ·exact .inl h1
    ·rcases List.mem_cons.1 h1 with rfl | h1
     ·exact .inl (Classical.not_not.1 fun hc => h ⟨h0, hc⟩)
     ·exact .inr ⟨h0, h1⟩
theorem mem_orderL : n ∈ orderL t ↔ n < 0 ∧ n ∈ t := by unfold orderL; rw [mem_orderGo]; simp
theorem orderGo_sub : ∀ {t s : List Int}, (∀ n ∈ t, n < 0 → n ∈ s) → orderGo s t = s
 | [], s, _ => rfl
 | x :: t, s, h => by
  rw [orderGo, if_neg (fun hx => hx.2 (h x (by simp) hx.1))]
  exact orderGo_sub fun n hn h0 => h n (by simp [hn]) h0
theorem orderGo_map : ∀ {t s : List Int}, (∀ n ∈ t, f n < 0 ↔ n < 0) → (∀ n ∈ t, g (f n) = n) → (∀ n ∈ s, g (f n) = n) → orderGo (s.map f) (t.map f) = (orderGo s t).map f
 | [], s, _, _, _ => rfl
 | x :: t, s, h1, h2, h3 => by
  rw [List.map_cons, orderGo, orderGo]
  have hm : f x ∈ s.map f ↔ x ∈ s := by
   constructor
   ·intro h
    obtain ⟨y, hy, e⟩ := List.mem_map.1 h
    have := congrArg g e
    rw [h3 y hy, h2 x (by simp)] at this
    exact this ▸ hy
   ·exact List.mem_map_of_mem
  have hc : (f x < 0 ∧ f x ∉ s.map f) ↔ (x < 0 ∧ x ∉ s) := by rw [h1 x (by simp), hm]
  by_cases h : x < 0 ∧ x ∉ s
  ·rw [if_pos h, if_pos (hc.2 h), show s.map f ++ [f x] = (s ++ [x]).map f from by simp]
   refine orderGo_map (fun n hn => h1 n (by simp [hn])) (fun n hn => h2 n (by simp [hn])) fun n hn => ?_
   rcases List.mem_append.1 hn with hn | hn
   ·exact h3 n hn
   ·rw [List.mem_singleton.1 hn]; exact h2 x (by simp)
  ·rw [if_neg h, if_neg (fun k => h (hc.1 k))]
   exact orderGo_map (fun n hn => h1 n (by simp [hn])) (fun n hn => h2 n (by simp [hn])) h3
theorem index_map {n : Int} : ∀ {s : List Int}, (∀ m ∈ s, g (f m) = m) → g (f n) = n → (s.map f).findIdx? (fun x => decide (x = f n)) = s.findIdx? (fun x => decide (x = n))
 | [], _, _ => rfl
 | x :: s, h, h2 => by
  simp only [List.map_cons, List.findIdx?_cons]
  have : (f x = f n) ↔ x = n := ⟨fun e => by have := congrArg g e; rwa [h x (by simp), h2] at this, fun e => by rw [e]⟩
  rw [show (decide (f x = f n)) = decide (x = n) from decide_eq_decide.2 this, index_map (fun m hm => h m (by simp [hm])) h2]
theorem byL_map (h1 : ∀ n ∈ t, f n < 0 ↔ n < 0) (h0 : ∀ n, 0 ≤ n → f n = n) (h2 : ∀ n ∈ t, g (f n) = n) (h3 : ∀ n ∈ o, g (f n) = n) (ho : ∀ n ∈ t, n < 0 → n ∈ o) : byL (o.map f) (t.map f) = byL o t := by
 unfold byL
 rw [List.map_map]
 refine List.map_congr_left fun n hn => ?_
 simp only [Function.comp]
 rcases Int.lt_or_le n 0 with hneg | hpos
 ·have hm := ho n hn hneg
  rw [if_pos ⟨(h1 n hn).2 hneg, List.mem_map_of_mem hm⟩, if_pos ⟨hneg, hm⟩]
  unfold indexZ
  rw [index_map h3 (h2 n hn)]
 ·rw [h0 n hpos, if_neg (by omega), if_neg (by omega)]
end
abbrev PkT := List Int × List Int × List Int × Int × Int × Int
def P0 : PkT := ([], [], [], 0, 0, 0)
abbrev RulesT := List (List Int × List Int)
abbrev Lr (rs : RulesT) (o : Nat) : List Int := (rs.getD o ([], [])).1
abbrev Rr (rs : RulesT) (o : Nat) : List Int := (rs.getD o ([], [])).2
def leftT (ar : List Int) (rs : RulesT) (o p u : Nat) : List Int := (Lr rs o).take p ++ awayL (Rr rs u) ++ (Lr rs o).drop (endN ar (Lr rs o) p)
open Classical in
noncomputable def meetB (ar : List Int) (rs : RulesT) (o p u : Nat) : Bool := decide (¬ (o = u ∧ p = 0) ∧ ∃ θ, GoodS ar θ ∧ ap θ (sub ar (Lr rs o) p) = ap θ (awayL (Lr rs u)))
def peakOf (ar : List Int) (rs : RulesT) (o p u : Nat) (σ : Sbs) : Option PkT :=
 let top := ap σ (Lr rs o); let left := ap σ (leftT ar rs o p u); let right := ap σ (Rr rs o); let od := orderL top
 if top.length ≤ 60 ∧ left.length ≤ 60 ∧ right.length ≤ 60 ∧ od.length ≤ 24 then some (byL od top, byL od left, byL od right, (p : Int), (u : Int), (o : Int)) else none
abbrev MguP (ar : List Int) (rs : RulesT) (o p u : Nat) (b : RowL) : Prop := Mgu ar (sub ar (Lr rs o) p) (awayL (Lr rs u)) b
open Classical in
noncomputable def peakF (ar : List Int) (rs : RulesT) (o p u : Nat) : Option PkT :=
 if h : ∃ σ b, MguP ar rs o p u b ∧ Sol b σ then peakOf ar rs o p u (Classical.choose h) else none
section
variable {ar : List Int} {rs : RulesT} {o p u : Nat} {b b1 b2 : RowL} {σ σ1 σ2 : Sbs} {n : Int}
theorem away_W {l : List Int} (h : termOk ar l = true) : TermW ar (awayL l) := by
 have h1 := termOk_iff.1 h
 have hl : (awayL l).length = l.length := by simp [awayL]
 have hw : ∀ (r : List Int) (n : Nat), endGo ar (awayL r) n = endGo ar r n := by
  intro r
  induction r with
  | nil => intro n; rfl
  | cons x r ih =>
   intro n
   cases n with
   | zero => simp [endGo]
   | succ n =>
    show endGo ar ((if x < 0 then x - 24 else x) :: awayL r) (n + 1) = _
    simp only [endGo]
    by_cases hx : x < 0
    ·rw [if_pos hx, if_pos (by omega), if_pos (by omega), ih]
     unfold arity; rw [if_pos (by omega), if_pos hx]
    ·rw [if_neg hx, ih]
 refine ⟨h1.sig, by rw [hl]; exact ⟨h1.pos, h1.len⟩, by rw [hl, hw]; exact h1.whole, fun x hx => ?_⟩
 obtain ⟨y, hy, rfl⟩ := List.mem_map.1 hx
 have := h1.ge y hy
 split <;> omega
theorem rule_vars (hs : sysOk ar rs = true) (ho : o < rs.length) : ∀ n ∈ Rr rs o, n < 0 → n ∈ Lr rs o := by
 intro n hn h0
 have h := ruleOk_iff.1 ((sysOk_iff.1 hs).2.2 o ho)
 exact h.vars n hn h0
theorem mem_away {l : List Int} : n ∈ awayL l ↔ ∃ y ∈ l, (if y < 0 then y - 24 else y) = n := by unfold awayL; exact List.mem_map
theorem ap_mono {s t : List Int} (hs : Sol b σ) (h : ∀ n ∈ s, n < 0 → n ∈ t) : ∀ n ∈ ap σ s, n < 0 → n ∈ ap σ t := by
 intro n hn h0
 obtain ⟨x, hx, hxn⟩ := mem_ap.1 hn
 rcases Int.lt_or_le x 0 with hx0 | hx0
 ·exact mem_ap.2 ⟨x, h x hx hx0, hxn⟩
 ·rw [hs.sym hx0] at hxn; have := List.mem_singleton.1 hxn; omega
theorem left_vars (hs : sysOk ar rs = true) (ho : o < rs.length) (hu : u < rs.length) (hm : MguP ar rs o p u b) (hσ : Sol b σ) : ∀ n ∈ ap σ (leftT ar rs o p u), n < 0 → n ∈ ap σ (Lr rs o) := by
 have g := hσ.good hm.ok
 have e := (hm.iff σ g).1 hσ.sat
 intro n hn h0
 unfold leftT at hn
 rw [ap_app, ap_app, List.mem_append, List.mem_append] at hn
 rcases hn with (hn | hn) | hn
 ·exact ap_mono hσ (fun n hn _ => List.mem_of_mem_take hn) n hn h0
 ·have h1 : n ∈ ap σ (awayL (Lr rs u)) := by
   refine ap_mono hσ (fun m hm hm0 => ?_) n hn h0
   obtain ⟨y, hy, rfl⟩ := mem_away.1 hm
   by_cases hy0 : y < 0
   ·exact mem_away.2 ⟨y, rule_vars hs hu y hy hy0, rfl⟩
   ·rw [if_neg hy0] at hm0; omega
  rw [← e] at h1
  exact ap_mono hσ (fun n hn _ => mem_sub hn) n h1 h0
 ·exact ap_mono hσ (fun n hn _ => List.mem_of_mem_drop hn) n hn h0
theorem peak_same (hs : sysOk ar rs = true) (ho : o < rs.length) (hu : u < rs.length) (h1 : MguP ar rs o p u b1) (s1 : Sol b1 σ1) (h2 : MguP ar rs o p u b2) (s2 : Sol b2 σ2) : peakOf ar rs o p u σ2 = peakOf ar rs o p u σ1 := by
 have hmap : ∀ t, ap σ2 t = (ap σ1 t).map (hd1 σ2) := fun t => h1.map s1 h2 s2
 have hb : ∀ t, ∀ n ∈ ap σ1 t, hd1 σ1 (hd1 σ2 n) = n := fun t n hn => h1.back s1 h2 s2 hn
 have hneg : ∀ t, ∀ n ∈ ap σ1 t, (hd1 σ2 n < 0 ↔ n < 0) := fun t n hn => h1.neg s1 h2 s2 hn
 have hord : orderL (ap σ2 (Lr rs o)) = (orderL (ap σ1 (Lr rs o))).map (hd1 σ2) := by
  rw [hmap]
  exact orderGo_map (s := []) (g := hd1 σ1) (hneg _) (hb _) (fun n hn => by cases hn)
 have hob : ∀ n ∈ orderL (ap σ1 (Lr rs o)), hd1 σ1 (hd1 σ2 n) = n := fun n hn => hb _ n (mem_orderL.1 hn).2
 have key : ∀ t, (∀ n ∈ ap σ1 t, n < 0 → n ∈ ap σ1 (Lr rs o)) → byL (orderL (ap σ2 (Lr rs o))) (ap σ2 t) = byL (orderL (ap σ1 (Lr rs o))) (ap σ1 t) := by
  intro t ht
  rw [hord, hmap t]
  exact byL_map (hneg t) (fun n hn => hd1_sym s2 hn) (hb t) hob fun n hn h0 => mem_orderL.2 ⟨h0, ht n hn h0⟩
 have hlen : ∀ t, (ap σ2 t).length = (ap σ1 t).length := fun t => by rw [hmap, List.length_map]
 have k1 := key (Lr rs o) fun n hn _ => hn
 have k2 := key (leftT ar rs o p u) (left_vars hs ho hu h1 s1)
 have k3 := key (Rr rs o) (ap_mono s1 (rule_vars hs ho))
 unfold peakOf
 simp only
 rw [k1, k2, k3, hlen, hlen, hlen, hord, List.length_map]
theorem peakF_eq (hs : sysOk ar rs = true) (ho : o < rs.length) (hu : u < rs.length) (hm : MguP ar rs o p u b) (hσ : Sol b σ) : peakF ar rs o p u = peakOf ar rs o p u σ := by
 have h : ∃ σ b, MguP ar rs o p u b ∧ Sol b σ := ⟨σ, b, hm, hσ⟩
 unfold peakF
 rw [dif_pos h]
 obtain ⟨b2, h2, s2⟩ := Classical.choose_spec h
 exact peak_same hs ho hu hm hσ h2 s2
theorem meet_yes (hne : ¬ (o = u ∧ p = 0)) (hm : MguP ar rs o p u b) : meetB ar rs o p u = true := by
 obtain ⟨σ, hσ⟩ := hm.ok.sol
 have g := hσ.good hm.ok
 classical
 unfold meetB
 exact decide_eq_true ⟨hne, σ, g, (hm.iff σ g).1 hσ.sat⟩
theorem meet_no (h : ∀ θ, GoodS ar θ → ap θ (sub ar (Lr rs o) p) ≠ ap θ (awayL (Lr rs u))) : meetB ar rs o p u = false := by
 classical
 unfold meetB
 exact decide_eq_false fun ⟨_, θ, g, e⟩ => h θ g e
theorem meet_self (h : o = u ∧ p = 0) : meetB ar rs o p u = false := by
 classical
 unfold meetB
 exact decide_eq_false fun ⟨hne, _⟩ => hne h
theorem sol_ge (hb : BOk ar b) (hσ : Sol b σ) : ∀ n, -48 ≤ n → ∀ m ∈ σ n, -48 ≤ m := by
 obtain ⟨ρ, ha⟩ := hb.acyc
 have key : ∀ (r : Nat) (n : Int), n < 0 → ρ n = r → -48 ≤ n → ∀ m ∈ σ n, -48 ≤ m := by
  intro r
  induction r using Nat.strongRecOn with
  | _ r ih =>
   intro n hn hr hg m hm
   by_cases hl : lkN b n = []
   ·rw [hσ.free hl] at hm; rw [List.mem_singleton.1 hm]; exact hg
   ·rw [hσ.bound hl] at hm
    obtain ⟨x, hx, hxm⟩ := mem_ap.1 hm
    have hxg := (hb.wt n hn hl).ge x hx
    rcases Int.lt_or_le x 0 with h0 | h0
    ·exact ih (ρ x) (by have := ha n hn x hx h0; omega) x h0 rfl hxg m hxm
    ·rw [hσ.sym h0] at hxm; have := List.mem_singleton.1 hxm; omega
 intro n hg m hm
 rcases Int.lt_or_le n 0 with h0 | h0
 ·exact key _ n h0 rfl hg m hm
 ·rw [hσ.sym h0] at hm; have := List.mem_singleton.1 hm; omega
theorem ap_W {t : List Int} (hb : BOk ar b) (hσ : Sol b σ) (ht : TermW ar t) (hl : (ap σ t).length ≤ 60) : TermW ar (ap σ t) := by
 have g := hσ.good hb
 refine ⟨ht.sig, ⟨?_, hl⟩, ap_wf g ht.wf, fun m hm => ?_⟩
 ·have := g.len (t := t); have := ht.len; omega
 ·obtain ⟨x, hx, hxm⟩ := mem_ap.1 hm
  exact sol_ge hb hσ x (ht.ge x hx) m hxm
theorem three_parts {l : List Int} (hl : TermW ar l) (hp : p < l.length) : l = l.take p ++ sub ar l p ++ l.drop (endN ar l p) := by
 have := wf_sub hl hp
 rw [List.append_assoc, ← this, List.take_append_drop]
theorem end_ap {l : List Int} (g : GoodS ar σ) (hl : TermW ar l) (hp : p < l.length) : endN ar (ap σ l) (ap σ (l.take p)).length = (ap σ (l.take p)).length + (ap σ (sub ar l p)).length := by
 have e : ap σ l = ap σ (l.take p) ++ (ap σ (sub ar l p) ++ ap σ (l.drop (endN ar l p))) := by
  have := congrArg (ap σ) (three_parts hl hp)
  rwa [ap_app, ap_app, List.append_assoc] at this
 unfold endN endAt
 rw [e, List.drop_left, endGo_more (ap_wf g (hl.sub hp).wf)]
 rfl
theorem put_ap {l u' : List Int} (g : GoodS ar σ) (hl : TermW ar l) (hp : p < l.length) : (ap σ l).take (ap σ (l.take p)).length ++ u' ++ (ap σ l).drop (endN ar (ap σ l) (ap σ (l.take p)).length) = ap σ (l.take p) ++ u' ++ ap σ (l.drop (endN ar l p)) := by
 rw [end_ap g hl hp]
 have e : ap σ l = ap σ (l.take p) ++ (ap σ (sub ar l p) ++ ap σ (l.drop (endN ar l p))) := by
  have := congrArg (ap σ) (three_parts hl hp)
  rwa [ap_app, ap_app, List.append_assoc] at this
 rw [e, List.take_left]
 congr 1
 rw [← List.append_assoc, ← List.length_append, List.drop_left]
theorem away_len {l : List Int} : (awayL l).length = l.length := by simp [awayL]
theorem rule_L (hs : sysOk ar rs = true) (ho : o < rs.length) : termOk ar (Lr rs o) = true := (ruleOk_iff.1 ((sysOk_iff.1 hs).2.2 o ho)).left
theorem rule_R (hs : sysOk ar rs = true) (ho : o < rs.length) : termOk ar (Rr rs o) = true := (ruleOk_iff.1 ((sysOk_iff.1 hs).2.2 o ho)).right
theorem nils_no {A C : List Int} (h : ∀ θ, GoodS ar θ → SatB (List.replicate 48 []) θ → ap θ A ≠ ap θ C) : ∀ θ, GoodS ar θ → ap θ A ≠ ap θ C := fun θ g => h θ g SatB.nils
end
def rnL : List Int → RowL → RowL
 | _, [] => []
 | s, t :: r => byL (orderGo s t) t :: rnL (orderGo s t) r
section
variable {s t w ss S : List Int} {ts os : RowL} {n : Int} {j k : Nat}
theorem orderGo_app : ∀ {a b s : List Int}, orderGo s (a ++ b) = orderGo (orderGo s a) b
 | [], b, s => rfl
 | x :: a, b, s => by rw [List.cons_append, orderGo, orderGo_app, orderGo]
theorem orderGo_pre : ∀ (t s : List Int), ∃ r, orderGo s t = s ++ r
 | [], s => ⟨[], by simp [orderGo]⟩
 | x :: t, s => by
  rw [orderGo]
  obtain ⟨r, h⟩ := orderGo_pre t (if x < 0 ∧ x ∉ s then s ++ [x] else s)
  split at h
  ·rename_i hx
   rw [if_pos hx]
   exact ⟨x :: r, by rw [h]; simp⟩
  ·rename_i hx
   rw [if_neg hx]
   exact ⟨r, h⟩
theorem index_pre {r : List Int} (h : n ∈ s) : indexZ (s ++ r) n = indexZ s n := by
 unfold indexZ
 rw [List.findIdx?_append]
 cases hf : s.findIdx? (fun x => decide (x = n)) with
 | some i => rfl
 | none =>
  rw [List.findIdx?_eq_none_iff] at hf
  have := hf n h
  simp at this
theorem index_new {r : List Int} (h : n ∉ s) : indexZ (s ++ n :: r) n = (s.length : Int) := by
 refine indexZ_some (k := s.length) (by simp) (by simp [List.getD]) fun i hi e => h ?_
 rw [List.getD_eq_getElem?_getD, List.getElem?_append_left hi] at e
 exact mem_of_getD hi (by rw [List.getD_eq_getElem?_getD]; exact e)
theorem orderGo_take (hj : j < t.length) : orderGo s (t.take (j + 1)) = if t.getD j 0 < 0 ∧ t.getD j 0 ∉ orderGo s (t.take j) then orderGo s (t.take j) ++ [t.getD j 0] else orderGo s (t.take j) := by
 rw [take_succ_getD 0 hj, orderGo_app]
 simp only [orderGo]
theorem orderGo_len (t s : List Int) : (orderGo s t).length ≤ s.length + t.length := by
 induction t generalizing s with
 | nil => simp [orderGo]
 | cons x t ih =>
  rw [orderGo]
  have := ih (if x < 0 ∧ x ∉ s then s ++ [x] else s)
  split at this
  ·rw [List.length_append, List.length_singleton] at this; rw [List.length_cons]; rename_i h; rw [if_pos h]; omega
  ·rw [List.length_cons]; rename_i h; rw [if_neg h]; omega
def RnAt (s t ss w : List Int) (j : Nat) : Prop := ss = orderGo s (t.take j) ∧ w = byL (orderGo s t) (t.take j) ++ t.drop j
theorem RnAt.start : RnAt s t s t 0 := ⟨rfl, by simp [byL]⟩
theorem RnAt.len (h : RnAt s t ss w j) : w.length = t.length := by rw [h.2]; simp [byL]; omega
theorem RnAt.at (h : RnAt s t ss w j) (hj : j < t.length) : w.getD j 0 = t.getD j 0 := by
 have hl : (byL (orderGo s t) (t.take j)).length = j := by simp [byL]; omega
 rw [h.2, List.getD_eq_getElem?_getD, List.getElem?_append_right (by omega), hl, Nat.sub_self, List.getElem?_drop, List.getD_eq_getElem?_getD, Nat.add_zero]
theorem RnAt.put (h : RnAt s t ss w j) (hj : j < t.length) (x : Int) (hx : x = if t.getD j 0 < 0 ∧ t.getD j 0 ∈ orderGo s t then -1 - indexZ (orderGo s t) (t.getD j 0) else t.getD j 0) : w.set j x = byL (orderGo s t) (t.take (j + 1)) ++ t.drop (j + 1) := by
 have hl : (byL (orderGo s t) (t.take j)).length = j := by simp [byL]; omega
 have e : byL (orderGo s t) (t.take (j + 1)) = byL (orderGo s t) (t.take j) ++ [x] := by
  unfold byL; rw [take_succ_getD 0 hj, List.map_append, hx]; rfl
 rw [e, List.append_assoc, h.2, List.set_append_right _ _ (by omega), hl, Nat.sub_self, drop_cons hj]; rfl
theorem set_self {w : List Int} {x : Int} (hj : j < w.length) (h : w.getD j 0 = x) : w.set j x = w := by
 subst h
 refine List.ext_getElem (by simp) fun i h1 h2 => ?_
 rw [List.getElem_set]
 split
 ·rename_i e; subst e; simp [List.getD, hj]
 ·rfl
theorem RnAt.sym (h : RnAt s t ss w j) (hj : j < t.length) (h0 : 0 ≤ t.getD j 0) : RnAt s t ss w (j + 1) := by
 refine ⟨by rw [orderGo_take hj, if_neg (by omega)]; exact h.1, ?_⟩
 rw [← h.put hj (t.getD j 0) (by rw [if_neg (by omega)]), set_self (by rw [h.len]; exact hj) (h.at hj)]
theorem RnAt.old (h : RnAt s t ss w j) (hj : j < t.length) (h0 : t.getD j 0 < 0) (hi : t.getD j 0 ∈ ss) : RnAt s t ss (w.set j (-1 - indexZ ss (t.getD j 0))) (j + 1) := by
 have hi2 : t.getD j 0 ∈ orderGo s (t.take j) := h.1 ▸ hi
 refine ⟨by rw [orderGo_take hj, if_neg (fun hc => hc.2 hi2)]; exact h.1, h.put hj _ ?_⟩
 obtain ⟨r, hr⟩ := orderGo_pre (t.drop j) (orderGo s (t.take j))
 have e : orderGo s t = ss ++ r := by
  have := congrArg (orderGo s) (List.take_append_drop j t)
  rw [orderGo_app] at this
  rw [← this, hr, h.1]
 rw [if_pos ⟨h0, by rw [e]; exact List.mem_append.2 (.inl hi)⟩, e, index_pre hi]
theorem RnAt.new (h : RnAt s t ss w j) (hj : j < t.length) (h0 : t.getD j 0 < 0) (hi : t.getD j 0 ∉ ss) : RnAt s t (ss ++ [t.getD j 0]) (w.set j (-1 - (ss.length : Int))) (j + 1) := by
 have hi2 : t.getD j 0 ∉ orderGo s (t.take j) := h.1 ▸ hi
 refine ⟨by rw [orderGo_take hj, if_pos ⟨h0, hi2⟩, h.1], h.put hj _ ?_⟩
 obtain ⟨r, hr⟩ := orderGo_pre (t.drop (j + 1)) (orderGo s (t.take (j + 1)))
 have e : orderGo s t = ss ++ t.getD j 0 :: r := by
  have := congrArg (orderGo s) (List.take_append_drop (j + 1) t)
  rw [orderGo_app] at this
  rw [← this, hr, orderGo_take hj, if_pos ⟨h0, hi2⟩, ← h.1]; simp
 rw [if_pos ⟨h0, by rw [e]; simp⟩, e, index_new hi]
theorem RnAt.done (h : RnAt s t ss w j) (hj : j = t.length) : ss = orderGo s t ∧ w = byL (orderGo s t) t := by
 subst hj
 obtain ⟨h1, h2⟩ := h
 rw [List.take_length] at h1 h2
 exact ⟨h1, by rw [h2]; simp⟩
theorem rn_next (hk : k < ts.length) (h : rnL [] ts = os ++ rnL s (ts.drop k)) (h1 : ss = orderGo s (ts.getD k []) ∧ w = byL (orderGo s (ts.getD k [])) (ts.getD k [])) : rnL [] ts = (os ++ [w]) ++ rnL ss (ts.drop (k + 1)) := by
 rw [h, drop_get [] hk, rnL, h1.1, h1.2]; simp
theorem rn_done (hk : k = ts.length) (h : rnL [] ts = os ++ rnL s (ts.drop k)) : rnL [] ts = os := by
 rw [h, hk, List.drop_length]; simp [rnL]
theorem rnL_len : ∀ (ts : RowL) (s : List Int), (rnL s ts).length = ts.length
 | [], _ => rfl
 | t :: r, s => by simp [rnL, rnL_len r]
theorem byL_len : (byL s t).length = t.length := by simp [byL]
theorem rn_three {a b c : List Int} (hb : ∀ n ∈ b, n < 0 → n ∈ a) (hc : ∀ n ∈ c, n < 0 → n ∈ a) : rnL [] [a, b, c] = [byL (orderL a) a, byL (orderL a) b, byL (orderL a) c] := by
 have e1 : orderGo (orderGo [] a) b = orderGo [] a := orderGo_sub fun n hn h0 => mem_orderL.2 ⟨h0, hb n hn h0⟩
 have e2 : orderGo (orderGo [] a) c = orderGo [] a := orderGo_sub fun n hn h0 => mem_orderL.2 ⟨h0, hc n hn h0⟩
 simp only [rnL, e1, e2]
 rfl
theorem indexZ_lt : ∀ {s : List Int} {n : Int}, n ∈ s → 0 ≤ indexZ s n ∧ indexZ s n < (s.length : Int) := by
 intro s n h
 unfold indexZ
 cases hf : s.findIdx? (fun x => decide (x = n)) with
 | some i =>
  have := List.findIdx?_eq_some_iff_getElem.1 hf
  obtain ⟨hi, _⟩ := this
  dsimp only; omega
 | none =>
  rw [List.findIdx?_eq_none_iff] at hf
  have := hf n h
  simp at this
theorem indexZ_le (s : List Int) (n : Int) : -1 ≤ indexZ s n ∧ indexZ s n ≤ (s.length : Int) := by
 by_cases h : n ∈ s
 ·have := indexZ_lt h; omega
 ·have := mt indexZ_mem.1 h
  unfold indexZ at *
  cases hf : s.findIdx? (fun x => decide (x = n)) with
  | none => dsimp only; omega
  | some i => rw [hf] at this; dsimp only at this; omega
theorem orderGo_nodup : ∀ (t s : List Int), s.Nodup → (orderGo s t).Nodup
 | [], s, h => h
 | x :: t, s, h => by
  rw [orderGo]
  refine orderGo_nodup t _ ?_
  split
  ·rename_i hx
   rw [List.nodup_append]
   refine ⟨h, by simp, fun a ha b hb e => hx.2 ?_⟩
   rw [List.mem_singleton.1 hb] at e; exact e ▸ ha
  ·exact h
theorem index_getElem {s : List Int} (h : s.Nodup) {i : Nat} (hi : i < s.length) : indexZ s s[i] = (i : Int) := by
 refine indexZ_some hi (by simp [List.getD, hi]) fun j hj e => ?_
 have hjl : j < s.length := by omega
 have e2 : s[j] = s[i] := by simpa [List.getD, hjl] using e
 exact absurd e2 (List.pairwise_iff_getElem.1 h j i hjl hi hj)
theorem order_last {t : List Int} {i : Nat} (hi : i < (orderL t).length) : ∃ x, x ∈ orderL t ∧ indexZ (orderL t) x = (i : Int) :=
 ⟨(orderL t)[i], List.getElem_mem hi, index_getElem (orderGo_nodup t [] List.nodup_nil) hi⟩
theorem order_len (t : List Int) (h : 1 ≤ t.length) : minL (byL (orderL t) t) < -24 ↔ 24 < (orderL t).length := by
 have hmin := minL_ge (xs := byL (orderL t) t) (by rw [byL_len]; exact h) (-24)
 constructor
 ·intro hlt
  refine Nat.lt_of_not_le fun hle => ?_
  have : ∀ x ∈ byL (orderL t) t, -24 ≤ x := by
   intro x hx
   unfold byL at hx
   obtain ⟨n, hn, rfl⟩ := List.mem_map.1 hx
   rcases Int.lt_or_le n 0 with h0 | h0
   ·have hm : n ∈ orderL t := mem_orderL.2 ⟨h0, hn⟩
    rw [if_pos ⟨h0, hm⟩]
    have := indexZ_lt hm
    omega
   ·rw [if_neg (by omega)]; omega
  have := hmin.2 this
  omega
 ·intro hgt
  refine Int.lt_of_not_ge fun hge => ?_
  have hall := hmin.1 hge
  have hl : (orderL t).length - 1 < (orderL t).length := by omega
  obtain ⟨x, hx, hxi⟩ := order_last (t := t) hl
  have hm := mem_orderL.1 hx
  have := hall _ (List.mem_map.2 ⟨x, hm.2, rfl⟩)
  rw [if_pos ⟨hm.1, hx⟩, hxi] at this
  omega
end
section
variable {ar t : List Int} {σ : Sbs} {p : Nat}
theorem res_take (h : (ap σ t).length ≤ 60) (hp : p < t.length) : resOk σ [] (t.take p) = true := by
 have := ap_len_take (σ := σ) hp
 exact decide_eq_true (by simp only [List.length_nil]; omega)
theorem take_ge (ho : TermW ar t) : (∀ i, i < (t.take p).length → -48 ≤ (t.take p).getD i 0) ∧ (t.take p).length ≤ 60 := by
 have := ho.len
 refine ⟨fun i hi => ?_, by rw [List.length_take]; omega⟩
 exact getD_all (fun x hx => ho.ge x (List.mem_of_mem_take hx)) hi
theorem W_ge (ho : TermW ar t) : (∀ i, i < t.length → -48 ≤ t.getD i 0) ∧ t.length ≤ 60 := ⟨fun i hi => ho.geD hi, ho.len.2⟩
end
noncomputable def pkF (ar : List Int) (rs : RulesT) (o p u : Nat) : Option PkT := if meetB ar rs o p u = true then peakF ar rs o p u else none
section
variable {ar : List Int} {rs : RulesT} {o p u : Nat} {b : RowL} {σ : Sbs}
theorem resX_eq {t : List Int} (h : resOk σ [] t = true) : resX σ [] t = ap σ t ∧ (ap σ t).length ≤ 60 := by
 refine ⟨by unfold resX; rw [if_pos h]; rfl, ?_⟩
 have := of_decide_eq_true h
 simpa using this
theorem resOk_false {t : List Int} (h : resOk σ [] t = false) : 60 < (ap σ t).length := by
 have := of_decide_eq_false h
 simpa using this
theorem pk_nomeet (h : meetB ar rs o p u = false) : pkF ar rs o p u = none := by unfold pkF; rw [if_neg (by rw [h]; simp)]
theorem pk_eq (hs : sysOk ar rs = true) (ho : o < rs.length) (hu : u < rs.length) (hmt : meetB ar rs o p u = true) (hm : MguP ar rs o p u b) (hσ : Sol b σ) : pkF ar rs o p u = peakOf ar rs o p u σ := by
 unfold pkF
 rw [if_pos hmt, peakF_eq hs ho hu hm hσ]
theorem left_len (hs : sysOk ar rs = true) (ho : o < rs.length) (hm : BOk ar b) (hσ : Sol b σ) : (ap σ (awayL (Rr rs u))).length ≤ (ap σ (leftT ar rs o p u)).length := by
 unfold leftT
 rw [ap_app, ap_app, List.length_append, List.length_append]; omega
theorem pk_long (hs : sysOk ar rs = true) (ho : o < rs.length) (hu : u < rs.length) (hmt : meetB ar rs o p u = true) (hm : MguP ar rs o p u b) (hσ : Sol b σ)
  (h : resOk σ [] (Lr rs o) = false ∨ resOk σ [] (Rr rs o) = false ∨ resOk σ [] (awayL (Rr rs u)) = false) : pkF ar rs o p u = none := by
 rw [pk_eq hs ho hu hmt hm hσ]
 unfold peakOf
 simp only
 rw [if_neg]
 rintro ⟨h1, h2, h3, _⟩
 rcases h with h | h | h
 ·have := resOk_false h; omega
 ·have := resOk_false h; omega
 ·have := resOk_false h; have := left_len (p := p) (u := u) hs ho hm.ok hσ; omega
theorem put_left (hs : sysOk ar rs = true) (ho : o < rs.length) (hp : p < (Lr rs o).length) (hm : BOk ar b) (hσ : Sol b σ) (h1 : resOk σ [] (Lr rs o) = true) (h3 : resOk σ [] (awayL (Rr rs u)) = true) :
  (resX σ [] (Lr rs o)).take (ap σ ((Lr rs o).take p)).length ++ resX σ [] (awayL (Rr rs u)) ++ (resX σ [] (Lr rs o)).drop (endN ar (resX σ [] (Lr rs o)) (ap σ ((Lr rs o).take p)).length) = ap σ (leftT ar rs o p u) := by
 rw [(resX_eq h1).1, (resX_eq h3).1, put_ap (hσ.good hm) (termW_of (rule_L hs ho)) hp]
 unfold leftT
 rw [ap_app, ap_app]
theorem pk_left (hs : sysOk ar rs = true) (ho : o < rs.length) (hu : u < rs.length) (hp : p < (Lr rs o).length) (hmt : meetB ar rs o p u = true) (hm : MguP ar rs o p u b) (hσ : Sol b σ) (h1 : resOk σ [] (Lr rs o) = true) (h3 : resOk σ [] (awayL (Rr rs u)) = true)
  (h4 : (putL ar (resX σ [] (Lr rs o)) (ap σ ((Lr rs o).take p)).length (resX σ [] (awayL (Rr rs u)))).isSome = false) : pkF ar rs o p u = none := by
 rw [pk_eq hs ho hu hmt hm hσ]
 unfold peakOf
 simp only
 rw [if_neg]
 rintro ⟨_, h2, _⟩
 unfold putL at h4
 rw [put_left hs ho hp hm.ok hσ h1 h3, if_neg (by omega)] at h4
 cases h4
theorem put_some (hs : sysOk ar rs = true) (ho : o < rs.length) (hp : p < (Lr rs o).length) (hm : BOk ar b) (hσ : Sol b σ) (h1 : resOk σ [] (Lr rs o) = true) (h3 : resOk σ [] (awayL (Rr rs u)) = true)
  (h4 : (putL ar (resX σ [] (Lr rs o)) (ap σ ((Lr rs o).take p)).length (resX σ [] (awayL (Rr rs u)))).isSome = true) :
  (putL ar (resX σ [] (Lr rs o)) (ap σ ((Lr rs o).take p)).length (resX σ [] (awayL (Rr rs u)))).getD [] = ap σ (leftT ar rs o p u) ∧ (ap σ (leftT ar rs o p u)).length ≤ 60 := by
 unfold putL at *
 rw [put_left hs ho hp hm hσ h1 h3] at *
 split at h4
 ·cases h4
 ·rename_i hl
  rw [if_neg hl]
  exact ⟨rfl, by omega⟩
theorem pk_rn (hs : sysOk ar rs = true) (ho : o < rs.length) (hu : u < rs.length) (hm : MguP ar rs o p u b) (hσ : Sol b σ) : rnL [] [ap σ (Lr rs o), ap σ (leftT ar rs o p u), ap σ (Rr rs o)] = [byL (orderL (ap σ (Lr rs o))) (ap σ (Lr rs o)), byL (orderL (ap σ (Lr rs o))) (ap σ (leftT ar rs o p u)), byL (orderL (ap σ (Lr rs o))) (ap σ (Rr rs o))] :=
 rn_three (left_vars hs ho hu hm hσ) (ap_mono hσ (rule_vars hs ho))
theorem pk_order (hs : sysOk ar rs = true) (ho : o < rs.length) (hu : u < rs.length) (hmt : meetB ar rs o p u = true) (hm : MguP ar rs o p u b) (hσ : Sol b σ) (h : 24 < (orderL (ap σ (Lr rs o))).length) : pkF ar rs o p u = none := by
 rw [pk_eq hs ho hu hmt hm hσ]
 unfold peakOf
 simp only
 rw [if_neg]
 rintro ⟨_, _, _, h4⟩
 omega
theorem pk_yes (hs : sysOk ar rs = true) (ho : o < rs.length) (hu : u < rs.length) (hmt : meetB ar rs o p u = true) (hm : MguP ar rs o p u b) (hσ : Sol b σ) (h1 : (ap σ (Lr rs o)).length ≤ 60) (h2 : (ap σ (leftT ar rs o p u)).length ≤ 60) (h3 : (ap σ (Rr rs o)).length ≤ 60) (h : (orderL (ap σ (Lr rs o))).length ≤ 24) :
  pkF ar rs o p u = some (byL (orderL (ap σ (Lr rs o))) (ap σ (Lr rs o)), byL (orderL (ap σ (Lr rs o))) (ap σ (leftT ar rs o p u)), byL (orderL (ap σ (Lr rs o))) (ap σ (Rr rs o)), (p : Int), (u : Int), (o : Int)) := by
 rw [pk_eq hs ho hu hmt hm hσ]
 unfold peakOf
 simp only
 rw [if_pos ⟨h1, h2, h3, h⟩]
theorem take_lt {l : List Int} (g : GoodS ar σ) (hp : p < l.length) : (ap σ (l.take p)).length < (ap σ l).length := by
 have h := ap_len_take (σ := σ) hp
 have := g.pos (x := l.getD p 0)
 omega
end
end Go.Proofs.YthkebalahfalhaaGreat.M
namespace Go.Proofs.YthkebalahfalhaaGreat.X
open Go
theorem DeepL.unsnoc {α : Type} {s : Nat} {R : List Value → α → List HP → Prop} {cs : List Value} {xs : List α} {x : α} {L : List HP} (h : DeepL s R cs (xs ++ [x]) L) : ∃ cs' es K L', cs = cs' ++ es ∧ L = L' ++ K ∧ DeepL s R cs' xs L' ∧ R es x K := by
 generalize e : xs ++ [x] = ys at h
 cases h with
 | nil => simp at e
 | snoc h hl hr =>
  obtain ⟨rfl, e2⟩ := List.append_inj' e rfl
  obtain rfl := (List.cons.inj e2).1
  exact ⟨_, _, _, _, rfl, rfl, h, hr⟩
theorem DeepL.unnil {α : Type} {s : Nat} {R : List Value → α → List HP → Prop} {cs : List Value} {L : List HP} (h : DeepL s R cs [] L) : cs = [] ∧ L = [] := by
 generalize e : ([] : List α) = ys at h
 cases h with
 | nil => exact ⟨rfl, rfl⟩
 | snoc h hl hr => simp at e
theorem DeepL.three {e : TypeId} {cs : List Value} {x y z : List Int} {L : List HP} (h : DeepL 1 (RowO e) cs [x, y, z] L) : ∃ a b c, cs = [a, b, c] ∧ L = [intsH e a x, intsH e b y, intsH e c z] := by
 obtain ⟨c1, e1, k1, l1, rfl, rfl, h1, c, rfl, rfl⟩ := DeepL.unsnoc (xs := [x, y]) (x := z) h
 obtain ⟨c2, e2, k2, l2, rfl, rfl, h2, b, rfl, rfl⟩ := DeepL.unsnoc (xs := [x]) (x := y) h1
 obtain ⟨c3, e3, k3, l3, rfl, rfl, h3, a, rfl, rfl⟩ := DeepL.unsnoc (xs := []) (x := x) h2
 obtain ⟨rfl, rfl⟩ := h3.unnil
 exact ⟨a, b, c, rfl, rfl⟩
theorem nil3 {e : TypeId} : star [intsH e (.slice none 0 0) [], intsH e (.slice none 0 0) [], intsH e (.slice none 0 0) []] [] := ⟨[], [], nilLeaf, ⟨[], [], nilLeaf, ⟨[], [], nilLeaf, rfl, rfl⟩, rfl⟩, rfl⟩
theorem RowsC.three {F : FH} {a b c : Value} {x y z : List Int} (h : RowsC F [a, b, c] [x, y, z]) : IntsF F a x ∧ IntsF F b y ∧ IntsF F c z := by
 obtain ⟨a1, h1, e1⟩ := h.get (i := 0) (by simp)
 obtain ⟨b1, h2, e2⟩ := h.get (i := 1) (by simp)
 obtain ⟨c1, h3, e3⟩ := h.get (i := 2) (by simp)
 simp only [List.getElem?_cons_zero, List.getElem?_cons_succ, Option.some.injEq] at e1 e2 e3
 subst e1 e2 e3
 exact ⟨h1, h2, h3⟩
end Go.Proofs.YthkebalahfalhaaGreat.X
namespace Go.Proofs.YthkebalahfalhaaGreat.M
abbrev Tr := Nat × Nat × Nat
section
variable (ar : List Int) (rs : RulesT)
noncomputable def mU (o p : Nat) : Nat → List Tr
 | 0 => []
 | u + 1 => mU o p u ++ if 0 ≤ (Lr rs o).getD p 0 ∧ meetB ar rs o p u = true then [(o, p, u)] else []
noncomputable def mP (o : Nat) : Nat → List Tr
 | 0 => []
 | p + 1 => mP o p ++ mU ar rs o p rs.length
noncomputable def mO : Nat → List Tr
 | 0 => []
 | o + 1 => mO o ++ mP ar rs o (Lr rs o).length
noncomputable def meetsL : List Tr := mO ar rs rs.length
noncomputable def pkD (m : Tr) : PkT := (pkF ar rs m.1 m.2.1 m.2.2).getD P0
open Classical in
noncomputable def peaksF : Option (List PkT) := if (∀ m ∈ meetsL ar rs, (pkF ar rs m.1 m.2.1 m.2.2).isSome = true) ∧ (meetsL ar rs).length ≤ 64 then some ((meetsL ar rs).map (pkD ar rs)) else none
end
section
variable {ar : List Int} {rs : RulesT} {o p u k n : Nat} {ms : List Tr} {os : List PkT} {m : Tr}
theorem pre_U (h : k ≤ n) : mU ar rs o p k <+: mU ar rs o p n := by
 induction n with
 | zero =>
  obtain rfl : k = 0 := by omega
  exact List.prefix_refl _
 | succ n ih =>
  rcases Nat.lt_or_ge n k with hk | hk
  ·obtain rfl : k = n + 1 := by omega
   exact List.prefix_refl _
  ·exact (ih hk).trans (List.prefix_append _ _)
theorem pre_P (h : k ≤ n) : mP ar rs o k <+: mP ar rs o n := by
 induction n with
 | zero =>
  obtain rfl : k = 0 := by omega
  exact List.prefix_refl _
 | succ n ih =>
  rcases Nat.lt_or_ge n k with hk | hk
  ·obtain rfl : k = n + 1 := by omega
   exact List.prefix_refl _
  ·exact (ih hk).trans (List.prefix_append _ _)
theorem pre_O (h : k ≤ n) : mO ar rs k <+: mO ar rs n := by
 induction n with
 | zero =>
  obtain rfl : k = 0 := by omega
  exact List.prefix_refl _
 | succ n ih =>
  rcases Nat.lt_or_ge n k with hk | hk
  ·obtain rfl : k = n + 1 := by omega
   exact List.prefix_refl _
  ·exact (ih hk).trans (List.prefix_append _ _)
theorem meets_pre (ho : o < rs.length) (hp : p < (Lr rs o).length) (hu : u < rs.length) : mO ar rs o ++ mP ar rs o p ++ mU ar rs o p (u + 1) <+: meetsL ar rs := by
 have h1 : mO ar rs o ++ mP ar rs o p ++ mU ar rs o p (u + 1) <+: mO ar rs o ++ mP ar rs o (p + 1) := by
  rw [List.append_assoc, mP]
  exact (List.prefix_append_right_inj _).2 ((List.prefix_append_right_inj _).2 (pre_U (by omega)))
 have h2 : mO ar rs o ++ mP ar rs o (p + 1) <+: mO ar rs (o + 1) := by
  rw [mO]
  exact (List.prefix_append_right_inj _).2 (pre_P (by omega))
 exact h1.trans (h2.trans (pre_O (by omega)))
theorem mU_yes (h0 : 0 ≤ (Lr rs o).getD p 0) (h : meetB ar rs o p u = true) : mU ar rs o p (u + 1) = mU ar rs o p u ++ [(o, p, u)] := by rw [mU, if_pos ⟨h0, h⟩]
theorem mU_no (h : ¬ (0 ≤ (Lr rs o).getD p 0 ∧ meetB ar rs o p u = true)) : mU ar rs o p (u + 1) = mU ar rs o p u := by rw [mU, if_neg h, List.append_nil]
def PkI (ar : List Int) (rs : RulesT) (ms : List Tr) (os : List PkT) : Prop := (∀ m ∈ ms, (pkF ar rs m.1 m.2.1 m.2.2).isSome = true) ∧ ms.length ≤ 64 ∧ os = ms.map (pkD ar rs)
theorem PkI.start : PkI ar rs [] [] := ⟨fun _ h => (by cases h), by simp, rfl⟩
theorem PkI.len (h : PkI ar rs ms os) : os.length = ms.length ∧ os.length ≤ 64 := by
 have := h.2.1
 rw [h.2.2, List.length_map]; omega
theorem PkI.next (h : PkI ar rs ms os) (h1 : (pkF ar rs o p u).isSome = true) (h2 : os.length ≠ 64) : PkI ar rs (ms ++ [(o, p, u)]) (os ++ [(pkF ar rs o p u).getD P0]) := by
 obtain ⟨a, b, c⟩ := h
 have hl : os.length = ms.length := by rw [c, List.length_map]
 refine ⟨fun m hm => ?_, by rw [List.length_append, List.length_singleton]; omega, by rw [List.map_append, c]; rfl⟩
 rcases List.mem_append.1 hm with hm | hm
 ·exact a m hm
 ·rw [List.mem_singleton.1 hm]; exact h1
theorem peaks_yes (h : PkI ar rs (meetsL ar rs) os) : peaksF ar rs = some os := by
 classical
 unfold peaksF
 rw [if_pos ⟨h.1, h.2.1⟩, h.2.2]
theorem peaks_no (hp : ms ++ [(o, p, u)] <+: meetsL ar rs) (h : PkI ar rs ms os) (hf : (pkF ar rs o p u).isSome = false ∨ os.length = 64) : peaksF ar rs = none := by
 classical
 unfold peaksF
 rw [if_neg]
 rintro ⟨h1, h2⟩
 rcases hf with hf | hf
 ·have := h1 (o, p, u) (hp.subset (by simp))
  rw [hf] at this; cases this
 ·have := hp.length_le
  have hl := h.len.1
  rw [List.length_append, List.length_singleton] at this; omega
theorem peaks_len (h : peaksF ar rs = some os) : os.length ≤ 64 := by
 classical
 unfold peaksF at h
 split at h
 ·rename_i hc
  simp only [Option.some.injEq] at h
  rw [← h, List.length_map]; exact hc.2
 ·cases h
end
end Go.Proofs.YthkebalahfalhaaGreat.M
namespace Go.Proofs.YthkebalahfalhaaGreat.X
open Go
abbrev PeakT := List Int × List Int × List Int × Int × Int × Int
def PeakF (F : FH) (es : List Value) (x : PeakT) : Prop := ∃ a0 a1 a2, es = [a0, a1, a2, .int .i64 x.2.2.2.1, .int .i64 x.2.2.2.2.1, .int .i64 x.2.2.2.2.2] ∧ IntsF F a0 x.1 ∧ IntsF F a1 x.2.1 ∧ IntsF F a2 x.2.2.1
theorem PeakF.mono {F F' : FH} (le : F ≤ F') (es : List Value) (x : PeakT) (h : PeakF F es x) : PeakF F' es x := by
 obtain ⟨a0, a1, a2, e, h0, h1, h2⟩ := h
 exact ⟨a0, a1, a2, e, h0.mono le, h1.mono le, h2.mono le⟩
def PeaksF : FH → Value → List PeakT → Prop := SlOf 6 PeakF ([], [], [], 0, 0, 0)
theorem PeaksF.mono {F F' : FH} {v : Value} {xs : List PeakT} (h : PeaksF F v xs) (le : F ≤ F') : PeaksF F' v xs := SlOf.mono (PeakF.mono le) h le
theorem PeaksF.slv {F : FH} {L : List HP} {v : Value} {xs : List PeakT} (h : PeaksF F v xs) : SlV F L v xs.length := SlOf.slv h
theorem PeaksF.rd {F : FH} {v : Value} {xs : List PeakT} (h : PeaksF F v xs) {i : Nat} (hi : i < xs.length) : ∃ a0 a1 a2, IntsF F a0 (xs.getD i ([], [], [], 0, 0, 0)).1 ∧ IntsF F a1 (xs.getD i ([], [], [], 0, 0, 0)).2.1 ∧ IntsF F a2 (xs.getD i ([], [], [], 0, 0, 0)).2.2.1 ∧ (∀ L j u, ([a0, a1, a2, .int .i64 (xs.getD i ([], [], [], 0, 0, 0)).2.2.2.1, .int .i64 (xs.getD i ([], [], [], 0, 0, 0)).2.2.2.2.1, .int .i64 (xs.getD i ([], [], [], 0, 0, 0)).2.2.2.2.2] : List Value)[j]? = some u → Rd F L (elemA v (i * 6 + j)) u) ∧ True := by
 obtain ⟨es, hl, ⟨a0, a1, a2, rfl, h0, h1, h2⟩, hr⟩ := SlOf.get h hi
 exact ⟨a0, a1, a2, h0, h1, h2, hr, trivial⟩
def PeaksC (F : FH) (cs : List Value) (xs : List PeakT) : Prop := CO 6 PeakF ([], [], [], 0, 0, 0) F cs xs
theorem PeaksC.mono {F F' : FH} {cs : List Value} {xs : List PeakT} (h : PeaksC F cs xs) (le : F ≤ F') : PeaksC F' cs xs := CO.mono (PeakF.mono le) h
theorem PeaksC.snoc {F : FH} {cs : List Value} {xs : List PeakT} {a0 a1 a2 : Value} {y0 : List Int} {y1 : List Int} {y2 : List Int} {y3 : Int} {y4 : Int} {y5 : Int} (h : PeaksC F cs xs) (h0 : IntsF F a0 y0) (h1 : IntsF F a1 y1) (h2 : IntsF F a2 y2) : PeaksC F (cs ++ [a0, a1, a2, .int .i64 y3, .int .i64 y4, .int .i64 y5]) (xs ++ [(y0, y1, y2, y3, y4, y5)]) := CO.snoc h rfl ⟨a0, a1, a2, rfl, h0, h1, h2⟩
def PeakO (e : TypeId) (es : List Value) (x : PeakT) (K : List HP) : Prop := ∃ a b c, es = [a, b, c, .int .i64 x.2.2.2.1, .int .i64 x.2.2.2.2.1, .int .i64 x.2.2.2.2.2] ∧ K = [intsH e a x.1, intsH e b x.2.1, intsH e c x.2.2.1]
abbrev peaksD (e E : TypeId) (v : Value) (xs : List PeakT) : HP := deepH 6 (PeakO e) E v xs
section
variable {e E : TypeId} {F G : FH} {v : Value} {cs : List Value} {xs : List PeakT} {L : List HP}
theorem nilPeaksD : peaksD e E (.slice none 0 0) [] [] := ⟨[], [], DeepL.nil, [], [], slH_nil E 6 none, rfl, rfl⟩
end
def PKJ {ι : Type} (F0 : FH) (e ES T : TypeId) (bw : Nat) (tl : List HP) (I : List ι → List PeakT → Prop) (ms : List ι) (Fy : FH) (Ly : List HP) : Prop :=
 ∃ (sv : Value) (os : List PeakT) (cs : List Value) (Ls : List HP) (m : Nat), IsSl sv ∧ PeaksC Fy cs os ∧ m = os.length ∧ DeepL 6 (PeakO e) cs os Ls ∧ Fresh F0 Fy (star Ls) ∧ I ms os ∧ Ly = cellsH bw [sv] T :: slH ES 6 sv m cs :: tl
theorem PKJ.start {ι : Type} {F0 F : FH} {e ES T : TypeId} {bw : Nat} {tl : List HP} {I : List ι → List PeakT → Prop} {b : Option Addr} (h : I [] []) : PKJ F0 e ES T bw tl I [] F (cellsH bw [.slice b 0 0] T :: slH ES 6 (.slice b 0 0) 0 [] :: tl) :=
 ⟨_, [], [], [], 0, ⟨_, _, _, rfl⟩, CO.nil, rfl, .nil, .nilL, h, rfl⟩
theorem PKJ.mono {ι : Type} {F0 F F' : FH} {e ES T : TypeId} {bw : Nat} {tl L : List HP} {I : List ι → List PeakT → Prop} {ms : List ι} (h : PKJ F0 e ES T bw tl I ms F L) (le : F ≤ F') : PKJ F0 e ES T bw tl I ms F' L :=
 let ⟨sv, ss, cs, Ls, m, h1, h2, h3, h4, h5, h6, h7⟩ := h
 ⟨sv, ss, cs, Ls, m, h1, h2.mono le, h3, h4, h5.mono le, h6, h7⟩
section
variable {P : Program} {n : Nat} {r0 : Option Nat} {d0 : List Deferred} {ops : Array Oper} {l : List Oper} {Q : QX} {ρ : Env} {F : FH} {L : List HP}
theorem XIL.yieldY {k : Nat} {d : Option Tmp} {c : Operand} {as : List Operand} {ts : Array TypeId} {ty : TypeId} {pos : String} {af : Array Edge} {args : List Value} {g : Nat} {t : Tmp} {b : Bool} (ht : (ops[g]?).bind (·.dst) = some t) (hv : ρ t = .bool b)
  (hc : evO ρ c = .func (.yield k) #[] #[]) (ha : as.map (evO ρ) = args)
  (h : Yld P k args F L fun v F' L' => XIL P n r0 d0 ops l Q (putE ρ d v) F' L') :
  XIL P n r0 d0 ops (⟨d, .call { callee := .value c, args := as.toArray, argTypes := ts }, ty, pos, af, some (g, b)⟩ :: l) Q ρ F L := by
 intro ok a w r H
 simp only [opsOkI, List.all_cons, Bool.and_eq_true] at ok
 unfold wpListIn
 rw [if_pos (by simp [Region.wanted, yielded_of_repD r ht hv])]
 refine ⟨fun _ _ => trivial, ?_⟩
 rw [Oper.semAt_eq _ _ _ (by simp), r.eval]
 obtain ⟨fn, tmps, assign, body, hy, hr⟩ := h w H
 have e : (execOp (evO ρ) ⟨d, .call { callee := .value c, args := as.toArray, argTypes := ts }, ty, pos, af, some (g, b)⟩).run P w = .ok (.round k fn tmps assign body) w := by
  subst ha
  simp [execOp, resolve, hc, Deferred.ofValue, invoke, hy, Sem.run_bind, Sem.run_pure, Result.andThen]
 rw [e]
 refine ⟨fun _ => by decide, (roundIn_FR hr).mono ?_⟩
 rintro e w'' ⟨v, F', L', rfl, le, H', hk⟩
 exact wpListIn_mono (fun _ _ _ q => lowI_le le q) _ _ _ (hk ok.2 _ _ (r.put ok.1.1 v) H')
end
end Go.Proofs.YthkebalahfalhaaGreat.X
namespace Go.Proofs.YthkebalahfalhaaGreat.M
section
variable {t u x : List Int} {b : RowL} {σ : Sbs} {ρ : Int → Nat} {n m : Int} {i : Nat} {sn : List Bool} {td : RowL}
def Mk (sn : List Bool) (m : Int) : Prop := sn.getD (varIx m) false = true
def Hd1 (b : RowL) (n : Int) (sn : List Bool) (y : Int) : Prop := y ≠ n ∧ (y < 0 → lkN b y ≠ [] → Mk sn y)
def Hd (b : RowL) (n : Int) (sn : List Bool) (x : List Int) : Prop := ∀ y ∈ x, Hd1 b n sn y
structure OccI (b : RowL) (σ : Sbs) (n : Int) (t : List Int) (sn : List Bool) (td : RowL) : Prop where
 len : sn.length = 48
 sound : ∀ x ∈ td, n ∈ ap σ x → n ∈ ap σ t
 all : ∀ x, (x = t ∨ ∃ m, m < 0 ∧ Mk sn m ∧ lkN b m ≠ [] ∧ x = lkN b m) → x ∈ td ∨ Hd b n sn x
structure OccJ (b : RowL) (σ : Sbs) (n : Int) (t u : List Int) (i : Nat) (sn : List Bool) (td : RowL) : Prop where
 len : sn.length = 48
 sound : ∀ x ∈ td, n ∈ ap σ x → n ∈ ap σ t
 us : n ∈ ap σ u → n ∈ ap σ t
 all : ∀ x, (x = t ∨ ∃ m, m < 0 ∧ Mk sn m ∧ lkN b m ≠ [] ∧ x = lkN b m) → x ∈ td ∨ Hd b n sn x ∨ x = u
 done : ∀ k, k < i → Hd1 b n sn (u.getD k 0)
end
section
variable {ar A C t w : List Int} {b b1 : RowL} {σ σ1 θ : Sbs} {n z : Int} {l r : RowL}
structure MeetI (ar A C : List Int) (b l r : RowL) : Prop where
 ok : BOk ar b
 same : l.length = r.length
 lw : ∀ x ∈ l, TermW ar x
 rw' : ∀ x ∈ r, TermW ar x
 iff : ∀ θ, GoodS ar θ → (ap θ A = ap θ C ↔ SatB b θ ∧ ∀ i, i < l.length → ap θ (l.getD i []) = ap θ (r.getD i []))
section
variable {u v : List Int} {k : Nat}
end
end
section
variable {ar t : List Int} {p k e m q : Nat} {os : RowL}
end
section
variable {ar : List Int} {rs : RulesT} {o p u : Nat} {b : RowL} {σ : Sbs} {t : List Int}
end
section
variable {ar t u A C : List Int} {b b1 l r : RowL} {σ : Sbs} {ρ : Int → Nat} {n : Int} {k : Nat}
end
end Go.Proofs.YthkebalahfalhaaGreat.M
namespace Go.Proofs.YthkebalahfalhaaGreat.X
open Go
section
variable {P : Program} {ρ : Env} {F : FH} {L : List HP} {K : Post} {d : Option Tmp} {ty : TypeId} {pos : String} {af : Array Edge} {g : Option (Nat × Bool)}
end
section
variable {P : Program} {ρ : Env} {F : FH} {L : List HP} {K : Post} {d : Option Tmp} {ty : TypeId} {pos : String} {af : Array Edge} {g : Option (Nat × Bool)}
theorem XOp.addW {x y : Operand} {t u : TypeId} {k : IntKind} {a b : Int} (hx : evO ρ x = .int k a) (hy : evO ρ y = .int k b) (kk : ∀ r, K (.int k r) F L) : XOp P ⟨d, .binOp .add t x y u, ty, pos, af, g⟩ ρ F L K :=
 XOp.value (v := .int k (k.wrap (a + b))) (fun w _ => by simp [execOp, hx, hy, eqGuard, binOp, Op.intArith]) (kk _)
theorem XOp.mulW {x y : Operand} {t u : TypeId} {k : IntKind} {a b : Int} (hx : evO ρ x = .int k a) (hy : evO ρ y = .int k b) (kk : ∀ r, K (.int k r) F L) : XOp P ⟨d, .binOp .mul t x y u, ty, pos, af, g⟩ ρ F L K :=
 XOp.value (v := .int k (k.wrap (a * b))) (fun w _ => by simp [execOp, hx, hy, eqGuard, binOp, Op.intArith]) (kk _)
theorem XOp.xorW {x y : Operand} {t u : TypeId} {k : IntKind} {a b : Int} (hx : evO ρ x = .int k a) (hy : evO ρ y = .int k b) (kk : ∀ r, K (.int k r) F L) : XOp P ⟨d, .binOp .xor t x y u, ty, pos, af, g⟩ ρ F L K :=
 XOp.value (v := .int k (k.wrap (BitVec.ofInt k.bits a ^^^ BitVec.ofInt k.bits b).toNat)) (fun w _ => by simp [execOp, hx, hy, eqGuard, binOp, Op.intBits]) (kk _)
theorem XOp.shrW {x y : Operand} {t u : TypeId} {k k' : IntKind} {a b : Int} (hx : evO ρ x = .int k a) (hy : evO ρ y = .int k' b) (hb : 0 ≤ b) (kk : ∀ r, K (.int k r) F L) : XOp P ⟨d, .binOp .shr t x y u, ty, pos, af, g⟩ ρ F L K :=
 XOp.value (v := .int k (a.fdiv (2 ^ min b.toNat k.bits))) (fun w _ => by simp [execOp, hx, hy, eqGuard, binOp, Op.shift, show ¬ b < 0 by omega]) (kk _)
theorem and_range {k : IntKind} (hk : k.bits = 64) {a b : Int} (hb : 0 ≤ b ∧ b < 4611686018427387904) : 0 ≤ k.wrap (BitVec.ofInt k.bits a &&& BitVec.ofInt k.bits b).toNat ∧ k.wrap (BitVec.ofInt k.bits a &&& BitVec.ofInt k.bits b).toNat ≤ b := by
 have h1 : ((BitVec.ofInt k.bits a &&& BitVec.ofInt k.bits b).toNat : Int) ≤ b := by
  rw [BitVec.toNat_and]
  have h2 : (BitVec.ofInt k.bits a).toNat &&& (BitVec.ofInt k.bits b).toNat ≤ (BitVec.ofInt k.bits b).toNat := Nat.and_le_right
  have h3 : ((BitVec.ofInt k.bits b).toNat : Int) = b := by
   rw [BitVec.toNat_ofInt, hk]
   have : b % ((2 ^ 64 : Nat) : Int) = b := Int.emod_eq_of_lt hb.1 (by omega)
   rw [this]; omega
  omega
 have h0 : (0 : Int) ≤ ((BitVec.ofInt k.bits a &&& BitVec.ofInt k.bits b).toNat : Int) := Int.natCast_nonneg _
 generalize ((BitVec.ofInt k.bits a &&& BitVec.ofInt k.bits b).toNat : Int) = r at h0 h1
 have e : k.wrap r = r := by
  cases k <;> first | exact IntWalk.i64_in _ ⟨by omega, by omega⟩ | exact IntWalk.u64_in _ ⟨by omega, by omega⟩ | (exfalso; revert hk; decide)
 rw [e]
 exact ⟨h0, h1⟩
theorem XOp.andW {x y : Operand} {t u : TypeId} {k : IntKind} {a b : Int} (hk : k.bits = 64) (hx : evO ρ x = .int k a) (hy : evO ρ y = .int k b) (hb : 0 ≤ b ∧ b < 4611686018427387904) (kk : ∀ r, 0 ≤ r ∧ r ≤ b → K (.int k r) F L) : XOp P ⟨d, .binOp .and t x y u, ty, pos, af, g⟩ ρ F L K :=
 XOp.value (v := .int k (k.wrap (BitVec.ofInt k.bits a &&& BitVec.ofInt k.bits b).toNat)) (fun w _ => by simp [execOp, hx, hy, eqGuard, binOp, Op.intBits]) (kk _ (and_range hk hb))
theorem XOp.remV {x y : Operand} {t u : TypeId} {k : IntKind} {a b : Int} (hx : evO ρ x = .int k a) (hy : evO ρ y = .int k b) (h0 : 0 ≤ a) (hb : 0 < b) (kk : ∀ r, 0 ≤ r ∧ r < b → K (.int k r) F L) : XOp P ⟨d, .binOp .rem t x y u, ty, pos, af, g⟩ ρ F L K :=
 XOp.remC hx hy h0 (by omega) (kk _ ⟨Int.emod_nonneg a (by omega), Int.emod_lt_of_pos a hb⟩)
theorem XOp.convW {x : Operand} {s t : TypeId} {k k' : IntKind} {a : Int} {ds : TypeDesc} (hs : ∀ w, (underlying s).run P w = .ok ds w) (ht : ∀ w, (underlying t).run P w = .ok (.int k) w)
  (hx : evO ρ x = .int k' a) (kk : ∀ r, K (.int k r) F L) : XOp P ⟨d, .convert s t x, ty, pos, af, g⟩ ρ F L K := XOp.convI (k.wrap a) hs ht hx rfl (kk _)
end
def ByteE (F : FH) (es : List Value) (x : Int) : Prop := es = [.int .u8 x] ∧ 0 ≤ x ∧ x ≤ 255
theorem ByteE.mono {F F' : FH} (es : List Value) (x : Int) (h : ByteE F es x) : ByteE F' es x := h
def BytesF : FH → Value → List Int → Prop := SlOf 1 ByteE 0
theorem BytesF.mono {F F' : FH} {v : Value} {xs : List Int} (h : BytesF F v xs) (le : F ≤ F') : BytesF F' v xs := SlOf.mono ByteE.mono h le
theorem BytesF.slv {F : FH} {L : List HP} {v : Value} {xs : List Int} (h : BytesF F v xs) : SlV F L v xs.length := SlOf.slv h
theorem BytesF.isSl {F : FH} {v : Value} {xs : List Int} (h : BytesF F v xs) : IsSl v := by obtain ⟨_, h, _⟩ := h; exact h.isSl
theorem BytesF.rd {F : FH} {v : Value} {xs : List Int} (h : BytesF F v xs) {i : Nat} (hi : i < xs.length) : ∀ L, Rd F L (elemA v i) (.int .u8 (xs.getD i 0)) := by
 obtain ⟨es, hl, ⟨rfl, _⟩, hr⟩ := SlOf.get h hi
 intro L
 have := hr L 0 _ rfl
 simpa using this
theorem BytesF.range {F : FH} {v : Value} {xs : List Int} (h : BytesF F v xs) {i : Nat} (hi : i < xs.length) : 0 ≤ xs.getD i 0 ∧ xs.getD i 0 ≤ 255 := by
 obtain ⟨es, hl, ⟨rfl, h2⟩, hr⟩ := SlOf.get h hi
 exact h2
def curH (k : IntKind) (E : TypeId) (b : Nat) (bv : Value) (n : Nat) : HP := fun l => ∃ i h : Int, 0 ≤ i ∧ i ≤ n ∧ cellsH b [bv, .int .i64 i, .int k h] E l
theorem curH.of {k : IntKind} {E : TypeId} {b : Nat} {bv : Value} {n : Nat} {i h : Int} (h0 : 0 ≤ i) (h1 : i ≤ n) : ∀ l, cellsH b [bv, .int .i64 i, .int k h] E l → curH k E b bv n l := fun l hl => ⟨i, h, h0, h1, hl⟩
theorem Holds.uncur {k : IntKind} {E : TypeId} {b : Nat} {bv : Value} {n : Nat} {F : FH} {L : List HP} {w : World} (H : Holds F (curH k E b bv n :: L) w) : ∃ i h : Int, 0 ≤ i ∧ i ≤ n ∧ Holds F (cellsH b [bv, .int .i64 i, .int k h] E :: L) w := by
 obtain ⟨h1, h2, h3, h4, l, hl, nd, hp⟩ := H
 obtain ⟨a, c, ⟨i, h, q1, q2, hm⟩, hc, rfl⟩ := hl
 exact ⟨i, h, q1, q2, h1, h2, h3, h4, _, ⟨a, c, hm, hc, rfl⟩, nd, hp⟩
theorem Does.cur {P : Program} {f : FuncId} {args : List Value} {k : IntKind} {E : TypeId} {b : Nat} {bv : Value} {n : Nat} {F : FH} {L : List HP} {Q : Value → FH → Prop}
  (H : ∀ i h : Int, 0 ≤ i → i ≤ n → Does P f args F (cellsH b [bv, .int .i64 i, .int k h] E :: L) fun v F' L' => Q v F' ∧ ∃ i' h' : Int, 0 ≤ i' ∧ i' ≤ n ∧ cellsH b [bv, .int .i64 i', .int k h'] E :: L = L') :
  Does P f args F (curH k E b bv n :: L) fun v F' L' => Q v F' ∧ curH k E b bv n :: L = L' := by
 intro w Hw
 obtain ⟨i, h, q1, q2, Hw'⟩ := Hw.uncur
 refine (H i h q1 q2 w Hw').mono ?_
 rintro e w' ⟨v, F', L', he, le, H', hq, i', h', q3, q4, rfl⟩
 exact ⟨v, F', _, he, le, (Sub.keep (curH.of q3 q4) (Sub.refl _)).holds H', hq, rfl⟩
def intAt : Value → Int
 | .int _ n => n
 | _ => 0
theorem Holds.ex {ι : Type} {h : HP} {k : ι → HP} {p : ι → Prop} {F : FH} {A B : List HP} {w : World} (e : ∀ l, h l → ∃ i, p i ∧ k i l) (H : Holds F (A ++ h :: B) w) : ∃ i, p i ∧ Holds F (A ++ k i :: B) w := by
 obtain ⟨h1, h2, h3, h4, l, hl, nd, hp⟩ := H
 obtain ⟨a, m, c, ha, hm, hc, rfl⟩ := star_mid.1 hl
 obtain ⟨i, hi, hk⟩ := e m hm
 exact ⟨i, hi, h1, h2, h3, h4, _, star_mid.2 ⟨a, m, c, ha, hk, hc, rfl⟩, nd, hp⟩
def drawnH (e : TypeId) (v : Value) (Q : List Int → Prop) : HP := fun l => ∃ t, Q t ∧ intsH e v t l
theorem drawnH.of {e : TypeId} {v : Value} {Q : List Int → Prop} {t : List Int} (h : Q t) : ∀ l, intsH e v t l → drawnH e v Q l := fun l hl => ⟨t, h, hl⟩
section
variable {P : Program} {n : Nat} {ops : Array Oper} {l : List Oper} {Q : QX} {ρ : Env} {F : FH} {L : List HP} {c : Code}
theorem XL.undraw {e : TypeId} {v : Value} {R : List Int → Prop} (A : List HP) {B : List HP} (hL : L = A ++ drawnH e v R :: B) (h : ∀ t, R t → XL P n ops l Q ρ F (A ++ intsH e v t :: B)) : XL P n ops l Q ρ F L := by
 subst hL
 intro ok a w r H
 obtain ⟨t, ht, H'⟩ := Holds.ex (fun _ h => h) H
 exact h t ht ok a w r H'
end
def SomesF (F : FH) (v : Value) (Q : List Int → Prop) : Prop := ∃ t, IntsF F v t ∧ Q t
theorem SomesF.mono {F F' : FH} {v : Value} {Q : List Int → Prop} (h : SomesF F v Q) (le : F ≤ F') : SomesF F' v Q := let ⟨t, h1, h2⟩ := h; ⟨t, h1.mono le, h2⟩
theorem Does.atO {P : Program} {f : FuncId} {args : List Value} {F : FH} {ι : Type} {O : ι → HP} {Q : ι → Value → FH → Prop} {h : HP} (A : List HP) {B : List HP} (H : Does P f args F (h :: (A ++ B)) fun v F' L' => ∃ i, Q i v F' ∧ O i :: h :: (A ++ B) = L') :
  Does P f args F (A ++ h :: B) fun v F' L' => ∃ i, Q i v F' ∧ O i :: (A ++ h :: B) = L' := fun w Hw =>
 (H w (Sub.front.holds Hw)).mono fun _ _ ⟨v, F', L', he, le, H', i, hq, hl⟩ => ⟨v, F', _, he, le, (Sub.cons Sub.back).holds (hl ▸ H'), i, hq, rfl⟩
section
variable {P : Program} {ρ : Env} {F : FH} {L : List HP} {K : Post} {d : Option Tmp} {ty : TypeId} {pos : String} {af : Array Edge} {g : Option (Nat × Bool)}
end
section
variable {P : Program} {ρ : Env} {F : FH} {L : List HP} {K : Post} {d : Option Tmp} {ty : TypeId} {pos : String} {af : Array Edge} {g : Option (Nat × Bool)}
end
end Go.Proofs.YthkebalahfalhaaGreat.X
namespace Go.Proofs.YthkebalahfalhaaGreat.M
section
variable {ar : List Int} {rs : Rules} {a b t : List Int} {ts : RowL} {n : Int} {m k : Nat}
end
section
variable {ar : List Int} {rs : Rules} {a b t : List Int} {n : Int}
end
section
variable {o t : List Int} {k j : Nat} {n x : Int}
theorem ord_nodup : (orderL t).Nodup := orderGo_nodup t [] List.nodup_nil
end
section
variable {ar : List Int} {rs : RulesT} {o p u : Nat} {b : RowL} {σ : Sbs}
noncomputable def psO (ar : List Int) (rs : RulesT) : Option (List PkT) := if sysOk ar rs = true then peaksF ar rs else none
end
end Go.Proofs.YthkebalahfalhaaGreat.M
namespace Go.Proofs.YthkebalahfalhaaGreat.X
open Go
section
variable {P : Program} {ρ : Env} {F : FH} {L : List HP} {K : Post} {d : Option Tmp} {ty : TypeId} {pos : String} {af : Array Edge} {g : Option (Nat × Bool)}
end
end Go.Proofs.YthkebalahfalhaaGreat.X
namespace Go.Proofs.YthkebalahfalhaaGreat.M
section
variable {ar : List Int} {rs : RulesT} {o p u : Nat} {x : PkT}
theorem psO_len : ((psO ar rs).getD []).length ≤ 64 := by
 unfold psO
 split
 ·cases h : peaksF ar rs with
  | none => simp
  | some l => exact peaks_len h
 ·simp
end
section
variable {t : List Int} {rs : RulesT} {ar : List Int} {k : Nat}
def LinT (t : List Int) : Prop := ∀ i, i < t.length → t.getD i 0 < 0 → t.getD i 0 ∉ t.take i
instance : Decidable (LinT t) := by unfold LinT; infer_instance
def LinS (rs : RulesT) : Prop := ∀ i, i < rs.length → LinT (rs.getD i ([], [])).1
instance : Decidable (LinS rs) := by unfold LinS; infer_instance
end
section
variable {ar : List Int} {rs : Rules} {t f now : List Int} {ss acc : List StepL} {s : RowL} {k : Nat}
end
section
variable {α : Type} {q : α → Bool} {l : List α} {d : α} {k : Nat}
def badG (q : α → Bool) (l : List α) : Int := match l.findIdx? (fun t => !q t) with | some i => i | none => -1
theorem badG_at (d : α) (hk : k < l.length) (h : q (l.getD k d) = false) (hall : ∀ i, i < k → q (l.getD i d) = true) : badG q l = k := by
 unfold badG
 have : l.findIdx? (fun t => !q t) = some k := by
  rw [List.findIdx?_eq_some_iff_getElem]
  refine ⟨hk, by simpa [List.getD, hk] using h, fun j hj => ?_⟩
  have := hall j hj
  simpa [List.getD, Nat.lt_trans hj hk] using this
 rw [this]
theorem badG_none (d : α) (hall : ∀ i, i < l.length → q (l.getD i d) = true) : badG q l = -1 := by
 unfold badG
 have : l.findIdx? (fun t => !q t) = none := by
  rw [List.findIdx?_eq_none_iff]
  intro x hx
  obtain ⟨i, hi, rfl⟩ := List.getElem_of_mem hx
  simpa [List.getD, hi] using hall i hi
 rw [this]
theorem badG_iff : (badG q l ≥ 0) ↔ l.all q = false := by
 unfold badG
 cases h : l.findIdx? (fun t => !q t) with
 | none =>
  rw [List.findIdx?_eq_none_iff] at h
  have : l.all q = true := List.all_eq_true.2 fun x hx => by simpa using h x hx
  simp [this]
 | some i =>
  rw [List.findIdx?_eq_some_iff_getElem] at h
  obtain ⟨hi, h1, _⟩ := h
  have : l.all q = false := by
   rw [List.all_eq_false]
   exact ⟨_, List.getElem_mem hi, by simpa using h1⟩
  simp [this]
theorem all_getD_iff (d : α) : l.all q = true ↔ ∀ i, i < l.length → q (l.getD i d) = true := by
 rw [List.all_eq_true]
 refine ⟨fun h i hi => h _ (by simp [List.getD, hi]), fun h x hx => ?_⟩
 obtain ⟨i, hi, rfl⟩ := List.getElem_of_mem hx
 simpa [List.getD, hi] using h i hi
theorem all_fail (d : α) (hk : k < l.length) (h : q (l.getD k d) = false) : l.all q = false := by
 cases hx : l.all q with
 | false => rfl
 | true => have := (all_getD_iff d).1 hx k hk; rw [h] at this; cases this
end
section
variable {ar : List Int} {rs es : Rules} {a b : List Int} {n : Int} {m k : Nat}
def eqOkL (ar : List Int) (e : List Int × List Int) : Bool := termOk ar e.1 && termOk ar e.2
def eqsOkL (ar : List Int) (es : Rules) : Bool := sigOk ar && decide (es.length ≤ 12) && es.all (eqOkL ar)
theorem eqsOk_at (h : eqsOkL ar es = true) (hk : k < es.length) : termOk ar (es.getD k ([], [])).1 = true ∧ termOk ar (es.getD k ([], [])).2 = true := by
 unfold eqsOkL at h
 simp only [Bool.and_eq_true] at h
 have := (all_getD_iff ([], [])).1 h.2 k hk
 simpa [eqOkL] using this
theorem eqsOk_len (h : eqsOkL ar es = true) : es.length ≤ 12 := by
 unfold eqsOkL at h
 simp only [Bool.and_eq_true, decide_eq_true_eq] at h
 exact h.1.2
end
abbrev StepV := Int × Int × List Int
section
variable {ar t : List Int} {rs : Rules} {p r k : Nat} {u : List Int}
end
abbrev FoundV := List Int × Int × StepV × Int
section
variable {ar t : List Int} {rs : Rules} {n d : Int} {k f : Nat} {all : List FoundV} {ss : List StepV}
end
section
variable {all : List FoundV} {x : FoundV} {i : Nat}
end
section
variable {ar t : List Int} {rs : Rules} {n : Int} {all : List FoundV}
end
def WalkB (f : List Int) (ss : List StepV) : Prop := f.length ≤ 60 ∧ ss.length ≤ 60 ∧ (∀ i, i < ss.length → (ss.getD i (0, 0, [])).2.2.length ≤ 60) ∧ (ss.flatMap flatStep).length ≤ 4000
theorem WalkB.mk {f : List Int} {ss : List StepV} (hf : f.length ≤ 60) (hs : ss.length ≤ 60) (h : ∀ s ∈ ss, s.2.2.length ≤ 60) : WalkB f ss := by
 have h0 : ∀ i, i < ss.length → (ss.getD i (0, 0, [])).2.2.length ≤ 60 := fun i hi => h _ (by simp [List.getD, hi])
 refine ⟨hf, hs, h0, ?_⟩
 have h1 := flatStep_len ss
 have h2 := gTo_bound h0 _ (Nat.le_refl _)
 have h4 : ss.length * 60 ≤ 60 * 60 := Nat.mul_le_mul_right 60 hs
 omega
section
variable {ar t u a b : List Int} {rs : Rules} {n : Int} {all : List FoundV} {k : Nat}
end
section
variable {ar f g : List Int} {rs : Rules} {xs ys : List StepV}
end
section
variable {ar t u f : List Int} {rs : Rules} {ss : List StepL} {st n : Int}
theorem endL_cons' {s : StepL} : endL t (s :: ss) = endL s.2.2 ss := by
 unfold endL
 cases ss with
 | nil => rfl
 | cons a l => simp
end
section
variable {ar t : List Int} {rs : Rules} {p r : Int} {k : Nat}
end
section
variable {ar t f u v w g A R : List Int} {rs : Rules} {p q r : Nat} {ss xs : List StepL}
theorem endN_of {e : Nat} (h : endGo ar (t.drop p) 1 = some e) : endN ar t p = p + e := by simp [endN, endAt, h]
end
section
variable {ar t f u v w g : List Int} {rs : Rules} {p q r k n : Nat} {ss xs : List StepL} {s b b' : RowL}
abbrev FM (s : RowL) (t : List Int) : List Int := t.flatMap (lk s)
end
section
variable {ar t f : List Int} {rs : Rules} {ss xs : List StepL} {k : Nat}
end
section
variable {f : List Int} {ss : List StepL} {s : StepL} {k : Nat}
end
section
variable {ar t od : List Int} {σ τ : Sbs} {n : Nat}
def byS (od : List Int) (σ : Sbs) : Sbs := fun x => byL od (σ x)
theorem ap_byS : ap (byS od σ) t = byL od (ap σ t) := by
 unfold ap byS byL
 rw [List.map_flatMap]
theorem by_neg {x : Int} : (if x < 0 ∧ x ∈ od then -1 - indexZ od x else x) < 0 ↔ x < 0 := by
 by_cases h : x < 0 ∧ x ∈ od
 ·have := indexZ_mem.2 h.2
  rw [if_pos h]; omega
 ·rw [if_neg h]
theorem by_arity {x : Int} : arity ar (if x < 0 ∧ x ∈ od then -1 - indexZ od x else x) = arity ar x := by
 by_cases hx : x < 0
 ·unfold arity; rw [if_pos (by_neg.2 hx), if_pos hx]
 ·rw [if_neg (fun h => hx h.1)]
theorem endGo_byL : ∀ (r : List Int) (n : Nat), endGo ar (byL od r) n = endGo ar r n
 | r, 0 => by simp [endGo]
 | [], n + 1 => rfl
 | x :: r, n + 1 => by
  show endGo ar ((if x < 0 ∧ x ∈ od then -1 - indexZ od x else x) :: byL od r) (n + 1) = _
  simp only [endGo, by_arity, endGo_byL r]
  by_cases hx : x < 0
  ·rw [if_pos (by have := (by_neg (od := od)).2 hx; omega), if_pos (by omega)]
  ·have e : (if x < 0 ∧ x ∈ od then -1 - indexZ od x else x) = x := if_neg (fun h => hx h.1)
   rw [e]
theorem wf_byL {r : List Int} : WF ar (byL od r) n ↔ WF ar r n := by unfold WF; rw [endGo_byL, byL_len]
theorem byS_good (h : GoodS ar σ) : GoodS ar (byS od σ) :=
 ⟨fun n hn => by unfold byS; rw [h.sym n hn]; simp [byL]; omega, fun n hn => wf_byL.2 (h.var n hn)⟩
theorem byL_ok (hs : sigOk ar = true) (hw : WF ar t 1) (hl : t.length ≤ 60) (ho : od.length ≤ 24) (hv : ∀ n ∈ t, n < 0 → n ∈ od) : termOk ar (byL od t) = true := by
 refine termOk_iff.2 ⟨hs, ?_, by rw [byL_len]; exact hl, ?_, wf_byL.2 hw⟩
 ·rw [byL_len]
  cases ht : t with
  | nil => rw [ht] at hw; exact absurd rfl hw.pos
  | cons => simp
 ·intro x hx
  obtain ⟨y, hy, rfl⟩ := List.mem_map.1 hx
  by_cases h : y < 0 ∧ y ∈ od
  ·have := indexZ_lt h.2
   rw [if_pos h]; omega
  ·rw [if_neg h]
   by_cases h0 : y < 0
   ·exact absurd ⟨h0, hv y hy h0⟩ h
   ·omega
theorem wf_unique {X : List Int} {m : Nat} (h : WF ar X n) (k : WF ar X m) : n = m := by
 have one : ∀ (a d : Nat), WF ar X a → WF ar X (a + d) → d = 0 := by
  intro a d h k
  obtain ⟨e1, e2, h1, h2, h3⟩ := endGo_split k
  have : e1 = X.length := by unfold WF at h; rw [h] at h1; exact (Option.some.inj h1).symm
  rw [this, List.drop_length] at h2
  cases d with
  | zero => rfl
  | succ d => simp [endGo] at h2
 rcases Nat.le_total n m with hl | hl
 ·have := one n (m - n) h (by rw [show n + (m - n) = m from by omega]; exact k); omega
 ·have := one m (n - m) k (by rw [show m + (n - m) = n from by omega]; exact h); omega
theorem wf_drop {l : List Int} (h : TermW ar l) {p : Nat} (hp : p < l.length) {u : List Int} (hu : WF ar u 1) : WF ar (l.take p ++ u ++ l.drop (endN ar l p)) 1 := by
 -- what stands ahead, and what stands behind, are the same
 obtain ⟨k, hk⟩ := endGo_at h.whole p hp
 have hd : l.drop p = sub ar l p ++ l.drop (endN ar l p) := wf_sub h hp
 have hsw := (h.sub hp).wf
 -- the rest behind p: one term, then k
 rw [show k + 1 = 1 + k from by omega] at hk
 obtain ⟨e1, e2, h1, h2, h3⟩ := endGo_split hk
 have he1 : e1 = (sub ar l p).length := by
  have h4 := endGo_more (b := l.drop (endN ar l p)) hsw
  rw [← hd, h1] at h4
  exact Option.some.inj h4
 have h5 : WF ar (l.drop (endN ar l p)) k := by
  unfold WF
  rw [he1, hd, List.drop_left] at h2
  rw [h2]; congr 1
  have hl := congrArg List.length hd
  rw [List.length_append, List.length_drop] at hl
  omega
 have h6 : WF ar (u ++ l.drop (endN ar l p)) (1 + k) := WF_app hu h5
 have key : ∀ (A : List Int) (n : Nat) (X Y : List Int) (m : Nat), WF ar X m → WF ar Y m → WF ar (A ++ X) n → WF ar (A ++ Y) n := by
  intro A
  induction A with
  | nil =>
   intro n X Y m hX hY hA
   rw [List.nil_append] at hA
   have : n = m := wf_unique hA hX
   subst this; exact hY
  | cons x A ih =>
   intro n X Y m hX hY hA
   cases n with
   | zero => have := WF.zero hA; simp at this
   | succ n =>
    rw [List.cons_append] at hA ⊢
    have h := WF_cons.1 hA
    exact WF_cons.2 ⟨h.1, ih _ X Y m hX hY h.2⟩
 have h7 : WF ar (sub ar l p ++ l.drop (endN ar l p)) (1 + k) := WF_app hsw h5
 rw [List.append_assoc]
 refine key _ 1 _ _ _ h7 h6 ?_
 rw [← hd, List.take_append_drop]; exact h.wf
end
section
variable {ar : List Int} {rs : RulesT} {o p u : Nat} {b : RowL} {σ : Sbs} {x : PkT}
theorem left_wf (hs : sysOk ar rs = true) (ho : o < rs.length) (hu : u < rs.length) (hp : p < (Lr rs o).length) : WF ar (leftT ar rs o p u) 1 :=
 wf_drop (termW_of (rule_L hs ho)) hp (away_W (rule_R hs hu)).wf
structure PkS (ar : List Int) (rs : RulesT) (o p u : Nat) (x : PkT) (τ : Sbs) : Prop where
 good : GoodS ar τ
 top : x.1 = ap τ (Lr rs o)
 left : x.2.1 = ap τ (leftT ar rs o p u)
 right : x.2.2.1 = ap τ (Rr rs o)
 nums : x.2.2.2 = ((p : Int), (u : Int), (o : Int))
 met : ap τ (sub ar (Lr rs o) p) = ap τ (awayL (Lr rs u))
 topOk : termOk ar x.1 = true
 leftOk : termOk ar x.2.1 = true
 rightOk : termOk ar x.2.2.1 = true
theorem pkF_spec (hs : sysOk ar rs = true) (ho : o < rs.length) (hu : u < rs.length) (hp : p < (Lr rs o).length) (h : pkF ar rs o p u = some x) : ∃ τ, PkS ar rs o p u x τ := by
 unfold pkF at h
 split at h
 ·unfold peakF at h
  split at h
  ·rename_i hex
   obtain ⟨b, hm, hσ⟩ := Classical.choose_spec hex
   generalize Classical.choose hex = σ at *
   have g := hσ.good hm.ok
   have e := (hm.iff σ g).1 hσ.sat
   have hsig := (sysOk_iff.1 hs).1
   unfold peakOf at h
   simp only at h
   split at h
   ·rename_i hc
    cases h
    refine ⟨byS (orderL (ap σ (Lr rs o))) σ, byS_good g, ap_byS.symm, ap_byS.symm, ap_byS.symm, rfl, by rw [ap_byS, ap_byS, e], ?_, ?_, ?_⟩
    ·exact byL_ok hsig (ap_wf g (termW_of (rule_L hs ho)).wf) hc.1 hc.2.2.2 fun n hn h0 => mem_orderL.2 ⟨h0, hn⟩
    ·exact byL_ok hsig (ap_wf g (left_wf hs ho hu hp)) hc.2.1 hc.2.2.2 fun n hn h0 => mem_orderL.2 ⟨h0, left_vars hs ho hu hm hσ n hn h0⟩
    ·exact byL_ok hsig (ap_wf g (termW_of (rule_R hs ho)).wf) hc.2.2.1 hc.2.2.2 fun n hn h0 => mem_orderL.2 ⟨h0, ap_mono hσ (rule_vars hs ho) n hn h0⟩
   ·cases h
  ·cases h
 ·cases h
theorem meets_mem {m : Tr} (h : m ∈ meetsL ar rs) : m.1 < rs.length ∧ m.2.1 < (Lr rs m.1).length ∧ m.2.2 < rs.length ∧ 0 ≤ (Lr rs m.1).getD m.2.1 0 ∧ meetB ar rs m.1 m.2.1 m.2.2 = true := by
 have hU : ∀ o p n, ∀ m ∈ mU ar rs o p n, m.1 = o ∧ m.2.1 = p ∧ m.2.2 < n ∧ 0 ≤ (Lr rs o).getD p 0 ∧ meetB ar rs o p m.2.2 = true := by
  intro o p n
  induction n with
  | zero => intro m hm; simp [mU] at hm
  | succ n ih =>
   intro m hm
   rw [mU, List.mem_append] at hm
   rcases hm with hm | hm
   ·have := ih m hm; exact ⟨this.1, this.2.1, by omega, this.2.2.2⟩
   ·split at hm
    ·rename_i hc; rw [List.mem_singleton.1 hm]; exact ⟨rfl, rfl, by simp, hc.1, hc.2⟩
    ·cases hm
 have hP : ∀ o n, ∀ m ∈ mP ar rs o n, m.1 = o ∧ m.2.1 < n ∧ m.2.2 < rs.length ∧ 0 ≤ (Lr rs o).getD m.2.1 0 ∧ meetB ar rs o m.2.1 m.2.2 = true := by
  intro o n
  induction n with
  | zero => intro m hm; simp [mP] at hm
  | succ n ih =>
   intro m hm
   rw [mP, List.mem_append] at hm
   rcases hm with hm | hm
   ·have := ih m hm; exact ⟨this.1, by omega, this.2.2⟩
   ·have := hU o n _ m hm
    refine ⟨this.1, by omega, this.2.2.1, ?_, ?_⟩
    ·rw [this.2.1]; exact this.2.2.2.1
    ·rw [this.2.1]; exact this.2.2.2.2
 have hO : ∀ n, ∀ m ∈ mO ar rs n, m.1 < n ∧ m.2.1 < (Lr rs m.1).length ∧ m.2.2 < rs.length ∧ 0 ≤ (Lr rs m.1).getD m.2.1 0 ∧ meetB ar rs m.1 m.2.1 m.2.2 = true := by
  intro n
  induction n with
  | zero => intro m hm; simp [mO] at hm
  | succ n ih =>
   intro m hm
   rw [mO, List.mem_append] at hm
   rcases hm with hm | hm
   ·have := ih m hm; exact ⟨by omega, this.2⟩
   ·have := hP n _ m hm
    rw [this.1]
    exact ⟨by omega, this.2.1, this.2.2.1, this.2.2.2⟩
 exact hO _ m h
theorem psO_spec (h : x ∈ (psO ar rs).getD []) : sysOk ar rs = true ∧ ∃ m ∈ meetsL ar rs, pkF ar rs m.1 m.2.1 m.2.2 = some x := by
 unfold psO at h
 split at h
 ·rename_i hs
  refine ⟨hs, ?_⟩
  unfold peaksF at h
  split at h
  ·rename_i hc
   simp only [Option.getD_some] at h
   obtain ⟨m, hm, rfl⟩ := List.mem_map.1 h
   refine ⟨m, hm, ?_⟩
   have h1 := hc.1 m hm
   unfold pkD
   cases h2 : pkF ar rs m.1 m.2.1 m.2.2 with
   | none => rw [h2] at h1; cases h1
   | some y => rfl
  ·cases h
 ·cases h
theorem psO_ok (h : x ∈ (psO ar rs).getD []) : termOk ar x.1 = true ∧ termOk ar x.2.1 = true ∧ termOk ar x.2.2.1 = true := by
 obtain ⟨hs, m, hm, hf⟩ := psO_spec h
 have h1 := meets_mem hm
 obtain ⟨τ, hτ⟩ := pkF_spec hs h1.1 h1.2.2.1 h1.2.1 hf
 exact ⟨hτ.topOk, hτ.leftOk, hτ.rightOk⟩
theorem psO_okAt : ∀ i, i < ((psO ar rs).getD []).length → termOk ar (((psO ar rs).getD []).getD i ([], [], [], 0, 0, 0)).1 = true ∧ termOk ar (((psO ar rs).getD []).getD i ([], [], [], 0, 0, 0)).2.1 = true ∧ termOk ar (((psO ar rs).getD []).getD i ([], [], [], 0, 0, 0)).2.2.1 = true := fun i hi => by
 refine psO_ok (ar := ar) (rs := rs) ?_
 rw [List.getD_eq_getElem?_getD, List.getElem?_eq_getElem hi]
 exact List.getElem_mem hi
end
section
variable {ar : List Int} {rs : RulesT} {a b : List Int}
def trivB (x : PkT) : Bool := decide (x.2.1 = x.2.2.1)
theorem part_len (ha : TermW ar a) {i : Nat} (hi : i < (partsL ar a).length) : ((partsL ar a).getD i []).length < a.length := by
 have := part_lt (GoodS.id (ar := ar)) ha hi
 rwa [ap_id, ap_id] at this
theorem parts_same (he : a.getD 0 0 = b.getD 0 0) : (partsL ar b).length = (partsL ar a).length := by rw [parts_len, parts_len, he]
end
section
variable {ar : List Int} {rs : Rules} {a b t : List Int} {ts : RowL} {n : Int} {k : Nat}
end
section
variable {ar t u : List Int} {n : Nat} {f : Int}
def goodN (ar t : List Int) (n : Nat) : Prop := (∀ x ∈ t, -24 ≤ x) ∧ ∀ r, endGo ar (t ++ r) n = some t.length
def goodT (ar t : List Int) : Prop := goodN ar t 1
theorem goodN.nil : goodN ar [] 0 := ⟨fun x hx => (List.not_mem_nil hx).elim, fun r => by cases r <;> rfl⟩
theorem goodN.snoc (h : goodN ar t n) (k : goodT ar u) : goodN ar (t ++ u) (n + 1) := by
 refine ⟨fun x hx => (List.mem_append.1 hx).elim (h.1 x) (k.1 x), fun r => ?_⟩
 have h1 := h.2 (u ++ r)
 have h2 : endGo ar ((t ++ (u ++ r)).drop t.length) 1 = some u.length := by rw [List.drop_left]; exact k.2 r
 rw [List.append_assoc, endGo_join h1 h2, List.length_append]
theorem goodT.one (hf : -24 ≤ f) (hl : f < ar.length) (ha : arity ar f = 0) : goodT ar [f] := by
 refine ⟨fun x hx => by obtain rfl := List.mem_singleton.1 hx; exact hf, fun r => ?_⟩
 show endGo ar (f :: r) (0 + 1) = some 1
 unfold endGo
 rw [if_pos hl, ha]
 cases r <;> rfl
theorem goodT.var (hf : -24 ≤ f) (h0 : f < 0) : goodT ar [f] := goodT.one hf (by omega) (by rw [arity, if_pos h0])
theorem goodT.node (h0 : 0 ≤ f) (hl : f < ar.length) (ha : arity ar f = (n : Int)) (h : goodN ar t n) : goodT ar (f :: t) := by
 refine ⟨fun x hx => (List.mem_cons.1 hx).elim (fun e => by omega) (h.1 x), fun r => ?_⟩
 show endGo ar (f :: (t ++ r)) (0 + 1) = some (t.length + 1)
 unfold endGo
 rw [if_pos hl, ha, show 0 + (n : Int).toNat = n from by omega, h.2 r]
 rfl
def szB : Nat → Nat
 | 0 => 1
 | d + 1 => 1 + 2 * szB d
def szT : Nat → Nat
 | 0 => 1
 | d + 1 => 1 + 3 * szT d
theorem szB_pos : ∀ d, 1 ≤ szB d
 | 0 => by simp [szB]
 | d + 1 => by simp only [szB]; omega
theorem szB_next {d : Nat} (h : 1 ≤ d) : szB d = 1 + 2 * szB (d - 1) := by
 obtain ⟨e, rfl⟩ : ∃ e, d = e + 1 := ⟨d - 1, by omega⟩
 rfl
theorem szB_le : ∀ {d e : Nat}, d ≤ e → szB d ≤ szB e
 | 0, e, _ => szB_pos e
 | d + 1, 0, h => by omega
 | d + 1, e + 1, h => by have := szB_le (d := d) (e := e) (by omega); simp only [szB]; omega
theorem szT_pos : ∀ d, 1 ≤ szT d
 | 0 => by simp [szT]
 | d + 1 => by simp only [szT]; omega
theorem szT_next {d : Nat} (h : 1 ≤ d) : szT d = 1 + 3 * szT (d - 1) := by
 obtain ⟨e, rfl⟩ : ∃ e, d = e + 1 := ⟨d - 1, by omega⟩
 rfl
theorem szT_le : ∀ {d e : Nat}, d ≤ e → szT d ≤ szT e
 | 0, e, _ => szT_pos e
 | d + 1, 0, h => by omega
 | d + 1, e + 1, h => by have := szT_le (d := d) (e := e) (by omega); simp only [szT]; omega
theorem sigOk_snoc {x : Int} (h : sigOk ar = true) (hl : ar.length ≤ 7) (hx : 0 ≤ x ∧ x ≤ 3) : sigOk (ar ++ [x]) = true := by
 have h1 := sigOk_spec h
 refine sigOk_of (by simp) (by simp; omega) (fun i hi => ?_)
 rcases Nat.lt_or_ge i ar.length with h' | h'
 ·have := h1.2.2 i h'
  simpa [List.getD, List.getElem?_append_left h'] using this
 ·have e : i = ar.length := by simp at hi; omega
  subst e
  simpa [List.getD] using hx
def smallR (rs : Rules) : Prop := ∀ i, i < rs.length → (rs.getD i ([], [])).1.length ≤ 2000 ∧ (rs.getD i ([], [])).2.length ≤ 2000
theorem smallR.nil : smallR [] := fun i hi => by simp at hi
theorem smallR.snoc {l r : List Int} {rs : Rules} (h : smallR rs) (hl : l.length ≤ 2000) (hr : r.length ≤ 2000) : smallR (rs ++ [(l, r)]) := fun i hi => by
 rcases Nat.lt_or_ge i rs.length with h' | h'
 ·have := h i h'
  simpa [List.getD, List.getElem?_append_left h'] using this
 ·have e : i = rs.length := by simp at hi; omega
  subst e
  simpa [List.getD] using And.intro hl hr
variable {rs : Rules} {a b : List Int} {ts : RowL} {m : Int} {i k : Nat}
end
abbrev LnT := Int × List (List Int) × List Int
open Classical in
section
variable {ar fs t : List Int} {ls : List LnT} {x : LnT} {k : Nat} {n : Int}
end
section
variable {ar fs t u : List Int} {ls : List LnT} {n k : Nat} {m : Int}
end
section
variable {ar t : List Int} {τ : Sbs} {b : RowL} {n : Int}
end
section
variable {ar t : List Int} {rs : RulesT} {τ : Sbs} {p q r : Nat}
theorem sub_root (ht : termOk ar t = true) : sub ar t 0 = t := by
 unfold sub
 rw [endN_zero ht]; simp
variable {o u : Nat} {x : PkT}
end
section
variable {ar A C t s : List Int} {σ τ θ σ1 σ2 : Sbs} {n m : Int} {b : RowL}
structure MguS (ar A C : List Int) (σ : Sbs) : Prop where
 good : GoodS ar σ
 eq : ap σ A = ap σ C
 most : ∀ θ, GoodS ar θ → ap θ A = ap θ C → ∀ t, ap θ (ap σ t) = ap θ t
end
section
variable {ar A C x y u v : List Int} {σ θ : Sbs} {n : Int} {k : Nat}
structure SolS (ar A C : List Int) (σ : Sbs) : Prop where
 good : GoodS ar σ
 idem : ∀ n, ap σ (σ n) = σ n
 most : ∀ θ, GoodS ar θ → ap θ A = ap θ C → ∀ n, ap θ (σ n) = θ n
end
section
variable {ar A C x y u t : List Int} {s : RowL} {σ : Sbs} {n : Int} {k i : Nat}
open Classical in
structure UniI (ar A C : List Int) (s : RowL) : Prop where
 sol : SolS ar A C (lk s)
 len : s.length ≤ 24
 rows : RowsOk ar s
structure Dif (ar A C : List Int) (s : RowL) (n : Int) (u : List Int) : Prop where
 neg : n < 0
 ge : -24 ≤ n
 free : lk s n = [n]
 ok : termOk ar u = true
 fix : ap (lk s) u = u
 ne : u ≠ [n]
 all : ∀ θ, GoodS ar θ → ap θ A = ap θ C → θ n = ap θ u
end
section
variable {ar A C t a b : List Int} {s l : RowL} {σ : Sbs} {n c : Int} {k i : Nat}
structure UniR (ar A C : List Int) (s : RowL) : Prop where
 mgu : MguS ar A C (lk s)
 len : s.length ≤ 24
 rows : RowsOk ar s
theorem vars_few (ht : ∀ x ∈ t, -24 ≤ x) : (orderL t).length ≤ 24 := by
 have hn := ord_nodup (t := t)
 have hm : ∀ x ∈ orderL t, x ∈ (List.range 24).map fun (i : Nat) => -1 - (i : Int) := fun x hx => by
  have h1 := mem_orderL.1 hx
  have h2 := ht x h1.2
  exact List.mem_map.2 ⟨varIx x, List.mem_range.2 (by unfold varIx; omega), by unfold varIx; omega⟩
 have := hn.length_le_of_subset (l₂ := (List.range 24).map fun (i : Nat) => -1 - (i : Int)) hm
 simpa using this
end
section
variable {ar t u : List Int} {rs : Rules} {n : Int} {all : List FoundV} {k : Nat} {ss : List StepV}
end
section
variable {ar t u a b : List Int} {rs : Rules} {n : Int} {all : List FoundV} {ss xs : List StepV} {s : StepV} {k m : Nat}
end
section
variable {ar t p : List Int} {g g' b : RowL}
theorem getD_set_self {b : RowL} {k : Nat} {x : List Int} (h : k < b.length) : (b.set k x).getD k [] = x := by
 rw [List.getD_eq_getElem?_getD, List.getElem?_set_self h]; rfl
theorem getD_set_other {b : RowL} {k j : Nat} {x : List Int} (h : k ≠ j) : (b.set k x).getD j [] = b.getD j [] := by
 rw [List.getD_eq_getElem?_getD, List.getElem?_set_ne h, ← List.getD_eq_getElem?_getD]
theorem mGo_sound (ht : termOk ar t = true) : ∀ (P : List Int) (n i e : Nat) (g g' : RowL), endGo ar P n = some P.length → endGo ar (t.drop i) n = some e → (∀ x ∈ P, -24 ≤ x) → g.length = 24 → mGo ar t P i g = some g' →
  FM g' P = (t.drop i).take e ∧ ∀ k, g.getD k [] ≠ [] → g'.getD k [] = g.getD k []
 | [], n, i, e, g, g', hP, hE, hr, hl, h => by
  simp [mGo] at h; subst h
  cases n with
  | zero => simp [endGo] at hE; subst hE; exact ⟨by simp [FM], fun k _ => rfl⟩
  | succ n => simp [endGo] at hP
 | x :: P, n, i, e, g, g', hP, hE, hr, hl, h => by
  obtain ⟨m, rfl, hx⟩ := Forest.lt (ar := ar) (r := P) (x := x) hP
  have hF := (Forest.cons hx).1 hP
  have hr' : ∀ y ∈ P, -24 ≤ y := fun y hy => hr y (List.mem_cons_of_mem _ hy)
  rw [mGo] at h
  split at h
  ·cases h
  ·rename_i hi
   have hi2 : i < t.length := by omega
   split at h
   ·rename_i h0
    split at h
    ·rename_i he
     rw [endGo_step (show 0 < m + 1 by omega) hi2 (by rw [he]; exact hx), he, show m + 1 - 1 = m from rfl] at hE
     cases hq : endGo ar (t.drop (i + 1)) (m + (arity ar x).toNat) with
     | none => rw [hq] at hE; simp at hE
     | some e1 =>
      rw [hq] at hE; simp at hE; subst hE
      obtain ⟨h1, h2⟩ := mGo_sound ht P _ (i + 1) e1 g g' hF hq hr' hl h
      refine ⟨?_, h2⟩
      rw [drop_get 0 hi2, List.take_succ_cons, he, ← h1, FM, List.flatMap_cons, lk_sym h0]
      rfl
    ·cases h
   ·rename_i h0
    rw [arity_var (by omega), show m + (0 : Int).toNat = m from rfl] at hF
    rw [Nat.add_comm m 1] at hE
    obtain ⟨e1, e2, h1, h2, rfl⟩ := endGo_split hE
    have hN : endN ar t i = i + e1 := endN_of h1
    have hS : sub ar t i = (t.drop i).take e1 := by unfold sub; rw [hN, Nat.add_sub_cancel_left]
    have hSl : (sub ar t i).length = e1 := by rw [sub_length ht hi2, hN, Nat.add_sub_cancel_left]
    have hne := sub_ne ht hi2
    have hv : varIx x < 24 := by have := hr x (by simp); unfold varIx; omega
    rw [List.drop_drop] at h2
    have fin : ∀ (g' : RowL), g'.getD (varIx x) [] = sub ar t i → FM g' P = (t.drop (i + e1)).take e2 → FM g' (x :: P) = (t.drop i).take (e1 + e2) := by
     intro g' h3 h4
     rw [FM, List.flatMap_cons, lk_some (by omega) (by rw [h3]; exact hne), h3, hS, List.take_add, List.drop_drop, ← h4]
    split at h
    ·rename_i he
     rw [hSl] at h
     obtain ⟨h3, h4⟩ := mGo_sound ht P m (i + e1) e2 _ g' hF h2 hr' (by rw [List.length_set]; exact hl) h
     refine ⟨fin g' ?_ h3, fun k hk => ?_⟩
     ·have := h4 (varIx x) (by rw [getD_set_self (by omega)]; exact hne)
      rw [this, getD_set_self (by omega)]
     ·have hkx : varIx x ≠ k := fun e => hk (e ▸ he)
      have := h4 k (by rw [getD_set_other hkx]; exact hk)
      rw [this, getD_set_other hkx]
    ·rename_i he
     split at h
     ·rename_i hq
      rw [hSl] at h
      obtain ⟨h3, h4⟩ := mGo_sound ht P m (i + e1) e2 g g' hF h2 hr' hl h
      exact ⟨fin g' (by rw [h4 _ he, hq]) h3, h4⟩
     ·cases h
theorem match_fm (hp : termOk ar p = true) (ht : termOk ar t = true) (h : matchB ar p t = some b) : FM b p = t := by
 have hT := termOk_iff.1 ht
 have hP := termOk_iff.1 hp
 have := (mGo_sound ht p 1 0 t.length _ b hP.whole (by rw [List.drop_zero]; exact hT.whole) hP.ge (by simp) h).1
 rwa [List.drop_zero, List.take_length] at this
end
section
variable {ar t f : List Int} {rs : Rules} {n : Int} {all : List FoundV} {ss ys : List StepV} {p many : Int} {s : RowL}
def againOk (ar : List Int) (rs : Rules) (f : List Int) (ss : List StepV) (p : Int) (s : RowL) (many : Int) : Prop := (sysOk ar rs && loopOkL ar rs f ss p s) = true ∧ 1 ≤ many ∧ many ≤ 60 ∧ many * (ss.length : Int) ≤ 60
instance : Decidable (againOk ar rs f ss p s many) := by unfold againOk; infer_instance
section
variable {m : Nat}
end
end
section
variable {ar : List Int} {rs : RulesT} {o p u : Nat} {b : RowL} {σ τ : Sbs} {x : PkT} {t l r od X : List Int}
theorem lk_goodS (hb : RowsOk ar b) : GoodS ar (lk b) :=
 ⟨fun n hn => lk_sym hn, fun n hn => by
  by_cases h : b.getD (varIx n) [] = []
  ·rw [lk_none hn h]; exact WF.var hn
  ·rw [lk_some hn h]; exact (termW_of ((hb (varIx n)).resolve_left h)).wf⟩
end
section
variable {f : Int} {os t t' : List Int} {n : Nat}
def L9 (u : List Int) : Prop := termOk [2, 1, 0] u = true ∧ u.length ≤ 5 ∧ 0 ≤ u.getD 0 0
end
section
variable {ar A C s : List Int}
end
section
variable {ar : List Int} {rs : Rules} {t x : List Int} {ts : RowL} {n : Int} {k : Nat}
end
section
variable {α : Type} {q : α → Bool} {l : List α} {k : Nat} {ar : List Int} {rs : RulesT}
end
inductive LeS : List Nat → List Nat → Prop
 | nil : LeS [] []
 | cons {a b : Nat} {r s : List Nat} : a ≤ b → LeS r s → LeS (a :: r) (b :: s)
inductive LtS : List Nat → List Nat → Prop
 | here {a b : Nat} {r s : List Nat} : a < b → LeS r s → LtS (a :: r) (b :: s)
 | there {a b : Nat} {r s : List Nat} : a ≤ b → LtS r s → LtS (a :: r) (b :: s)
section
variable {c d : Nat} {n : Int} {r s : List Nat} {t u : List Int}
variable {rs : Rules} {p k : Nat}
def wv : Nat → Nat
 | 0 => 0
 | 1 => 0
 | d + 2 => 4 * wv (d + 1) + 1
end
section
variable {ar : List Int} {rs : Rules} {ts : RowL} {i k : Nat} {a b : List Int}
end
section
variable (ar fs : List Int) (ls : List LnT)
end
section
variable {ar fs t a b r v w x : List Int} {ls : List LnT} {E E' : List Int → List Int → Prop} {s s' s1 : RowL} {h : Int} {n m k : Nat}
end
section
variable {ar t : List Int} {rs : Rules} {all os : List Int} {e x : Int} {c p k i : Nat}
end
section
variable {ar fs t u x : List Int} {ls : List LnT} {p k n : Nat} {m : Int}
theorem step_split {rs : Rules} (ht : termOk ar t = true) (hp : p < t.length) (h : stepL ar rs t p k = some u) :
  ∃ b, matchB ar (rs.getD k ([], [])).1 (sub ar t p) = some b ∧ u = t.take p ++ FM b (rs.getD k ([], [])).2 ++ t.drop (endN ar t p) := by
 unfold stepL at h
 split at h
 ·cases h
 ·rename_i b hb
  split at h
  ·cases h
  ·rename_i w hw
   unfold putL at h
   split at h
   ·cases h
   ·cases h
    exact ⟨b, hb, by rw [fillL_flat hw]⟩
theorem fm_term {b : RowL} {r : List Int} (hs : sigOk ar = true) (hb : RowsOk ar b) (hr : termOk ar r = true) : WF ar (FM b r) 1 :=
 Forest.fill (lk_forest hb hs) r 1 (termOk_iff.1 hr).whole
end
inductive Lp (ar rk : List Int) : List Int → List Int → Prop
 | eq {u v : List Int} (i : Nat) : 0 ≤ u.getD 0 0 → i < (partsL ar u).length → (partsL ar u).getD i [] = v → Lp ar rk u v
 | sub {u v : List Int} (i : Nat) : 0 ≤ u.getD 0 0 → i < (partsL ar u).length → Lp ar rk ((partsL ar u).getD i []) v → Lp ar rk u v
 | prec {u v : List Int} : 0 ≤ u.getD 0 0 → 0 ≤ v.getD 0 0 → u.getD 0 0 ≠ v.getD 0 0 → rk.getD (v.getD 0 0).toNat 0 < rk.getD (u.getD 0 0).toNat 0 → (∀ j, j < (partsL ar v).length → Lp ar rk u ((partsL ar v).getD j [])) → Lp ar rk u v
 | lex {u v : List Int} (i : Nat) : 0 ≤ u.getD 0 0 → u.getD 0 0 = v.getD 0 0 → i < (partsL ar u).length → (∀ j, j < i → (partsL ar u).getD j [] = (partsL ar v).getD j []) → Lp ar rk ((partsL ar u).getD i []) ((partsL ar v).getD i []) → (∀ j, j < (partsL ar v).length → Lp ar rk u ((partsL ar v).getD j [])) → Lp ar rk u v
section
variable {ar rk u v w t a b : List Int} {n i j : Nat} {x : Int}
theorem Lp.head (h : Lp ar rk u v) : 0 ≤ u.getD 0 0 := by cases h <;> assumption
theorem part_head (h : j < (partsL ar v).length) : 0 ≤ v.getD 0 0 := by
 rw [parts_len] at h
 refine Int.not_lt.1 fun hn => ?_
 rw [show arity ar (v.getD 0 0) = 0 from by unfold arity; rw [if_pos hn]] at h
 simp at h
theorem Lp.part (h : Lp ar rk u v) : ∀ j, j < (partsL ar v).length → Lp ar rk u ((partsL ar v).getD j []) := by
 induction h with
 | eq i h0 hi e => intro j hj; subst e; exact .sub i h0 hi (.eq j (part_head hj) hj rfl)
 | sub i h0 hi _ ih => intro j hj; exact .sub i h0 hi (ih j hj)
 | prec _ _ _ _ h _ => exact h
 | lex _ _ _ _ _ _ h _ _ => exact h
theorem part_W (h : TermW ar u) (hi : i < (partsL ar u).length) : TermW ar ((partsL ar u).getD i []) := parts_wf h _ (by rw [List.getD_eq_getElem?_getD, List.getElem?_eq_getElem hi]; exact List.getElem_mem hi)
theorem Lp.trans_go : ∀ (n : Nat) (u v w : List Int), u.length + v.length + w.length ≤ n → TermW ar u → TermW ar v → TermW ar w → Lp ar rk u v → Lp ar rk v w → Lp ar rk u w := by
 intro n
 induction n with
 | zero => intro u v w hn hu _ _ _ _; have := hu.len; omega
 | succ n ih =>
  intro u v w hn hu hv hw h1 h2
  have main : 0 ≤ u.getD 0 0 → (∀ j, j < (partsL ar v).length → Lp ar rk u ((partsL ar v).getD j [])) →
    (0 ≤ v.getD 0 0 ∧ u.getD 0 0 ≠ v.getD 0 0 ∧ rk.getD (v.getD 0 0).toNat 0 < rk.getD (u.getD 0 0).toNat 0) ∨ (u.getD 0 0 = v.getD 0 0 ∧ ∃ i, i < (partsL ar u).length ∧ (∀ j, j < i → (partsL ar u).getD j [] = (partsL ar v).getD j []) ∧ Lp ar rk ((partsL ar u).getD i []) ((partsL ar v).getD i [])) → Lp ar rk u w := by
   intro h0 hp hc
   have hall : (∀ c, c < (partsL ar w).length → Lp ar rk v ((partsL ar w).getD c [])) → ∀ c, c < (partsL ar w).length → Lp ar rk u ((partsL ar w).getD c []) := fun hq c hcl => by
    have hl := part_len hw hcl
    exact ih u v _ (by omega) hu hv (part_W hw hcl) h1 (hq c hcl)
   cases h2 with
   | eq j _ hj e => rw [← e]; exact hp j hj
   | sub j _ hj h3 =>
    have hl := part_len hv hj
    exact ih u _ w (by omega) hu (part_W hv hj) hw (hp j hj) h3
   | prec hv0 hw0 hne hr hq =>
    have hq2 := hall hq
    rcases hc with ⟨_, _, hr1⟩ | ⟨e, _⟩
    ·refine .prec h0 hw0 (fun e => ?_) (by omega) hq2
     rw [e] at hr1; omega
    ·refine .prec h0 hw0 (by rw [e]; exact hne) (by rw [e]; exact hr) hq2
   | lex k hv0 e2 hk heq h3 hq =>
    have hq2 := hall hq
    rcases hc with ⟨_, hne, hr1⟩ | ⟨e, i, hi, hei, h4⟩
    ·exact .prec h0 (by rw [← e2]; exact hv0) (by rw [← e2]; exact hne) (by rw [← e2]; exact hr1) hq2
    ·have l1 := parts_same (ar := ar) e
     have l2 := parts_same (ar := ar) e2
     rcases Nat.lt_trichotomy i k with hlt | heq2 | hgt
     ·exact .lex i h0 (e.trans e2) hi (fun j hj => (hei j hj).trans (heq j (by omega))) (by rw [← heq i hlt]; exact h4) hq2
     ·subst heq2
      have a1 := part_len hu hi
      have a2 := part_len hv hk
      have a3 := part_len hw (i := i) (by omega)
      exact .lex i h0 (e.trans e2) hi (fun j hj => (hei j hj).trans (heq j hj)) (ih _ _ _ (by omega) (part_W hu hi) (part_W hv hk) (part_W hw (by omega)) h4 h3) hq2
     ·exact .lex k h0 (e.trans e2) (by omega) (fun j hj => (hei j (by omega)).trans (heq j hj)) (by rw [hei k hgt]; exact h3) hq2
  cases h1 with
  | eq i h0 hi e => subst e; exact .sub i h0 hi h2
  | sub i h0 hi h3 =>
   have hl := part_len hu hi
   exact .sub i h0 hi (ih _ v w (by omega) (part_W hu hi) hv hw h3 h2)
  | prec h0 hv0 hne hr hp => exact main h0 hp (.inl ⟨hv0, hne, hr⟩)
  | lex i h0 e hi hei h4 hp => exact main h0 hp (.inr ⟨e, i, hi, hei, h4⟩)
theorem Lp.trans (hu : TermW ar u) (hv : TermW ar v) (hw : TermW ar w) (h1 : Lp ar rk u v) (h2 : Lp ar rk v w) : Lp ar rk u w := Lp.trans_go _ u v w (Nat.le_refl _) hu hv hw h1 h2
theorem mem_part (hu : TermW ar u) (hi : i < (partsL ar u).length) (hx : x ∈ (partsL ar u).getD i []) : x ∈ u := by
 rw [parts_flat hu]
 refine List.mem_cons_of_mem _ (List.mem_flatten.2 ⟨_, ?_, hx⟩)
 rw [List.getD_eq_getElem?_getD, List.getElem?_eq_getElem hi]; exact List.getElem_mem hi
theorem of_part (hu : TermW ar u) (hx : x ∈ u) (hn : x ≠ u.getD 0 0) : ∃ i, i < (partsL ar u).length ∧ x ∈ (partsL ar u).getD i [] := by
 rw [parts_flat hu] at hx
 rcases List.mem_cons.1 hx with h | h
 ·exact absurd h hn
 ·obtain ⟨l, hl, hxl⟩ := List.mem_flatten.1 h
  obtain ⟨i, hi, rfl⟩ := List.getElem_of_mem hl
  exact ⟨i, hi, by rw [List.getD_eq_getElem?_getD, List.getElem?_eq_getElem hi]; exact hxl⟩
theorem Lp.vars : ∀ (n : Nat) (u v : List Int), u.length + v.length ≤ n → TermW ar u → TermW ar v → Lp ar rk u v → ∀ x ∈ v, x < 0 → x ∈ u := by
 intro n
 induction n with
 | zero => intro u v hn hu _ _; have := hu.len; omega
 | succ n ih =>
  intro u v hn hu hv h x hx h0
  have main : 0 ≤ v.getD 0 0 → (∀ j, j < (partsL ar v).length → Lp ar rk u ((partsL ar v).getD j [])) → x ∈ u := fun hv0 hp => by
   obtain ⟨i, hi, hxi⟩ := of_part hv hx (fun e => by omega)
   have hl := part_len hv hi
   exact ih u _ (by omega) hu (part_W hv hi) (hp i hi) x hxi h0
  cases h with
  | eq i _ hi e => subst e; exact mem_part hu hi hx
  | sub i _ hi h3 =>
   have hl := part_len hu hi
   exact mem_part hu hi (ih _ v (by omega) (part_W hu hi) hv h3 x hx h0)
  | prec _ hv0 _ _ hp => exact main hv0 hp
  | lex i hu0 e _ _ _ hp => exact main (by rw [← e]; exact hu0) hp
theorem parts_of {as : RowL} (h : TermW ar (x :: as.flatten)) (ha : ∀ a ∈ as, WF ar a 1) (hl : as.length = (arity ar x).toNat) : partsL ar (x :: as.flatten) = as := by
 have e := parts_flat h
 have e2 : as.flatten = (partsL ar (x :: as.flatten)).flatten := by simpa using e
 exact (flat_same (ar := ar) (by rw [parts_len, hl]; simp) ha (fun s hs => (parts_wf h s hs).wf) e2).symm
theorem parts_ap {θ : Sbs} (g : GoodS ar θ) (hu : TermW ar u) (ha : TermW ar (ap θ u)) (h0 : 0 ≤ u.getD 0 0) : partsL ar (ap θ u) = (partsL ar u).map (ap θ) ∧ (ap θ u).getD 0 0 = u.getD 0 0 := by
 have e := congrArg (ap θ) (parts_flat hu)
 rw [ap_cons, g.sym _ h0, ap_flat] at e
 have e3 : ap θ u = u.getD 0 0 :: ((partsL ar u).map (ap θ)).flatten := e
 have ha2 := ha
 rw [e3] at ha2
 refine ⟨?_, by rw [e3]; rfl⟩
 rw [e3]
 exact parts_of ha2 (fun s hs => by obtain ⟨y, hy, rfl⟩ := List.mem_map.1 hs; exact ap_wf g (parts_wf hu y hy).wf) (by rw [List.length_map, parts_len])
theorem Lp.stable {θ : Sbs} (g : GoodS ar θ) : ∀ (n : Nat) (u v : List Int), u.length + v.length ≤ n → TermW ar u → TermW ar v → TermW ar (ap θ u) → TermW ar (ap θ v) → Lp ar rk u v → Lp ar rk (ap θ u) (ap θ v) := by
 intro n
 induction n with
 | zero => intro u v hn hu _ _ _ _; have := hu.len; omega
 | succ n ih =>
  intro u v hn hu hv hau hav h
  obtain ⟨pu, eu⟩ := parts_ap g hu hau h.head
  have lu : (partsL ar (ap θ u)).length = (partsL ar u).length := by rw [pu, List.length_map]
  have gu : ∀ i, i < (partsL ar u).length → (partsL ar (ap θ u)).getD i [] = ap θ ((partsL ar u).getD i []) := fun i hi => by rw [pu]; simp [List.getD, hi]
  have wu : ∀ i, i < (partsL ar u).length → TermW ar (ap θ ((partsL ar u).getD i [])) := fun i hi => by rw [← gu i hi]; exact part_W hau (by omega)
  have all : 0 ≤ v.getD 0 0 → (∀ j, j < (partsL ar v).length → Lp ar rk u ((partsL ar v).getD j [])) → ∀ j, j < (partsL ar (ap θ v)).length → Lp ar rk (ap θ u) ((partsL ar (ap θ v)).getD j []) := fun hv0 hp j hj => by
   obtain ⟨pv, ev⟩ := parts_ap g hv hav hv0
   have hj2 : j < (partsL ar v).length := by rw [pv, List.length_map] at hj; exact hj
   have gv : (partsL ar (ap θ v)).getD j [] = ap θ ((partsL ar v).getD j []) := by rw [pv]; simp [List.getD, hj2]
   have hl := part_len hv hj2
   rw [gv]
   exact ih u _ (by omega) hu (part_W hv hj2) hau (by rw [← gv]; exact part_W hav hj) (hp j hj2)
  cases h with
  | eq i h0 hi e => exact .eq i (by rw [eu]; exact h0) (by omega) (by rw [gu i hi, e])
  | sub i h0 hi h3 =>
   have hl := part_len hu hi
   exact .sub i (by rw [eu]; exact h0) (by omega) (by rw [gu i hi]; exact ih _ v (by omega) (part_W hu hi) hv (wu i hi) hav h3)
  | prec h0 hv0 hne hr hp =>
   have ev := (parts_ap g hv hav hv0).2
   exact .prec (by rw [eu]; exact h0) (by rw [ev]; exact hv0) (by rw [eu, ev]; exact hne) (by rw [eu, ev]; exact hr) (all hv0 hp)
  | lex i h0 e hi hei h4 hp =>
   have hv0 : 0 ≤ v.getD 0 0 := by rw [← e]; exact h0
   obtain ⟨pv, ev⟩ := parts_ap g hv hav hv0
   have lv := parts_same (ar := ar) e
   have gv : ∀ i, i < (partsL ar v).length → (partsL ar (ap θ v)).getD i [] = ap θ ((partsL ar v).getD i []) := fun i hi => by rw [pv]; simp [List.getD, hi]
   have hl := part_len hu hi
   have hl2 := part_len hv (i := i) (by omega)
   refine .lex i (by rw [eu]; exact h0) (by rw [eu, ev]; exact e) (by omega) (fun j hj => by rw [gu j (by omega), gv j (by omega), hei j hj]) ?_ (all hv0 hp)
   rw [gu i hi, gv i (by omega)]
   exact ih _ _ (by omega) (part_W hu hi) (part_W hv (by omega)) (wu i hi) (by rw [← gv i (by omega)]; exact part_W hav (by rw [pv, List.length_map]; omega)) h4
theorem within : ∀ (ps : RowL) (A B : List Int), (∀ p ∈ ps, TermW ar p) → WF ar a 1 → A ++ a ++ B = ps.flatten → ∃ i A2 B2, i < ps.length ∧ ps.getD i [] = A2 ++ a ++ B2 ∧ A = (ps.take i).flatten ++ A2 ∧ B = B2 ++ (ps.drop (i + 1)).flatten
 | [], A, B, _, ha, e => by
  have : a = [] := by simp at e; exact e.2.1
  exact absurd this (WF.pos ha)
 | p :: ps, A, B, hp, ha, e => by
  rw [List.flatten_cons] at e
  rcases Nat.lt_or_ge A.length p.length with hl | hl
  ·have hpW := hp p (by simp)
   have e1 : p = A ++ p.drop A.length := by
    have := congrArg (List.take A.length) e
    rw [List.append_assoc, List.take_left' rfl, List.take_append_of_le_length (by omega)] at this
    conv => lhs; rw [← List.take_append_drop A.length p]
    rw [← this]
   have e2 : a ++ B = p.drop A.length ++ ps.flatten := by
    have := congrArg (List.drop A.length) e
    rw [List.append_assoc, List.drop_left' rfl, List.drop_append_of_le_length (by omega)] at this
    exact this
   have e3 := wf_sub hpW hl
   have hs := (hpW.sub hl).wf
   rw [e3, List.append_assoc] at e2
   obtain ⟨h1, h2⟩ := WF_same ha hs e2
   refine ⟨0, A, p.drop (endN ar p A.length), by simp, ?_, by simp, by simpa using h2⟩
   rw [List.getD_cons_zero]
   conv => lhs; rw [e1, e3]
   rw [← h1, List.append_assoc]
  ·have e1 : A = p ++ A.drop p.length := by
    have := congrArg (List.take p.length) e
    rw [List.append_assoc, List.take_append_of_le_length (by omega), List.take_left' rfl] at this
    conv => lhs; rw [← List.take_append_drop p.length A]
    rw [this]
   have e2 : A.drop p.length ++ a ++ B = ps.flatten := by
    have := congrArg (List.drop p.length) e
    rw [List.append_assoc, List.drop_append_of_le_length (by omega), List.drop_left' rfl, ← List.append_assoc] at this
    exact this
   obtain ⟨i, A2, B2, hi, h1, h2, h3⟩ := within ps _ B (fun q hq => hp q (by simp [hq])) ha e2
   refine ⟨i + 1, A2, B2, by simp; exact hi, by simpa using h1, ?_, by simpa using h3⟩
   rw [e1, h2]; simp
theorem set_flat {ps : RowL} {z : List Int} (hi : i < ps.length) : (ps.set i z).flatten = (ps.take i).flatten ++ z ++ (ps.drop (i + 1)).flatten := by
 rw [List.set_eq_take_append_cons_drop, if_pos hi]; simp
theorem ctx_wf {B : List Int} (ha : WF ar a 1) (hb : WF ar b 1) : ∀ {A : List Int} {n : Nat}, WF ar (A ++ a ++ B) n → WF ar (A ++ b ++ B) n
 | [], 0, h => by
  have h2 := WF.zero h
  simp at h2
  exact absurd h2.1 (WF.pos ha)
 | [], n + 1, h => by
  rw [Nat.add_comm] at h ⊢
  obtain ⟨a', B', e, h1, h2⟩ := WF_split h
  rw [List.nil_append] at e
  obtain ⟨_, rfl⟩ := WF_same ha h1 e
  exact WF_app hb h2
 | x :: A, 0, h => by have h2 := WF.zero h; simp at h2
 | x :: A, n + 1, h => by
  have h3 := WF_cons.1 h
  exact WF_cons.2 ⟨h3.1, ctx_wf ha hb h3.2⟩
theorem Lp.ctx (ha : WF ar a 1) (hb : WF ar b 1) (h : Lp ar rk a b) : ∀ (n : Nat) (A B : List Int), A.length ≤ n → TermW ar (A ++ a ++ B) → TermW ar (A ++ b ++ B) → Lp ar rk (A ++ a ++ B) (A ++ b ++ B) := by
 intro n
 induction n with
 | zero =>
  intro A B hn h1 h2
  have : A = [] := List.eq_nil_of_length_eq_zero (by omega)
  subst this
  have e : a ++ B = (a ++ B) ++ [] := by simp
  obtain ⟨e1, e2⟩ := WF_same (s := B) (r := []) ha (by simpa using h1.wf) (by simp)
  subst e2
  simpa using h
 | succ n ih =>
  intro A B hn h1 h2
  cases A with
  | nil => exact ih [] B (by simp) h1 h2
  | cons f A =>
   have p1 := parts_flat h1
   simp only [List.cons_append, List.getD_cons_zero] at p1
   have q1 : A ++ a ++ B = (partsL ar (f :: (A ++ a ++ B))).flatten := (List.cons.inj p1).2
   obtain ⟨i, A2, B2, hi, hpi, hA, hB⟩ := within _ A B (parts_wf (by simpa using h1)) ha q1
   have hps : ∃ ps, ps = partsL ar (f :: (A ++ a ++ B)) := ⟨_, rfl⟩
   obtain ⟨ps, hps⟩ := hps
   rw [← hps] at hi hpi hA hB q1
   have h1' : TermW ar (f :: (A ++ a ++ B)) := by simpa using h1
   have h2' : TermW ar (f :: (A ++ b ++ B)) := by simpa using h2
   have hpW : ∀ p ∈ ps, TermW ar p := by rw [hps]; exact parts_wf h1'
   have hpt : TermW ar (A2 ++ a ++ B2) := by rw [← hpi]; exact hpW _ (by rw [List.getD_eq_getElem?_getD, List.getElem?_eq_getElem hi]; exact List.getElem_mem hi)
   have e2 : A ++ b ++ B = (ps.set i (A2 ++ b ++ B2)).flatten := by rw [set_flat hi, hA, hB]; simp
   have hwb : WF ar (A2 ++ b ++ B2) 1 := ctx_wf ha hb hpt.wf
   have hps2 : partsL ar (f :: (A ++ b ++ B)) = ps.set i (A2 ++ b ++ B2) := by
    rw [e2]
    refine parts_of (by rw [← e2]; exact h2') (fun s hs => ?_) ?_
    ·rcases List.mem_or_eq_of_mem_set hs with h3 | h3
     ·exact (hpW s h3).wf
     ·rw [h3]; exact hwb
    ·rw [List.length_set, hps, parts_len, List.getD_cons_zero]
   have hf0 : 0 ≤ f := by
    have := part_head (ar := ar) (v := f :: (A ++ a ++ B)) (j := i) (by rw [← hps]; exact hi)
    simpa using this
   have hpt2 : TermW ar (A2 ++ b ++ B2) := by
    have := part_W h2' (i := i) (by rw [hps2, List.length_set]; exact hi)
    rw [hps2] at this
    simpa [List.getD, hi] using this
   have hlen : A2.length ≤ n := by
    have := congrArg List.length hA
    simp at this hn
    omega
   have hin := ih A2 B2 hlen hpt hpt2
   have gi : (partsL ar (f :: (A ++ a ++ B))).getD i [] = A2 ++ a ++ B2 := by rw [← hps]; exact hpi
   have gi2 : (partsL ar (f :: (A ++ b ++ B))).getD i [] = A2 ++ b ++ B2 := by rw [hps2]; simp [List.getD, hi]
   have gj : ∀ j, j ≠ i → (partsL ar (f :: (A ++ b ++ B))).getD j [] = (partsL ar (f :: (A ++ a ++ B))).getD j [] := fun j hj => by rw [hps2, ← hps]; simp [List.getD_eq_getElem?_getD, List.getElem?_set_ne (Ne.symm hj)]
   show Lp ar rk (f :: (A ++ a ++ B)) (f :: (A ++ b ++ B))
   refine .lex i hf0 rfl (by rw [← hps]; exact hi) (fun j hj => (gj j (by omega)).symm) (by rw [gi, gi2]; exact hin) (fun j hj => ?_)
   have hj2 : j < (partsL ar (f :: (A ++ a ++ B))).length := by rw [hps2, List.length_set] at hj; rw [← hps]; exact hj
   by_cases e : j = i
   ·subst e
    rw [gi2]
    exact .sub j hf0 hj2 (by rw [gi]; exact hin)
   ·rw [gj j e]
    exact .eq j hf0 hj2 rfl
end
section
variable {ar rk t u l r : List Int} {rs : Rules} {k p n : Nat}
def Down (ar rk : List Int) (rs : Rules) : Prop := ∀ i, i < rs.length → Lp ar rk (rs.getD i ([], [])).1 (rs.getD i ([], [])).2
theorem fm_eq_ap {b : RowL} : FM b t = ap (lk b) t := rfl
theorem step_lp (hs : sysOk ar rs = true) (hd : Down ar rk rs) (ht : termOk ar t = true) (hp : p < t.length) (hk : k < rs.length) (h : stepL ar rs t p k = some u) (hu : termOk ar u = true) : Lp ar rk t u := by
 obtain ⟨b, hb, rfl⟩ := step_split ht hp h
 have hR := ruleOk_iff.1 ((sysOk_iff.1 hs).2.2 k hk)
 have hso := sub_ok ht hp
 have hbo := matchB_ok hso hb
 have hfm := match_fm hR.left hso hb
 have g := lk_goodS hbo
 have hw1 := (termOk_iff.1 hso).whole
 have hw2 := fm_term (termOk_sig ht) hbo hR.right
 have e := parts ht hp
 have hlen : (FM b (rs.getD k ([], [])).2).length ≤ 60 := by
  have := congrArg List.length (show t.take p ++ FM b (rs.getD k ([], [])).2 ++ t.drop (endN ar t p) = _ from rfl)
  have h2 := (termOk_len hu).2
  rw [List.length_append, List.length_append] at h2
  omega
 have hge : ∀ x ∈ FM b (rs.getD k ([], [])).2, -48 ≤ x := fun x hx => by
  have := (termW_of hu).ge x (List.mem_append_left _ (List.mem_append_right _ hx))
  exact this
 have hW : TermW ar (FM b (rs.getD k ([], [])).2) := ⟨termOk_sig ht, ⟨by
  have := List.length_pos_iff.2 (WF.pos hw2); omega, hlen⟩, hw2, hge⟩
 have h3 : Lp ar rk (FM b (rs.getD k ([], [])).1) (FM b (rs.getD k ([], [])).2) := Lp.stable g _ _ _ (Nat.le_refl _) (termW_of hR.left) (termW_of hR.right) (by rw [← fm_eq_ap, hfm]; exact termW_of hso) hW (hd k hk)
 rw [hfm] at h3
 have h4 := Lp.ctx hw1 hw2 h3 _ (t.take p) (t.drop (endN ar t p)) (Nat.le_refl _) (by rw [← e]; exact termW_of ht) (termW_of hu)
 rwa [← e] at h4
theorem walk_lp (hs : sysOk ar rs = true) (hd : Down ar rk rs) : ∀ (n : Nat) (t : List Int), termOk ar t = true → endL t (walkGo ar rs 1 n t).1 = t ∨ Lp ar rk t (endL t (walkGo ar rs 1 n t).1) := by
 intro n
 induction n with
 | zero => intro t ht; left; rfl
 | succ n ih =>
  intro t ht
  by_cases hn : redL ar rs t = []
  ·rw [walkGo, if_pos hn]; left; rfl
  ·rw [walkGo, if_neg hn]
   cases hu : stepL ar rs t (pickL ar rs t 1).toNat (ruleAtL ar rs t (pickL ar rs t 1).toNat).toNat with
   | none => left; rfl
   | some u =>
    show endL t (_ :: _) = t ∨ Lp ar rk t (endL t (_ :: _))
    rw [endL_cons']
    rcases pick_spec (ar := ar) (rs := rs) (t := t) 1 with h1 | ⟨p, hp, hl, hr, _⟩
    ·exact absurd h1.2 hn
    ·have hr0 : 0 ≤ ruleAtL ar rs t p := of_decide_eq_true hr
     rw [hp, Int.toNat_natCast] at hu
     obtain ⟨k, hk1, hk2, hk3⟩ := (ruleAt_spec (ar := ar) (rs := rs) (t := t) (p := p)).resolve_left (by omega)
     rw [hk1, Int.toNat_natCast] at hu
     have hou : termOk ar u = true := stepL_ok hs ht hl hk2 hu
     have h2 := step_lp hs hd ht hl hk2 hu hou
     rcases ih u hou with e | h3
     ·right; rw [e]; exact h2
     ·right
      have hoe := (right_iff.1 ((walkGo_ok (st := 1) n u (right_iff.2 ⟨hs, hou⟩)).2.1)).2
      exact h2.trans (termW_of ht) (termW_of hou) (termW_of hoe) h3
end
section
variable (ar rk : List Int)
open Classical in
noncomputable def lpB (u v : List Int) : Bool := decide (Lp ar rk u v)
def renR (x : List Int × List Int) : List Int × List Int := (byL (orderGo [] x.1) x.1, byL (orderGo (orderGo [] x.1) x.2) x.2)
def nfT (rs : Rules) (t : List Int) : List Int := endL t (walkGo ar rs 1 60 t).1
def nfB (rs : Rules) (t : List Int) : Bool := (walkGo ar rs 1 60 t).2
noncomputable def orientR (e : List Int × List Int) : Option (List Int × List Int) := if lpB ar rk e.1 e.2 = true then some (renR e) else if lpB ar rk e.2 e.1 = true then some (renR (e.2, e.1)) else none
def szE (e : List Int × List Int) : Nat := e.1.length + e.2.length
def selN (td : Rules) : Nat → Nat
 | 0 => 0
 | k + 1 => if szE (td.getD k ([], [])) < szE (td.getD (selN td k) ([], [])) then k else selN td k
def hasI (t p : List Int) : Bool := (List.range t.length).any fun q => (matchB ar p (sub ar t q)).isSome
def keptR (rs : Rules) (p : List Int) : Rules := rs.filter fun r => !hasI ar r.1 p
def goneR (rs : Rules) (p : List Int) : Rules := rs.filter fun r => hasI ar r.1 p
def doneR (sys : Rules) : Rules := sys.map fun r => (r.1, nfT ar sys r.2)
def newP (ps : List PkT) (last : Int) : Rules := (ps.filter fun x => decide (x.2.2.2.2.2 = last ∨ x.2.2.2.2.1 = last) && !trivB x).map fun x => (x.2.1, x.2.2.1)
abbrev WSt := Rules × Rules
noncomputable def withR (td rs : Rules) (n : List Int × List Int) : WSt × Int :=
 if 12 < (keptR ar rs n.1 ++ [n]).length then ((td, rs), 6)
 else if ((keptR ar rs n.1 ++ [n]).all fun r => nfB ar (keptR ar rs n.1 ++ [n]) r.2) = false then ((td, rs), 4)
 else match peaksF ar (doneR ar (keptR ar rs n.1 ++ [n])) with
 | none => ((td, rs), 4)
 | some ps => if 120 < (td ++ goneR ar rs n.1 ++ newP ps ((keptR ar rs n.1).length : Int)).length then ((td ++ goneR ar rs n.1 ++ newP ps ((keptR ar rs n.1).length : Int), rs), 6)
  else ((td ++ goneR ar rs n.1 ++ newP ps ((keptR ar rs n.1).length : Int), doneR ar (keptR ar rs n.1 ++ [n])), 2)
noncomputable def stepW (s : WSt) : WSt × Int :=
 if s.1.length = 0 then (s, 3)
 else if (nfB ar s.2 (s.1.getD (selN s.1 s.1.length) ([], [])).1 && nfB ar s.2 (s.1.getD (selN s.1 s.1.length) ([], [])).2) = false then (s, 4)
 else if nfT ar s.2 (s.1.getD (selN s.1 s.1.length) ([], [])).1 = nfT ar s.2 (s.1.getD (selN s.1 s.1.length) ([], [])).2 then ((s.1.eraseIdx (selN s.1 s.1.length), s.2), 1)
 else match orientR ar rk (nfT ar s.2 (s.1.getD (selN s.1 s.1.length) ([], [])).1, nfT ar s.2 (s.1.getD (selN s.1 s.1.length) ([], [])).2) with
 | none => (s, 5)
 | some n => if (withR ar (s.1.eraseIdx (selN s.1 s.1.length)) s.2 n).2 = 2 then withR ar (s.1.eraseIdx (selN s.1 s.1.length)) s.2 n else (s, (withR ar (s.1.eraseIdx (selN s.1 s.1.length)) s.2 n).2)
noncomputable def runW : Nat → WSt → Int → Nat → WSt × Int × Nat
 | 0, s, st, c => (s, st, c)
 | n + 1, s, st, c => if (stepW ar rk s).2 = 1 ∨ (stepW ar rk s).2 = 2 then runW n (stepW ar rk s).1 (stepW ar rk s).2 (c + 1) else ((stepW ar rk s).1, (stepW ar rk s).2, c)
def rankB : Bool := sigOk ar && (decide (rk.length = ar.length) && (List.range rk.length).all fun i => decide ((i : Int) ∈ rk))
noncomputable def workB (s : WSt) : Bool := (rankB ar rk && decide (s.1.length ≤ 120)) && (sysOk ar s.2 && (s.1.all (eqOkL ar) && s.2.all fun r => lpB ar rk r.1 r.2))
end
section
variable {ar rk t u l r : List Int} {rs td : Rules} {k p n a b c : Nat} {s : WSt} {st : Int}
open Classical in
theorem lpB_iff : lpB ar rk t u = true ↔ Lp ar rk t u := by unfold lpB; exact decide_eq_true_iff
structure WorkOk (ar rk : List Int) (s : WSt) : Prop where
 rank : rankB ar rk = true
 few : s.1.length ≤ 120
 sys : sysOk ar s.2 = true
 eqs : ∀ e ∈ s.1, eqOkL ar e = true
 down : ∀ x ∈ s.2, Lp ar rk x.1 x.2
theorem workB_iff : workB ar rk s = true ↔ WorkOk ar rk s := by
 unfold workB
 simp only [Bool.and_eq_true, decide_eq_true_eq, List.all_eq_true, lpB_iff]
 exact ⟨fun ⟨⟨h1, h2⟩, h3, h4, h5⟩ => ⟨h1, h2, h3, h4, h5⟩, fun ⟨h1, h2, h3, h4, h5⟩ => ⟨⟨h1, h2⟩, h3, h4, h5⟩⟩
theorem WorkOk.Down (h : WorkOk ar rk s) : Down ar rk s.2 := fun i hi => h.down _ (by rw [List.getD_eq_getElem?_getD, List.getElem?_eq_getElem hi]; exact List.getElem_mem hi)
theorem eqOk_two {e : List Int × List Int} : eqOkL ar e = true ↔ termOk ar e.1 = true ∧ termOk ar e.2 = true := by simp [eqOkL]
theorem sys_mem (h : sysOk ar rs = true) {x : List Int × List Int} (hx : x ∈ rs) : ruleOk ar x.1 x.2 = true := by
 obtain ⟨i, hi, rfl⟩ := List.getElem_of_mem hx
 have := (sysOk_iff.1 h).2.2 i hi
 rw [List.getD_eq_getElem?_getD, List.getElem?_eq_getElem hi] at this
 exact this
theorem sys_of (hs : sigOk ar = true) (hl : rs.length ≤ 12) (h : ∀ x ∈ rs, ruleOk ar x.1 x.2 = true) : sysOk ar rs = true := sysOk_iff.2 ⟨hs, hl, fun i hi => h _ (by rw [List.getD_eq_getElem?_getD, List.getElem?_eq_getElem hi]; exact List.getElem_mem hi)⟩
theorem nfT_ok (hs : sysOk ar rs = true) (ht : termOk ar t = true) : termOk ar (nfT ar rs t) = true := (right_iff.1 ((walkGo_ok (st := 1) 60 t (right_iff.2 ⟨hs, ht⟩)).2.1)).2
theorem nfT_lp (hs : sysOk ar rs = true) (hd : Down ar rk rs) (ht : termOk ar t = true) : nfT ar rs t = t ∨ Lp ar rk t (nfT ar rs t) := walk_lp hs hd 60 t ht
theorem byL_ap {od : List Int} : byL od t = ap (byS od fun n => [n]) t := by rw [ap_byS, ap_id]
theorem lp_rule (hs : sigOk ar = true) (hl : termOk ar l = true) (hr : termOk ar r = true) (h : Lp ar rk l r) : ruleOk ar (renR (l, r)).1 (renR (l, r)).2 = true ∧ Lp ar rk (renR (l, r)).1 (renR (l, r)).2 := by
 have hv := Lp.vars _ l r (Nat.le_refl _) (termW_of hl) (termW_of hr) h
 have hml : ∀ n ∈ l, n < 0 → n ∈ orderL l := fun n hn h0 => mem_orderL.2 ⟨h0, hn⟩
 have hmr : ∀ n ∈ r, n < 0 → n ∈ orderL l := fun n hn h0 => mem_orderL.2 ⟨h0, hv n hn h0⟩
 have e : orderGo (orderGo [] l) r = orderL l := orderGo_sub hmr
 have hfew : (orderL l).length ≤ 24 := vars_few (termOk_iff.1 hl).ge
 have e1 : (renR (l, r)).1 = byL (orderL l) l := rfl
 have e2 : (renR (l, r)).2 = byL (orderL l) r := by show byL (orderGo (orderGo [] l) r) r = _; rw [e]
 rw [e1, e2]
 have o1 := byL_ok hs (termOk_iff.1 hl).whole (termOk_len hl).2 hfew hml
 have o2 := byL_ok hs (termOk_iff.1 hr).whole (termOk_len hr).2 hfew hmr
 have g : GoodS ar (byS (orderL l) fun n => [n]) := byS_good GoodS.id
 have hlp : Lp ar rk (byL (orderL l) l) (byL (orderL l) r) := by
  have w1 := termW_of o1
  have w2 := termW_of o2
  rw [byL_ap] at w1 w2
  have := Lp.stable g _ l r (Nat.le_refl _) (termW_of hl) (termW_of hr) w1 w2 h
  rwa [← byL_ap, ← byL_ap] at this
 refine ⟨ruleOk_iff.2 ⟨o1, o2, hlp.head, ?_⟩, hlp⟩
 exact fun n hn h0 => Lp.vars _ _ _ (Nat.le_refl _) (termW_of o1) (termW_of o2) hlp n hn h0
theorem orient_ok (hs : sigOk ar = true) {e m : List Int × List Int} (h1 : termOk ar e.1 = true) (h2 : termOk ar e.2 = true) (h : orientR ar rk e = some m) : ruleOk ar m.1 m.2 = true ∧ Lp ar rk m.1 m.2 := by
 unfold orientR at h
 split at h
 ·rename_i hc
  cases h
  exact lp_rule hs h1 h2 (lpB_iff.1 hc)
 ·split at h
  ·rename_i hc
   cases h
   exact lp_rule hs h2 h1 (lpB_iff.1 hc)
  ·cases h
theorem with_ok {m : List Int × List Int} (hw : WorkOk ar rk (td, rs)) (hm : ruleOk ar m.1 m.2 = true) (hlp : Lp ar rk m.1 m.2) (h : (withR ar td rs m).2 = 2) : WorkOk ar rk (withR ar td rs m).1 := by
 have hsig := (sysOk_iff.1 hw.sys).1
 have hk : ∀ x ∈ keptR ar rs m.1 ++ [m], ruleOk ar x.1 x.2 = true ∧ Lp ar rk x.1 x.2 := fun x hx => by
  rcases List.mem_append.1 hx with hx | hx
  ·have := (List.mem_filter.1 hx).1
   exact ⟨sys_mem hw.sys this, hw.down x this⟩
  ·rw [List.mem_singleton.1 hx]; exact ⟨hm, hlp⟩
 unfold withR at h ⊢
 split at h
 ·cases h
 ·rename_i hl
  rw [if_neg hl]
  split at h
  ·cases h
  ·rename_i hn
   rw [if_neg hn]
   have hsys : sysOk ar (keptR ar rs m.1 ++ [m]) = true := sys_of hsig (by omega) fun x hx => (hk x hx).1
   have hdn : Down ar rk (keptR ar rs m.1 ++ [m]) := fun i hi => (hk _ (by rw [List.getD_eq_getElem?_getD, List.getElem?_eq_getElem hi]; exact List.getElem_mem hi)).2
   have hd2 : ∀ x ∈ doneR ar (keptR ar rs m.1 ++ [m]), ruleOk ar x.1 x.2 = true ∧ Lp ar rk x.1 x.2 := fun x hx => by
    obtain ⟨y, hy, rfl⟩ := List.mem_map.1 hx
    have hR := ruleOk_iff.1 (hk y hy).1
    have hno := nfT_ok hsys hR.right
    have hl2 : Lp ar rk y.1 (nfT ar (keptR ar rs m.1 ++ [m]) y.2) := by
     rcases nfT_lp hsys hdn hR.right with e | h2
     ·rw [e]; exact (hk y hy).2
     ·exact (hk y hy).2.trans (termW_of hR.left) (termW_of hR.right) (termW_of hno) h2
    exact ⟨ruleOk_iff.2 ⟨hR.left, hno, hR.head, fun n hn h0 => Lp.vars _ _ _ (Nat.le_refl _) (termW_of hR.left) (termW_of hno) hl2 n hn h0⟩, hl2⟩
   have hsys2 : sysOk ar (doneR ar (keptR ar rs m.1 ++ [m])) = true := sys_of hsig (by unfold doneR; rw [List.length_map]; omega) fun x hx => (hd2 x hx).1
   cases hp : peaksF ar (doneR ar (keptR ar rs m.1 ++ [m])) with
   | none => rw [hp] at h; cases h
   | some ps =>
    rw [hp] at h
    simp only at h ⊢
    split at h
    ·cases h
    ·rename_i hf
     rw [if_neg hf]
     refine ⟨hw.rank, by simp only; omega, hsys2, fun e he => ?_, fun x hx => (hd2 x hx).2⟩
     simp only [List.mem_append] at he
     rcases he with (he | he) | he
     ·exact hw.eqs e he
     ·have hR := ruleOk_iff.1 (sys_mem hw.sys (List.mem_filter.1 he).1)
      exact eqOk_two.2 ⟨hR.left, hR.right⟩
     ·obtain ⟨x, hx, rfl⟩ := List.mem_map.1 he
      have hx2 := (List.mem_filter.1 hx).1
      have := psO_ok (ar := ar) (rs := doneR ar (keptR ar rs m.1 ++ [m])) (x := x) (by unfold psO; rw [if_pos hsys2, hp]; exact hx2)
      exact eqOk_two.2 ⟨this.2.1, this.2.2⟩
theorem with_cases {m : List Int × List Int} : (withR ar td rs m).2 = 2 ∨ (withR ar td rs m).2 = 4 ∨ (withR ar td rs m).2 = 6 := by
 unfold withR
 split
 ·exact .inr (.inr rfl)
 ·split
  ·exact .inr (.inl rfl)
  ·split
   ·exact .inr (.inl rfl)
   ·split
    ·exact .inr (.inr rfl)
    ·exact .inl rfl
theorem selN_lt : ∀ k, k ≤ td.length → 0 < td.length → selN td k < td.length
 | 0, _, h => h
 | k + 1, hk, h => by
  rw [selN]
  split
  ·omega
  ·exact selN_lt k (by omega) h
theorem step_keeps (hw : WorkOk ar rk s) (h : (stepW ar rk s).2 = 1 ∨ (stepW ar rk s).2 = 2) : WorkOk ar rk (stepW ar rk s).1 := by
 have hsig := (sysOk_iff.1 hw.sys).1
 unfold stepW at h ⊢
 split at h
 ·rcases h with h | h <;> exact absurd (show (3 : Int) = _ from h) (by decide)
 ·rename_i h0
  rw [if_neg h0]
  split at h
  ·rcases h with h | h <;> exact absurd (show (4 : Int) = _ from h) (by decide)
  ·rename_i h1
   rw [if_neg h1]
   have hsl := selN_lt (td := s.1) s.1.length (Nat.le_refl _) (by omega)
   have he := eqOk_two.1 (hw.eqs (s.1.getD (selN s.1 s.1.length) ([], [])) (by rw [List.getD_eq_getElem?_getD, List.getElem?_eq_getElem hsl]; exact List.getElem_mem hsl))
   have hw2 : WorkOk ar rk (s.1.eraseIdx (selN s.1 s.1.length), s.2) := ⟨hw.rank, by
    have := List.length_eraseIdx_le (l := s.1) (i := selN s.1 s.1.length)
    have := hw.few
    simp only; omega, hw.sys, fun e he => hw.eqs e (List.mem_of_mem_eraseIdx he), hw.down⟩
   split at h
   ·rename_i h2
    rw [if_pos h2]; exact hw2
   ·rename_i h2
    rw [if_neg h2]
    cases ho : orientR ar rk (nfT ar s.2 (s.1.getD (selN s.1 s.1.length) ([], [])).1, nfT ar s.2 (s.1.getD (selN s.1 s.1.length) ([], [])).2) with
    | none => rw [ho] at h; rcases h with h | h <;> exact absurd (show (5 : Int) = _ from h) (by decide)
    | some m =>
     rw [ho] at h
     simp only at h ⊢
     have hm := orient_ok (e := (_, _)) hsig (nfT_ok hw.sys he.1) (nfT_ok hw.sys he.2) ho
     split at h
     ·rename_i h3
      rw [if_pos h3]
      exact with_ok hw2 hm.1 hm.2 h3
     ·rename_i h3
      exfalso
      rcases h with h | h
      ·simp only at h
       rcases with_cases (ar := ar) (td := s.1.eraseIdx (selN s.1 s.1.length)) (rs := s.2) (m := m) with h4 | h4 | h4 <;> rw [h4] at h <;> exact absurd h (by decide)
      ·exact h3 h
theorem step_ne : (stepW ar rk s).2 ≠ 0 := by
 unfold stepW
 split
 ·show (3 : Int) ≠ 0; decide
 ·split
  ·show (4 : Int) ≠ 0; decide
  ·split
   ·show (1 : Int) ≠ 0; decide
   ·split
    ·show (5 : Int) ≠ 0; decide
    ·split
     ·rename_i h2; rw [h2]; decide
     ·show (withR ar _ _ _).2 ≠ 0
      rcases with_cases with h | h | h <;> rw [h] <;> decide
theorem run_count : ∀ (n : Nat) (s : WSt) (st st' : Int) (c d : Nat), (runW ar rk n s st (c + d)).1 = (runW ar rk n s st' c).1 ∧ (n ≠ 0 → (runW ar rk n s st (c + d)).2.1 = (runW ar rk n s st' c).2.1) ∧ (runW ar rk n s st (c + d)).2.2 = (runW ar rk n s st' c).2.2 + d
 | 0, s, st, st', c, d => ⟨rfl, fun h => absurd rfl h, rfl⟩
 | n + 1, s, st, st', c, d => by
  rw [runW, runW]
  split
  ·have h := run_count n (stepW ar rk s).1 (stepW ar rk s).2 (stepW ar rk s).2 (c + 1) d
   rw [show c + d + 1 = c + 1 + d from by omega]
   refine ⟨h.1, fun _ => ?_, h.2.2⟩
   by_cases hn : n = 0
   ·subst hn; rfl
   ·exact h.2.1 hn
  ·exact ⟨rfl, fun _ => rfl, rfl⟩
theorem run_stop : ∀ (a b : Nat) (s : WSt) (st : Int) (c : Nat), (st = 0 ∨ st = 1 ∨ st = 2) → ¬ ((runW ar rk a s st c).2.1 = 0 ∨ (runW ar rk a s st c).2.1 = 1 ∨ (runW ar rk a s st c).2.1 = 2) → runW ar rk (a + b) s st c = runW ar rk a s st c
 | 0, b, s, st, c, hs, h => absurd hs h
 | a + 1, b, s, st, c, hs, h => by
  rw [show a + 1 + b = (a + b) + 1 from by omega, runW, runW]
  rw [runW] at h
  split
  ·rename_i h1
   rw [if_pos h1] at h
   exact run_stop a b _ _ _ (.inr h1) h
  ·rfl
theorem run_on : ∀ (a b : Nat) (s : WSt) (st : Int) (c : Nat), WorkOk ar rk s → (st = 0 ∨ st = 1 ∨ st = 2) → ((runW ar rk a s st c).2.1 = 0 ∨ (runW ar rk a s st c).2.1 = 1 ∨ (runW ar rk a s st c).2.1 = 2) → runW ar rk (a + b) s st c = runW ar rk b (runW ar rk a s st c).1 (runW ar rk a s st c).2.1 (runW ar rk a s st c).2.2
 | 0, b, s, st, c, _, hs, h => by rw [Nat.zero_add]; rfl
 | a + 1, b, s, st, c, hw, hs, h => by
  rw [show a + 1 + b = (a + b) + 1 from by omega, runW, runW]
  split
  ·rename_i h1
   rw [runW, if_pos h1] at h
   exact run_on a b _ _ _ (step_keeps hw h1) (.inr h1) h
  ·rename_i h1
   exfalso
   rw [runW, if_neg h1] at h
   rcases h with h | h | h
   ·exact step_ne h
   ·exact h1 (.inl h)
   ·exact h1 (.inr h)
end
section
variable {ar rk t s u v : List Int} {p q i j k : Nat} {us vs : RowL}
theorem Lp.irrefl : ∀ (n : Nat) (u : List Int), u.length ≤ n → TermW ar u → ¬ Lp ar rk u u := by
 intro n
 induction n with
 | zero => intro u hn hu _; have := hu.len; omega
 | succ n ih =>
  intro u hn hu h
  cases h with
  | eq i _ hi e => have := part_len hu hi; rw [e] at this; omega
  | sub i _ hi h3 => have hl := part_len hu hi; exact ih _ (by omega) (part_W hu hi) (h3.part i hi)
  | prec _ _ hne => exact hne rfl
  | lex i _ _ hi _ h4 => have hl := part_len hu hi; exact ih _ (by omega) (part_W hu hi) h4
theorem parts_sub (h : TermW ar t) (hp : p < t.length) : partsL ar (sub ar t p) = (argsL ar t p).map fun q => sub ar t q.toNat := by
 have hs := h.sub hp
 have hst := h.stand0 hp
 have hg := parts_go h hst
 have he := h.endN hp
 have e : sub ar t p = t.getD p 0 :: ((argsL ar t p).map fun q => sub ar t q.toNat).flatten := by
  show (t.drop p).take (endN ar t p - p) = _
  unfold argsL
  rw [hg]
  have e2 : t.drop p = t.getD p 0 :: t.drop (p + 1) := by
   rw [List.drop_eq_getElem_cons hp]; simp [List.getD, hp]
  rw [e2, show endN ar t p - p = (endN ar t p - (p + 1)) + 1 from by omega, List.take_succ_cons]
 rw [e] at hs ⊢
 refine parts_of hs (fun a ha => ?_) (by rw [List.length_map, argsL_len])
 obtain ⟨y, hy, rfl⟩ := List.mem_map.1 ha
 obtain ⟨k, hk, rfl⟩ := List.getElem_of_mem hy
 have := h.args_in hp hk
 have e3 : (argsL ar t p)[k] = (argsL ar t p).getD k 0 := by simp [List.getD, hk]
 rw [e3]
 exact (h.sub (by omega)).wf
theorem parts_subN (h : TermW ar t) (hp : p < t.length) : (partsL ar (sub ar t p)).length = (argsL ar t p).length := by rw [parts_sub h hp, List.length_map]
theorem part_at (h : TermW ar t) (hp : p < t.length) (hi : i < (argsL ar t p).length) : (partsL ar (sub ar t p)).getD i [] = sub ar t ((argsL ar t p).getD i 0).toNat := by
 rw [parts_sub h hp]; simp [List.getD, hi]
theorem argsT_at (h : TermW ar t) (hp : p < t.length) (hi : i < (argsL ar t p).length) : ((argsL ar t p).getD i 0).toNat < t.length ∧ 0 ≤ (argsL ar t p).getD i 0 ∧ (sub ar t ((argsL ar t p).getD i 0).toNat).length < (sub ar t p).length := by
 have := h.args_in hp hi
 have h2 := h.endN hp
 have h3 := part_len (h.sub hp) (i := i) (by rw [parts_subN h hp]; exact hi)
 rw [part_at h hp hi] at h3
 exact ⟨by omega, by omega, h3⟩
def LexP (ar rk : List Int) (us vs : RowL) : Prop := ∃ i, i < us.length ∧ (∀ j, j < i → us.getD j [] = vs.getD j []) ∧ Lp ar rk (us.getD i []) (vs.getD i [])
open Classical in
noncomputable def lexB (ar rk : List Int) (us vs : RowL) : Bool := decide (LexP ar rk us vs)
open Classical in
theorem lexB_iff : lexB ar rk us vs = true ↔ LexP ar rk us vs := by unfold lexB; exact decide_eq_true_iff
theorem lexB_at (hk : k < us.length) (he : ∀ j, j < k → us.getD j [] = vs.getD j []) (hn : us.getD k [] ≠ vs.getD k []) (hw : ∀ i, i < us.length → TermW ar (us.getD i [])) : lexB ar rk us vs = lpB ar rk (us.getD k []) (vs.getD k []) := by
 rw [Bool.eq_iff_iff, lexB_iff, lpB_iff]
 refine ⟨fun ⟨i, hi, hei, h⟩ => ?_, fun h => ⟨k, hk, he, h⟩⟩
 rcases Nat.lt_trichotomy i k with h1 | h1 | h1
 ·rw [← he i h1] at h; exact absurd h (Lp.irrefl _ _ (Nat.le_refl _) (hw i hi))
 ·subst h1; exact h
 ·exact absurd (hei k h1) hn
theorem lexB_same (he : ∀ j, j < us.length → us.getD j [] = vs.getD j []) (hw : ∀ i, i < us.length → TermW ar (us.getD i [])) : lexB ar rk us vs = false := by
 rw [Bool.eq_false_iff, Ne, lexB_iff]
 rintro ⟨i, hi, _, h⟩
 rw [← he i hi] at h; exact absurd h (Lp.irrefl _ _ (Nat.le_refl _) (hw i hi))
theorem fnd_var (h : u.getD 0 0 < 0) : ¬ Lp ar rk u v := fun k => by have := k.head; omega
theorem fnd_hit (h0 : 0 ≤ u.getD 0 0) (hi : i < (partsL ar u).length) (h : (partsL ar u).getD i [] = v ∨ Lp ar rk ((partsL ar u).getD i []) v) : Lp ar rk u v := h.elim (.eq i h0 hi) (.sub i h0 hi)
def NoHit (ar rk u v : List Int) : Prop := ∀ i, i < (partsL ar u).length → ¬ ((partsL ar u).getD i [] = v ∨ Lp ar rk ((partsL ar u).getD i []) v)
theorem fnd_left (hn : NoHit ar rk u v) (h : v.getD 0 0 < 0) : ¬ Lp ar rk u v := fun k => by
 cases k with
 | eq i _ hi e => exact hn i hi (.inl e)
 | sub i _ hi e => exact hn i hi (.inr e)
 | prec _ h2 => omega
 | lex i h1 h2 => omega
theorem fnd_part (hj : j < (partsL ar v).length) (h : ¬ Lp ar rk u ((partsL ar v).getD j [])) : ¬ Lp ar rk u v := fun k => h (k.part j hj)
theorem fnd_lex (h0 : 0 ≤ u.getD 0 0) (e : u.getD 0 0 = v.getD 0 0) (h : lexB ar rk (partsL ar u) (partsL ar v) = true) (hall : ∀ j, j < (partsL ar v).length → Lp ar rk u ((partsL ar v).getD j [])) : Lp ar rk u v :=
 let ⟨i, hi, he, hl⟩ := lexB_iff.1 h; .lex i h0 e hi he hl hall
theorem fnd_no (hn : NoHit ar rk u v) (h1 : ¬ (u.getD 0 0 ≠ v.getD 0 0 ∧ rk.getD (v.getD 0 0).toNat 0 < rk.getD (u.getD 0 0).toNat 0)) (h2 : ¬ (u.getD 0 0 = v.getD 0 0 ∧ lexB ar rk (partsL ar u) (partsL ar v) = true)) : ¬ Lp ar rk u v := fun k => by
 cases k with
 | eq i _ hi e => exact hn i hi (.inl e)
 | sub i _ hi e => exact hn i hi (.inr e)
 | prec _ _ h3 h4 => exact h1 ⟨h3, h4⟩
 | lex i _ h3 hi he hl => exact h2 ⟨h3, lexB_iff.2 ⟨i, hi, he, hl⟩⟩
def PathI (ar rk t s : List Int) (zs : List Int) : Prop := zs.length = 3600 ∧ ∀ p q, p < t.length → q < s.length → zs.getD (p * 60 + q) 0 = 0 ∨ ((1 ≤ zs.getD (p * 60 + q) 0 ∧ zs.getD (p * 60 + q) 0 ≤ 4) ∧ (1 < zs.getD (p * 60 + q) 0 ↔ Lp ar rk (sub ar t p) (sub ar s q)))
theorem PathI.start : PathI ar rk t s (List.replicate 3600 0) := ⟨List.length_replicate .., fun p q _ _ => .inl (by rw [List.getD_eq_getElem?_getD, List.getElem?_replicate]; split <;> rfl)⟩
theorem PathI.set {zs : List Int} {r : Int} (h : PathI ar rk t s zs) (ht : t.length ≤ 60) (hs : s.length ≤ 60) (hp : p < t.length) (hq : q < s.length) (h0 : 0 ≤ r ∧ r ≤ 3) (hr : 0 < r ↔ Lp ar rk (sub ar t p) (sub ar s q)) : PathI ar rk t s (zs.set (p * 60 + q) (1 + r)) := by
 refine ⟨by rw [List.length_set]; exact h.1, fun p' q' hp' hq' => ?_⟩
 by_cases e : p' * 60 + q' = p * 60 + q
 ·obtain ⟨rfl, rfl⟩ : p' = p ∧ q' = q := ⟨by omega, by omega⟩
  have hl : p' * 60 + q' < zs.length := by rw [h.1]; omega
  have e2 : (zs.set (p' * 60 + q') (1 + r)).getD (p' * 60 + q') 0 = 1 + r := by simp [List.getD, hl]
  rw [e2]
  exact .inr ⟨⟨by omega, by omega⟩, by rw [← hr]; omega⟩
 ·have e2 : (zs.set (p * 60 + q) (1 + r)).getD (p' * 60 + q') 0 = zs.getD (p' * 60 + q') 0 := by simp [List.getD_eq_getElem?_getD, List.getElem?_set_ne (Ne.symm e)]
  rw [e2]; exact h.2 p' q' hp' hq'
theorem PathI.known {zs : List Int} (h : PathI ar rk t s zs) (hp : p < t.length) (hq : q < s.length) (h0 : zs.getD (p * 60 + q) 0 ≠ 0) : (0 ≤ zs.getD (p * 60 + q) 0 - 1 ∧ zs.getD (p * 60 + q) 0 - 1 ≤ 3) ∧ (0 < zs.getD (p * 60 + q) 0 - 1 ↔ Lp ar rk (sub ar t p) (sub ar s q)) := by
 rcases h.2 p q hp hq with e | ⟨h1, h2⟩
 ·exact absurd e h0
 ·exact ⟨⟨by omega, by omega⟩, by rw [← h2]; omega⟩
theorem PathI.set_ne {zs : List Int} {r : Int} {i : Nat} (hl : i < zs.length) (h0 : 0 ≤ r ∧ r ≤ 3) : (zs.set i (1 + r)).getD i 0 ≠ 0 := by
 have e2 : (zs.set i (1 + r)).getD i 0 = 1 + r := by simp [List.getD, hl]
 rw [e2]; omega
theorem rank_len (h : rankB ar rk = true) : rk.length = ar.length := by
 unfold rankB at h
 simp only [Bool.and_eq_true, decide_eq_true_eq] at h
 exact h.2.1
theorem rank_no0 (h : sigOk ar = true → rk.length = ar.length → False) : rankB ar rk = false := by
 rw [Bool.eq_false_iff]
 intro k
 unfold rankB at k
 simp only [Bool.and_eq_true, decide_eq_true_eq] at k
 exact h k.1 k.2.1
theorem rank_no1 (hk : k < rk.length) (h : (k : Int) ∉ rk) : rankB ar rk = false := by
 rw [Bool.eq_false_iff]
 intro h2
 unfold rankB at h2
 simp only [Bool.and_eq_true, decide_eq_true_eq, List.all_eq_true, List.mem_range] at h2
 exact h (h2.2.2 k hk)
theorem rank_yes (hs : sigOk ar = true) (hl : rk.length = ar.length) (h : ∀ i, i < rk.length → (i : Int) ∈ rk) : rankB ar rk = true := by
 unfold rankB
 simp only [Bool.and_eq_true, decide_eq_true_eq, List.all_eq_true, List.mem_range]
 exact ⟨hs, hl, h⟩
theorem nodup_of (h : ∀ i j, i < j → j < rk.length → rk.getD i 0 ≠ rk.getD j 0) : rk.Nodup := by
 rw [List.nodup_iff_pairwise_ne, List.pairwise_iff_getElem]
 intro i j hi hj hij
 have := h i j hij hj
 simpa [List.getD, hi, hj] using this
theorem nodup_few : ∀ (xs ys : List Int), xs.Nodup → (∀ x ∈ xs, x ∈ ys) → xs.length ≤ ys.length
 | [], ys, _, _ => Nat.zero_le _
 | x :: xs, ys, hn, h => by
  have hx := h x (by simp)
  have h2 := nodup_few xs (ys.erase x) (List.nodup_cons.1 hn).2 (fun y hy => (List.mem_erase_of_ne (fun e => (List.nodup_cons.1 hn).1 (by rw [← e]; exact hy))).2 (h y (by simp [hy])))
  rw [List.length_erase_of_mem hx] at h2
  have := List.length_pos_of_mem hx
  simp only [List.length_cons]; omega
theorem rank_inj (hs : sigOk ar = true) (hl : rk.length = ar.length) (hin : ∀ i, i < rk.length → 0 ≤ rk.getD i 0 ∧ rk.getD i 0 < (rk.length : Int)) (hd : ∀ i j, i < j → j < rk.length → rk.getD i 0 ≠ rk.getD j 0) : rankB ar rk = true := by
 refine rank_yes hs hl fun i hi => Classical.byContradiction fun hni => ?_
 have h1 := nodup_few rk ((((List.range rk.length).map fun (j : Nat) => (j : Int))).erase (i : Int)) (nodup_of hd) (fun x hx => by
  obtain ⟨j, hj, rfl⟩ := List.getElem_of_mem hx
  have := hin j hj
  have e : rk.getD j 0 = rk[j] := by simp [List.getD, hj]
  rw [e] at this
  refine (List.mem_erase_of_ne (fun e2 => hni (by rw [← e2]; exact hx))).2 (List.mem_map.2 ⟨rk[j].toNat, List.mem_range.2 (by omega), by omega⟩))
 rw [List.length_erase_of_mem (List.mem_map.2 ⟨i, List.mem_range.2 hi, rfl⟩), List.length_map, List.length_range] at h1
 omega
theorem rank_sig (h : rankB ar rk = true) : sigOk ar = true := by
 unfold rankB at h
 simp only [Bool.and_eq_true, decide_eq_true_eq] at h
 exact h.1
section
variable {td rs : Rules} {l r : List Int}
theorem getD_of_mem {e : List Int × List Int} (h : e ∈ td) : ∃ i, i < td.length ∧ td.getD i ([], []) = e := by
 obtain ⟨i, hi, rfl⟩ := List.getElem_of_mem h
 exact ⟨i, hi, by simp [List.getD, hi]⟩
theorem work_yes (h1 : rankB ar rk = true) (h2 : td.length ≤ 120) (h3 : sysOk ar rs = true) (h4 : ∀ i, i < td.length → eqOkL ar (td.getD i ([], [])) = true) (h5 : ∀ i, i < rs.length → lpB ar rk (rs.getD i ([], [])).1 (rs.getD i ([], [])).2 = true) : workB ar rk (td, rs) = true :=
 workB_iff.2 ⟨h1, h2, h3, fun e he => by obtain ⟨i, hi, rfl⟩ := getD_of_mem he; exact h4 i hi, fun e he => by obtain ⟨i, hi, rfl⟩ := getD_of_mem he; exact lpB_iff.1 (h5 i hi)⟩
theorem work_no0 (h : rankB ar rk = true → td.length ≤ 120 → sysOk ar rs = true → False) : workB ar rk (td, rs) = false := by
 rw [Bool.eq_false_iff, Ne, workB_iff]
 exact fun k => h k.rank k.few k.sys
theorem work_no1 (hk : k < td.length) (h : eqOkL ar (td.getD k ([], [])) = false) : workB ar rk (td, rs) = false := by
 rw [Bool.eq_false_iff, Ne, workB_iff]
 intro w
 have := w.eqs (td.getD k ([], [])) (by rw [List.getD_eq_getElem?_getD, List.getElem?_eq_getElem hk]; exact List.getElem_mem hk)
 rw [h] at this; cases this
theorem work_no2 (hk : k < rs.length) (h : lpB ar rk (rs.getD k ([], [])).1 (rs.getD k ([], [])).2 = false) : workB ar rk (td, rs) = false := by
 rw [Bool.eq_false_iff, Ne, workB_iff]
 intro w
 have := lpB_iff.2 (w.Down k hk)
 simp only at this
 rw [h] at this; cases this
theorem orient_one (h : lpB ar rk l r = true) : orientR ar rk (l, r) = some (renR (l, r)) := by unfold orientR; rw [if_pos h]
theorem orient_two (h1 : lpB ar rk l r = false) (h : lpB ar rk r l = true) : orientR ar rk (l, r) = some (renR (r, l)) := by unfold orientR; rw [if_neg (by rw [h1]; decide), if_pos h]
theorem orient_none (h1 : lpB ar rk l r = false) (h : lpB ar rk r l = false) : orientR ar rk (l, r) = none := by unfold orientR; rw [if_neg (by rw [h1]; decide), if_neg (by rw [h]; decide)]
theorem has_at {p : List Int} (hk : k < t.length) (h : (matchB ar p (sub ar t k)).isSome = true) : hasI ar t p = true := List.any_eq_true.2 ⟨k, List.mem_range.2 hk, h⟩
theorem has_no {p : List Int} (h : ∀ i, i < t.length → (matchB ar p (sub ar t i)).isSome = false) : hasI ar t p = false := by
 rw [Bool.eq_false_iff]
 intro k
 obtain ⟨i, hi, h2⟩ := List.any_eq_true.1 k
 rw [h i (List.mem_range.1 hi)] at h2; cases h2
end
theorem lpB_pos {r : Int} (h : 0 < r ↔ Lp ar rk u v) : decide (r > 0) = lpB ar rk u v := by rw [Bool.eq_iff_iff, decide_eq_true_iff, lpB_iff]; exact h
end
end Go.Proofs.YthkebalahfalhaaGreat.M
namespace Go.Proofs.YthkebalahfalhaaGreat.X
open Go M
def i8s (zs : List Int) : List Value := zs.map (.int .i8 ·)
def pathH (T E : TypeId) (b : Nat) (arv rkv tv sv : Value) (ar rk t s : List Int) : HP := fun l => ∃ zs, PathI ar rk t s zs ∧ cellsH b (arv :: rkv :: .iface T (.agg #[]) :: tv :: sv :: i8s zs) E l
section
variable {P : Program} {n : Nat} {ops : Array Oper} {l : List Oper} {Q : QX} {ρ : Env} {F : FH} {L : List HP} {c : Code} {T E : TypeId} {b o : Nat} {arv rkv tv sv u : Value} {ar rk t s zs : List Int}
theorem pathH.of (h : PathI ar rk t s zs) : ∀ l, cellsH b (arv :: rkv :: .iface T (.agg #[]) :: tv :: sv :: i8s zs) E l → pathH T E b arv rkv tv sv ar rk t s l := fun l hl => ⟨zs, h, hl⟩
theorem pathH.rd (A : List HP) {B : List HP} (hL : L = A ++ pathH T E b arv rkv tv sv ar rk t s :: B) (hu : [arv, rkv, .iface T (.agg #[]), tv, sv][o]? = some u) : Rd F L ⟨b, o, none⟩ u := by
 subst hL
 intro w H
 obtain ⟨zs, hz, H'⟩ := Holds.ex (fun _ h => h) H
 refine Rd.own A rfl ?_ w H'
 have ho : o < 5 := by
  have := (List.getElem?_eq_some_iff.1 hu).1
  simpa using this
 match o, ho with
 | 0, _ | 1, _ | 2, _ | 3, _ | 4, _ => simpa using hu
theorem Rd.sing (h : Rd F L ⟨b, o, none⟩ u) : ∀ i x, [u][i]? = some x → Rd F L ((⟨b, o, none⟩ : Addr).add i) x := fun i x hi => by
 match i with
 | 0 => cases hi; rw [add_lit]; exact h
 | i + 1 => cases hi
theorem XL.openP (A : List HP) {B : List HP} (hL : L = A ++ pathH T E b arv rkv tv sv ar rk t s :: B) (h : ∀ zs, PathI ar rk t s zs → XL P n ops l Q ρ F (A ++ cellsH b (arv :: rkv :: .iface T (.agg #[]) :: tv :: sv :: i8s zs) E :: B)) : XL P n ops l Q ρ F L := by
 subst hL
 intro ok a w r H
 obtain ⟨zs, hz, H'⟩ := Holds.ex (fun _ h => h) H
 exact h zs hz ok a w r H'
theorem Sub.mid9 {A B : List HP} {h k : HP} (e : ∀ l, h l → k l) : Sub (A ++ h :: B) (A ++ k :: B) := by
 induction A with
 | nil => exact Sub.keep e (Sub.refl _)
 | cons a A ih => exact Sub.cons ih
theorem i8s_get {pre : List Value} {i : Nat} (hi : i < zs.length) (hp : pre.length = o) : (pre ++ i8s zs)[o + i]? = some (.int .i8 (zs.getD i 0)) := by
 subst hp
 rw [List.getElem?_append_right (by omega)]
 simp [i8s, List.getD, hi]
theorem i8s_set {pre : List Value} {i : Nat} {r : Int} (hp : pre.length = o) : (pre ++ i8s zs).set (o + i) (.int .i8 r) = pre ++ i8s (zs.set i r) := by
 subst hp
 rw [List.set_append_right _ _ (by omega)]
 simp [i8s, List.map_set]
theorem pathW {i : Nat} (hi : i < zs.length) : (arv :: rkv :: .iface T (.agg #[]) :: tv :: sv :: i8s zs)[5 + i]? = some (.int .i8 (zs.getD i 0)) := i8s_get (pre := [arv, rkv, .iface T (.agg #[]), tv, sv]) hi rfl
theorem pathS {i : Nat} {r : Int} : (arv :: rkv :: .iface T (.agg #[]) :: tv :: sv :: i8s zs).set (5 + i) (.int .i8 r) = arv :: rkv :: .iface T (.agg #[]) :: tv :: sv :: i8s (zs.set i r) := i8s_set (pre := [arv, rkv, .iface T (.agg #[]), tv, sv]) rfl
theorem pathL {i : Nat} (h : zs.length = 3600) (hi : i < 3600) : Nat.blt (5 + i) (arv :: rkv :: .iface T (.agg #[]) :: tv :: sv :: i8s zs).length = true := by
 have : (i8s zs).length = 3600 := by simp [i8s, h]
 simp only [List.length_cons, this]
 exact Nat.ble_eq_true_of_le (by omega)
end
section
variable {P : Program} {ρ : Env} {F : FH} {L : List HP} {K : Post} {d : Option Tmp} {ty : TypeId} {pos : String} {af : Array Edge} {g : Option (Nat × Bool)}
theorem XOp.add8 {x y : Operand} {t u : TypeId} {a b : Int} (hx : evO ρ x = .int .i8 a) (hy : evO ρ y = .int .i8 b) (hr : -128 ≤ a + b ∧ a + b ≤ 127) (kk : K (.int .i8 (a + b)) F L) : XOp P ⟨d, .binOp .add t x y u, ty, pos, af, g⟩ ρ F L K :=
 XOp.arith _ (.inl rfl) hx hy (IntWalk.i8_in _ hr) kk
theorem XOp.sub8 {x y : Operand} {t u : TypeId} {a b : Int} (hx : evO ρ x = .int .i8 a) (hy : evO ρ y = .int .i8 b) (hr : -128 ≤ a - b ∧ a - b ≤ 127) (kk : K (.int .i8 (a - b)) F L) : XOp P ⟨d, .binOp .sub t x y u, ty, pos, af, g⟩ ρ F L K :=
 XOp.arith _ (.inr (.inl rfl)) hx hy (IntWalk.i8_in _ hr) kk
theorem XOp.callM {f : FuncId} {recv : Operand} {name : String} {l : List Operand} {ts : Array TypeId} {Q : Post} {T : TypeId} {v : Value} (args : List Value) (hm : ∀ args w, (callMethod (.iface T v) name args).run P w = .ok (.enter f (#[v] ++ args)) w)
  (hv : evO ρ recv = .iface T v) (ha : v :: l.map (evO ρ) = args) (hspec : Does P f args F L Q) (k : ∀ v F' L', F ≤ F' → Q v F' L' → K v F' L') :
  XOp P ⟨d, .call { callee := .invoke recv name, args := l.toArray, argTypes := ts }, ty, pos, af, g⟩ ρ F L K := by
 subst ha
 intro w H
 refine .inr (.inr ⟨f, (v :: l.map (evO ρ)).toArray, w, ?_, (hspec w H).mono fun e w'' ⟨v, F', L', he, le, H', q⟩ => ⟨v, F', L', he, le, H', k v F' L' le q⟩⟩)
 simp [execOp, resolve, invoke, hv, hm]
 exact List.take_of_length_le (by simp)
end
open Go
section
variable {P : Program} {ρ : Env} {F : FH} {L : List HP} {K : Post} {d : Option Tmp} {ty : TypeId} {pos : String} {af : Array Edge} {g : Option (Nat × Bool)}
end
section
variable {α : Type} {s : Nat} {R : List Value → α → List HP → Prop} {cs cs0 : List Value} {xs : List α} {Ls Ls' L1 : List HP} {d : α}
end
section
variable {α : Type} {s : Nat} {R : List Value → α → List HP → Prop} {cs cs0 : List Value} {xs : List α} {Ls : List HP} {d : α} {q : α → Bool} {i j : Nat}
structure DelI (s : Nat) (R : List Value → α → List HP → Prop) (q : α → Bool) (cs0 : List Value) (xs : List α) (cs : List Value) (i j : Nat) : Prop where
 le : j ≤ xs.length
 cnt : i = ((xs.take j).filter q).length
 len : cs.length = cs0.length
 rest : cs.drop (j * s) = cs0.drop (j * s)
 pre : ∃ L1 Lk, DeepL s R (cs0.take (j * s)) (xs.take j) L1 ∧ DeepL s R (cs.take (i * s)) ((xs.take j).filter q) Lk ∧ Lk.Sublist L1
end
section
variable {P : Program} {ρ : Env} {F : FH} {L : List HP} {K : Post} {d : Option Tmp} {ty : TypeId} {pos : String} {af : Array Edge} {g : Option (Nat × Bool)}
theorem X.openSl {nt : Nat} {c : Code} {Q : QX} {E s n : Nat} {v : Value} {cs : List Value} (A B : List HP) (hL : L = A ++ slH E s v n cs :: B) (h0 : 0 < n)
  (H : ∀ b cap spare, v = .slice (some ⟨b, 0, none⟩) n cap → n ≤ cap → spare.length = (cap - n) * s → cs.length = n * s → X P nt c Q ρ F (A ++ cellsH b (cs ++ spare) E :: B)) : X P nt c Q ρ F L := by
 subst hL
 intro ok a w r Hw
 rcases Hw.getSl with ⟨hlen, ⟨base, rfl, rfl, _⟩ | ⟨b, cap, spare, rfl, hc, hsp, H1⟩⟩
 ·omega
 ·exact H b cap spare rfl hc hsp hlen ok a w r H1
theorem XOp.sliceB {x : Operand} {lo hi : Option Operand} {t e : TypeId} {s n cap l h b : Nat} (hu : ∀ w, (underlying t).run P w = .ok (.slice e) w) (hs : ∀ w, (sizeOf e).run P w = .ok s w) (hx : evO ρ x = .slice (some ⟨b, 0, none⟩) n cap)
  (hlo : OptIs ρ lo l 0) (hhi : OptIs ρ hi h n) (hlh : l ≤ h) (hhc : h ≤ cap) (k : K (.slice (if cap = l then some ⟨b, 0, none⟩ else some ⟨b, l * s, none⟩) (h - l) (cap - l)) F L) : XOp P ⟨d, .slice t x lo hi none, ty, pos, af, g⟩ ρ F L K :=
 XOp.value (fun w _ => by
  have hrun := slice_run (P := P) (w := w) (base := some ⟨b, 0, none⟩) (n := n) (cap := cap) hu hs hlo hhi hlh hhc
  have e : (some (⟨b, 0, none⟩ : Addr)).map (·.add (l * s)) = some ⟨b, l * s, none⟩ := by show some ((⟨b, 0, none⟩ : Addr).add (l * s)) = _; rw [add_lit, Nat.zero_add]
  rw [e] at hrun
  simp [execOp, hx, hrun]) k
theorem XOp.sliceK {x hi : Operand} {t e : TypeId} {s n cap h b : Nat} (hu : ∀ w, (underlying t).run P w = .ok (.slice e) w) (hs : ∀ w, (sizeOf e).run P w = .ok s w) (hx : evO ρ x = .slice (some ⟨b, 0, none⟩) n cap)
  (hhi : OptIs ρ (some hi) h n) (hhc : h ≤ cap) (k : K (.slice (some ⟨b, 0, none⟩) h cap) F L) : XOp P ⟨d, .slice t x none (some hi) none, ty, pos, af, g⟩ ρ F L K := by
 refine XOp.sliceB (lo := none) (hi := some hi) (l := 0) (h := h) hu hs hx rfl hhi (Nat.zero_le _) hhc ?_
 rw [Nat.zero_mul, ite_self]
 exact k
theorem XOp.slice3B {x lo hi mx : Operand} {t e : TypeId} {s n cap l h m b : Nat} {k0 k1 k2 : IntKind} (hu : ∀ w, (underlying t).run P w = .ok (.slice e) w) (hs : ∀ w, (sizeOf e).run P w = .ok s w) (hx : evO ρ x = .slice (some ⟨b, 0, none⟩) n cap)
  (hlo : evO ρ lo = .int k0 (l : Int)) (hhi : evO ρ hi = .int k1 (h : Int)) (hm : evO ρ mx = .int k2 (m : Int)) (hlh : l ≤ h) (hhm : h ≤ m) (hmc : m ≤ cap) (k : ∀ v, K v F L) : XOp P ⟨d, .slice t x (some lo) (some hi) (some mx), ty, pos, af, g⟩ ρ F L K :=
 XOp.value (v := .slice (if m = l then some ⟨b, 0, none⟩ else (some (⟨b, 0, none⟩ : Addr)).map (·.add (l * s))) (h - l) (m - l)) (fun w _ => by
  have e1 : (Instr.sliceAt t (.slice (some ⟨b, 0, none⟩) n cap) (some (.int k0 (l : Int))) (some (.int k1 (h : Int))) (some (.int k2 (m : Int)))).run P w = (Instr.slice t (.slice (some ⟨b, 0, none⟩) n cap) (some (.int k0 (l : Int))) (some (.int k1 (h : Int))) (some (.int k2 (m : Int)))).run P w := by
   simp [Instr.sliceAt, hu]
  have e2 : (Instr.sliceBounds true n cap (some (.int k0 (l : Int))) (some (.int k1 (h : Int))) (some (.int k2 (m : Int)))).run P w = .ok (l, h, m) w := by
   unfold Instr.sliceBounds
   simp [bound_run _ hlh, bound_run _ hhm, bound_run _ hmc]
  have e3 : (Instr.slice t (.slice (some ⟨b, 0, none⟩) n cap) (some (.int k0 (l : Int))) (some (.int k1 (h : Int))) (some (.int k2 (m : Int)))).run P w = .ok (.slice (if m = l then some ⟨b, 0, none⟩ else (some (⟨b, 0, none⟩ : Addr)).map (·.add (l * s))) (h - l) (m - l)) w := by
   unfold Instr.slice
   simp only [Sem.run_bind, hu, Result.andThen_ok, e2, hs, Sem.run_pure]
  simp [execOp, hx, hlo, hhi, hm, e1, e3]) (k _)
theorem append0_run {w : World} {t E b n cap c : Nat} {i : TypeInfo} {base : Option Addr} (ht : P.underlying t = some (.slice E)) (hi : P.info? E = some i) (hk : n ≤ cap) :
  (Builtin.append_ #[t, t] ty #[.slice (some ⟨b, 0, none⟩) n cap, .slice base 0 c]).run P w = .ok (.slice (some ⟨b, 0, none⟩) n cap) w := by
 have hf : (Builtin.firstCells i.size 0 (.slice base 0 c)).run P w = .ok #[] w := by cases base <;> simp [Builtin.firstCells, loadCells, loadCellsFrom]
 simp [Builtin.append_, run_underlying ht, sizeOf, typeInfo, hi, Builtin.lenOf, hk, hf, storeCells]
theorem XOp.appendDel {x y : Operand} {t E : TypeId} {i : TypeInfo} {s n m j b cap c2 : Nat} {cells : List Value} (A B : List HP) (hu : ∀ w, (underlying t).run P w = .ok (.slice E) w) (hi : ∀ w, (typeInfo E).run P w = .ok i w) (hs : i.size = s)
  (hx : evO ρ x = .slice (some ⟨b, 0, none⟩) n cap) (hy : evO ρ y = .slice (if cap = j then some ⟨b, 0, none⟩ else some ⟨b, j * s, none⟩) m c2) (hj : j + m ≤ cap) (hr : n + m ≤ cap) (hL : L = A ++ cellsH b cells E :: B) (hlen : cells.length = cap * s)
  (h1 : ∀ u ∈ (cells.drop (j * s)).take (m * s), u.oneCell' = true)
  (k : K (.slice (some ⟨b, 0, none⟩) (n + m) cap) F (A ++ cellsH b (cells.take (n * s) ++ (cells.drop (j * s)).take (m * s) ++ cells.drop ((n + m) * s)) E :: B)) :
  XOp P ⟨d, .call { callee := .builtin .append, args := #[x, y], argTypes := #[t, t] }, ty, pos, af, g⟩ ρ F L K := by
 subst hL hs
 intro w H
 have ht := underlying_of_run hu
 have hinf := info_of_run hi
 by_cases h0 : m = 0
 ·subst h0
  have hrun := append0_run (P := P) (ty := ty) (w := w) (b := b) (n := n) (cap := cap) (c := c2) (base := if cap = j then some ⟨b, 0, none⟩ else some ⟨b, j * i.size, none⟩) ht hinf (by omega)
  refine .inl ⟨.slice (some ⟨b, 0, none⟩) n cap, w, F, _, ?_, FLe.refl F, H, ?_⟩
  ·simp [execOp, resolve, invoke, builtin, hx, hy, hrun]
  ·have e : cells.take (n * i.size) ++ (cells.drop (j * i.size)).take (0 * i.size) ++ cells.drop ((n + 0) * i.size) = cells := by simp
   rw [e] at k
   simpa using k
 ·have hg := H.getCells
  have hcj : ¬ cap = j := by omega
  rw [if_neg hcj] at hy
  have hle : j * i.size + m * i.size ≤ cells.length := by rw [hlen, ← Nat.add_mul]; exact Nat.mul_le_mul_right _ hj
  have hle2 : n * i.size + m * i.size ≤ cells.length := by rw [hlen, ← Nat.add_mul]; exact Nat.mul_le_mul_right _ hr
  have hnl : ((cells.drop (j * i.size)).take (m * i.size)).length = m * i.size := by rw [List.length_take, List.length_drop]; omega
  have hrun := run_append_room (P := P) w t ty E i ht hinf b n cap cells.toArray hg ⟨b, j * i.size, none⟩ m c2 ((cells.drop (j * i.size)).take (m * i.size)) hnl (fun q u hq => by
   rw [add_lit]
   refine cell_of_heap hg ?_
   rw [List.getElem?_toArray]
   rw [List.getElem?_take] at hq
   split at hq
   ·rw [List.getElem?_drop] at hq; exact hq
   ·cases hq) h1 hr (by rw [hnl]; simpa using hle2)
  have e : (cells.toArray.toList.take (n * i.size) ++ (cells.drop (j * i.size)).take (m * i.size) ++ cells.toArray.toList.drop (n * i.size + ((cells.drop (j * i.size)).take (m * i.size)).length)) = cells.take (n * i.size) ++ (cells.drop (j * i.size)).take (m * i.size) ++ cells.drop ((n + m) * i.size) := by
   rw [hnl, Nat.add_mul]
  rw [e] at hrun
  refine .inl ⟨.slice (some ⟨b, 0, none⟩) (n + m) cap, w.setRow b (cells.take (n * i.size) ++ (cells.drop (j * i.size)).take (m * i.size) ++ cells.drop ((n + m) * i.size)).toArray, F, _, ?_, FLe.refl F, ?_, k⟩
  ·simp only [execOp, resolve, invoke, builtin, hx, hy, hrun, Sem.run_bind, Sem.run_pure, Result.andThen_ok, List.map_toArray, List.map_cons, List.map_nil]
  ·exact Holds.put (o := .cells cells.toArray E (0, 0)) (o' := .cells _ E (0, 0)) H rfl rfl rfl (setRow_heap w b _ _ E _ hg) fun k hk => setRow_other w b k _ hk
theorem XOp.clearB {x : Operand} {t E : TypeId} {s b o m c : Nat} {cells : List Value} (A B : List HP) (z : List Value) (hu : ∀ w, (underlying t).run P w = .ok (.slice E) w) (hz : ∀ w, (zeroValue E).run P w = .ok (.agg z.toArray) w) (hzl : z.length = s) (h1 : ∀ u ∈ z, u.oneCell' = true) (hs0 : 0 < s)
  (hx : evO ρ x = .slice (some ⟨b, o, none⟩) (m + 1) c) (hL : L = A ++ cellsH b cells E :: B) (hb : o + (m + 1) * s ≤ cells.length) (kk : ∀ Z : List Value, Z.length = (m + 1) * s → K (.tuple #[]) F (A ++ cellsH b (cells.take o ++ Z ++ cells.drop (o + (m + 1) * s)) E :: B)) :
  XOp P ⟨d, .call { callee := .builtin .clear, args := #[x], argTypes := #[t] }, ty, pos, af, g⟩ ρ F L K := by
 subst hL
 intro w H
 have hzl2 : (Builtin.zeroCells z.toArray (m + 1)).toList.length = (m + 1) * s := by simp [Builtin.zeroCells, hzl]
 have hone : ∀ u ∈ (Builtin.zeroCells z.toArray (m + 1)).toList, u.oneCell' = true := by
  intro u hu2
  simp only [Builtin.zeroCells, Array.toList_map, Array.toList_range, List.mem_map, List.mem_range] at hu2
  obtain ⟨i, hi, rfl⟩ := hu2
  refine h1 _ ?_
  have hlt : i % z.toArray.size < z.length := by simp only [List.size_toArray]; exact Nat.mod_lt _ (by omega)
  simp only [List.size_toArray] at hlt ⊢
  rw [List.getElem!_toArray, List.getElem!_eq_getElem?_getD, List.getElem?_eq_getElem hlt]
  exact List.getElem_mem hlt
 obtain ⟨w', hrun, H'⟩ := storeCells_one (P := P) (vs := (Builtin.zeroCells z.toArray (m + 1)).toList) (o := o) H (by rw [hzl2]; exact hb) hone
 refine .inl ⟨.tuple #[], w', F, _, ?_, FLe.refl F, ?_, kk (Builtin.zeroCells z.toArray (m + 1)).toList hzl2⟩
 ·have e : (Builtin.clear_ #[t] ty #[.slice (some ⟨b, o, none⟩) (m + 1) c]).run P w = .ok (.tuple #[]) w' := by
   simp [Builtin.clear_, hu, hz, Value.cells, hrun]
  simp [execOp, resolve, invoke, builtin, hx, e]
 ·rw [hzl2] at H'
  exact H'
theorem slvB {b n cap : Nat} (h : n ≤ cap) : SlV F L (.slice (some ⟨b, 0, none⟩) n cap) n := fun _ _ => ⟨_, _, rfl, h, fun e => by cases e⟩
end
theorem PairsC.ones {F : FH} {cs : List Value} {xs : List (List Int × List Int)} (h : PairsC F cs xs) : ∀ u ∈ cs, u.oneCell' = true := by
 intro u hu
 obtain ⟨j, hj, rfl⟩ := List.getElem_of_mem hu
 have hl := CO.len h
 have hk : j / 2 < xs.length := by omega
 obtain ⟨es, hes, ⟨a, b, rfl, ha, hb⟩, hg⟩ := CO.get h hk
 have one : ∀ {x : Value} {t : List Int}, IntsF F x t → x.oneCell' = true := fun hx => by obtain ⟨_, _, _, rfl⟩ := hx.isSl; rfl
 rcases Nat.mod_two_eq_zero_or_one j with hm | hm
 ·have h9 := hg 0 a rfl
  rw [show j / 2 * 2 + 0 = j from by omega, List.getElem?_eq_getElem hj] at h9; cases h9; exact one ha
 ·have h9 := hg 1 b rfl
  rw [show j / 2 * 2 + 1 = j from by omega, List.getElem?_eq_getElem hj] at h9; cases h9; exact one hb
theorem XOp.appendPairs {P : Program} {ρ : Env} {F : FH} {L : List HP} {K : Post} {d : Option Tmp} {ty : TypeId} {pos : String} {af : Array Edge} {g : Option (Nat × Bool)} {x y : Operand} {t E : TypeId} {i : TypeInfo} {z : Value} {n bytes : Nat} {v v2 : Value} {cs : List Value} {xs ys : List (List Int × List Int)} (A B : List HP)
  (ht : ∀ w, (underlying t).run P w = .ok (.slice E) w) (hi : ∀ w, (typeInfo E).run P w = .ok i w) (hz : i.zero = some z) (hs : i.size = 2) (hby : i.bytes = bytes) (hzs : z.cells.size = 2)
  (hx : evO ρ x = v) (hy : evO ρ y = v2) (hL : L = A ++ slH E 2 v n cs :: B) (hC : PairsC F cs xs) (hv2 : PairsF F v2 ys) (h63 : n + ys.length ≤ 1152921504606846976) (hbytes : (n + ys.length) * bytes ≤ 140737488355328)
  (k : ∀ v' ds, IsSl v' → PairsC F (cs ++ ds) (xs ++ ys) → K v' F (A ++ slH E 2 v' (n + ys.length) (cs ++ ds) :: B)) :
  XOp P ⟨d, .call { callee := .builtin .append, args := #[x, y], argTypes := #[t, t] }, ty, pos, af, g⟩ ρ F L K := by
 obtain ⟨ds, hA, hc2⟩ := SlOf.open hv2
 exact XOp.append A B ds ht hi hz hs hby hzs hx hy hL (SlV.arr hA) hc2.1 (fun j u hu => Rd.arr hA hu) (PairsC.ones hc2) h63 hbytes fun v' h1 _ _ => k v' ds h1 (CO.append hC hc2)
theorem pairs_notNil {F : FH} {v : Value} {xs : List (List Int × List Int)} (h : PairsF F v xs) (hn : 1 ≤ xs.length) : isNil v = false := by
 obtain ⟨ds, hA, hc2⟩ := SlOf.open h
 obtain ⟨hl, b, c, rfl, hc, hb, _⟩ := hA
 cases b with
 | none => have := hb rfl; omega
 | some a => rfl
theorem PairsC.erase {F : FH} {cs : List Value} {xs : List (List Int × List Int)} {k : Nat} (h : PairsC F cs xs) (hk : k < xs.length) : PairsC F (cs.take (k * 2) ++ cs.drop ((k + 1) * 2)) (xs.eraseIdx k) := by
 have hl := CO.len h
 have e : xs.eraseIdx k = xs.take k ++ xs.drop (k + 1) := List.eraseIdx_eq_take_drop_succ xs k
 rw [e]
 have h1 : PairsC F (cs.take (k * 2)) (xs.take k) := by
  refine ⟨by rw [List.length_take, List.length_take]; omega, fun i hi => ?_⟩
  rw [List.length_take] at hi
  obtain ⟨es, a1, a2, a3⟩ := h.2 i (by omega)
  refine ⟨es, a1, ?_, by simpa [List.getD_eq_getElem?_getD, List.getElem?_take, show i < k by omega] using a3⟩
  rw [← a2, List.drop_take, List.take_take, Nat.min_eq_left (by omega)]
 have h2 : PairsC F (cs.drop ((k + 1) * 2)) (xs.drop (k + 1)) := by
  refine ⟨by rw [List.length_drop, List.length_drop]; omega, fun i hi => ?_⟩
  rw [List.length_drop] at hi
  obtain ⟨es, a1, a2, a3⟩ := h.2 (k + 1 + i) (by omega)
  refine ⟨es, a1, ?_, by simpa [List.getD_eq_getElem?_getD, List.getElem?_drop] using a3⟩
  rw [← a2, List.drop_drop]; congr 2; omega
 exact CO.append h1 h2
theorem del_cells {cs spare Z : List Value} {n k cap : Nat} (hk : k < n) (hc : n ≤ cap) (hl : cs.length = n * 2) (hsp : spare.length = (cap - n) * 2) (hZ : Z.length = 1 * 2) :
  ∃ sp2, sp2.length = (cap - (n - 1)) * 2 ∧ (cs.take (k * 2) ++ cs.drop ((k + 1) * 2)).length = (n - 1) * 2 ∧ (let C := (cs ++ spare).take (k * 2) ++ ((cs ++ spare).drop ((k + 1) * 2)).take ((n - (k + 1)) * 2) ++ (cs ++ spare).drop ((k + (n - (k + 1))) * 2); C.take ((k + (n - (k + 1))) * 2) ++ Z ++ C.drop ((k + (n - (k + 1))) * 2 + 1 * 2)) = (cs.take (k * 2) ++ cs.drop ((k + 1) * 2)) ++ sp2 := by
 have e1 : (cs ++ spare).take (k * 2) = cs.take (k * 2) := List.take_append_of_le_length (by omega)
 have e2 : ((cs ++ spare).drop ((k + 1) * 2)).take ((n - (k + 1)) * 2) = cs.drop ((k + 1) * 2) := by
  rw [List.drop_append_of_le_length (by omega), List.take_append_of_le_length (by rw [List.length_drop]; omega), List.take_of_length_le (by rw [List.length_drop]; omega)]
 have hq : (cs.take (k * 2) ++ cs.drop ((k + 1) * 2)).length = (k + (n - (k + 1))) * 2 := by rw [List.length_append, List.length_take, List.length_drop]; omega
 refine ⟨Z ++ ((cs ++ spare).drop ((k + (n - (k + 1))) * 2)).drop (1 * 2), ?_, by rw [hq]; omega, ?_⟩
 ·rw [List.length_append, List.length_drop, List.length_drop, List.length_append]; omega
 ·simp only
  rw [e1, e2, List.take_append_of_le_length (by omega), List.take_of_length_le (by omega)]
  rw [show (k + (n - (k + 1))) * 2 + 1 * 2 = (cs.take (k * 2) ++ cs.drop ((k + 1) * 2)).length + 1 * 2 from by rw [hq], ← List.drop_drop, List.drop_left, List.append_assoc]
end Go.Proofs.YthkebalahfalhaaGreat.X
namespace Go.Proofs.YthkebalahfalhaaGreat.M
section
variable {ar rk nl nr p : List Int} {td rs kp gn dn : Rules} {k j n : Nat} {m : List Int × List Int} {ps : List PkT} {s : WSt}
theorem filt1_yes {α : Type} {q : α → Bool} {x : α} (h : q x = true) : [x].filter q = [x] := by rw [List.filter_cons, if_pos h, List.filter_nil]
theorem filt1_no {α : Type} {q : α → Bool} {x : α} (h : ¬ q x = true) : [x].filter q = [] := by rw [List.filter_cons, if_neg h, List.filter_nil]
theorem kept_take (hk : k < rs.length) : keptR ar (rs.take (k + 1)) p = if hasI ar (rs.getD k ([], [])).1 p = true then keptR ar (rs.take k) p else keptR ar (rs.take k) p ++ [((rs.getD k ([], [])).1, (rs.getD k ([], [])).2)] := by
 unfold keptR
 rw [take_succ_getD ([], []) hk, List.filter_append]
 split
 ·rename_i h
  have e := filt1_no (q := fun r : List Int × List Int => !hasI ar r.1 p) (x := rs.getD k ([], [])) (by simp only [h]; decide)
  rw [e, List.append_nil]
 ·rename_i h
  have e := filt1_yes (q := fun r : List Int × List Int => !hasI ar r.1 p) (x := rs.getD k ([], [])) (by simpa using h)
  rw [e]
theorem gone_take (hk : k < rs.length) : goneR ar (rs.take (k + 1)) p = if hasI ar (rs.getD k ([], [])).1 p = true then goneR ar (rs.take k) p ++ [((rs.getD k ([], [])).1, (rs.getD k ([], [])).2)] else goneR ar (rs.take k) p := by
 unfold goneR
 rw [take_succ_getD ([], []) hk, List.filter_append]
 split
 ·rename_i h
  have e := filt1_yes (q := fun r : List Int × List Int => hasI ar r.1 p) (x := rs.getD k ([], [])) h
  rw [e]
 ·rename_i h
  have e := filt1_no (q := fun r : List Int × List Int => hasI ar r.1 p) (x := rs.getD k ([], [])) h
  rw [e, List.append_nil]
def dnR (ar : List Int) (sy : Rules) (j : Nat) : Rules := (sy.take j).map fun r => (r.1, nfT ar sy r.2)
theorem dn_next {sy : Rules} (hj : j < sy.length) : dnR ar sy (j + 1) = dnR ar sy j ++ [((sy.getD j ([], [])).1, nfT ar sy (sy.getD j ([], [])).2)] := by
 unfold dnR
 rw [take_succ_getD ([], []) hj, List.map_append]; rfl
theorem dn_all {sy : Rules} (hj : sy.length ≤ j) : dnR ar sy j = doneR ar sy := by unfold dnR doneR; rw [List.take_of_length_le hj]
theorem done_len {sy : Rules} : (doneR ar sy).length = sy.length := by unfold doneR; rw [List.length_map]
theorem newP_take {last : Int} (hk : k < ps.length) : newP (ps.take (k + 1)) last = if decide ((ps.getD k ([], [], [], 0, 0, 0)).2.2.2.2.2 = last ∨ (ps.getD k ([], [], [], 0, 0, 0)).2.2.2.2.1 = last) && !trivB (ps.getD k ([], [], [], 0, 0, 0)) then newP (ps.take k) last ++ [((ps.getD k ([], [], [], 0, 0, 0)).2.1, (ps.getD k ([], [], [], 0, 0, 0)).2.2.1)] else newP (ps.take k) last := by
 unfold newP
 rw [take_succ_getD ([], [], [], 0, 0, 0) hk, List.filter_append, List.map_append]
 split
 ·rename_i h
  have e := filt1_yes (q := fun x : PkT => decide (x.2.2.2.2.2 = last ∨ x.2.2.2.2.1 = last) && !trivB x) (x := ps.getD k ([], [], [], 0, 0, 0)) h
  rw [e]; rfl
 ·rename_i h
  have e := filt1_no (q := fun x : PkT => decide (x.2.2.2.2.2 = last ∨ x.2.2.2.2.1 = last) && !trivB x) (x := ps.getD k ([], [], [], 0, 0, 0)) h
  rw [e]; simp
theorem with_sys (hw : WorkOk ar rk (td, rs)) (hm : ruleOk ar m.1 m.2 = true) (hlp : Lp ar rk m.1 m.2) (hl : (keptR ar rs m.1 ++ [m]).length ≤ 12) : sysOk ar (keptR ar rs m.1 ++ [m]) = true ∧ sysOk ar (doneR ar (keptR ar rs m.1 ++ [m])) = true := by
 have hsig := (sysOk_iff.1 hw.sys).1
 have hk : ∀ x ∈ keptR ar rs m.1 ++ [m], ruleOk ar x.1 x.2 = true ∧ Lp ar rk x.1 x.2 := fun x hx => by
  rcases List.mem_append.1 hx with hx | hx
  ·have := (List.mem_filter.1 hx).1
   exact ⟨sys_mem hw.sys this, hw.down x this⟩
  ·rw [List.mem_singleton.1 hx]; exact ⟨hm, hlp⟩
 have hsys : sysOk ar (keptR ar rs m.1 ++ [m]) = true := sys_of hsig hl fun x hx => (hk x hx).1
 have hdn : Down ar rk (keptR ar rs m.1 ++ [m]) := fun i hi => (hk _ (by rw [List.getD_eq_getElem?_getD, List.getElem?_eq_getElem hi]; exact List.getElem_mem hi)).2
 refine ⟨hsys, sys_of hsig (by rw [done_len]; exact hl) fun x hx => ?_⟩
 obtain ⟨y, hy, rfl⟩ := List.mem_map.1 hx
 have hR := ruleOk_iff.1 (hk y hy).1
 have hno := nfT_ok hsys hR.right
 have hl2 : Lp ar rk y.1 (nfT ar (keptR ar rs m.1 ++ [m]) y.2) := by
  rcases nfT_lp hsys hdn hR.right with e | h2
  ·rw [e]; exact (hk y hy).2
  ·exact (hk y hy).2.trans (termW_of hR.left) (termW_of hR.right) (termW_of hno) h2
 exact ruleOk_iff.2 ⟨hR.left, hno, hR.head, fun n hn h0 => Lp.vars _ _ _ (Nat.le_refl _) (termW_of hR.left) (termW_of hno) hl2 n hn h0⟩
theorem with_full (h : 12 < (keptR ar rs m.1 ++ [m]).length) : withR ar td rs m = ((td, rs), 6) := by unfold withR; rw [if_pos h]
theorem with_stuck (h : (keptR ar rs m.1 ++ [m]).length ≤ 12) (hj : j < (keptR ar rs m.1 ++ [m]).length) (hn : nfB ar (keptR ar rs m.1 ++ [m]) ((keptR ar rs m.1 ++ [m]).getD j ([], [])).2 = false) : withR ar td rs m = ((td, rs), 4) := by
 unfold withR
 rw [if_neg (by omega), if_pos (all_fail ([], []) hj hn)]
theorem with_nopeaks (h : (keptR ar rs m.1 ++ [m]).length ≤ 12) (ha : ∀ i, i < (keptR ar rs m.1 ++ [m]).length → nfB ar (keptR ar rs m.1 ++ [m]) ((keptR ar rs m.1 ++ [m]).getD i ([], [])).2 = true) (hp : (peaksF ar (doneR ar (keptR ar rs m.1 ++ [m]))).isSome = false) : withR ar td rs m = ((td, rs), 4) := by
 unfold withR
 have hp2 : peaksF ar (doneR ar (keptR ar rs m.1 ++ [m])) = none := by simpa using hp
 rw [if_neg (by omega), if_neg (by rw [(all_getD_iff ([], [])).2 ha]; decide), hp2]
theorem with_many (h : (keptR ar rs m.1 ++ [m]).length ≤ 12) (ha : ∀ i, i < (keptR ar rs m.1 ++ [m]).length → nfB ar (keptR ar rs m.1 ++ [m]) ((keptR ar rs m.1 ++ [m]).getD i ([], [])).2 = true) (hp : (peaksF ar (doneR ar (keptR ar rs m.1 ++ [m]))).isSome = true)
  (hl : 120 < (td ++ goneR ar rs m.1 ++ newP ((peaksF ar (doneR ar (keptR ar rs m.1 ++ [m]))).getD []) ((keptR ar rs m.1).length : Int)).length) : withR ar td rs m = ((td ++ goneR ar rs m.1 ++ newP ((peaksF ar (doneR ar (keptR ar rs m.1 ++ [m]))).getD []) ((keptR ar rs m.1).length : Int), rs), 6) := by
 unfold withR
 obtain ⟨q, hq⟩ := Option.isSome_iff_exists.1 hp
 rw [hq] at hl
 rw [if_neg (by omega), if_neg (by rw [(all_getD_iff ([], [])).2 ha]; decide), hq]
 exact if_pos hl
theorem with_yes (h : (keptR ar rs m.1 ++ [m]).length ≤ 12) (ha : ∀ i, i < (keptR ar rs m.1 ++ [m]).length → nfB ar (keptR ar rs m.1 ++ [m]) ((keptR ar rs m.1 ++ [m]).getD i ([], [])).2 = true) (hp : (peaksF ar (doneR ar (keptR ar rs m.1 ++ [m]))).isSome = true)
  (hl : (td ++ goneR ar rs m.1 ++ newP ((peaksF ar (doneR ar (keptR ar rs m.1 ++ [m]))).getD []) ((keptR ar rs m.1).length : Int)).length ≤ 120) : withR ar td rs m = ((td ++ goneR ar rs m.1 ++ newP ((peaksF ar (doneR ar (keptR ar rs m.1 ++ [m]))).getD []) ((keptR ar rs m.1).length : Int), doneR ar (keptR ar rs m.1 ++ [m])), 2) := by
 unfold withR
 obtain ⟨q, hq⟩ := Option.isSome_iff_exists.1 hp
 rw [hq] at hl
 rw [if_neg (by omega), if_neg (by rw [(all_getD_iff ([], [])).2 ha]; decide), hq]
 exact if_neg (Nat.not_lt.2 hl)
theorem withE_full (hk : kp = keptR ar rs nl) (h : 12 < (kp ++ [(nl, nr)]).length) : withR ar td rs (nl, nr) = ((td, rs), 6) := by subst hk; exact with_full (m := (nl, nr)) h
theorem withE_stuck (hk : kp = keptR ar rs nl) (h : (kp ++ [(nl, nr)]).length ≤ 12) (hj : j < (kp ++ [(nl, nr)]).length) (hn : nfB ar (kp ++ [(nl, nr)]) ((kp ++ [(nl, nr)]).getD j ([], [])).2 = false) : withR ar td rs (nl, nr) = ((td, rs), 4) := by subst hk; exact with_stuck (m := (nl, nr)) h hj hn
theorem withE_nopeaks (hk : kp = keptR ar rs nl) (hd : dn = doneR ar (kp ++ [(nl, nr)])) (h : (kp ++ [(nl, nr)]).length ≤ 12) (ha : ∀ i, i < (kp ++ [(nl, nr)]).length → nfB ar (kp ++ [(nl, nr)]) ((kp ++ [(nl, nr)]).getD i ([], [])).2 = true) (hp : (peaksF ar dn).isSome = false) : withR ar td rs (nl, nr) = ((td, rs), 4) := by subst hk hd; exact with_nopeaks (m := (nl, nr)) h ha hp
theorem withE_many (hk : kp = keptR ar rs nl) (hg : gn = goneR ar rs nl) (hd : dn = doneR ar (kp ++ [(nl, nr)])) (h : (kp ++ [(nl, nr)]).length ≤ 12) (ha : ∀ i, i < (kp ++ [(nl, nr)]).length → nfB ar (kp ++ [(nl, nr)]) ((kp ++ [(nl, nr)]).getD i ([], [])).2 = true) (hp : (peaksF ar dn).isSome = true)
  {t3 : Rules} (ht : t3 = td ++ gn ++ newP ((peaksF ar dn).getD []) (kp.length : Int)) (hl : 120 < t3.length) : withR ar td rs (nl, nr) = ((t3, rs), 6) := by subst ht hk hg hd; exact with_many (m := (nl, nr)) h ha hp hl
theorem withE_yes (hk : kp = keptR ar rs nl) (hg : gn = goneR ar rs nl) (hd : dn = doneR ar (kp ++ [(nl, nr)])) (h : (kp ++ [(nl, nr)]).length ≤ 12) (ha : ∀ i, i < (kp ++ [(nl, nr)]).length → nfB ar (kp ++ [(nl, nr)]) ((kp ++ [(nl, nr)]).getD i ([], [])).2 = true) (hp : (peaksF ar dn).isSome = true)
  {t3 : Rules} (ht : t3 = td ++ gn ++ newP ((peaksF ar dn).getD []) (kp.length : Int)) (hl : t3.length ≤ 120) : withR ar td rs (nl, nr) = ((t3, dn), 2) := by subst ht hk hg hd; exact with_yes (m := (nl, nr)) h ha hp hl
theorem withE_sys (hk : kp = keptR ar rs nl) (hw : WorkOk ar rk (td, rs)) (hm : ruleOk ar nl nr = true) (hlp : Lp ar rk nl nr) (hl : (kp ++ [(nl, nr)]).length ≤ 12) : sysOk ar (kp ++ [(nl, nr)]) = true ∧ sysOk ar (doneR ar (kp ++ [(nl, nr)])) = true := by subst hk; exact with_sys (m := (nl, nr)) hw hm hlp hl
theorem peaks_ok (hs : sysOk ar dn = true) : ((peaksF ar dn).getD []).length ≤ 64 ∧ ∀ i, i < ((peaksF ar dn).getD []).length → termOk ar (((peaksF ar dn).getD []).getD i ([], [], [], 0, 0, 0)).2.1 = true ∧ termOk ar (((peaksF ar dn).getD []).getD i ([], [], [], 0, 0, 0)).2.2.1 = true := by
 have e : psO ar dn = peaksF ar dn := by unfold psO; rw [if_pos hs]
 have h1 := psO_len (ar := ar) (rs := dn)
 have h2 := psO_okAt (ar := ar) (rs := dn)
 rw [e] at h1 h2
 exact ⟨h1, fun i hi => (h2 i hi).2⟩
abbrev selE (s : WSt) : List Int × List Int := s.1.getD (selN s.1 s.1.length) ([], [])
theorem step_done (h : s.1.length = 0) : stepW ar rk s = (s, 3) := by unfold stepW; rw [if_pos h]
theorem step_stuck (h : s.1.length ≠ 0) (hn : nfB ar s.2 (selE s).1 = false ∨ nfB ar s.2 (selE s).2 = false) : stepW ar rk s = (s, 4) := by
 unfold stepW
 rw [if_neg h, if_pos (by rcases hn with e | e <;> rw [e] <;> simp)]
theorem step_gone (h : s.1.length ≠ 0) (h1 : nfB ar s.2 (selE s).1 = true) (h2 : nfB ar s.2 (selE s).2 = true) (he : nfT ar s.2 (selE s).1 = nfT ar s.2 (selE s).2) : stepW ar rk s = ((s.1.eraseIdx (selN s.1 s.1.length), s.2), 1) := by
 unfold stepW
 rw [if_neg h, if_neg (by rw [h1, h2]; decide), if_pos he]
theorem step_fail (h : s.1.length ≠ 0) (h1 : nfB ar s.2 (selE s).1 = true) (h2 : nfB ar s.2 (selE s).2 = true) (he : nfT ar s.2 (selE s).1 ≠ nfT ar s.2 (selE s).2) (ho : (orientR ar rk (nfT ar s.2 (selE s).1, nfT ar s.2 (selE s).2)).isSome = false) : stepW ar rk s = (s, 5) := by
 unfold stepW
 have ho2 : orientR ar rk (nfT ar s.2 (selE s).1, nfT ar s.2 (selE s).2) = none := by simpa using ho
 rw [if_neg h, if_neg (by rw [h1, h2]; decide), if_neg he, ho2]
theorem step_rule (h : s.1.length ≠ 0) (h1 : nfB ar s.2 (selE s).1 = true) (h2 : nfB ar s.2 (selE s).2 = true) (he : nfT ar s.2 (selE s).1 ≠ nfT ar s.2 (selE s).2) (ho : (orientR ar rk (nfT ar s.2 (selE s).1, nfT ar s.2 (selE s).2)).isSome = true) :
  stepW ar rk s = if (withR ar (s.1.eraseIdx (selN s.1 s.1.length)) s.2 ((orientR ar rk (nfT ar s.2 (selE s).1, nfT ar s.2 (selE s).2)).getD ([], []))).2 = 2 then withR ar (s.1.eraseIdx (selN s.1 s.1.length)) s.2 ((orientR ar rk (nfT ar s.2 (selE s).1, nfT ar s.2 (selE s).2)).getD ([], [])) else (s, (withR ar (s.1.eraseIdx (selN s.1 s.1.length)) s.2 ((orientR ar rk (nfT ar s.2 (selE s).1, nfT ar s.2 (selE s).2)).getD ([], []))).2) := by
 unfold stepW
 obtain ⟨q, hq⟩ := Option.isSome_iff_exists.1 ho
 rw [if_neg h, if_neg (by rw [h1, h2]; decide), if_neg he, hq]
 rfl
theorem orient_good {l r : List Int} (hs : sigOk ar = true) (h1 : termOk ar l = true) (h2 : termOk ar r = true) (h : (orientR ar rk (l, r)).isSome = true) : ruleOk ar ((orientR ar rk (l, r)).getD ([], [])).1 ((orientR ar rk (l, r)).getD ([], [])).2 = true ∧ Lp ar rk ((orientR ar rk (l, r)).getD ([], [])).1 ((orientR ar rk (l, r)).getD ([], [])).2 := by
 obtain ⟨q, hq⟩ := Option.isSome_iff_exists.1 h
 rw [hq]
 exact orient_ok (e := (l, r)) hs h1 h2 hq
theorem WorkOk.erase (hw : WorkOk ar rk (td, rs)) : WorkOk ar rk (td.eraseIdx k, rs) := ⟨hw.rank, by
 have := List.length_eraseIdx_le (l := td) (i := k)
 have := hw.few
 simp only at this ⊢; omega, hw.sys, fun e he => hw.eqs e (List.mem_of_mem_eraseIdx he), hw.down⟩
theorem WorkOk.eqAt (hw : WorkOk ar rk (td, rs)) {i : Nat} (hi : i < td.length) : termOk ar (td.getD i ([], [])).1 = true ∧ termOk ar (td.getD i ([], [])).2 = true := eqOk_two.1 (hw.eqs _ (by rw [List.getD_eq_getElem?_getD, List.getElem?_eq_getElem hi]; exact List.getElem_mem hi))
theorem WorkOk.ruleAt (hw : WorkOk ar rk (td, rs)) {i : Nat} (hi : i < rs.length) : RuleOk ar (rs.getD i ([], [])).1 (rs.getD i ([], [])).2 := ruleOk_iff.1 ((sysOk_iff.1 hw.sys).2.2 i hi)
theorem WorkOk.bounds (hw : WorkOk ar rk (td, rs)) : (ar.length ≤ 4000000 ∧ rk.length ≤ 4000000) ∧ (td.length ≤ 4000000 ∧ rs.length ≤ 4000000) ∧ (∀ i, i < td.length → (td.getD i ([], [])).1.length ≤ 4000000 ∧ (td.getD i ([], [])).2.length ≤ 4000000) ∧ ∀ i, i < rs.length → (rs.getD i ([], [])).1.length ≤ 4000000 ∧ (rs.getD i ([], [])).2.length ≤ 4000000 := by
 have h0 := sigOk_spec (sysOk_iff.1 hw.sys).1
 have h1 := h0.1
 have h1' := h0.2.1
 have h2 := rank_len hw.rank
 have h3 := hw.few
 have h4 := (sysOk_iff.1 hw.sys).2.1
 simp only at h3 h4
 refine ⟨⟨by omega, by omega⟩, ⟨by omega, by omega⟩, fun i hi => ?_, fun i hi => ?_⟩
 ·have h := hw.eqAt hi
  exact ⟨Nat.le_trans (termOk_len h.1).2 (by decide), Nat.le_trans (termOk_len h.2).2 (by decide)⟩
 ·have h := hw.ruleAt hi
  exact ⟨Nat.le_trans (termOk_len h.left).2 (by decide), Nat.le_trans (termOk_len h.right).2 (by decide)⟩
end
section
variable {ar rk : List Int} {s : WSt} {st : Int} {c n k : Nat} {a b : Int}
def kindF (s : Int) : Int := if s = 1 ∨ s = 2 then 0 else 1
theorem kindF_on (h : st = 1 ∨ st = 2) : kindF st = 0 := if_pos h
theorem kindF_end (h1 : ¬ st = 1) (h2 : ¬ st = 2) : kindF st = 1 := if_neg (fun h => h.elim h1 h2)
theorem kindF_stop (h : kindF st = 1) : ¬ (st = 1 ∨ st = 2) := fun k => by unfold kindF at h; rw [if_pos k] at h; cases h
theorem kindF_goes (h : ¬ kindF st = 1) : st = 1 ∨ st = 2 := Classical.byContradiction fun k => h (by unfold kindF; rw [if_neg k])
theorem step_same (h : ¬ ((stepW ar rk s).2 = 1 ∨ (stepW ar rk s).2 = 2)) : (stepW ar rk s).1 = s := by
 unfold stepW at h ⊢
 split at h
 ·rename_i h0; rw [if_pos h0]
 ·rename_i h0
  rw [if_neg h0]
  split at h
  ·rename_i h1; rw [if_pos h1]
  ·rename_i h1
   rw [if_neg h1]
   split at h
   ·exact absurd (.inl rfl) h
   ·rename_i h2
    rw [if_neg h2]
    cases ho : orientR ar rk (nfT ar s.2 (s.1.getD (selN s.1 s.1.length) ([], [])).1, nfT ar s.2 (s.1.getD (selN s.1 s.1.length) ([], [])).2) with
    | none => rfl
    | some m =>
     rw [ho] at h
     simp only at h ⊢
     split at h
     ·rename_i h3; exact absurd (.inr h3) h
     ·rename_i h3; rw [if_neg h3]
theorem step_all (hw : WorkOk ar rk s) : WorkOk ar rk (stepW ar rk s).1 := by
 by_cases h : (stepW ar rk s).2 = 1 ∨ (stepW ar rk s).2 = 2
 ·exact step_keeps hw h
 ·rw [step_same h]; exact hw
theorem run_go (h : (stepW ar rk s).2 = 1 ∨ (stepW ar rk s).2 = 2) (hk : k < n) : runW ar rk (n - k) s st c = runW ar rk (n - (k + 1)) (stepW ar rk s).1 (stepW ar rk s).2 (c + 1) := by
 rw [show n - k = n - (k + 1) + 1 from by omega, runW, if_pos h]
theorem run_end (h : ¬ ((stepW ar rk s).2 = 1 ∨ (stepW ar rk s).2 = 2)) (hk : k < n) : runW ar rk (n - k) s st c = ((stepW ar rk s).1, (stepW ar rk s).2, c) := by
 rw [show n - k = n - (k + 1) + 1 from by omega, runW, if_neg h]
theorem run_none (hk : n ≤ k) : runW ar rk (n - k) s st c = (s, st, c) := by rw [show n - k = 0 from by omega, runW]
theorem run_all : ∀ (n : Nat) (s : WSt) (st : Int) (c : Nat), WorkOk ar rk s → WorkOk ar rk (runW ar rk n s st c).1
 | 0, s, st, c, hw => hw
 | n + 1, s, st, c, hw => by
  rw [runW]
  split
  ·exact run_all n _ _ _ (step_all hw)
  ·exact step_all hw
theorem run_le : ∀ (n : Nat) (s : WSt) (st : Int) (c : Nat), (runW ar rk n s st c).2.2 ≤ c + n
 | 0, s, st, c => by rw [runW]; exact Nat.le_refl _
 | n + 1, s, st, c => by
  rw [runW]
  split
  ·have := run_le n (stepW ar rk s).1 (stepW ar rk s).2 (c + 1); omega
  ·show c ≤ _; omega
noncomputable abbrev rw1 (ar rk : List Int) (s : WSt) (z : Int) : WSt × Int × Nat := runW ar rk z.toNat s 0 0
theorem parts_stop (h0 : 0 ≤ a) (hb : 0 ≤ b) (h : ¬ ((rw1 ar rk s a).2.1 = 0 ∨ (rw1 ar rk s a).2.1 = 1 ∨ (rw1 ar rk s a).2.1 = 2)) : rw1 ar rk s (a + b) = rw1 ar rk s a := by
 unfold rw1 at h ⊢
 rw [show (a + b).toNat = a.toNat + b.toNat from by omega]
 exact run_stop _ _ _ _ _ (.inl rfl) h
theorem parts_zero (h : b = 0) : rw1 ar rk s (a + b) = rw1 ar rk s a := by rw [h, Int.add_zero]
theorem parts_on (hw : WorkOk ar rk s) (h0 : 0 ≤ a) (hb : 0 ≤ b) (hz : b ≠ 0) (h : (rw1 ar rk s a).2.1 = 0 ∨ (rw1 ar rk s a).2.1 = 1 ∨ (rw1 ar rk s a).2.1 = 2) :
  (rw1 ar rk s (a + b)).2.1 = (rw1 ar rk (rw1 ar rk s a).1 b).2.1 ∧ (rw1 ar rk s (a + b)).2.2 = (rw1 ar rk s a).2.2 + (rw1 ar rk (rw1 ar rk s a).1 b).2.2 ∧ (rw1 ar rk s (a + b)).1 = (rw1 ar rk (rw1 ar rk s a).1 b).1 := by
 unfold rw1 at h ⊢
 rw [show (a + b).toNat = a.toNat + b.toNat from by omega, run_on _ _ _ _ _ hw (.inl rfl) h]
 have e := run_count (ar := ar) (rk := rk) b.toNat (runW ar rk a.toNat s 0 0).1 (runW ar rk a.toNat s 0 0).2.1 0 0 (runW ar rk a.toNat s 0 0).2.2
 rw [Nat.zero_add] at e
 exact ⟨e.2.1 (by omega), by rw [e.2.2, Nat.add_comm], e.1⟩
theorem start_ok {es : Rules} (he : eqsOkL ar es = true) (hr : rankB ar rk = true) : WorkOk ar rk (es, []) := by
 have hl := eqsOk_len he
 refine ⟨hr, by simp only; omega, sysOk_iff.2 ⟨rank_sig hr, Nat.zero_le _, fun i hi => absurd hi (by simp)⟩, fun e h => ?_, fun x h => absurd h (by simp)⟩
 obtain ⟨i, hi, rfl⟩ := getD_of_mem h
 exact eqOk_two.2 (eqsOk_at he hi)
theorem not_of {x y : Bool} (h : x = true → y = true) (hy : y = false) : (!x) = true := by
 cases x
 ·rfl
 ·rw [h rfl] at hy; cases hy
theorem parts_all {x y : Int} (hw : WorkOk ar rk s) (hx : 0 ≤ x) (hy : 0 ≤ y) :
  (¬ ((runW ar rk x.toNat s 0 0).2.1 = 0 ∨ (runW ar rk x.toNat s 0 0).2.1 = 1 ∨ (runW ar rk x.toNat s 0 0).2.1 = 2) ∨ y = 0 → (runW ar rk (x + y).toNat s 0 0).2.1 = (runW ar rk x.toNat s 0 0).2.1 ∧ (runW ar rk (x + y).toNat s 0 0).2.2 = (runW ar rk x.toNat s 0 0).2.2) ∧
  (((runW ar rk x.toNat s 0 0).2.1 = 0 ∨ (runW ar rk x.toNat s 0 0).2.1 = 1 ∨ (runW ar rk x.toNat s 0 0).2.1 = 2) ∧ ¬ y = 0 → (runW ar rk (x + y).toNat s 0 0).2.1 = (runW ar rk y.toNat ((runW ar rk x.toNat s 0 0).1.1, (runW ar rk x.toNat s 0 0).1.2) 0 0).2.1 ∧
   (runW ar rk (x + y).toNat s 0 0).2.2 = (runW ar rk x.toNat s 0 0).2.2 + (runW ar rk y.toNat ((runW ar rk x.toNat s 0 0).1.1, (runW ar rk x.toNat s 0 0).1.2) 0 0).2.2 ∧
   (runW ar rk (x + y).toNat s 0 0).1.1.length = (runW ar rk y.toNat ((runW ar rk x.toNat s 0 0).1.1, (runW ar rk x.toNat s 0 0).1.2) 0 0).1.1.length ∧
   (runW ar rk (x + y).toNat s 0 0).1.2.length = (runW ar rk y.toNat ((runW ar rk x.toNat s 0 0).1.1, (runW ar rk x.toNat s 0 0).1.2) 0 0).1.2.length) := by
 refine ⟨fun h => ?_, fun ⟨h, hz⟩ => ?_⟩
 ·have e : rw1 ar rk s (x + y) = rw1 ar rk s x := h.elim (fun h => parts_stop hx hy h) (fun h => parts_zero h)
  unfold rw1 at e
  rw [e]; exact ⟨rfl, rfl⟩
 ·have e := parts_on hw hx hy hz h
  unfold rw1 at e
  exact ⟨e.1, e.2.1, by rw [e.2.2], by rw [e.2.2]⟩
end
end Go.Proofs.YthkebalahfalhaaGreat.M
namespace Go.Proofs.YthkebalahfalhaaGreat.X
open Go Go.WideShapes Go.ChangeShapes Go.RowKit
def fhOf (w : World) : FH := ⟨fun b => w.heap[b]?, w.os, w.output, w.tape⟩
theorem holds_fhOf (w : World) : Holds (fhOf w) [] w := ⟨rfl, rfl, rfl, fun _ _ h => h, [], rfl, List.nodup_nil, fun p hp => absurd hp (by simp)⟩
theorem cell_fhOf (w : World) (a : Addr) : (fhOf w).cell? a = w.cell? a := by
 unfold FH.cell? World.cell? fhOf
 rfl
theorem below_of_holds {w w' : World} {F' : FH} {L' : List HP} (le : fhOf w ≤ F') (h : Holds F' L' w') : Below w.heap.size w w' := by
 have key : ∀ k o, w.heap[k]? = some o → w'.heap[k]? = some o := fun k o hk => h.cells k o (le.cells k o hk)
 refine ⟨h.os.trans le.os, h.tape.trans le.tape, h.output.trans le.output, ?_, fun k hk => ?_⟩
 ·rcases Nat.eq_zero_or_pos w.heap.size with h0 | h0
  ·omega
  ·have h1 : w.heap[w.heap.size - 1]? = some (w.heap[w.heap.size - 1]'(by omega)) := Array.getElem?_eq_getElem (by omega)
   have h2 := (Array.getElem?_eq_some_iff.1 (key _ _ h1)).1
   omega
 ·have h1 : w.heap[k]? = some (w.heap[k]'hk) := Array.getElem?_eq_getElem hk
  rw [h1]
  exact key _ _ h1
def Opens (P : Program) (t : TypeId) {α : Type} (R : FH → List Value → α → Prop) (B : α → Prop) : Prop :=
 ∀ (H : Type) (enc : TypeId × Value → H) (w : World) (base : Nat) (spare : Nat → Bool) (held : Bool) (fuel : Nat) (cs : List Value) (x : DataW H × List MemPlace),
  DataW.trod enc P w base spare held fuel t cs = some x → ∃ a, R (fhOf w) cs a ∧ B a
section
variable {P : Program} {t e : TypeId}
theorem opens_slice {α : Type} {R : FH → List Value → α → Prop} {B : α → Prop} {s : Nat} (d : α) (ht : P.underlying t = some (.slice e)) (hc : P.cellsOf e = s) (ho : Opens P e R B) :
  Opens P t (fun F cs (xs : List α) => ∃ v, cs = [v] ∧ SlOf s R d F v xs) (fun xs => xs.length ≤ 9223372036854775807 ∧ ∀ i, i < xs.length → B (xs.getD i d)) := by
 intro H enc w base spare held fuel cs x h
 rcases Go.Deep.open_slice ht h with ⟨rfl, _⟩ | ⟨a, len, cap, m, n, D, Pl, rfl, hb, hl, hm, hmm, _, hx⟩
 ·exact ⟨[], ⟨_, rfl, [], ⟨by simp, none, 0, rfl, by simp, fun _ => rfl, fun a h => by cases h⟩, fun i hi => by simp at hi⟩, by simp, fun i hi => by simp at hi⟩
 ·have hlm : len ≤ m := by rw [hmm]; split <;> omega
  rw [hc] at hx
  have each : ∀ i, i < len → ∃ q : α, ∃ cs' : List Value, cs'.length = s ∧ (∀ r, r < s → w.cell? (a.add (i * s + r)) = cs'[r]?) ∧ R (fhOf w) cs' q ∧ B q := by
   intro i hi
   obtain ⟨cs', h1, h2⟩ := hx i (by omega)
   obtain ⟨_, hlen, hcell⟩ := World.cells?_some h1
   obtain ⟨q, hq, hbq⟩ := ho H enc w base spare held n cs' _ h2
   exact ⟨q, cs', hlen, fun r hr => by rw [← hcell r hr, add_add], hq, hbq⟩
  have ⟨q, hq⟩ : ∃ q : Nat → α, ∀ i, i < len → ∃ cs' : List Value, cs'.length = s ∧ (∀ r, r < s → w.cell? (a.add (i * s + r)) = cs'[r]?) ∧ R (fhOf w) cs' (q i) ∧ B (q i) := by
   haveI : Inhabited α := ⟨d⟩
   exact Go.Deep.choose_lt each
  let V : Nat → Value := fun j => (w.cell? (a.add j)).getD undef
  have hV : ∀ j, j < len * s → w.cell? (a.add j) = some (V j) := by
   intro j hj
   have hs : 0 < s := by rcases Nat.eq_zero_or_pos s with h0 | h0; subst h0; simp at hj; exact h0
   have hdiv : j / s < len := (Nat.div_lt_iff_lt_mul hs).2 hj
   obtain ⟨cs', hl', hcell, _⟩ := hq (j / s) hdiv
   have hr := hcell (j % s) (Nat.mod_lt _ hs)
   have e1 : j / s * s + j % s = j := by rw [Nat.mul_comm]; exact Nat.div_add_mod j s
   rw [e1] at hr
   have hlt : j % s < cs'.length := by rw [hl']; exact Nat.mod_lt _ hs
   rw [List.getElem?_eq_getElem hlt] at hr
   show w.cell? (a.add j) = some ((w.cell? (a.add j)).getD undef)
   rw [hr]; rfl
  have hxl : ((List.range len).map q).length = len := by simp
  have hgd : ∀ i, i < len → ((List.range len).map q).getD i d = q i := fun i hi => by simp [List.getD, hi]
  refine ⟨(List.range len).map q, ⟨_, rfl, (List.range (len * s)).map V, ⟨by simp, some a, cap, by rw [hxl], by omega, (fun h => by cases h), ?_⟩, ?_⟩, by rw [hxl]; unfold maxLen at hm; omega, fun i hi => ?_⟩
  ·intro a' ha i u hu
   obtain rfl := Option.some.inj ha
   have hi : i < len * s := by have := (List.getElem?_eq_some_iff.1 hu).1; simpa using this
   rw [cell_fhOf, hV i hi]
   rw [List.getElem?_map, List.getElem?_range hi] at hu
   exact hu
  ·intro i hi
   rw [hxl] at hi
   obtain ⟨cs', hl', hcell, hR, _⟩ := hq i hi
   refine ⟨cs', hl', ?_, by rw [hgd i hi]; exact hR⟩
   have hle : i * s + s ≤ len * s := by
    have : (i + 1) * s ≤ len * s := Nat.mul_le_mul_right s hi
    rwa [Nat.succ_mul] at this
   apply List.ext_getElem?
   intro r
   rcases Nat.lt_or_ge r s with hr | hr
   ·rw [List.getElem?_take, if_pos hr, List.getElem?_drop, List.getElem?_map, List.getElem?_range (by omega), ← hcell r hr, hV _ (by omega)]; rfl
   ·rw [List.getElem?_eq_none (by simp; omega), List.getElem?_eq_none (by omega)]
  ·rw [hxl] at hi
   obtain ⟨_, _, _, _, hB⟩ := hq i hi
   rw [hgd i hi]
   exact hB
theorem Opens.mono {α : Type} {R R' : FH → List Value → α → Prop} {B B' : α → Prop} (h : Opens P t R B) (hR : ∀ F cs a, R F cs a → R' F cs a) (hB : ∀ a, B a → B' a) : Opens P t R' B' := fun H enc w base spare held fuel cs x hx =>
 let ⟨a, h1, h2⟩ := h H enc w base spare held fuel cs x hx
 ⟨a, hR _ _ _ h1, hB _ h2⟩
theorem Opens.slv {α : Type} {R : FH → List Value → α → Prop} {B : α → Prop} (h : Opens P t R B) (ht : P.underlying t = some (.slice e)) {H : Type} {enc : TypeId × Value → H} {w : World} {r : Reach} {base b0 : Nat} {spare : Nat → Bool} {held : Bool} {v : Value} {d : DataW H} {ps : List MemPlace}
  (hv : Value.okWide P w r b0 t v) (ht' : DataW.Trod enc P w base spare held t v d ps) : ∃ a, R (fhOf w) [v] a ∧ B a := by
 obtain ⟨a, l, c, rfl⟩ := okWide_slice ht hv
 obtain ⟨n, hn⟩ := ht'
 exact h H enc w base spare held n _ _ hn
theorem trodAll_below {H : Type} {enc : TypeId × Value → H} (hl : laidOutB P = true) {W W' : World} (hb : Below W.heap.size W W') {sp : Nat → Bool} :
  ∀ {ts : List TypeId} {vs : List Value} {ds : List (DataW H)} {ps : List MemPlace}, (ts.all fun t => P.readableRec t && decide (t < P.types.size)) = true → DataW.TrodAll enc P W 0 (fun _ => true) true ts vs ds ps →
   (∀ x ∈ ps, x.block < W.heap.size) → (∀ p ∈ ps, sp p.block = true) → DataW.TrodAll enc P W' 0 sp true ts vs ds ps
 | [], [], [], _, _, h, _, _ => h
 | [], _ :: _, _, _, _, h, _, _ => by cases h
 | [], [], _ :: _, _, _, h, _, _ => by cases h
 | _ :: _, [], _, _, _, h, _, _ => by cases h
 | _ :: _, _ :: _, [], _, _, h, _, _ => by cases h
 | t :: ts, v :: vs, d :: ds, ps, hr, h, hlt, hsp => by
  obtain ⟨p, q, h1, h2, rfl⟩ := h
  simp only [List.all_cons, Bool.and_eq_true, decide_eq_true_eq] at hr
  exact ⟨p, q, Go.WideElems.Trod_stays hl hr.1.1 hr.1.2 h1 (fun x hx => hb.same (hlt x (List.mem_append_left _ hx))) (fun x hx => hsp x (List.mem_append_left _ hx)),
   trodAll_below hl hb hr.2 h2 (fun x hx => hlt x (List.mem_append_right _ hx)) (fun x hx => hsp x (List.mem_append_right _ hx)), rfl⟩
theorem post_of_law {H : Type} {enc : TypeId × Value → H} {f : Func} {s : ChangeSpec} {apart fresh handsOn : Bool} {W W' : World} {args : Array Value} {ds gs : List (DataW H)} {before : List MemPlace} {tb : TypeId}
  (hs : s.vars = []) (hfn : s.fn H (ds ++ gs) = { results := [.lit (.bool true)], args := ds }) (hl : laidOutB P = true) (hr : (f.params.toList.all fun t => P.readableRec t && decide (t < P.types.size)) = true)
  (hres : f.resultTypes = #[tb]) (htb : P.underlying tb = some .bool) (hW : DataW.Whole enc P f.params.toList s.vars apart W args.toList ds gs before) (hb : Below W.heap.size W W') : s.post enc P f apart fresh handsOn false W args (.bool true) W' := by
 have hlt := hW.lt
 have hW' := hW
 obtain ⟨p, q, hA, hV, rfl, _, _⟩ := hW
 rw [hs] at hV
 obtain ⟨rfl, rfl⟩ := trodVars_none hV
 refine ⟨ds, [], p ++ [], [], p, [], hW', ?_, ?_, ?_, ?_, fun h => by cases h⟩
 ·rw [hfn, hres]
  exact trodAll_cons_mk (shut_bool htb _) trodAll_mk0
 ·rw [hfn]
  exact trodAll_below hl hb hr hA (fun x hx => hlt x (by simpa using hx)) (fun x hx => by simpa using hlt x (by simpa using hx))
 ·rw [hfn, hs]; rfl
 ·exact World.keptBut_mono (fun x hx => ⟨hx, .inr (.inl (by simpa using hx))⟩) (hb.frame (· ∈ p ++ []))
theorem Does.atTop {f : FuncId} {args : List Value} {W : World} (h : Does P f args (fhOf W) [] fun v _ _ => v = .bool true) : Calls P f args.toArray W fun e W' => e = .returned (.bool true) ∧ Below W.heap.size W W' :=
 (h W (holds_fhOf W)).mono fun _ _ ⟨_, _, _, he, le, H, hv⟩ => ⟨by rw [he, hv], below_of_holds le H⟩
end
section
variable {P : Program} {t e : TypeId}
end
open Go Go.ChangeShapes Go.WideShapes Go.ChangeAt
section
variable {P : Program} {t e : TypeId}
theorem opens_byte (ht : P.underlying e = some (.int .u8)) : Opens P e ByteE (fun _ => True) := by
 intro H enc w base spare held fuel cs x h
 obtain ⟨n, rfl, _, hw⟩ := DataW.trod_int ht h
 refine ⟨n, ⟨rfl, ?_⟩, trivial⟩
 simp [Lit.wf, IntKind.min, IntKind.max, IntKind.signed, IntKind.bits] at hw
 omega
theorem opens_bytes (ht : P.underlying t = some (.slice e)) (he : P.underlying e = some (.int .u8)) (hc : P.cellsOf e = 1) :
  Opens P t (fun F cs (xs : List Int) => ∃ v, cs = [v] ∧ BytesF F v xs) (fun xs => xs.length ≤ 9223372036854775807) :=
 (opens_slice 0 ht hc (opens_byte he)).mono (fun _ _ _ h => h) (fun _ h => h.1)
end
end Go.Proofs.YthkebalahfalhaaGreat.X
