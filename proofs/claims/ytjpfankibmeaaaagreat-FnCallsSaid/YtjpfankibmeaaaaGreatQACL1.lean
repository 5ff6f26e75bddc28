/-
  What the walks rest on (part 2).
-/
import Derived.Orders
import Derived.Tactics
import Derived.Below
import Derived.Laws.CopyRow
import Derived.Laws.AppendOwn
import Derived.IntWalk
import Derived.Lib.AppendZeros
import Derived.OrdersIn
import Derived.TacticsIn
import Derived.RangeFuncSeq
import Derived.RangeFuncRecord
import Derived.RangeFuncLeaves
import Derived.Scope
import Derived.Laws.Append
import Derived.WalkKit
import Derived.ProofKit
import Derived.OpenShut
import Derived.JoinedCond
import Derived.Carry
import Derived.Deep.Slices
import Derived.Test.YtjpfankibmeaaaaGreatQACL0
set_option linter.unusedSimpArgs false
set_option linter.unusedVariables false
namespace Go.Proofs.YtjpfankibmeaaaaGreat.X
open Go
theorem Rd.all {F : FH} {L : List HP} {v : Value} {k : Nat} {es : List Value} (h : ∀ j u, es[j]? = some u → Rd F L (elemA v (k + j)) u) : ∀ i u, es[i]? = some u → Rd F L ((elemA v k).add i) u := by
 intro i u hu
 rw [elemA_add]
 exact h i u hu
theorem Rd.slG {F : FH} {L : List HP} {E s n k : Nat} {v : Value} {cs es vs : List Value} (A : List HP) {B : List HP} (hL : L = A ++ slH E s v n cs :: B) (o : Nat) (h : ∀ j u, es[j]? = some u → cs[k + j]? = some u) (e : (es.drop o).take vs.length = vs) : ∀ i u, vs[i]? = some u → Rd F L ((elemA v (k + o)).add i) u := by
 intro i u hu
 rw [elemA_add, Nat.add_assoc]
 refine Rd.sl A hL (h (o + i) u ?_)
 rw [← e, List.getElem?_take] at hu
 split at hu
 ·rwa [List.getElem?_drop] at hu
 ·cases hu
abbrev LineT := Int × List (List Int) × List Int
def LineF (F : FH) (es : List Value) (x : LineT) : Prop := ∃ a1 a2, es = [.int .i64 x.1, a1, a2] ∧ RowsF F a1 x.2.1 ∧ IntsF F a2 x.2.2
theorem LineF.mono {F F' : FH} (le : F ≤ F') (es : List Value) (x : LineT) (h : LineF F es x) : LineF F' es x := by
 obtain ⟨a1, a2, e, h1, h2⟩ := h
 exact ⟨a1, a2, e, h1.mono le, h2.mono le⟩
def LinesF : FH → Value → List LineT → Prop := SlOf 3 LineF (0, [], [])
theorem LinesF.mono {F F' : FH} {v : Value} {xs : List LineT} (h : LinesF F v xs) (le : F ≤ F') : LinesF F' v xs := SlOf.mono (LineF.mono le) h le
theorem LinesF.slv {F : FH} {L : List HP} {v : Value} {xs : List LineT} (h : LinesF F v xs) : SlV F L v xs.length := SlOf.slv h
theorem LinesF.isSl {F : FH} {v : Value} {xs : List LineT} (h : LinesF F v xs) : IsSl v := by obtain ⟨_, h, _⟩ := h; exact h.isSl
theorem LinesF.rd {F : FH} {v : Value} {xs : List LineT} (h : LinesF F v xs) {i : Nat} (hi : i < xs.length) : ∃ a1 a2, RowsF F a1 (xs.getD i (0, [], [])).2.1 ∧ IntsF F a2 (xs.getD i (0, [], [])).2.2 ∧ (∀ L j u, ([.int .i64 (xs.getD i (0, [], [])).1, a1, a2] : List Value)[j]? = some u → Rd F L (elemA v (i * 3 + j)) u) ∧ True := by
 obtain ⟨es, hl, ⟨a1, a2, rfl, h1, h2⟩, hr⟩ := SlOf.get h hi
 exact ⟨a1, a2, h1, h2, hr, trivial⟩
def LinesC (F : FH) (cs : List Value) (xs : List LineT) : Prop := CO 3 LineF (0, [], []) F cs xs
theorem LinesC.mono {F F' : FH} {cs : List Value} {xs : List LineT} (h : LinesC F cs xs) (le : F ≤ F') : LinesC F' cs xs := CO.mono (LineF.mono le) h
theorem LinesC.snoc {F : FH} {cs : List Value} {xs : List LineT} {a1 a2 : Value} {y0 : Int} {y1 : List (List Int)} {y2 : List Int} (h : LinesC F cs xs) (h1 : RowsF F a1 y1) (h2 : IntsF F a2 y2) : LinesC F (cs ++ [.int .i64 y0, a1, a2]) (xs ++ [(y0, y1, y2)]) := CO.snoc h rfl ⟨a1, a2, rfl, h1, h2⟩
theorem LinesC.get {F : FH} {cs : List Value} {xs : List LineT} (h : LinesC F cs xs) {i : Nat} (hi : i < xs.length) : ∃ a1 a2, RowsF F a1 (xs.getD i (0, [], [])).2.1 ∧ IntsF F a2 (xs.getD i (0, [], [])).2.2 ∧ (∀ j u, ([.int .i64 (xs.getD i (0, [], [])).1, a1, a2] : List Value)[j]? = some u → cs[i * 3 + j]? = some u) := by
 obtain ⟨es, hl, ⟨a1, a2, rfl, h1, h2⟩, hr⟩ := CO.get h hi
 exact ⟨a1, a2, h1, h2, hr⟩
abbrev linesH (E : TypeId) (F : FH) (v : Value) (xs : List LineT) : HP := coH 3 LineF (0, [], []) E F v xs
section
variable {F F' : FH} {A B M : List HP} {h : HP}
end
theorem yielded_undef {n : Nat} {a : Act} {ρ : Env} (r : Rep n a ρ) {ops : Array Oper} {g : Nat} {t : Tmp} (ht : (ops[g]?).bind (·.dst) = some t) (hv : ρ t = undef) : yielded ops a.tmps g = none := by
 unfold yielded
 rw [ht]
 have := r.get t
 rw [hv, Array.getD_eq_getD_getElem?] at this
 cases hx : a.tmps[t]? with
 | none => simp [hx]
 | some x => rw [hx] at this; simp at this; subst this; simp [hx, undef]
theorem XL.noU {P : Program} {n : Nat} {ops : Array Oper} {l : List Oper} {Q : QX} {ρ : Env} {F : FH} {L : List HP}
  {d : Option Tmp} {op : Op} {ty : TypeId} {pos : String} {af : Array Edge} {g : Nat} {b : Bool} {t : Tmp} (ht : (ops[g]?).bind (·.dst) = some t) (hv : ρ t = undef)
  (h : XL P n ops l Q (putE ρ d undef) F L) : XL P n ops (⟨d, op, ty, pos, af, some (g, b)⟩ :: l) Q ρ F L := by
 intro ok a w r H
 simp only [opsOk, List.all_cons, Bool.and_eq_true] at ok
 unfold wpList
 rw [if_neg (by simp [Region.wanted, yielded_undef r ht hv])]
 exact h ok.2 _ _ (r.put ok.1 undef) H
section
variable {F F' G F1 F2 : FH} {D D' : HP} {L M : List HP} {P : Program} {o : Oper} {ρ : Env} {K : Post} {e E : TypeId}
theorem Fresh.perm {A B : List HP} (h : Fresh F F' (star A)) (p : A.Perm B) : Fresh F F' (star B) := by
 obtain ⟨m, hm, nd, hp⟩ := h
 obtain ⟨l, hl, pl⟩ := star_perm p m hm
 exact ⟨l, hl, ((pl.map Prod.fst).nodup_iff).2 nd, fun q hq => hp q (pl.mem_iff.1 hq)⟩
theorem slH.isSl {s n : Nat} {v : Value} {cs : List Value} {l : OH} (h : slH E s v n cs l) : IsSl v := by
 rcases h.2 with ⟨b, rfl, _⟩ | ⟨b, c, sp, rfl, _⟩
 ·exact ⟨_, _, _, rfl⟩
 ·exact ⟨_, _, _, rfl⟩
theorem Holds.openD {α : Type} {s : Nat} {R : List Value → α → List HP → Prop} {v : Value} {xs : List α} {A B : List HP} {w : World} (H : Holds F (A ++ deepH s R E v xs :: B) w) :
  ∃ cs Ls F2, F ≤ F2 ∧ IsSl v ∧ DeepL s R cs xs Ls ∧ Fresh F F2 (star Ls) ∧ Holds F2 (A ++ slH E s v xs.length cs :: B) w := by
 obtain ⟨h1, h2, h3, h4, l, hl, nd, hp⟩ := H
 obtain ⟨a, m, c, ha, ⟨cs, Ls, hd, x, y, hx, hy, rfl⟩, hc, rfl⟩ := star_mid.1 hl
 have H2 : Holds F ((A ++ [slH E s v xs.length cs]) ++ star Ls :: B) w := ⟨h1, h2, h3, h4, (a ++ x) ++ (y ++ c), star_append.2 ⟨a ++ x, y ++ c, star_append.2 ⟨a, x, ha, ⟨x, [], hx, rfl, by simp⟩, rfl⟩, ⟨y, c, hy, hc, rfl⟩, rfl⟩, by simpa using nd, fun p hq => hp p (by simpa using hq)⟩
 obtain ⟨F2, le, hz, H3, _⟩ := H2.lendF
 exact ⟨cs, Ls, F2, le, hx.isSl, hd, hz, by simpa using H3⟩
theorem X.openD {n : Nat} {c : Code} {Q : QX} {α : Type} {s : Nat} {R : List Value → α → List HP → Prop} {v : Value} {xs : List α} (A B : List HP) (hL : L = A ++ deepH s R E v xs :: B)
  (H : ∀ cs Ls F2, F ≤ F2 → IsSl v → DeepL s R cs xs Ls → Fresh F F2 (star Ls) → X P n c Q ρ F2 (A ++ slH E s v xs.length cs :: B)) : X P n c Q ρ F L := by
 subst hL
 intro ok a w r Hw
 obtain ⟨cs, Ls, F2, le, hs, hd, hz, H'⟩ := Hw.openD
 exact Code.wp_mono (fun _ _ _ q => low_le le q) (H cs Ls F2 le hs hd hz ok a w r H')
end
section
variable {F F' G : FH} {e E : TypeId} {v : Value}
end
section
variable {P : Program} {ρ : Env} {F : FH} {L : List HP} {K : Post} {d : Option Tmp} {ty : TypeId} {pos : String} {af : Array Edge} {g : Option (Nat × Bool)}
theorem XOp.remC {x y : Operand} {t u : TypeId} {k : IntKind} {a b : Int} (hx : evO ρ x = .int k a) (hy : evO ρ y = .int k b) (h0 : 0 ≤ a) (hb : b ≠ 0) (kk : K (.int k (a % b)) F L) : XOp P ⟨d, .binOp .rem t x y u, ty, pos, af, g⟩ ρ F L K :=
 XOp.value (fun w _ => by simp [execOp, hx, hy, eqGuard, binOp, Op.intDiv, hb, IntWalk.rem_in _ _ h0]) kk
end
section
variable {P : Program} {fn : Func} {Q : Post} {ρ : Env} {F F0 : FH} {L : List HP}
theorem Does.at {f : FuncId} {args : List Value} {Q : Value → FH → Prop} {h : HP} (A : List HP) {B : List HP} (H : Does P f args F (h :: (A ++ B)) fun v F' L' => Q v F' ∧ h :: (A ++ B) = L') : Does P f args F (A ++ h :: B) fun v F' L' => Q v F' ∧ A ++ h :: B = L' := fun w Hw =>
 (H w (Sub.front.holds Hw)).mono fun _ _ ⟨v, F', L', he, le, H', hq, hl⟩ => ⟨v, F', _, he, le, Sub.back.holds (hl ▸ H'), hq, rfl⟩
end
section
variable {P : Program} {ρ : Env} {F : FH} {L : List HP} {K : Post} {d : Option Tmp} {ty : TypeId} {pos : String} {af : Array Edge} {g : Option (Nat × Bool)}
end
section
variable {P : Program} {ρ : Env} {F : FH} {L : List HP} {K : Post} {d : Option Tmp} {ty : TypeId} {pos : String} {af : Array Edge} {g : Option (Nat × Bool)}
theorem XOp.addW {x y : Operand} {t u : TypeId} {k : IntKind} {a b : Int} (hx : evO ρ x = .int k a) (hy : evO ρ y = .int k b) (kk : ∀ r, K (.int k r) F L) : XOp P ⟨d, .binOp .add t x y u, ty, pos, af, g⟩ ρ F L K :=
 XOp.value (v := .int k (k.wrap (a + b))) (fun w _ => by simp [execOp, hx, hy, eqGuard, binOp, Op.intArith]) (kk _)
theorem XOp.mulW {x y : Operand} {t u : TypeId} {k : IntKind} {a b : Int} (hx : evO ρ x = .int k a) (hy : evO ρ y = .int k b) (kk : ∀ r, K (.int k r) F L) : XOp P ⟨d, .binOp .mul t x y u, ty, pos, af, g⟩ ρ F L K :=
 XOp.value (v := .int k (k.wrap (a * b))) (fun w _ => by simp [execOp, hx, hy, eqGuard, binOp, Op.intArith]) (kk _)
theorem XOp.xorW {x y : Operand} {t u : TypeId} {k : IntKind} {a b : Int} (hx : evO ρ x = .int k a) (hy : evO ρ y = .int k b) (kk : ∀ r, K (.int k r) F L) : XOp P ⟨d, .binOp .xor t x y u, ty, pos, af, g⟩ ρ F L K :=
 XOp.value (v := .int k (k.wrap (BitVec.ofInt k.bits a ^^^ BitVec.ofInt k.bits b).toNat)) (fun w _ => by simp [execOp, hx, hy, eqGuard, binOp, Op.intBits]) (kk _)
theorem XOp.shrW {x y : Operand} {t u : TypeId} {k k' : IntKind} {a b : Int} (hx : evO ρ x = .int k a) (hy : evO ρ y = .int k' b) (hb : 0 ≤ b) (kk : ∀ r, K (.int k r) F L) : XOp P ⟨d, .binOp .shr t x y u, ty, pos, af, g⟩ ρ F L K :=
 XOp.value (v := .int k (a.fdiv (2 ^ min b.toNat k.bits))) (fun w _ => by simp [execOp, hx, hy, eqGuard, binOp, Op.shift, show ¬ b < 0 by omega]) (kk _)
theorem and_range {k : IntKind} (hk : k.bits = 64) {a b : Int} (hb : 0 ≤ b ∧ b < 4611686018427387904) : 0 ≤ k.wrap (BitVec.ofInt k.bits a &&& BitVec.ofInt k.bits b).toNat ∧ k.wrap (BitVec.ofInt k.bits a &&& BitVec.ofInt k.bits b).toNat ≤ b := by
 have h1 : ((BitVec.ofInt k.bits a &&& BitVec.ofInt k.bits b).toNat : Int) ≤ b := by
  rw [BitVec.toNat_and]
  have h2 : (BitVec.ofInt k.bits a).toNat &&& (BitVec.ofInt k.bits b).toNat ≤ (BitVec.ofInt k.bits b).toNat := Nat.and_le_right
  have h3 : ((BitVec.ofInt k.bits b).toNat : Int) = b := by
   rw [BitVec.toNat_ofInt, hk]
   have : b % ((2 ^ 64 : Nat) : Int) = b := Int.emod_eq_of_lt hb.1 (by omega)
   rw [this]; omega
  omega
 have h0 : (0 : Int) ≤ ((BitVec.ofInt k.bits a &&& BitVec.ofInt k.bits b).toNat : Int) := Int.natCast_nonneg _
 generalize ((BitVec.ofInt k.bits a &&& BitVec.ofInt k.bits b).toNat : Int) = r at h0 h1
 have e : k.wrap r = r := by
  cases k <;> first | exact IntWalk.i64_in _ ⟨by omega, by omega⟩ | exact IntWalk.u64_in _ ⟨by omega, by omega⟩ | (exfalso; revert hk; decide)
 rw [e]
 exact ⟨h0, h1⟩
theorem XOp.andW {x y : Operand} {t u : TypeId} {k : IntKind} {a b : Int} (hk : k.bits = 64) (hx : evO ρ x = .int k a) (hy : evO ρ y = .int k b) (hb : 0 ≤ b ∧ b < 4611686018427387904) (kk : ∀ r, 0 ≤ r ∧ r ≤ b → K (.int k r) F L) : XOp P ⟨d, .binOp .and t x y u, ty, pos, af, g⟩ ρ F L K :=
 XOp.value (v := .int k (k.wrap (BitVec.ofInt k.bits a &&& BitVec.ofInt k.bits b).toNat)) (fun w _ => by simp [execOp, hx, hy, eqGuard, binOp, Op.intBits]) (kk _ (and_range hk hb))
theorem XOp.remV {x y : Operand} {t u : TypeId} {k : IntKind} {a b : Int} (hx : evO ρ x = .int k a) (hy : evO ρ y = .int k b) (h0 : 0 ≤ a) (hb : 0 < b) (kk : ∀ r, 0 ≤ r ∧ r < b → K (.int k r) F L) : XOp P ⟨d, .binOp .rem t x y u, ty, pos, af, g⟩ ρ F L K :=
 XOp.remC hx hy h0 (by omega) (kk _ ⟨Int.emod_nonneg a (by omega), Int.emod_lt_of_pos a hb⟩)
end
def ByteE (F : FH) (es : List Value) (x : Int) : Prop := es = [.int .u8 x] ∧ 0 ≤ x ∧ x ≤ 255
theorem ByteE.mono {F F' : FH} (es : List Value) (x : Int) (h : ByteE F es x) : ByteE F' es x := h
def BytesF : FH → Value → List Int → Prop := SlOf 1 ByteE 0
theorem BytesF.mono {F F' : FH} {v : Value} {xs : List Int} (h : BytesF F v xs) (le : F ≤ F') : BytesF F' v xs := SlOf.mono ByteE.mono h le
theorem BytesF.slv {F : FH} {L : List HP} {v : Value} {xs : List Int} (h : BytesF F v xs) : SlV F L v xs.length := SlOf.slv h
theorem BytesF.isSl {F : FH} {v : Value} {xs : List Int} (h : BytesF F v xs) : IsSl v := by obtain ⟨_, h, _⟩ := h; exact h.isSl
theorem BytesF.rd {F : FH} {v : Value} {xs : List Int} (h : BytesF F v xs) {i : Nat} (hi : i < xs.length) : ∀ L, Rd F L (elemA v i) (.int .u8 (xs.getD i 0)) := by
 obtain ⟨es, hl, ⟨rfl, _⟩, hr⟩ := SlOf.get h hi
 intro L
 have := hr L 0 _ rfl
 simpa using this
theorem BytesF.range {F : FH} {v : Value} {xs : List Int} (h : BytesF F v xs) {i : Nat} (hi : i < xs.length) : 0 ≤ xs.getD i 0 ∧ xs.getD i 0 ≤ 255 := by
 obtain ⟨es, hl, ⟨rfl, h2⟩, hr⟩ := SlOf.get h hi
 exact h2
def curH (k : IntKind) (E : TypeId) (b : Nat) (bv : Value) (n : Nat) : HP := fun l => ∃ i h : Int, 0 ≤ i ∧ i ≤ n ∧ cellsH b [bv, .int .i64 i, .int k h] E l
theorem curH.of {k : IntKind} {E : TypeId} {b : Nat} {bv : Value} {n : Nat} {i h : Int} (h0 : 0 ≤ i) (h1 : i ≤ n) : ∀ l, cellsH b [bv, .int .i64 i, .int k h] E l → curH k E b bv n l := fun l hl => ⟨i, h, h0, h1, hl⟩
theorem Holds.uncur {k : IntKind} {E : TypeId} {b : Nat} {bv : Value} {n : Nat} {F : FH} {L : List HP} {w : World} (H : Holds F (curH k E b bv n :: L) w) : ∃ i h : Int, 0 ≤ i ∧ i ≤ n ∧ Holds F (cellsH b [bv, .int .i64 i, .int k h] E :: L) w := by
 obtain ⟨h1, h2, h3, h4, l, hl, nd, hp⟩ := H
 obtain ⟨a, c, ⟨i, h, q1, q2, hm⟩, hc, rfl⟩ := hl
 exact ⟨i, h, q1, q2, h1, h2, h3, h4, _, ⟨a, c, hm, hc, rfl⟩, nd, hp⟩
theorem Does.cur {P : Program} {f : FuncId} {args : List Value} {k : IntKind} {E : TypeId} {b : Nat} {bv : Value} {n : Nat} {F : FH} {L : List HP} {Q : Value → FH → Prop}
  (H : ∀ i h : Int, 0 ≤ i → i ≤ n → Does P f args F (cellsH b [bv, .int .i64 i, .int k h] E :: L) fun v F' L' => Q v F' ∧ ∃ i' h' : Int, 0 ≤ i' ∧ i' ≤ n ∧ cellsH b [bv, .int .i64 i', .int k h'] E :: L = L') :
  Does P f args F (curH k E b bv n :: L) fun v F' L' => Q v F' ∧ curH k E b bv n :: L = L' := by
 intro w Hw
 obtain ⟨i, h, q1, q2, Hw'⟩ := Hw.uncur
 refine (H i h q1 q2 w Hw').mono ?_
 rintro e w' ⟨v, F', L', he, le, H', hq, i', h', q3, q4, rfl⟩
 exact ⟨v, F', _, he, le, (Sub.keep (curH.of q3 q4) (Sub.refl _)).holds H', hq, rfl⟩
def intAt : Value → Int
 | .int _ n => n
 | _ => 0
theorem Holds.ex {ι : Type} {h : HP} {k : ι → HP} {p : ι → Prop} {F : FH} {A B : List HP} {w : World} (e : ∀ l, h l → ∃ i, p i ∧ k i l) (H : Holds F (A ++ h :: B) w) : ∃ i, p i ∧ Holds F (A ++ k i :: B) w := by
 obtain ⟨h1, h2, h3, h4, l, hl, nd, hp⟩ := H
 obtain ⟨a, m, c, ha, hm, hc, rfl⟩ := star_mid.1 hl
 obtain ⟨i, hi, hk⟩ := e m hm
 exact ⟨i, hi, h1, h2, h3, h4, _, star_mid.2 ⟨a, m, c, ha, hk, hc, rfl⟩, nd, hp⟩
def drawnH (e : TypeId) (v : Value) (Q : List Int → Prop) : HP := fun l => ∃ t, Q t ∧ intsH e v t l
theorem drawnH.of {e : TypeId} {v : Value} {Q : List Int → Prop} {t : List Int} (h : Q t) : ∀ l, intsH e v t l → drawnH e v Q l := fun l hl => ⟨t, h, hl⟩
section
variable {P : Program} {n : Nat} {ops : Array Oper} {l : List Oper} {Q : QX} {ρ : Env} {F : FH} {L : List HP} {c : Code}
theorem XL.undraw {e : TypeId} {v : Value} {R : List Int → Prop} (A : List HP) {B : List HP} (hL : L = A ++ drawnH e v R :: B) (h : ∀ t, R t → XL P n ops l Q ρ F (A ++ intsH e v t :: B)) : XL P n ops l Q ρ F L := by
 subst hL
 intro ok a w r H
 obtain ⟨t, ht, H'⟩ := Holds.ex (fun _ h => h) H
 exact h t ht ok a w r H'
end
def SomesF (F : FH) (v : Value) (Q : List Int → Prop) : Prop := ∃ t, IntsF F v t ∧ Q t
theorem SomesF.mono {F F' : FH} {v : Value} {Q : List Int → Prop} (h : SomesF F v Q) (le : F ≤ F') : SomesF F' v Q := let ⟨t, h1, h2⟩ := h; ⟨t, h1.mono le, h2⟩
theorem Does.atO {P : Program} {f : FuncId} {args : List Value} {F : FH} {ι : Type} {O : ι → HP} {Q : ι → Value → FH → Prop} {h : HP} (A : List HP) {B : List HP} (H : Does P f args F (h :: (A ++ B)) fun v F' L' => ∃ i, Q i v F' ∧ O i :: h :: (A ++ B) = L') :
  Does P f args F (A ++ h :: B) fun v F' L' => ∃ i, Q i v F' ∧ O i :: (A ++ h :: B) = L' := fun w Hw =>
 (H w (Sub.front.holds Hw)).mono fun _ _ ⟨v, F', L', he, le, H', i, hq, hl⟩ => ⟨v, F', _, he, le, (Sub.cons Sub.back).holds (hl ▸ H'), i, hq, rfl⟩
section
variable {P : Program} {ρ : Env} {F : FH} {L : List HP} {K : Post} {d : Option Tmp} {ty : TypeId} {pos : String} {af : Array Edge} {g : Option (Nat × Bool)}
theorem XOp.sliceC {α : Type} {R : FH → List Value → α → Prop} {dd : α} {x : Operand} {lo hi : Option Operand} {t e : TypeId} {s : Nat} {v : Value} {xs : List α} (l h : Nat)
  (hu : ∀ w, (underlying t).run P w = .ok (.slice e) w) (hs : ∀ w, (sizeOf e).run P w = .ok s w) (hx : evO ρ x = v) (hv : SlOf s R dd F v xs) (hlo : OptIs ρ lo l 0) (hhi : OptIs ρ hi h xs.length) (hlh : l ≤ h) (hhn : h ≤ xs.length)
  (k : ∀ v', SlOf s R dd F v' ((xs.drop l).take (h - l)) → K v' F L) : XOp P ⟨d, .slice t x lo hi none, ty, pos, af, g⟩ ρ F L K := by
 obtain ⟨cs, ha, hr⟩ := hv
 refine XOp.sliceF hu hs hx ha hlo hhi hlh hhn fun v' h1 _ => k v' ⟨(cs.drop (l * s)).take ((h - l) * s), ?_, fun i hi' => ?_⟩
 ·have e1 : ((xs.drop l).take (h - l)).length = h - l := by rw [List.length_take, List.length_drop]; omega
  rw [e1]; exact h1
 ·have hi2 : i < h - l := by rw [List.length_take, List.length_drop] at hi'; omega
  obtain ⟨es, q1, q2, q3⟩ := hr (l + i) (by omega)
  refine ⟨es, q1, ?_, ?_⟩
  ·have hm : (i + 1) * s ≤ (h - l) * s := Nat.mul_le_mul_right s (by omega)
   rw [Nat.succ_mul] at hm
   rw [List.drop_take, List.take_take, Nat.min_eq_left (by omega), List.drop_drop, ← Nat.add_mul]
   exact q2
  ·have e2 : ((xs.drop l).take (h - l)).getD i dd = xs.getD (l + i) dd := by
    simp only [List.getD_eq_getElem?_getD]
    rw [List.getElem?_take, if_pos hi2, List.getElem?_drop]
   rw [e2]; exact q3
end
end Go.Proofs.YtjpfankibmeaaaaGreat.X
namespace Go.Proofs.YtjpfankibmeaaaaGreat.M
def Forest (ar l : List Int) (n : Nat) : Prop := endGo ar l n = some l.length
theorem endGo_more {ar : List Int} : ∀ {a b : List Int} {n e : Nat}, endGo ar a n = some e → endGo ar (a ++ b) n = some e
 | a, b, 0, e, h => by simp [endGo] at h; subst h; simp [endGo]
 | [], b, n + 1, e, h => by simp [endGo] at h
 | x :: a, b, n + 1, e, h => by
  simp only [endGo, List.cons_append] at h ⊢
  split at h
  ·rename_i hx
   rw [if_pos hx]
   cases hr : endGo ar a (n + (arity ar x).toNat) with
   | none => rw [hr] at h; simp at h
   | some q => rw [hr] at h; rw [endGo_more hr]; exact h
  ·cases h
theorem Forest.append {ar a b : List Int} {n m : Nat} (h : Forest ar a n) (k : Forest ar b m) : Forest ar (a ++ b) (n + m) := by
 unfold Forest at *
 have h1 := endGo_more (b := b) h
 have := endGo_join (m := m) (e2 := b.length) h1 (by rw [List.drop_left]; exact k)
 rw [this, List.length_append]
theorem Forest.cons {ar r : List Int} {x : Int} {n : Nat} (hx : x < ar.length) : Forest ar (x :: r) (n + 1) ↔ Forest ar r (n + (arity ar x).toNat) := by
 unfold Forest
 simp only [endGo, if_pos hx, List.length_cons]
 cases endGo ar r (n + (arity ar x).toNat) <;> simp
theorem Forest.lt {ar r : List Int} {x : Int} {n : Nat} (h : Forest ar (x :: r) n) : ∃ m, n = m + 1 ∧ x < ar.length := by
 unfold Forest at h
 cases n with
 | zero => simp [endGo] at h
 | succ m =>
  refine ⟨m, rfl, ?_⟩
  simp only [endGo] at h
  split at h
  ·assumption
  ·cases h
theorem arity_var {ar : List Int} {x : Int} (h : x < 0) : arity ar x = 0 := by simp [arity]; omega
theorem Forest.fill {ar : List Int} {s : RowL} (hs : ∀ x : Int, x < 0 → Forest ar (lk s x) 1) : ∀ (t : List Int) (n : Nat), Forest ar t n → Forest ar (t.flatMap (lk s)) n
 | [], n, h => h
 | x :: t, n, h => by
  obtain ⟨m, rfl, hx⟩ := h.lt
  have h1 := (Forest.cons hx).1 h
  rw [List.flatMap_cons]
  by_cases h0 : x < 0
  ·rw [arity_var h0] at h1
   rw [Nat.add_comm]
   exact (hs x h0).append (Forest.fill hs t m (by simpa using h1))
  ·rw [lk_sym (by omega)]
   exact (Forest.cons hx).2 (Forest.fill hs t _ h1)
theorem fillGo_flat {s : RowL} : ∀ (t acc u : List Int), fillGo s t acc = some u → u = acc ++ t.flatMap (lk s)
 | [], acc, u, h => by simp [fillGo] at h; simp [h]
 | n :: t, acc, u, h => by
  rw [fillGo] at h
  split at h
  ·cases h
  ·rw [fillGo_flat t _ u h, List.flatMap_cons, List.append_assoc]
theorem fillL_flat {s : RowL} {t u : List Int} (h : fillL s t = some u) : u = t.flatMap (lk s) := by
 have := fillGo_flat t [] u h
 simpa using this
def RowsOk (ar : List Int) (s : RowL) : Prop := ∀ i, s.getD i [] = [] ∨ termOk ar (s.getD i []) = true
theorem lk_forest {ar : List Int} {s : RowL} (h : RowsOk ar s) (hs : sigOk ar = true) (x : Int) (hx : x < 0) : Forest ar (lk s x) 1 := by
 unfold lk
 rw [if_neg (by omega)]
 split
 ·have : Forest ar [x] (0 + 1) := (Forest.cons (by have := sigOk_spec hs; omega)).2 (by rw [arity_var hx]; rfl)
  exact this
 ·rename_i e
  exact (termOk_iff.1 ((h (varIx x)).resolve_left e)).whole
theorem lk_ge {ar : List Int} {s : RowL} (h : RowsOk ar s) {x : Int} (hx : -24 ≤ x) : ∀ y ∈ lk s x, -24 ≤ y := by
 intro y hy
 unfold lk at hy
 split at hy
 ·simp at hy; omega
 ·split at hy
  ·simp at hy; omega
  ·rename_i e; exact (termOk_iff.1 ((h (varIx x)).resolve_left e)).ge y hy
theorem fill_ok {ar : List Int} {s : RowL} {t u : List Int} (h : RowsOk ar s) (ht : termOk ar t = true) (hu : fillL s t = some u) : termOk ar u = true := by
 have hT := termOk_iff.1 ht
 have hl := fillL_len hu
 have hf := Forest.fill (lk_forest h hT.sig) t 1 hT.whole
 rw [← fillL_flat hu] at hf
 refine termOk_iff.2 ⟨hT.sig, by have := hT.pos; omega, hl.1, ?_, hf⟩
 rw [fillL_flat hu]
 intro y hy
 obtain ⟨x, hx, hy⟩ := List.mem_flatMap.1 hy
 exact lk_ge h (hT.ge x hx) y hy
theorem mGo_ok {ar t : List Int} (ht : termOk ar t = true) : ∀ (p : List Int) (i : Nat) (b r : RowL), mGo ar t p i b = some r → RowsOk ar b → RowsOk ar r
 | [], i, b, r, h, hb => by simp [mGo] at h; subst h; exact hb
 | n :: p, i, b, r, h, hb => by
  rw [mGo] at h
  split at h
  ·cases h
  ·rename_i hi
   split at h
   ·split at h
    ·exact mGo_ok ht p _ _ _ h hb
    ·cases h
   ·split at h
    ·refine mGo_ok ht p _ _ _ h (fun k => ?_)
     by_cases e : varIx n = k
     ·subst e
      rcases Nat.lt_or_ge (varIx n) b.length with hl | hl
      ·have : (b.set (varIx n) (sub ar t i)).getD (varIx n) [] = sub ar t i := by simp [List.getD_eq_getElem?_getD, hl]
       rw [this]; exact .inr (sub_ok ht (by omega))
      ·rw [List.set_eq_of_length_le hl]; exact hb _
     ·rw [List.getD_eq_getElem?_getD, List.getElem?_set_ne e, ← List.getD_eq_getElem?_getD]; exact hb k
    ·split at h
     ·exact mGo_ok ht p _ _ _ h hb
     ·cases h
theorem matchB_ok {ar p t : List Int} {b : RowL} (ht : termOk ar t = true) (h : matchB ar p t = some b) : RowsOk ar b := by
 refine mGo_ok ht p 0 _ b h (fun k => .inl ?_)
 rw [List.getD_eq_getElem?_getD, List.getElem?_replicate]
 split <;> rfl
theorem Forest.swap {ar S U B : List Int} (hS : Forest ar S 1) (hU : Forest ar U 1) (hp : S ≠ []) : ∀ (A : List Int) (n : Nat), Forest ar (A ++ S ++ B) n → Forest ar (A ++ U ++ B) n
 | [], n, h => by
  simp only [List.nil_append] at h ⊢
  cases S with
  | nil => exact absurd rfl hp
  | cons x S =>
   obtain ⟨m, rfl, _⟩ := Forest.lt h
   unfold Forest at h
   rw [Nat.add_comm] at h
   obtain ⟨e1, e2, h1, h2, h3⟩ := endGo_split h
   have h4 := endGo_more (b := B) hS
   rw [h4] at h1
   cases h1
   rw [List.drop_left] at h2
   have hB : Forest ar B m := by
    unfold Forest
    rw [h2]
    rw [List.length_append] at h3
    congr 1; omega
   rw [Nat.add_comm]
   exact hU.append hB
 | x :: A, n, h => by
  obtain ⟨m, rfl, hx⟩ := Forest.lt h
  exact (Forest.cons hx).2 (Forest.swap hS hU hp A _ ((Forest.cons hx).1 h))
theorem parts {ar t : List Int} {p : Nat} (ht : termOk ar t = true) (hp : p < t.length) : t = t.take p ++ sub ar t p ++ t.drop (endN ar t p) := by
 have he := endN_spec ht hp
 have : sub ar t p ++ t.drop (endN ar t p) = t.drop p := by
  unfold sub
  have e : t.drop (endN ar t p) = (t.drop p).drop (endN ar t p - p) := by rw [List.drop_drop]; congr 1; omega
  rw [e, List.take_append_drop]
 rw [List.append_assoc, this, List.take_append_drop]
theorem put_ok {ar t u v : List Int} {p : Nat} (ht : termOk ar t = true) (hp : p < t.length) (hu : termOk ar u = true) (h : putL ar t p u = some v) : termOk ar v = true := by
 unfold putL at h
 split at h
 ·cases h
 ·rename_i hl
  cases h
  have hT := termOk_iff.1 ht
  have hU := termOk_iff.1 hu
  refine termOk_iff.2 ⟨hT.sig, by have := hU.pos; simp; omega, by omega, ?_, ?_⟩
  ·intro x hx
   simp only [List.mem_append] at hx
   rcases hx with (hx | hx) | hx
   ·exact hT.ge x (List.mem_of_mem_take hx)
   ·exact hU.ge x hx
   ·exact hT.ge x (List.mem_of_mem_drop hx)
  ·have h1 : Forest ar (t.take p ++ sub ar t p ++ t.drop (endN ar t p)) 1 := by rw [← parts ht hp]; exact hT.whole
   exact Forest.swap (termOk_iff.1 (sub_ok ht hp)).whole hU.whole (sub_ne ht hp) _ _ h1
theorem stepL_ok {ar : List Int} {rs : Rules} {t u : List Int} {p r : Nat} (hs : sysOk ar rs = true) (ht : termOk ar t = true) (hp : p < t.length) (hr : r < rs.length) (h : stepL ar rs t p r = some u) : termOk ar u = true := by
 have hR := ruleOk_iff.1 ((sysOk_iff.1 hs).2.2 r hr)
 unfold stepL at h
 split at h
 ·cases h
 ·rename_i b hb
  split at h
  ·cases h
  ·rename_i w hw
   exact put_ok ht hp (fill_ok (matchB_ok (sub_ok ht hp) hb) hR.right hw) h
def walkGo (ar : List Int) (rs : Rules) (st : Int) : Nat → List Int → List (Int × Int × List Int) × Bool
 | 0, t => ([], decide (redL ar rs t = []))
 | n + 1, t => if redL ar rs t = [] then ([], true) else
  match stepL ar rs t (pickL ar rs t st).toNat (ruleAtL ar rs t (pickL ar rs t st).toNat).toNat with
  | none => ([], false)
  | some u => ((pickL ar rs t st, ruleAtL ar rs t (pickL ar rs t st).toNat, u) :: (walkGo ar rs st n u).1, (walkGo ar rs st n u).2)
section
variable {ar : List Int} {rs : Rules} {t u : List Int} {st : Int} {m : Nat}
theorem walk_nil (h : redL ar rs t = []) : walkGo ar rs st m t = ([], true) := by
 cases m with
 | zero => simp [walkGo, h]
 | succ m => rw [walkGo, if_pos h]
theorem walk_stuck (hm : 0 < m) (h : redL ar rs t ≠ []) (hu : (stepL ar rs t (pickL ar rs t st).toNat (ruleAtL ar rs t (pickL ar rs t st).toNat).toNat).isSome = false) : walkGo ar rs st m t = ([], false) := by
 obtain ⟨k, rfl⟩ : ∃ k, m = k + 1 := ⟨m - 1, by omega⟩
 rw [walkGo, if_neg h]
 cases hx : stepL ar rs t (pickL ar rs t st).toNat (ruleAtL ar rs t (pickL ar rs t st).toNat).toNat with
 | none => rfl
 | some v => rw [hx] at hu; cases hu
theorem walk_next (hm : 0 < m) (h : redL ar rs t ≠ []) (hu : stepL ar rs t (pickL ar rs t st).toNat (ruleAtL ar rs t (pickL ar rs t st).toNat).toNat = some u) :
  walkGo ar rs st m t = ((pickL ar rs t st, ruleAtL ar rs t (pickL ar rs t st).toNat, u) :: (walkGo ar rs st (m - 1) u).1, (walkGo ar rs st (m - 1) u).2) := by
 obtain ⟨k, rfl⟩ : ∃ k, m = k + 1 := ⟨m - 1, by omega⟩
 rw [walkGo, if_neg h, hu]
 rfl
def wOk (ar : List Int) (rs : Rules) (t : List Int) (st n : Int) : Bool := (rightB ar rs t && decide (1 ≤ st ∧ st ≤ 3)) && decide (0 ≤ n ∧ n ≤ 60)
def walkB (ar : List Int) (rs : Rules) (t : List Int) (st n : Int) : List Int × List (Int × Int × List Int) × Bool :=
 if wOk ar rs t st n = true then (t, walkGo ar rs st n.toNat t) else ([], [], false)
theorem walkB_no {n : Int} (h : wOk ar rs t st n = false) : walkB ar rs t st n = ([], [], false) := by rw [walkB, if_neg (by rw [h]; simp)]
theorem walkB_yes {n : Int} (h : wOk ar rs t st n = true) : walkB ar rs t st n = (t, walkGo ar rs st n.toNat t) := by rw [walkB, if_pos h]
theorem walkGo_len : ∀ (m : Nat) (t : List Int), (walkGo ar rs st m t).1.length ≤ m
 | 0, t => by simp [walkGo]
 | m + 1, t => by
  rw [walkGo]
  split
  ·simp
  ·split
   ·simp
   ·rename_i u _
    have := walkGo_len m u
    simp; omega
theorem walkB_len {n : Int} : (walkB ar rs t st n).2.1.length ≤ 60 := by
 unfold walkB
 split
 ·rename_i h
  have := walkGo_len (ar := ar) (rs := rs) (st := st) n.toNat t
  simp only [wOk, Bool.and_eq_true, decide_eq_true_eq] at h
  simp only
  omega
 ·simp
end
section
variable {ar : List Int} {rs : Rules} {t : List Int} {p k j : Nat}
def cntR (ar : List Int) (rs : Rules) (t : List Int) (p k : Nat) : Nat := ((List.range k).filter (isRedex ar rs t p)).length
def cntP (ar : List Int) (rs : Rules) (t : List Int) (k : Nat) : Nat := ((List.range k).map (fun p => cntR ar rs t p rs.length)).sum
theorem cntR_yes {m : Nat} (h : isRedex ar rs t p k = true) : m + cntR ar rs t p k + 1 = m + cntR ar rs t p (k + 1) := by
 simp [cntR, List.range_succ, h]; omega
theorem cntR_no {m : Nat} (h : isRedex ar rs t p k = false) : m + cntR ar rs t p k = m + cntR ar rs t p (k + 1) := by
 simp [cntR, List.range_succ, h]
theorem cntR_le : cntR ar rs t p k ≤ k := by
 have := List.length_filter_le (isRedex ar rs t p) (List.range k)
 rwa [List.length_range] at this
theorem cntP_succ (h : j = rs.length) : cntP ar rs t k + cntR ar rs t k j = cntP ar rs t (k + 1) := by
 subst h; simp [cntP, List.range_succ]
theorem cntP_le (h : rs.length ≤ 12) : ∀ k, cntP ar rs t k ≤ k * 12
 | 0 => by simp [cntP]
 | k + 1 => by
  rw [← cntP_succ rfl]
  have := cntP_le h k
  have := cntR_le (ar := ar) (rs := rs) (t := t) (p := k) (k := rs.length)
  omega
theorem ruleAtGo_none : ∀ (n r : Nat), ruleAtGo ar rs t p n r = -1 → ∀ k, r ≤ k → k < r + n → isRedex ar rs t p k = false
 | 0, r, _, k, h1, h2 => by omega
 | n + 1, r, h, k, h1, h2 => by
  rw [ruleAtGo] at h
  split at h
  ·omega
  ·rename_i hr
   rcases Nat.lt_or_ge r k with h3 | h3
   ·exact ruleAtGo_none n (r + 1) h k (by omega) (by omega)
   ·obtain rfl : k = r := by omega
    simpa using hr
theorem cntR_zero : cntR ar rs t p rs.length = 0 ↔ ruleAtL ar rs t p < 0 := by
 unfold cntR
 rw [List.length_eq_zero_iff, List.filter_eq_nil_iff]
 simp only [List.mem_range]
 constructor
 ·intro h
  rcases ruleAt_spec (ar := ar) (rs := rs) (t := t) (p := p) with h1 | ⟨k, h1, h2, h3⟩
  ·omega
  ·exact absurd h3 (h k h2)
 ·intro h k hk
  have h1 : ruleAtL ar rs t p = -1 := by
   rcases ruleAt_spec (ar := ar) (rs := rs) (t := t) (p := p) with h1 | ⟨k, h1, _, _⟩
   ·exact h1
   ·omega
  rw [ruleAtGo_none rs.length 0 h1 k (by omega) (by omega)]
  simp
theorem cntP_zero : ∀ k, cntP ar rs t k = 0 ↔ ∀ p, p < k → ruleAtL ar rs t p < 0
 | 0 => by simp [cntP]
 | k + 1 => by
  rw [← cntP_succ rfl]
  have ih := cntP_zero k
  have hz := cntR_zero (ar := ar) (rs := rs) (t := t) (p := k)
  constructor
  ·intro h p hp
   rcases Nat.lt_or_ge p k with h1 | h1
   ·exact ih.1 (by omega) p h1
   ·obtain rfl : p = k := by omega
    exact hz.1 (by omega)
  ·intro h
   have h1 := ih.2 (fun p hp => h p (by omega))
   have h2 := hz.2 (h k (by omega))
   omega
theorem normal_cnt : normalL ar rs t = decide (cntP ar rs t t.length = 0) := by
 unfold normalL
 exact decide_eq_decide.2 (redL_nil.trans (cntP_zero t.length).symm)
end
def flatStep (s : Int × Int × List Int) : List Int := s.1 :: s.2.1 :: s.2.2
abbrev StepL := Int × Int × List Int
def stepAtOk (ar : List Int) (rs : Rules) (t : List Int) (p r : Int) : Bool := rightB ar rs t && decide (0 ≤ p ∧ p < (t.length : Int)) && decide (0 ≤ r ∧ r < (rs.length : Int))
def stepAtL (ar : List Int) (rs : Rules) (t : List Int) (p r : Int) : Option (List Int) := if stepAtOk ar rs t p r = true then stepL ar rs t p.toNat r.toNat else none
def goOk (ar : List Int) (rs : Rules) : List Int → List StepL → Bool
 | _, [] => true
 | t, s :: ss => decide (stepAtL ar rs t s.1 s.2.1 = some s.2.2) && goOk ar rs s.2.2 ss
def endL (f : List Int) (ss : List StepL) : List Int := if ss.length = 0 then f else (ss.getD (ss.length - 1) (0, 0, [])).2.2
def walkOkL (ar : List Int) (rs : Rules) (f : List Int) (ss : List StepL) : Bool := rightB ar rs f && decide (ss.length ≤ 60) && goOk ar rs f ss
section
variable {ar : List Int} {rs : Rules} {t f : List Int} {ss : List StepL}
theorem walkOkL_iff : walkOkL ar rs f ss = true ↔ rightB ar rs f = true ∧ ss.length ≤ 60 ∧ goOk ar rs f ss = true := by simp [walkOkL, and_assoc]
theorem stepAtL_ok {p r : Int} {u : List Int} (h : stepAtL ar rs t p r = some u) : rightB ar rs u = true ∧ stepAtOk ar rs t p r = true := by
 unfold stepAtL at h
 split at h
 ·rename_i hk
  have hk' := hk
  simp only [stepAtOk, Bool.and_eq_true, decide_eq_true_eq] at hk
  obtain ⟨⟨h1, h2⟩, h3⟩ := hk
  have hs := (right_iff.1 h1).1
  exact ⟨right_iff.2 ⟨hs, stepL_ok hs (right_iff.1 h1).2 (by omega) (by omega) h⟩, hk'⟩
 ·cases h
def nowL (f : List Int) (ss : List StepL) (k : Nat) : List Int := endL f (ss.take k)
theorem nowL_zero : nowL f ss 0 = f := by simp [nowL, endL]
theorem nowL_succ {k : Nat} (h : k < ss.length) : nowL f ss (k + 1) = (ss.getD k (0, 0, [])).2.2 := by
 have hl : (ss.take (k + 1)).length = k + 1 := by rw [List.length_take]; omega
 unfold nowL endL
 rw [hl, if_neg (by omega)]
 congr 2
 simp [List.getD, h]
theorem goOk_drop {k : Nat} (h : k < ss.length) : goOk ar rs t (ss.drop k) = (decide (stepAtL ar rs t (ss.getD k (0, 0, [])).1 (ss.getD k (0, 0, [])).2.1 = some (ss.getD k (0, 0, [])).2.2) && goOk ar rs (ss.getD k (0, 0, [])).2.2 (ss.drop (k + 1))) := by
 rw [drop_get (0, 0, []) h]; rfl
theorem goOk_now (h : goOk ar rs f ss = true) (hr : rightB ar rs f = true) : ∀ k, k ≤ ss.length → rightB ar rs (nowL f ss k) = true ∧ goOk ar rs (nowL f ss k) (ss.drop k) = true
 | 0, _ => by rw [nowL_zero]; exact ⟨hr, h⟩
 | k + 1, hk => by
  obtain ⟨h1, h2⟩ := goOk_now h hr k (by omega)
  rw [goOk_drop (by omega), Bool.and_eq_true, decide_eq_true_eq] at h2
  rw [nowL_succ (by omega)]
  exact ⟨(stepAtL_ok h2.1).1, h2.2⟩
theorem walkOk_step (h : walkOkL ar rs f ss = true) {k : Nat} (hk : k < ss.length) : stepAtL ar rs (nowL f ss k) (ss.getD k (0, 0, [])).1 (ss.getD k (0, 0, [])).2.1 = some (ss.getD k (0, 0, [])).2.2 := by
 obtain ⟨h1, _, h3⟩ := walkOkL_iff.1 h
 have := (goOk_now h3 h1 k (by omega)).2
 rw [goOk_drop hk, Bool.and_eq_true, decide_eq_true_eq] at this
 exact this.1
theorem walkOk_to (h : walkOkL ar rs f ss = true) {k : Nat} (hk : k < ss.length) : termOk ar (ss.getD k (0, 0, [])).2.2 = true := (right_iff.1 (stepAtL_ok (walkOk_step h hk)).1).2
end
section
variable {α : Type} {f : α → Nat} {l : List α} {k : Nat}
def gTo (f : α → Nat) (l : List α) (k : Nat) : Nat := ((l.take k).map f).sum
theorem gTo_succ (d : α) (h : k < l.length) : gTo f l k + f (l.getD k d) = gTo f l (k + 1) := by
 unfold gTo
 rw [take_succ_getD d h]
 simp
end
def lenS (s : StepL) : Nat := s.2.2.length
theorem flatStep_len (ss : List StepL) : (ss.flatMap flatStep).length ≤ 2 * ss.length + gTo lenS ss ss.length := by
 unfold gTo
 rw [List.take_length, List.length_flatMap]
 induction ss with
 | nil => simp
 | cons s ss ih => simp [flatStep, lenS] at ih ⊢; omega
section
variable {ar : List Int} {rs : Rules} {t u f : List Int} {ss : List StepL} {st : Int} {m k : Nat}
theorem stepAt_of {p r : Nat} (hr : rightB ar rs t = true) (hp : p < t.length) (hrl : r < rs.length) : stepAtL ar rs t p r = stepL ar rs t p r := by
 rw [stepAtL, if_pos (by simp [stepAtOk, hr, hp, hrl])]; rfl
theorem walkGo_ok : ∀ (m : Nat) (t : List Int), rightB ar rs t = true → goOk ar rs t (walkGo ar rs st m t).1 = true ∧ rightB ar rs (endL t (walkGo ar rs st m t).1) = true ∧ ((walkGo ar rs st m t).2 = true → redL ar rs (endL t (walkGo ar rs st m t).1) = [])
 | 0, t, hr => ⟨rfl, by simpa [walkGo, endL] using hr, fun h => by simpa [walkGo, endL] using h⟩
 | m + 1, t, hr => by
  by_cases he : redL ar rs t = []
  ·rw [walk_nil he]; exact ⟨rfl, by simpa [endL] using hr, fun _ => by simpa [endL] using he⟩
  ·cases hu : stepL ar rs t (pickL ar rs t st).toNat (ruleAtL ar rs t (pickL ar rs t st).toNat).toNat with
   | none => rw [walk_stuck (by omega) he (by rw [hu]; rfl)]; exact ⟨rfl, by simpa [endL] using hr, fun h => by cases h⟩
   | some u =>
    obtain ⟨q, hq1, hq2, hq3, _⟩ := (pick_spec (ar := ar) (rs := rs) (t := t) st).resolve_left (fun h => he h.2)
    have hqn : (pickL ar rs t st).toNat = q := by omega
    have hrr : 0 ≤ ruleAtL ar rs t (pickL ar rs t st).toNat := by rw [hqn]; simpa [hasR] using hq3
    obtain ⟨j, hj1, hj2, _⟩ := (ruleAt_spec (ar := ar) (rs := rs) (t := t) (p := (pickL ar rs t st).toNat)).resolve_left (by omega)
    have hjn : (ruleAtL ar rs t (pickL ar rs t st).toNat).toNat = j := by omega
    have hs := (right_iff.1 hr).1
    have huo : rightB ar rs u = true := right_iff.2 ⟨hs, stepL_ok hs (right_iff.1 hr).2 (by omega) (by omega) hu⟩
    have e : stepAtL ar rs t (pickL ar rs t st) (ruleAtL ar rs t (pickL ar rs t st).toNat) = some u := by
     rw [hj1, hq1, stepAt_of hr hq2 hj2, ← hu, hjn, hqn]
    obtain ⟨h1, h2, h3⟩ := walkGo_ok m u huo
    rw [walk_next (by omega) he hu, Nat.add_sub_cancel]
    have e2 : endL t ((pickL ar rs t st, ruleAtL ar rs t (pickL ar rs t st).toNat, u) :: (walkGo ar rs st m u).1) = endL u (walkGo ar rs st m u).1 := by
     unfold endL
     cases (walkGo ar rs st m u).1 with
     | nil => rfl
     | cons a l => simp
    refine ⟨?_, by rw [e2]; exact h2, fun h => by rw [e2]; exact h3 h⟩
    show (decide (stepAtL ar rs t _ _ = some u) && goOk ar rs u _) = true
    rw [decide_eq_true e, h1]; rfl
def normB (ar : List Int) (rs : Rules) (t : List Int) (st n : Int) : List Int × Bool := if (walkB ar rs t st n).2.2 = true then (endL (walkB ar rs t st n).1 (walkB ar rs t st n).2.1, true) else ([], false)
theorem walkB_ok {n : Int} (h : (walkB ar rs t st n).2.2 = true) : wOk ar rs t st n = true ∧ (walkB ar rs t st n).1 = t ∧ walkOkL ar rs t (walkB ar rs t st n).2.1 = true ∧ termOk ar (endL t (walkB ar rs t st n).2.1) = true := by
 cases hw : wOk ar rs t st n with
 | false => rw [walkB_no hw] at h; cases h
 | true =>
  have hr : rightB ar rs t = true := by simp only [wOk, Bool.and_eq_true] at hw; exact hw.1.1
  have hl := walkB_len (ar := ar) (rs := rs) (t := t) (st := st) (n := n)
  rw [walkB_yes hw] at h hl ⊢
  obtain ⟨h1, h2, h3⟩ := walkGo_ok (st := st) n.toNat t hr
  exact ⟨rfl, rfl, walkOkL_iff.2 ⟨hr, hl, h1⟩, (right_iff.1 h2).2⟩
theorem gTo_bound {N : Nat} {l : List StepL} (h : ∀ i, i < l.length → (l.getD i (0, 0, [])).2.2.length ≤ N) : ∀ k, k ≤ l.length → gTo lenS l k ≤ k * N
 | 0, _ => by simp [gTo]
 | k + 1, hk => by
  have h1 := gTo_bound h k (by omega)
  have h2 := h k (by omega)
  rw [← gTo_succ ((0, 0, []) : StepL) (by omega), Nat.succ_mul]
  have : lenS (l.getD k (0, 0, [])) = (l.getD k (0, 0, [])).2.2.length := rfl
  omega
end
section
variable {ar : List Int} {rs : Rules} {a b t : List Int} {ts : RowL} {n : Int} {m k : Nat}
end
section
variable {α : Type} {q : α → Bool} {l : List α} {d : α} {k : Nat}
def badG (q : α → Bool) (l : List α) : Int := match l.findIdx? (fun t => !q t) with | some i => i | none => -1
theorem badG_at (d : α) (hk : k < l.length) (h : q (l.getD k d) = false) (hall : ∀ i, i < k → q (l.getD i d) = true) : badG q l = k := by
 unfold badG
 have : l.findIdx? (fun t => !q t) = some k := by
  rw [List.findIdx?_eq_some_iff_getElem]
  refine ⟨hk, by simpa [List.getD, hk] using h, fun j hj => ?_⟩
  have := hall j hj
  simpa [List.getD, Nat.lt_trans hj hk] using this
 rw [this]
theorem badG_none (d : α) (hall : ∀ i, i < l.length → q (l.getD i d) = true) : badG q l = -1 := by
 unfold badG
 have : l.findIdx? (fun t => !q t) = none := by
  rw [List.findIdx?_eq_none_iff]
  intro x hx
  obtain ⟨i, hi, rfl⟩ := List.getElem_of_mem hx
  simpa [List.getD, hi] using hall i hi
 rw [this]
theorem badG_iff : (badG q l ≥ 0) ↔ l.all q = false := by
 unfold badG
 cases h : l.findIdx? (fun t => !q t) with
 | none =>
  rw [List.findIdx?_eq_none_iff] at h
  have : l.all q = true := List.all_eq_true.2 fun x hx => by simpa using h x hx
  simp [this]
 | some i =>
  rw [List.findIdx?_eq_some_iff_getElem] at h
  obtain ⟨hi, h1, _⟩ := h
  have : l.all q = false := by
   rw [List.all_eq_false]
   exact ⟨_, List.getElem_mem hi, by simpa using h1⟩
  simp [this]
theorem all_getD_iff (d : α) : l.all q = true ↔ ∀ i, i < l.length → q (l.getD i d) = true := by
 rw [List.all_eq_true]
 refine ⟨fun h i hi => h _ (by simp [List.getD, hi]), fun h x hx => ?_⟩
 obtain ⟨i, hi, rfl⟩ := List.getElem_of_mem hx
 simpa [List.getD, hi] using h i hi
theorem all_fail (d : α) (hk : k < l.length) (h : q (l.getD k d) = false) : l.all q = false := by
 cases hx : l.all q with
 | false => rfl
 | true => have := (all_getD_iff d).1 hx k hk; rw [h] at this; cases this
end
section
variable {ar : List Int} {rs es : Rules} {a b : List Int} {n : Int} {m k : Nat}
end
section
variable {ar : List Int} {rs : Rules} {a b t : List Int} {ts : RowL} {n : Int} {k : Nat}
end
section
variable {ar : List Int} {rs : Rules} {t f u : List Int} {ss acc : List StepL} {p : Nat} {k : Nat}
end
section
variable {ar : List Int} {rs : Rules} {t f : List Int} {ss : List StepL} {s : RowL} {p : Int}
def substOk (ar : List Int) (s : RowL) : Bool := sigOk ar && decide (s.length ≤ 24) && s.all (fun t => decide (t = []) || termOk ar t)
def loopOkL (ar : List Int) (rs : Rules) (f : List Int) (ss : List StepL) (p : Int) (s : RowL) : Bool :=
 decide (ss.length ≠ 0) && walkOkL ar rs f ss && posOk ar (endL f ss) p && substOk ar s && decide (fillL s f = some (sub ar (endL f ss) p.toNat))
theorem posOk_iff : posOk ar t p = true ↔ termOk ar t = true ∧ 0 ≤ p ∧ p < (t.length : Int) := by simp [posOk]
theorem fill_eq {v : List Int} (h : (fillL s f).isSome = true) : fillL s f = some v ↔ (fillL s f).getD [] = v := by
 obtain ⟨x, hx⟩ := Option.isSome_iff_exists.1 h
 rw [hx]; simp
end
section
variable {ar t u : List Int} {n : Nat} {f : Int}
def goodN (ar t : List Int) (n : Nat) : Prop := (∀ x ∈ t, -24 ≤ x) ∧ ∀ r, endGo ar (t ++ r) n = some t.length
def goodT (ar t : List Int) : Prop := goodN ar t 1
theorem goodN.nil : goodN ar [] 0 := ⟨fun x hx => (List.not_mem_nil hx).elim, fun r => by cases r <;> rfl⟩
theorem goodN.snoc (h : goodN ar t n) (k : goodT ar u) : goodN ar (t ++ u) (n + 1) := by
 refine ⟨fun x hx => (List.mem_append.1 hx).elim (h.1 x) (k.1 x), fun r => ?_⟩
 have h1 := h.2 (u ++ r)
 have h2 : endGo ar ((t ++ (u ++ r)).drop t.length) 1 = some u.length := by rw [List.drop_left]; exact k.2 r
 rw [List.append_assoc, endGo_join h1 h2, List.length_append]
theorem goodT.one (hf : -24 ≤ f) (hl : f < ar.length) (ha : arity ar f = 0) : goodT ar [f] := by
 refine ⟨fun x hx => by obtain rfl := List.mem_singleton.1 hx; exact hf, fun r => ?_⟩
 show endGo ar (f :: r) (0 + 1) = some 1
 unfold endGo
 rw [if_pos hl, ha]
 cases r <;> rfl
theorem goodT.var (hf : -24 ≤ f) (h0 : f < 0) : goodT ar [f] := goodT.one hf (by omega) (by rw [arity, if_pos h0])
theorem goodT.node (h0 : 0 ≤ f) (hl : f < ar.length) (ha : arity ar f = (n : Int)) (h : goodN ar t n) : goodT ar (f :: t) := by
 refine ⟨fun x hx => (List.mem_cons.1 hx).elim (fun e => by omega) (h.1 x), fun r => ?_⟩
 show endGo ar (f :: (t ++ r)) (0 + 1) = some (t.length + 1)
 unfold endGo
 rw [if_pos hl, ha, show 0 + (n : Int).toNat = n from by omega, h.2 r]
 rfl
def szB : Nat → Nat
 | 0 => 1
 | d + 1 => 1 + 2 * szB d
def szT : Nat → Nat
 | 0 => 1
 | d + 1 => 1 + 3 * szT d
theorem szB_pos : ∀ d, 1 ≤ szB d
 | 0 => by simp [szB]
 | d + 1 => by simp only [szB]; omega
theorem szB_next {d : Nat} (h : 1 ≤ d) : szB d = 1 + 2 * szB (d - 1) := by
 obtain ⟨e, rfl⟩ : ∃ e, d = e + 1 := ⟨d - 1, by omega⟩
 rfl
theorem szB_le : ∀ {d e : Nat}, d ≤ e → szB d ≤ szB e
 | 0, e, _ => szB_pos e
 | d + 1, 0, h => by omega
 | d + 1, e + 1, h => by have := szB_le (d := d) (e := e) (by omega); simp only [szB]; omega
theorem szT_pos : ∀ d, 1 ≤ szT d
 | 0 => by simp [szT]
 | d + 1 => by simp only [szT]; omega
theorem szT_next {d : Nat} (h : 1 ≤ d) : szT d = 1 + 3 * szT (d - 1) := by
 obtain ⟨e, rfl⟩ : ∃ e, d = e + 1 := ⟨d - 1, by omega⟩
 rfl
theorem szT_le : ∀ {d e : Nat}, d ≤ e → szT d ≤ szT e
 | 0, e, _ => szT_pos e
 | d + 1, 0, h => by omega
 | d + 1, e + 1, h => by have := szT_le (d := d) (e := e) (by omega); simp only [szT]; omega
variable {rs : Rules} {a b : List Int} {ts : RowL} {m : Int} {i k : Nat}
end
def argsGo (ar t : List Int) : Nat → Nat → List Int
 | 0, _ => []
 | n + 1, q => (q : Int) :: argsGo ar t n (endN ar t q)
def argsL (ar t : List Int) (p : Nat) : List Int := argsGo ar t (arity ar (t.getD p 0)).toNat (p + 1)
def Stand (ar t : List Int) (n q e : Nat) : Prop := endGo ar (t.drop q) n = some (e - q) ∧ q ≤ e ∧ e ≤ t.length
theorem stand_start {ar t : List Int} (h : termOk ar t = true) {p : Nat} (hp : p < t.length) : Stand ar t (arity ar (t.getD p 0)).toNat (p + 1) (endN ar t p) := by
 have he := endN_spec h hp
 obtain ⟨e, h1, h2, h3⟩ := endAt_some h hp
 have hN : endN ar t p = e := by simp [endN, h1]
 unfold endAt at h1
 rw [endGo_step (by omega) hp (termOk_lt h hp)] at h1
 rw [Nat.sub_self, Nat.zero_add] at h1
 refine ⟨?_, by omega, by omega⟩
 cases hg : endGo ar (t.drop (p + 1)) (arity ar (t.getD p 0)).toNat with
 | none => rw [hg] at h1; cases h1
 | some q => rw [hg] at h1; simp only [Option.map_some, Option.some.injEq] at h1; rw [Option.some.injEq]; omega
theorem stand_step {ar t : List Int} (h : termOk ar t = true) {n q e : Nat} (hs : Stand ar t (n + 1) q e) : q < t.length ∧ Stand ar t n (endN ar t q) e ∧ q < endN ar t q ∧ endN ar t q ≤ e := by
 obtain ⟨h1, h2, h3⟩ := hs
 have hpos := endGo_pos h1
 have hq : q < t.length := by omega
 have h1' := h1
 rw [Nat.add_comm] at h1
 obtain ⟨e1, e2, g1, g2, g3⟩ := endGo_split h1
 have hN : endN ar t q = q + e1 := by simp [endN, endAt, g1]
 have hE := endN_spec h hq
 rw [List.drop_drop] at g2
 refine ⟨hq, ⟨?_, by omega, h3⟩, by omega, by omega⟩
 rw [hN, g2]; congr 1; omega
theorem argsGo_len (ar t : List Int) : ∀ n q, (argsGo ar t n q).length = n
 | 0, _ => rfl
 | n + 1, q => by simp [argsGo, argsGo_len ar t n]
theorem argsGo_in {ar t : List Int} (h : termOk ar t = true) : ∀ {n q e : Nat}, Stand ar t n q e → ∀ k, k < n → (q : Int) ≤ (argsGo ar t n q).getD k 0 ∧ (argsGo ar t n q).getD k 0 < (e : Int)
 | 0, _, _, _, k, hk => absurd hk (by omega)
 | n + 1, q, e, hs, k, hk => by
  obtain ⟨h1, h2, h3, h4⟩ := stand_step h hs
  cases k with
  | zero => simp only [argsGo, List.getD_cons_zero]; omega
  | succ k =>
   have := argsGo_in h h2 k (by omega)
   simp only [argsGo, List.getD_cons_succ]; omega
theorem argsL_len {ar t : List Int} {p : Nat} : (argsL ar t p).length = (arity ar (t.getD p 0)).toNat := argsGo_len ..
theorem argsL_le {ar t : List Int} (h : termOk ar t = true) {p : Nat} (hp : p < t.length) : (argsL ar t p).length ≤ 3 := by
 have := arity_le (termOk_sig h) (termOk_lt h hp)
 rw [argsL_len]; omega
theorem argsL_in {ar t : List Int} (h : termOk ar t = true) {p : Nat} (hp : p < t.length) {k : Nat} (hk : k < (argsL ar t p).length) : (p : Int) < (argsL ar t p).getD k 0 ∧ (argsL ar t p).getD k 0 < (endN ar t p : Int) ∧ (argsL ar t p).getD k 0 < (t.length : Int) := by
 rw [argsL_len] at hk
 have h1 := stand_start h hp
 have := argsGo_in h h1 k hk
 have := endN_spec h hp
 unfold argsL; omega
end Go.Proofs.YtjpfankibmeaaaaGreat.M
namespace Go.Proofs.YtjpfankibmeaaaaGreat.X
open Go
abbrev PPost := List PanicEntry → FH → List HP → Prop
def DoesP (P : Program) (f : FuncId) (args : List Value) (F : FH) (L : List HP) (Q : Post) (K : PPost) : Prop :=
 ∀ w, Holds F L w → Calls P f args.toArray w fun e w' =>
  (∃ v F' L', e = .returned v ∧ F ≤ F' ∧ Holds F' L' w' ∧ Q v F' L') ∨ (∃ ch F' L', e = .panicked ch ∧ F ≤ F' ∧ Holds F' L' w' ∧ K ch F' L')
theorem XL.callP {P : Program} {n : Nat} {ops : Array Oper} {l : List Oper} {Q : QX} {ρ : Env} {F : FH} {L : List HP} {d : Option Tmp} {ty : TypeId} {pos : String} {af : Array Edge} {f : FuncId} {as : List Operand} {ts : Array TypeId} {Qr : Post} {K : PPost}
  (args : List Value) (hf : ∀ args w, (callFunc f args).run P w = .ok (.enter f args) w) (ha : as.map (evO ρ) = args) (h : DoesP P f args F L Qr K)
  (hp : ∀ ch F' L', F ≤ F' → K ch F' L' → Q (.panic ch) ρ F' L') (hk : ∀ v F' L', F ≤ F' → Qr v F' L' → XL P n ops l Q (putE ρ d v) F' L') :
  XL P n ops (⟨d, .call { callee := .value (.func f), args := as.toArray, argTypes := ts }, ty, pos, af, none⟩ :: l) Q ρ F L := by
 subst ha
 intro ok a w r H
 simp only [opsOk, List.all_cons, Bool.and_eq_true] at ok
 unfold wpList
 rw [if_pos (by simp [Region.wanted])]
 refine .inl ?_
 unfold Oper.wp
 rw [r.eval]
 have he : (execOp (evO ρ) ⟨d, .call { callee := .value (.func f), args := as.toArray, argTypes := ts }, ty, pos, af, none⟩).run P w = .ok (.enter f (as.map (evO ρ)).toArray) w := by
  simp [execOp, resolve, evO, Deferred.ofValue, invoke, hf]
 rw [he]
 refine (h w H).mono ?_
 rintro e w'' (⟨v, F', L', rfl, le, H', q⟩ | ⟨ch, F', L', rfl, le, H', q⟩)
 ·exact wpList_mono (fun _ _ _ q => low_le le q) _ _ _ (hk v F' L' le q ok.2 _ _ (r.put ok.1 v) H')
 ·exact ⟨ρ, F', L', r, le, H', hp ch F' L' le q⟩
theorem XL.panicI {P : Program} {n : Nat} {ops : Array Oper} {l : List Oper} {Q : QX} {ρ : Env} {F : FH} {L : List HP} {d : Option Tmp} {ty : TypeId} {pos : String} {af : Array Edge} {x : Operand} {T : TypeId} {u : Value}
  (hx : evO ρ x = .iface T u) (hp : Q (.panic [{ v := .iface T u, recovered := false }]) ρ F L) : XL P n ops (⟨d, .panic x, ty, pos, af, none⟩ :: l) Q ρ F L := by
 intro ok a w r H
 unfold wpList
 rw [if_pos (by simp [Region.wanted])]
 refine .inl ?_
 unfold Oper.wp
 rw [r.eval]
 have he : (execOp (evO ρ) ⟨d, .panic x, ty, pos, af, none⟩).run P w = .halt (.panic (.iface T u)) w := by
  simp [execOp, hx, Instr.panic, goPanic]
 rw [he]
 exact ⟨ρ, F, L, r, FLe.refl F, H, hp⟩
theorem XOp.iface {P : Program} {ρ : Env} {F : FH} {L : List HP} {K : Post} {d : Option Tmp} {ty : TypeId} {pos : String} {af : Array Edge} {g : Option (Nat × Bool)} {T : TypeId} {x : Operand} {v : Value} {fs : Array Field}
  (hu : ∀ w, (underlying T).run P w = .ok (.struct fs) w) (hx : evO ρ x = v) (k : K (.iface T v) F L) : XOp P ⟨d, .makeInterface T x, ty, pos, af, g⟩ ρ F L K :=
 XOp.value (fun w H => by simp [execOp, hx, Instr.makeInterface, hu]) k
theorem XOp.assertOk {P : Program} {ρ : Env} {F : FH} {L : List HP} {K : Post} {d : Option Tmp} {ty : TypeId} {pos : String} {af : Array Edge} {g : Option (Nat × Bool)} {S T : TypeId} {x : Operand} {v : Value} {fs : Array Field}
  (hu : ∀ w, (underlying T).run P w = .ok (.struct fs) w) (hx : evO ρ x = .iface T v) (k : K (.tuple #[v, .bool true]) F L) : XOp P ⟨d, .typeAssert x S T true, ty, pos, af, g⟩ ρ F L K :=
 XOp.value (fun w H => by simp [execOp, hx, Instr.typeAssert, hu]) k
def retQP (P : Program) (fn : Func) (F0 : FH) (Q : Post) (K : PPost) : QX := fun e ρ F L => retQ P fn F0 Q e ρ F L ∨ ∃ ch, e = .panic ch ∧ K ch F L
theorem DoesP.of_X {P : Program} {f : FuncId} {fn : Func} {c : Code} {args : List Value} {F : FH} {L : List HP} {Q : Post} {K : PPost}
  (hf : P.funcs[f]? = some fn) (hb : fn.body = some c) (hd : cOk fn.ntmps c = true) (hn : Nat.ble args.length fn.ntmps = true)
  (h : X P fn.ntmps c (retQP P fn F Q K) (env0 args) F L) : DoesP P f args F L Q K := by
 intro w H
 refine calls_of_wp hf hb (Code.wp_mono ?_ (h hd _ w ⟨?_, rfl, fun i => ?_⟩ H))
 ·rintro e a' w' ⟨ρ', F', L', r', le, H', (⟨he, vs, L'', F2, hv, l1, l2, hsub, q⟩ | ⟨ch, rfl, k⟩)⟩
  ·have hr := results_run (P := P) (w := w') r' H' hv
   rcases he with rfl | rfl
   ·exact ⟨r'.defers, _, hr, .inl ⟨_, F2, L'', rfl, l1, hsub.holds (H'.forget l2), q⟩⟩
   ·exact ⟨r'.defers, _, hr, .inl ⟨_, F2, L'', rfl, l1, hsub.holds (H'.forget l2), q⟩⟩
  ·exact ⟨r'.defers, .inr ⟨ch, F', L', rfl, le, H', k⟩⟩
 ·have := Nat.le_of_ble_eq_true hn
  simp
  omega
 ·simp only [env0, Array.getD_eq_getD_getElem?, List.getD_eq_getElem?_getD, Array.getElem?_append, List.size_toArray, List.getElem?_toArray, Array.getElem?_replicate]
  split
  ·rfl
  ·rename_i hi
   rw [List.getElem?_eq_none (Nat.le_of_not_lt hi)]
   split <;> rfl
theorem retEndP {P : Program} {fn : Func} {F0 F2 : FH} {Q : Post} {K : PPost} {ρ : Env} {F : FH} {L L' : List HP} (vs : List Value) (v : Value) (hr : ResAll P F L ρ fn.results.toList vs) (hv : oneOr vs = v) (l1 : F0 ≤ F2) (l2 : F2 ≤ F) (s : Sub L L') (h : Q v F2 L') : retQP P fn F0 Q K .ret ρ F L := .inl (retEnd vs v hr hv l1 l2 s h)
theorem retEndNP {P : Program} {fn : Func} {F0 F2 : FH} {Q : Post} {K : PPost} {ρ : Env} {F : FH} {L L' : List HP} (vs : List Value) (v : Value) (hr : ResAll P F L ρ fn.results.toList vs) (hv : oneOr vs = v) (l1 : F0 ≤ F2) (l2 : F2 ≤ F) (s : Sub L L') (h : Q v F2 L') : retQP P fn F0 Q K .normal ρ F L := .inl (retEndN vs v hr hv l1 l2 s h)
theorem wp_of_X {P : Program} {n : Nat} {c : Code} {Q : QX} {a : Act} {w : World} {F : FH} {L : List HP} (l : List (Nat × Value)) (hsz : a.tmps.size = n) (hd : a.defers = []) (hs : sat (fun i => a.tmps.getD i undef) l) (hok : cOk n c = true) (h : ∀ rE, X P n c Q (envs l rE) F L) (H : Holds F L w) :
  c.wp P (low n F Q) a w := by
 have := h (fun i => a.tmps.getD i undef)
 rw [envs_of_sat hs] at this
 exact this hok a w ⟨hsz, hd, fun i => rfl⟩ H
theorem wpList_one {P : Program} {ops : Array Oper} {Q : Exit → Act → World → Prop} {o : Oper} {l : List Oper} {a : Act} {w : World} (hg : o.guard = none) (h : o.wp P a w (wpList P ops Q l) Q) : wpList P ops Q (o :: l) a w := by
 unfold wpList
 rw [if_pos (by simp [Region.wanted, hg])]
 exact .inl h
theorem eval_raw (a : Act) : a.eval = evO (fun i => a.tmps.getD i undef) := by
 funext x
 cases x <;> rfl
theorem wp_XOp_raw {P : Program} {o : Oper} {a : Act} {w : World} {F : FH} {L : List HP} {K : Post} {N : Act → World → Prop} {Q : Exit → Act → World → Prop} (h : XOp P o (fun i => a.tmps.getD i undef) F L K) (H : Holds F L w)
  (hN : ∀ v F' L' w', F ≤ F' → Holds F' L' w' → K v F' L' → N (a.put o.dst v) w') : o.wp P a w N Q := by
 unfold Oper.wp
 rw [eval_raw]
 rcases h w H with ⟨v, w', F', L', h1, h2, h3, h4⟩ | ⟨w', F', L', h1, h2, h3, h4⟩ | ⟨f, args, w', h1, h2⟩
 ·rw [h1]; exact hN v F' L' w' h2 h3 h4
 ·rw [h1]; exact hN undef F' L' w' h2 h3 h4
 ·rw [h1]
  refine h2.mono fun e w'' ⟨v, F', L', he, hle, hH, hk⟩ => ?_
  subst he
  exact hN v F' L' w'' hle hH hk
theorem get_1 {bs : List Value} {s a : Value} {i : Nat} (h : bs[i]? = some a) : (s :: bs)[1 + i]? = some a := by rw [Nat.add_comm]; simpa using h
theorem set_1 {bs : List Value} {s a : Value} {i : Nat} : (s :: bs).set (1 + i) a = s :: bs.set i a := by rw [Nat.add_comm]; rfl
theorem blt_1 {bs : List Value} {s : Value} {i : Nat} (h : i < bs.length) : Nat.blt (1 + i) (s :: bs).length = true := by
 simp only [Nat.blt, List.length_cons]; exact Nat.ble_eq_true_of_le (by omega)
theorem ne_of_notNil {a : Value} {x : List Int} (hn : isNil a = decide (x = [])) (h : (!isNil a) = true) : x ≠ [] := fun e => by rw [hn, decide_eq_true e] at h; cases h
theorem eq_of_isNil {a : Value} {x : List Int} (hn : isNil a = decide (x = [])) (h : (!isNil a) = false) : x = [] := by
 rw [hn] at h
 exact of_decide_eq_true (by simpa using h)
abbrev bools (ss : List Bool) : List Value := ss.map Value.bool
theorem bools_get {ss : List Bool} {i : Nat} (h : i < ss.length) : (bools ss)[i]? = some (.bool (ss.getD i false)) := by simp [bools, List.getD, h]
theorem bools_set {ss : List Bool} {i : Nat} {b : Bool} : (bools ss).set i (.bool b) = bools (ss.set i b) := by simp [bools, List.map_set]
theorem bools_blt {ss : List Bool} {i : Nat} (h : i < ss.length) : Nat.blt i (bools ss).length = true := by
 simp only [Nat.blt, bools, List.length_map]; exact Nat.ble_eq_true_of_le (by omega)
end Go.Proofs.YtjpfankibmeaaaaGreat.X
namespace Go.Proofs.YtjpfankibmeaaaaGreat.M
def nm (t : List Int) : List Int := t.map fun x => if x < 0 then -1 else x
section
variable {ar t : List Int} {p n q e : Nat}
theorem nm_len : (nm t).length = t.length := by simp [nm]
theorem nm_drop : (nm t).drop p = nm (t.drop p) := by simp [nm, List.map_drop]
theorem nm_take : (nm t).take p = nm (t.take p) := by simp [nm, List.map_take]
theorem nm_get (hp : p < t.length) : (nm t).getD p 0 = if t.getD p 0 < 0 then -1 else t.getD p 0 := by simp [nm, List.getD, hp]
theorem arity_nm {x : Int} : arity ar (if x < 0 then -1 else x) = arity ar x := by
 by_cases hx : x < 0
 ·rw [if_pos hx]; unfold arity; rw [if_pos (by omega), if_pos hx]
 ·rw [if_neg hx]
theorem endGo_nm : ∀ (r : List Int) (n : Nat), endGo ar (nm r) n = endGo ar r n
 | r, 0 => by simp [endGo]
 | [], n + 1 => rfl
 | x :: r, n + 1 => by
  show endGo ar ((if x < 0 then -1 else x) :: nm r) (n + 1) = _
  simp only [endGo, arity_nm, endGo_nm r]
  by_cases hx : x < 0
  ·rw [if_pos hx, if_pos (by omega), if_pos (by omega)]
  ·rw [if_neg hx]
theorem endAt_nm : endAt ar (nm t) p = endAt ar t p := by unfold endAt; rw [nm_drop, endGo_nm]
theorem endN_nm : endN ar (nm t) p = endN ar t p := by unfold endN; rw [endAt_nm]
theorem endZ_nm : endZ ar (nm t) p = endZ ar t p := by unfold endZ; rw [endAt_nm]
theorem sub_nm : sub ar (nm t) p = nm (sub ar t p) := by unfold sub; rw [nm_drop, endN_nm, nm_take]
structure TermW (ar t : List Int) : Prop where
 sig : sigOk ar = true
 len : 1 ≤ t.length ∧ t.length ≤ 60
 whole : endGo ar t 1 = some t.length
 ge : ∀ x ∈ t, -48 ≤ x
theorem TermW.nm (h : TermW ar t) : termOk ar (nm t) = true := termOk_iff.2 (by
 have := h.len
 refine ⟨h.sig, by rw [nm_len]; omega, by rw [nm_len]; omega, ?_, by rw [endGo_nm, nm_len]; exact h.whole⟩
 intro x hx
 obtain ⟨y, _, rfl⟩ := List.mem_map.1 hx
 split <;> omega)
theorem termW_of (h : termOk ar t = true) : TermW ar t := by
 have h1 := termOk_iff.1 h
 exact ⟨h1.sig, ⟨h1.pos, h1.len⟩, h1.whole, fun x hx => by have := h1.ge x hx; omega⟩
theorem TermW.endN (h : TermW ar t) (hp : p < t.length) : p < endN ar t p ∧ M.endN ar t p ≤ t.length := by
 have := endN_spec h.nm (p := p) (by rw [nm_len]; exact hp)
 rwa [endN_nm, nm_len] at this
theorem TermW.endZ (h : TermW ar t) (hp : p < t.length) : endZ ar t p = (M.endN ar t p : Int) := by
 have := endZ_endN h.nm (p := p) (by rw [nm_len]; exact hp)
 rwa [endN_nm, endZ_nm] at this
theorem TermW.lt (h : TermW ar t) (hp : p < t.length) : t.getD p 0 < ar.length := by
 have := termOk_lt h.nm (p := p) (by rw [nm_len]; exact hp)
 rw [nm_get hp] at this
 split at this <;> omega
theorem TermW.geD (h : TermW ar t) (hp : p < t.length) : -48 ≤ t.getD p 0 := getD_all h.ge hp
theorem mem_sub {x : Int} (h : x ∈ sub ar t p) : x ∈ t := List.mem_of_mem_drop (List.mem_of_mem_take h)
theorem TermW.sub (h : TermW ar t) (hp : p < t.length) : TermW ar (sub ar t p) := by
 have := termOk_iff.1 (sub_ok h.nm (p := p) (by rw [nm_len]; exact hp))
 rw [sub_nm] at this
 have h1 := this.pos
 have h2 := this.len
 have h3 := this.whole
 rw [nm_len] at h1 h2 h3
 rw [endGo_nm] at h3
 exact ⟨h.sig, ⟨h1, h2⟩, h3, fun x hx => h.ge x (mem_sub hx)⟩
theorem Stand_nm : Stand ar (nm t) n q e ↔ Stand ar t n q e := by unfold Stand; rw [nm_drop, endGo_nm, nm_len]
theorem arityD_nm : arity ar ((nm t).getD p 0) = arity ar (t.getD p 0) := by
 by_cases hp : p < t.length
 ·rw [nm_get hp, arity_nm]
 ·simp [List.getD, nm, List.getElem?_eq_none (Nat.le_of_not_lt hp)]
theorem argsGo_nm : ∀ n q, argsGo ar (nm t) n q = argsGo ar t n q
 | 0, _ => rfl
 | n + 1, q => by rw [argsGo, argsGo, endN_nm, argsGo_nm]
theorem argsL_nm : argsL ar (nm t) p = argsL ar t p := by unfold argsL; rw [arityD_nm, argsGo_nm]
theorem TermW.stand0 (h : TermW ar t) (hp : p < t.length) : Stand ar t (arity ar (t.getD p 0)).toNat (p + 1) (M.endN ar t p) := by
 have := stand_start h.nm (p := p) (by rw [nm_len]; exact hp)
 rwa [Stand_nm, arityD_nm, endN_nm] at this
theorem TermW.stand (h : TermW ar t) (hs : Stand ar t (n + 1) q e) : q < t.length ∧ Stand ar t n (M.endN ar t q) e ∧ q < M.endN ar t q ∧ M.endN ar t q ≤ e := by
 have := stand_step h.nm (Stand_nm.2 hs)
 rwa [Stand_nm, nm_len, endN_nm] at this
theorem TermW.args_le (h : TermW ar t) (hp : p < t.length) : (argsL ar t p).length ≤ 3 := by
 have := argsL_le h.nm (p := p) (by rw [nm_len]; exact hp)
 rwa [argsL_nm] at this
theorem TermW.args_in (h : TermW ar t) (hp : p < t.length) {k : Nat} (hk : k < (argsL ar t p).length) : (p : Int) < (argsL ar t p).getD k 0 ∧ (argsL ar t p).getD k 0 < (M.endN ar t p : Int) := by
 have := argsL_in h.nm (p := p) (by rw [nm_len]; exact hp) (k := k) (by rw [argsL_nm]; exact hk)
 rw [argsL_nm, endN_nm] at this
 exact ⟨this.1, this.2.1⟩
theorem TermW.end0 (h : TermW ar t) : M.endN ar t 0 = t.length := by
 unfold M.endN endAt
 rw [List.drop_zero, h.whole]; simp
theorem TermW.ne (h : TermW ar t) : t ≠ [] := fun e => by have := h.len.1; rw [e] at this; simp at this
def WF (ar r : List Int) (n : Nat) : Prop := endGo ar r n = some r.length
theorem WF_nil : WF ar [] 0 := rfl
theorem WF_cons {x : Int} {r : List Int} : WF ar (x :: r) (n + 1) ↔ x < ar.length ∧ WF ar r (n + (arity ar x).toNat) := by
 unfold WF
 simp only [endGo, List.length_cons]
 by_cases hx : x < ar.length
 ·rw [if_pos hx]
  cases hr : endGo ar r (n + (arity ar x).toNat) with
  | none => simp
  | some k => simp [hx]
 ·rw [if_neg hx]; simp [hx]
theorem WF_app {a b : List Int} {m : Nat} (h : WF ar a n) (k : WF ar b m) : WF ar (a ++ b) (n + m) := by
 have := endGo_join (endGo_more (b := b) h) (m := m) (e2 := b.length) (by rw [List.drop_left]; exact k)
 unfold WF
 rw [List.length_append]; exact this
theorem WF_same {a b s r : List Int} (h : WF ar a n) (k : WF ar b n) (e : a ++ s = b ++ r) : a = b ∧ s = r := by
 have h1 := endGo_more (b := s) h
 rw [e, endGo_more (b := r) k] at h1
 exact List.append_inj e (Option.some.inj h1).symm
theorem WF.zero {r : List Int} (h : WF ar r 0) : r = [] := by
 unfold WF at h
 simp only [endGo, Option.some.injEq] at h
 exact List.eq_nil_of_length_eq_zero h.symm
theorem WF.pos {r : List Int} (h : WF ar r (n + 1)) : r ≠ [] := fun e => by subst e; simp [WF, endGo] at h
theorem TermW.wf (h : TermW ar t) : WF ar t 1 := h.whole
theorem WF.var {x : Int} (hx : x < 0) : WF ar [x] 1 := WF_cons.2 ⟨by omega, by rw [show arity ar x = 0 from by unfold arity; rw [if_pos hx]]; exact WF_nil⟩
theorem WF.one {x : Int} {r : List Int} (h : WF ar (x :: r) 1) (hx : x < 0) : r = [] := by
 have := (WF_cons.1 h).2
 rw [show arity ar x = 0 from by unfold arity; rw [if_pos hx]] at this
 exact this.zero
theorem TermW.isvar (h : TermW ar t) (hx : t.getD 0 0 < 0) : t = [t.getD 0 0] := by
 cases t with
 | nil => exact absurd rfl h.ne
 | cons x r => simp only [List.getD_cons_zero] at hx ⊢; rw [h.wf.one hx]
end
abbrev Sbs := Int → List Int
def ap (θ : Sbs) (t : List Int) : List Int := t.flatMap θ
structure GoodS (ar : List Int) (θ : Sbs) : Prop where
 sym : ∀ n, 0 ≤ n → θ n = [n]
 var : ∀ n, n < 0 → WF ar (θ n) 1
section
variable {ar t s r : List Int} {θ σ : Sbs} {n : Nat} {x : Int}
@[simp] theorem ap_nil : ap θ [] = [] := rfl
theorem ap_cons : ap θ (x :: t) = θ x ++ ap θ t := by simp [ap]
theorem ap_app : ap θ (t ++ s) = ap θ t ++ ap θ s := by simp [ap]
theorem ap_one : ap θ [x] = θ x := by simp [ap]
theorem ap_ap : ap θ (ap σ t) = ap (fun n => ap θ (σ n)) t := by
 induction t with
 | nil => rfl
 | cons x t ih => rw [ap_cons, ap_app, ih, ap_cons]
theorem ap_congr (h : ∀ x ∈ t, θ x = σ x) : ap θ t = ap σ t := by
 induction t with
 | nil => rfl
 | cons x t ih => rw [ap_cons, ap_cons, h x (by simp), ih (fun y hy => h y (by simp [hy]))]
theorem mem_ap {y : Int} : y ∈ ap θ t ↔ ∃ x ∈ t, y ∈ θ x := by simp [ap]
theorem GoodS.pos (h : GoodS ar θ) : 1 ≤ (θ x).length := by
 rcases Int.lt_or_le x 0 with hx | hx
 ·have := (h.var x hx).pos
  cases hl : θ x with
  | nil => exact absurd hl this
  | cons => simp
 ·rw [h.sym x hx]; simp
theorem GoodS.len (h : GoodS ar θ) : t.length ≤ (ap θ t).length := by
 induction t with
 | nil => simp
 | cons x t ih => rw [ap_cons, List.length_append, List.length_cons]; have := h.pos (x := x); omega
theorem GoodS.len_mem (h : GoodS ar θ) (hx : x ∈ t) : (θ x).length + t.length ≤ (ap θ t).length + 1 := by
 induction t with
 | nil => cases hx
 | cons y t ih =>
  rw [ap_cons, List.length_append, List.length_cons]
  rcases List.mem_cons.1 hx with rfl | hx
  ·have := h.len (t := t); omega
  ·have := ih hx; have := h.pos (x := y); omega
theorem ap_wf (h : GoodS ar θ) : ∀ {r : List Int} {n : Nat}, WF ar r n → WF ar (ap θ r) n
 | [], 0, _ => WF_nil
 | [], n + 1, k => absurd rfl k.pos
 | x :: r, 0, k => by have := k.zero; cases this
 | x :: r, n + 1, k => by
  obtain ⟨h1, h2⟩ := WF_cons.1 k
  rw [ap_cons]
  rcases Int.lt_or_le x 0 with hx | hx
  ·rw [show arity ar x = 0 from by unfold arity; rw [if_pos hx]] at h2
   rw [Nat.add_comm]
   exact WF_app (h.var x hx) (ap_wf h h2)
  ·rw [h.sym x hx]
   exact WF_cons.2 ⟨h1, ap_wf h h2⟩
def partsL (ar t : List Int) : RowL := (argsL ar t 0).map fun q => sub ar t q.toNat
theorem parts_go (h : TermW ar t) : ∀ {n q e : Nat}, Stand ar t n q e → ((argsGo ar t n q).map fun q => sub ar t q.toNat).flatten = (t.drop q).take (e - q)
 | 0, q, e, hs => by
  have := hs.1
  simp only [endGo, Option.some.injEq] at this
  have := hs.2
  simp [argsGo, show e - q = 0 by omega]
 | n + 1, q, e, hs => by
  obtain ⟨h1, h2, h3, h4⟩ := h.stand hs
  rw [argsGo, List.map_cons, List.flatten_cons, parts_go h h2, Int.toNat_natCast]
  unfold sub
  rw [show e - q = (M.endN ar t q - q) + (e - M.endN ar t q) from by omega, List.take_add, List.drop_drop, show q + (M.endN ar t q - q) = M.endN ar t q from by omega]
theorem parts_flat (h : TermW ar t) : t = t.getD 0 0 :: (partsL ar t).flatten := by
 have hl := h.len
 unfold partsL argsL
 rw [parts_go h (h.stand0 (p := 0) (by omega)), h.end0, List.take_of_length_le (by rw [List.length_drop]; omega)]
 cases t with
 | nil => exact absurd rfl h.ne
 | cons x r => simp
theorem parts_wf (h : TermW ar t) : ∀ s ∈ partsL ar t, TermW ar s := by
 intro s hs
 unfold partsL at hs
 obtain ⟨q, hq, rfl⟩ := List.mem_map.1 hs
 obtain ⟨k, hk, rfl⟩ := List.getElem_of_mem hq
 have hl := h.len
 have := h.args_in (p := 0) (by omega) hk
 rw [h.end0] at this
 have e : (argsL ar t 0)[k] = (argsL ar t 0).getD k 0 := by simp [List.getD, hk]
 rw [e]
 exact h.sub (by omega)
theorem parts_len : (partsL ar t).length = (arity ar (t.getD 0 0)).toNat := by unfold partsL; rw [List.length_map, argsL_len]
theorem flat_same : ∀ {as bs : RowL}, as.length = bs.length → (∀ a ∈ as, WF ar a 1) → (∀ b ∈ bs, WF ar b 1) → as.flatten = bs.flatten → as = bs
 | [], [], _, _, _, _ => rfl
 | [], _ :: _, h, _, _, _ => by simp at h
 | _ :: _, [], h, _, _, _ => by simp at h
 | a :: as, b :: bs, h, ha, hb, e => by
  simp only [List.flatten_cons] at e
  obtain ⟨e1, e2⟩ := WF_same (ha a (by simp)) (hb b (by simp)) e
  rw [e1, flat_same (by simpa using h) (fun x hx => ha x (by simp [hx])) (fun x hx => hb x (by simp [hx])) e2]
theorem ap_flat {as : RowL} : ap θ as.flatten = (as.map (ap θ)).flatten := by
 induction as with
 | nil => rfl
 | cons a as ih => rw [List.flatten_cons, ap_app, ih, List.map_cons, List.flatten_cons]
theorem ap_parts {a c : List Int} (g : GoodS ar θ) (ha : TermW ar a) (hc : TermW ar c) (h0 : 0 ≤ a.getD 0 0) (he : a.getD 0 0 = c.getD 0 0) :
  ap θ a = ap θ c ↔ ∀ i, i < (partsL ar a).length → ap θ ((partsL ar a).getD i []) = ap θ ((partsL ar c).getD i []) := by
 have hl : (partsL ar a).length = (partsL ar c).length := by rw [parts_len, parts_len, he]
 have e1 : ap θ a = ap θ c ↔ (partsL ar a).map (ap θ) = (partsL ar c).map (ap θ) := by
  have ea : ap θ a = θ (a.getD 0 0) ++ ((partsL ar a).map (ap θ)).flatten := by
   have := congrArg (ap θ) (parts_flat ha); rwa [ap_cons, ap_flat] at this
  have ec : ap θ c = θ (a.getD 0 0) ++ ((partsL ar c).map (ap θ)).flatten := by
   have := congrArg (ap θ) (parts_flat hc); rwa [ap_cons, ap_flat, ← he] at this
  rw [ea, ec]
  constructor
  ·intro h
   exact flat_same (ar := ar) (by simp [hl]) (fun x hx => by obtain ⟨y, hy, rfl⟩ := List.mem_map.1 hx; exact ap_wf g (parts_wf ha y hy).wf) (fun x hx => by obtain ⟨y, hy, rfl⟩ := List.mem_map.1 hx; exact ap_wf g (parts_wf hc y hy).wf) (List.append_cancel_left h)
  ·intro h; rw [h]
 rw [e1]
 constructor
 ·intro h i hi
  have := congrArg (fun l : RowL => l.getD i []) h
  simpa [List.getD, hi, show i < (partsL ar c).length by omega] using this
 ·intro h
  refine List.ext_getElem (by simp [hl]) fun i h1 h2 => ?_
  have hi : i < (partsL ar a).length := by simpa using h1
  have := h i hi
  simpa [List.getD, hi, show i < (partsL ar c).length by omega] using this
theorem ap_heads {a c : List Int} (g : GoodS ar θ) (ha : TermW ar a) (hc : TermW ar c) (h0 : 0 ≤ a.getD 0 0) (h1 : 0 ≤ c.getD 0 0) (hn : a.getD 0 0 ≠ c.getD 0 0) : ap θ a ≠ ap θ c := by
 intro h
 have ea := congrArg (ap θ) (parts_flat ha)
 have ec := congrArg (ap θ) (parts_flat hc)
 rw [ap_cons, g.sym _ h0] at ea
 rw [ap_cons, g.sym _ h1] at ec
 rw [ea, ec] at h
 exact hn (List.cons.inj h).1
theorem part_lt (g : GoodS ar θ) (ha : TermW ar t) {i : Nat} (hi : i < (partsL ar t).length) : (ap θ ((partsL ar t).getD i [])).length < (ap θ t).length := by
 have e : ap θ t = θ (t.getD 0 0) ++ ap θ (partsL ar t).flatten := by
  have := congrArg (ap θ) (parts_flat ha); rwa [ap_cons] at this
 have hp := g.pos (x := t.getD 0 0)
 rw [e, List.length_append, ap_flat]
 have : ∀ (l : RowL) (j : Nat), j < l.length → (ap θ (l.getD j [])).length ≤ (l.map (ap θ)).flatten.length := by
  intro l
  induction l with
  | nil => intro j hj; simp at hj
  | cons x l ih =>
   intro j hj
   rw [List.map_cons, List.flatten_cons, List.length_append]
   cases j with
   | zero => simp
   | succ j => have := ih j (by simpa using hj); simp only [List.getD_cons_succ]; omega
 have := this _ i hi
 omega
end
def SatB (b : RowL) (θ : Sbs) : Prop := ∀ n, n < 0 → lkN b n ≠ [] → θ n = ap θ (lkN b n)
def Sol (b : RowL) (σ : Sbs) : Prop := ∀ n, σ n = if lkN b n = [] then [n] else ap σ (lkN b n)
def Acyc (b : RowL) (ρ : Int → Nat) : Prop := ∀ n, n < 0 → ∀ m ∈ lkN b n, m < 0 → ρ m < ρ n
structure BOk (ar : List Int) (b : RowL) : Prop where
 len : b.length = 48
 wt : ∀ n, n < 0 → lkN b n ≠ [] → TermW ar (lkN b n)
 acyc : ∃ ρ, Acyc b ρ
section
variable {ar t s : List Int} {b : RowL} {θ σ : Sbs} {ρ : Int → Nat} {x n : Int}
def solGo (b : RowL) : Nat → Sbs
 | 0, n => [n]
 | k + 1, n => if lkN b n = [] then [n] else ap (solGo b k) (lkN b n)
theorem solGo_sym (h : 0 ≤ n) : ∀ k, solGo b k n = [n]
 | 0 => rfl
 | k + 1 => by rw [solGo, if_pos (lkN_pos h)]
theorem solGo_stable (ha : Acyc b ρ) : ∀ (r : Nat) (n : Int), n < 0 → ρ n = r → ∀ k, r < k → solGo b k n = solGo b (r + 1) n := by
 intro r
 induction r using Nat.strongRecOn with
 | _ r ih =>
  intro n hn hr k hk
  obtain ⟨k, rfl⟩ : ∃ j, k = j + 1 := ⟨k - 1, by omega⟩
  rw [solGo, solGo]
  split
  ·rfl
  ·refine ap_congr fun m hm => ?_
   rcases Int.lt_or_le m 0 with h0 | h0
   ·have := ha n hn m hm h0
    rw [ih (ρ m) (by omega) m h0 rfl k (by omega), ih (ρ m) (by omega) m h0 rfl r (by omega)]
   ·rw [solGo_sym h0, solGo_sym h0]
theorem sol_exists (ha : Acyc b ρ) : ∃ σ, Sol b σ := by
 refine ⟨fun n => solGo b (ρ n + 1) n, fun n => ?_⟩
 dsimp only
 rw [solGo]
 split
 ·rfl
 ·refine ap_congr fun m hm => ?_
  rcases Int.lt_or_le m 0 with h0 | h0
  ·rcases Int.lt_or_le n 0 with hn | hn
   ·exact solGo_stable ha _ m h0 rfl _ (ha n hn m hm h0)
   ·rw [lkN_pos hn] at hm; cases hm
  ·rw [solGo_sym h0, solGo_sym h0]
theorem Sol.sym (h : Sol b σ) (hn : 0 ≤ n) : σ n = [n] := by rw [h n, if_pos (lkN_pos hn)]
theorem Sol.free (h : Sol b σ) (hn : lkN b n = []) : σ n = [n] := by rw [h n, if_pos hn]
theorem Sol.bound (h : Sol b σ) (hn : lkN b n ≠ []) : σ n = ap σ (lkN b n) := by rw [h n, if_neg hn]
theorem Sol.sat (h : Sol b σ) : SatB b σ := fun n _ hn => h.bound hn
theorem Sol.good (hb : BOk ar b) (h : Sol b σ) : GoodS ar σ := by
 obtain ⟨ρ, ha⟩ := hb.acyc
 refine ⟨fun n hn => h.sym hn, ?_⟩
 have key : ∀ (r : Nat) (n : Int), n < 0 → ρ n = r → WF ar (σ n) 1 := by
  intro r
  induction r using Nat.strongRecOn with
  | _ r ih =>
   intro n hn hr
   by_cases hl : lkN b n = []
   ·rw [h.free hl]; exact WF.var hn
   ·rw [h.bound hl]
    have g : GoodS ar (fun m => if m ∈ lkN b n then σ m else [m]) := by
     refine ⟨fun m hm => ?_, fun m hm => ?_⟩
     ·split
      ·exact h.sym hm
      ·rfl
     ·split
      ·rename_i hmem
       exact ih (ρ m) (by have := ha n hn m hmem hm; omega) m hm rfl
      ·exact WF.var hm
    rw [ap_congr (σ := fun m => if m ∈ lkN b n then σ m else [m]) (fun m hm => by simp [hm])]
    exact ap_wf g (hb.wt n hn hl).wf
 exact fun n hn => key _ n hn rfl
theorem Sol.most (ha : Acyc b ρ) (h : Sol b σ) (hs : ∀ n, 0 ≤ n → θ n = [n]) (hθ : SatB b θ) : ∀ n, ap θ (σ n) = θ n := by
 have key : ∀ (r : Nat) (n : Int), n < 0 → ρ n = r → ap θ (σ n) = θ n := by
  intro r
  induction r using Nat.strongRecOn with
  | _ r ih =>
   intro n hn hr
   by_cases hl : lkN b n = []
   ·rw [h.free hl, ap_one]
   ·rw [h.bound hl, ap_ap, hθ n hn hl]
    refine ap_congr fun m hm => ?_
    rcases Int.lt_or_le m 0 with h0 | h0
    ·exact ih (ρ m) (by have := ha n hn m hm h0; omega) m h0 rfl
    ·rw [h.sym h0, ap_one]
 intro n
 rcases Int.lt_or_le n 0 with h0 | h0
 ·exact key _ n h0 rfl
 ·rw [h.sym h0, ap_one]
theorem Sol.most_t (hb : BOk ar b) (h : Sol b σ) (g : GoodS ar θ) (hθ : SatB b θ) : ap θ (ap σ t) = ap θ t := by
 obtain ⟨ρ, ha⟩ := hb.acyc
 rw [ap_ap]
 exact ap_congr fun m _ => h.most ha g.sym hθ m
theorem BOk.sol (hb : BOk ar b) : ∃ σ, Sol b σ := let ⟨_, ha⟩ := hb.acyc; sol_exists ha
theorem lkN_nils : lkN (List.replicate 48 []) n = [] := by
 unfold lkN
 split
 ·rfl
 ·simp only [List.getD, List.getElem?_replicate]
  split <;> rfl
theorem BOk.nils : BOk ar (List.replicate 48 []) := ⟨by simp, fun n _ h => absurd lkN_nils h, ⟨fun _ => 0, fun n _ m hm => by rw [lkN_nils] at hm; cases hm⟩⟩
theorem SatB.nils : SatB (List.replicate 48 []) θ := fun n _ h => absurd lkN_nils h
theorem varIx_inj {x y : Int} (hx : x < 0) (hy : y < 0) (h : varIx x = varIx y) : x = y := by unfold varIx at h; omega
theorem lkN_set (hb : b.length = 48) (hx : x < 0) (hx48 : -48 ≤ x) : lkN (b.set (varIx x) t) n = if n = x then t else lkN b n := by
 unfold lkN
 by_cases hn : 0 ≤ n
 ·rw [if_pos hn, if_pos hn, if_neg (by omega)]
 ·rw [if_neg hn, if_neg hn]
  by_cases h : n = x
  ·subst h
   rw [if_pos rfl]
   simp only [List.getD, List.getElem?_set_self (show varIx n < b.length by rw [hb]; unfold varIx; omega), Option.getD_some]
  ·rw [if_neg h]
   simp only [List.getD]
   rw [List.getElem?_set_ne]
   intro e
   exact h (varIx_inj (by omega) hx e.symm)
theorem reach_mem {y : Int} (h : Sol b σ) (hm : n ∈ lkN b y) (hxn : x ∈ σ n) : x ∈ σ y := by
 rw [h.bound (fun e => by rw [e] at hm; cases hm)]
 exact mem_ap.2 ⟨n, hm, hxn⟩
theorem maxRank (l : List Int) (ρ : Int → Nat) : ∃ N, ∀ m ∈ l, ρ m < N := by
 induction l with
 | nil => exact ⟨0, fun _ h => by cases h⟩
 | cons x l ih =>
  obtain ⟨N, hN⟩ := ih
  refine ⟨N + ρ x + 1, fun m hm => ?_⟩
  rcases List.mem_cons.1 hm with rfl | hm
  ·omega
  ·have := hN m hm; omega
theorem BOk.bind (hb : BOk ar b) (h : Sol b σ) (hx : x < 0) (hx48 : -48 ≤ x) (hf : lkN b x = []) (ht : TermW ar t) (hno : x ∉ ap σ t) : BOk ar (b.set (varIx x) t) := by
 obtain ⟨ρ, ha⟩ := hb.acyc
 refine ⟨by rw [List.length_set]; exact hb.len, fun n hn hl => ?_, ?_⟩
 ·rw [lkN_set hb.len hx hx48] at hl ⊢
  split
  ·exact ht
  ·rename_i hne; rw [if_neg hne] at hl; exact hb.wt n hn hl
 ·obtain ⟨N, hN⟩ := maxRank t ρ
  refine ⟨fun y => if x ∈ σ y then ρ y + N else ρ y, fun n hn m hm h0 => ?_⟩
  dsimp only
  rw [lkN_set hb.len hx hx48] at hm
  split at hm
  ·rename_i he
   subst he
   have h1 : n ∉ σ m := fun hc => hno (mem_ap.2 ⟨m, hm, hc⟩)
   have h2 : n ∈ σ n := by rw [h.free hf]; simp
   rw [if_neg h1, if_pos h2]
   have := hN m hm; omega
  ·have := ha n hn m hm h0
   by_cases h1 : x ∈ σ m
   ·rw [if_pos h1, if_pos (reach_mem h hm h1)]; omega
   ·rw [if_neg h1]; split <;> omega
theorem SatB.bind (hb : b.length = 48) (hx : x < 0) (hx48 : -48 ≤ x) (hf : lkN b x = []) (ht : t ≠ []) : SatB (b.set (varIx x) t) θ ↔ SatB b θ ∧ θ x = ap θ t := by
 unfold SatB
 constructor
 ·intro h
  refine ⟨fun n hn hl => ?_, ?_⟩
  ·have := h n hn
   rw [lkN_set hb hx hx48, if_neg (fun e => by subst e; exact hl hf)] at this
   exact this hl
  ·have := h x hx
   rw [lkN_set hb hx hx48, if_pos rfl] at this
   exact this ht
 ·intro ⟨h1, h2⟩ n hn hl
  rw [lkN_set hb hx hx48] at hl ⊢
  split
  ·rename_i e; rw [e]; exact h2
  ·rename_i e; rw [if_neg e] at hl; exact h1 n hn hl
theorem no_occurs (hb : BOk ar b) (h : Sol b σ) (g : GoodS ar θ) (hθ : SatB b θ) (hx : x ∈ ap σ t) (h2 : 2 ≤ (ap σ t).length) : θ x ≠ ap θ t := by
 intro e
 rw [← h.most_t hb g hθ] at e
 have := g.len_mem hx
 have := congrArg List.length e
 omega
inductive RootOf (b : RowL) : List Int → List Int → Prop
 | here {t : List Int} (h : 0 ≤ t.getD 0 0 ∨ lkN b (t.getD 0 0) = []) : RootOf b t t
 | step {t u : List Int} (h0 : t.getD 0 0 < 0) (hl : lkN b (t.getD 0 0) ≠ []) (h : RootOf b (lkN b (t.getD 0 0)) u) : RootOf b t u
end
section
variable {ar t a c u w x y A C : List Int} {b b1 b2 : RowL} {θ σ : Sbs} {ρ : Int → Nat} {n m : Int} {k j N : Nat} {sn s1 s2 : List Bool} {E E1 E2 : Sbs → Prop}
def ClearM (σ : Sbs) (ρ : Int → Nat) (n : Int) (k : Nat) (sn : List Bool) : Prop := ∀ m : Int, m < 0 → sn.getD (varIx m) false = true → ρ m < k → n ∉ σ m
def MarkR (σ : Sbs) (n : Int) (sn s1 : List Bool) : Prop := ∀ m : Int, m < 0 → s1.getD (varIx m) false = true → sn.getD (varIx m) false = true ∨ n ∉ σ m
theorem MarkR.refl : MarkR σ n sn sn := fun _ _ h => .inl h
theorem set_mark (hl : s1.length = 48) (hm : m < 0) (hg : -48 ≤ m) (hy : n < 0) : (s1.set (varIx m) true).getD (varIx n) false = true ↔ n = m ∨ s1.getD (varIx n) false = true := by
 by_cases e : n = m
 ·subst e
  simp only [List.getD, List.getElem?_set_self (show varIx n < s1.length by rw [hl]; unfold varIx; omega), Option.getD_some, true_or]
 ·have : varIx m ≠ varIx n := fun h => e (varIx_inj hy hm h.symm)
  simp only [List.getD, List.getElem?_set_ne this, e, false_or]
theorem MarkR.step (h : MarkR σ n sn s1) (hl : s1.length = 48) (hm : m < 0) (hg : -48 ≤ m) (h2 : MarkR σ n (s1.set (varIx m) true) s2) (hno : n ∉ σ m) : MarkR σ n sn s2 := by
 intro y hy hs
 rcases h2 y hy hs with h3 | h3
 ·rcases (set_mark hl hm hg hy).1 h3 with rfl | h4
  ·exact .inr hno
  ·exact h y hy h4
 ·exact .inr h3
theorem MarkR.set (h : MarkR σ n sn s1) (hl : s1.length = 48) (hm : m < 0) (hg : -48 ≤ m) (hno : n ∉ σ m) : MarkR σ n sn (s1.set (varIx m) true) := h.step hl hm hg .refl hno
theorem ClearM.down (h : ClearM σ ρ n k sn) (h1 : MarkR σ n sn s1) (hl : s1.length = 48) (hm : m < 0) (hg : -48 ≤ m) (hk : ρ m < k) : ClearM σ ρ n (ρ m) (s1.set (varIx m) true) := by
 intro y hy hs hr
 rcases (set_mark hl hm hg hy).1 hs with rfl | h4
 ·omega
 ·rcases h1 y hy h4 with h5 | h5
  ·exact h y hy h5 (by omega)
  ·exact h5
theorem ClearM.seen (h : ClearM σ ρ n k sn) (h1 : MarkR σ n sn s1) (hm : m < 0) (hs : s1.getD (varIx m) false = true) (hk : ρ m < k) : n ∉ σ m := by
 rcases h1 m hm hs with h5 | h5
 ·exact h m hm h5 hk
 ·exact h5
theorem ClearM.nils : ClearM σ ρ n k (List.replicate N false) := by
 intro m hm h
 simp only [List.getD, List.getElem?_replicate] at h
 split at h <;> simp at h
theorem occ_here (hf : lkN b n = []) (h : Sol b σ) (hj : j < t.length) (he : t.getD j 0 = n) : n ∈ ap σ t := mem_ap.2 ⟨n, mem_of_getD hj he, by rw [h.free hf]; simp⟩
theorem occ_in (h : Sol b σ) (hj : j < t.length) (hm : t.getD j 0 = m) (hl : lkN b m ≠ []) (ho : n ∈ ap σ (lkN b m)) : n ∈ ap σ t := mem_ap.2 ⟨m, mem_of_getD hj hm, by rw [h.bound hl]; exact ho⟩
theorem occ_not (hall : ∀ i, i < t.length → n ∉ σ (t.getD i 0)) : n ∉ ap σ t := by
 intro h
 obtain ⟨x, hx, hn⟩ := mem_ap.1 h
 obtain ⟨i, hi, rfl⟩ := List.getElem_of_mem hx
 have := hall i hi
 simp only [List.getD, List.getElem?_eq_getElem hi, Option.getD_some] at this
 exact this hn
theorem sym_no (h : Sol b σ) (hn : n < 0) (hm : 0 ≤ m) : n ∉ σ m := by rw [h.sym hm]; simp; omega
theorem free_no (h : Sol b σ) (hne : m ≠ n) (hl : lkN b m = []) : n ∉ σ m := by rw [h.free hl]; simp; omega
theorem bound_no (h : Sol b σ) (hl : lkN b m ≠ []) (hno : n ∉ ap σ (lkN b m)) : n ∉ σ m := by rw [h.bound hl]; exact hno
theorem lkN_get (hm : m < 0) : lkN b m = b.getD (varIx m) [] := lkN_neg hm
structure Root (ar : List Int) (b : RowL) (t u : List Int) : Prop where
 w : TermW ar u
 top : 0 ≤ u.getD 0 0 ∨ lkN b (u.getD 0 0) = []
 same : ∀ θ : Sbs, SatB b θ → ap θ t = ap θ u
def RootTo (ar : List Int) (b : RowL) (t u : List Int) : Prop := TermW ar u ∧ ∀ θ : Sbs, SatB b θ → ap θ t = ap θ u
theorem RootTo.refl (h : TermW ar t) : RootTo ar b t t := ⟨h, fun _ _ => rfl⟩
theorem RootTo.next (hb : BOk ar b) (h : RootTo ar b t u) (h0 : u.getD 0 0 < 0) (hl : b.getD (varIx (u.getD 0 0)) [] ≠ []) : RootTo ar b t (b.getD (varIx (u.getD 0 0)) []) := by
 rw [← lkN_get h0] at hl ⊢
 refine ⟨hb.wt _ h0 hl, fun θ hθ => ?_⟩
 rw [h.2 θ hθ, h.1.isvar h0, ap_one, hθ _ h0 hl]
 rw [show [u.getD 0 0].getD 0 0 = u.getD 0 0 from rfl]
theorem RootTo.done (h : RootTo ar b t u) (ht : 0 ≤ u.getD 0 0 ∨ b.getD (varIx (u.getD 0 0)) [] = []) : Root ar b t u := by
 refine ⟨h.1, ?_, h.2⟩
 rcases Int.lt_or_le (u.getD 0 0) 0 with h0 | h0
 ·rw [lkN_get h0]; exact .inr (ht.resolve_left (by omega))
 ·exact .inl h0
def rootMu (ρ : Int → Nat) (u : List Int) : Nat := if u.getD 0 0 < 0 then ρ (u.getD 0 0) + 1 else 0
theorem rootMu_lt (ha : Acyc b ρ) (hb : BOk ar b) (h0 : u.getD 0 0 < 0) (hl : b.getD (varIx (u.getD 0 0)) [] ≠ []) : rootMu ρ (b.getD (varIx (u.getD 0 0)) []) < rootMu ρ u := by
 rw [← lkN_get h0] at hl ⊢
 unfold rootMu
 rw [if_pos h0]
 split
 ·rename_i h1
  have hw := (hb.wt _ h0 hl).len
  have := ha _ h0 ((lkN b (u.getD 0 0)).getD 0 0) (mem_of_getD (k := 0) (by omega) rfl) h1
  omega
 ·omega
def unb (b : RowL) : Nat := b.countP fun x => decide (x = [])
structure Solves (ar : List Int) (b b1 : RowL) (E : Sbs → Prop) : Prop where
 ok : BOk ar b1
 iff : ∀ θ, GoodS ar θ → (SatB b1 θ ↔ SatB b θ ∧ E θ)
 less : unb b1 < unb b ∨ b1 = b
theorem Solves.refl (hb : BOk ar b) (h : ∀ θ, GoodS ar θ → SatB b θ → E θ) : Solves ar b b E := ⟨hb, fun θ g => ⟨fun hs => ⟨hs, h θ g hs⟩, fun hs => hs.1⟩, .inr rfl⟩
theorem Solves.trans (h1 : Solves ar b b1 E1) (h2 : Solves ar b1 b2 E2) : Solves ar b b2 (fun θ => E1 θ ∧ E2 θ) := by
 refine ⟨h2.ok, fun θ g => ?_, ?_⟩
 ·rw [h2.iff θ g, h1.iff θ g, and_assoc]
 ·rcases h1.less with e1 | e1 <;> rcases h2.less with e2 | e2
  ·left; omega
  ·left; rw [e2]; exact e1
  ·left; rw [e1] at e2; exact e2
  ·right; rw [e2, e1]
theorem Solves.congr (h : Solves ar b b1 E) (hc : ∀ θ, GoodS ar θ → SatB b θ → (E θ ↔ E1 θ)) : Solves ar b b1 E1 := by
 refine ⟨h.ok, fun θ g => ?_, h.less⟩
 rw [h.iff θ g]
 exact ⟨fun ⟨p, q⟩ => ⟨p, (hc θ g p).1 q⟩, fun ⟨p, q⟩ => ⟨p, (hc θ g p).2 q⟩⟩
theorem unb_set : ∀ {b : RowL} {i : Nat} {t : List Int}, i < b.length → b.getD i [] = [] → t ≠ [] → unb (b.set i t) < unb b
 | [], i, t, h, _, _ => by simp at h
 | r :: b, 0, t, h, he, ht => by
  simp only [List.getD_cons_zero] at he
  subst he
  simp [unb, ht]
 | r :: b, i + 1, t, h, he, ht => by
  have := unb_set (b := b) (i := i) (t := t) (by simpa using h) (by simpa using he) ht
  simp only [unb, List.set_cons_succ, List.countP_cons] at this ⊢
  omega
theorem Solves.bind (hb : BOk ar b) (h : Sol b σ) (hn : n < 0) (hg : -48 ≤ n) (hf : lkN b n = []) (ht : TermW ar t) (hno : n ∉ ap σ t) : Solves ar b (b.set (varIx n) t) (fun θ => θ n = ap θ t) := by
 refine ⟨hb.bind h hn hg hf ht hno, fun θ _ => SatB.bind hb.len hn hg hf ht.ne, .inl ?_⟩
 rw [lkN_get hn] at hf
 exact unb_set (by rw [hb.len]; unfold varIx; omega) hf ht.ne
theorem bind_eq (hb : BOk ar b) (h : Sol b σ) (hx : Root ar b A x) (hy : Root ar b C y) (hn : x.getD 0 0 < 0) (hno : x.getD 0 0 ∉ ap σ y) : Solves ar b (b.set (varIx (x.getD 0 0)) y) (fun θ => ap θ A = ap θ C) := by
 have hl := hx.w.len
 refine (Solves.bind hb h hn (hx.w.geD (by omega)) (hx.top.resolve_left (by omega)) hy.w hno).congr fun θ g hs => ?_
 rw [hx.same θ hs, hy.same θ hs]
 have := congrArg (ap θ) (hx.w.isvar hn)
 rw [ap_one] at this
 rw [this]
theorem bind_var (h : Sol b σ) (hy : Root ar b C y) (hn : y.getD 0 0 < 0) (hne : x.getD 0 0 ≠ y.getD 0 0) : x.getD 0 0 ∉ ap σ y := by
 have := congrArg (ap σ) (hy.w.isvar hn)
 rw [ap_one, h.free (hy.top.resolve_left (by omega))] at this
 rw [this]
 exact fun h => hne (List.mem_singleton.1 h)
theorem occ_eq (hb : BOk ar b) (h : Sol b σ) (hx : Root ar b A x) (hy : Root ar b C y) (hn : x.getD 0 0 < 0) (h0 : 0 ≤ y.getD 0 0) (ho : x.getD 0 0 ∈ ap σ y) : ∀ θ, GoodS ar θ → SatB b θ → ap θ A ≠ ap θ C := by
 intro θ g hs
 rw [hx.same θ hs, hy.same θ hs]
 have e := congrArg (ap θ) (hx.w.isvar hn)
 rw [ap_one] at e
 rw [e]
 refine no_occurs hb h g hs ho ?_
 have gs := h.good hb
 have e2 : ap σ y = σ (y.getD 0 0) ++ ap σ (partsL ar y).flatten := by
  have := congrArg (ap σ) (parts_flat hy.w); rwa [ap_cons] at this
 rw [e2, h.sym h0] at ho ⊢
 rcases List.mem_append.1 ho with h1 | h1
 ·exact absurd (List.mem_singleton.1 h1) (by omega)
 ·cases hl : ap σ (partsL ar y).flatten with
  | nil => rw [hl] at h1; cases h1
  | cons => simp
theorem same_eq (hb : BOk ar b) (hx : Root ar b A x) (hy : Root ar b C y) (hn : x.getD 0 0 < 0) (he : x.getD 0 0 = y.getD 0 0) : Solves ar b b (fun θ => ap θ A = ap θ C) := by
 refine Solves.refl hb fun θ g hs => ?_
 rw [hx.same θ hs, hy.same θ hs, hx.w.isvar hn, hy.w.isvar (by omega), he]
theorem heads_ne (hx : Root ar b A x) (hy : Root ar b C y) (h0 : 0 ≤ x.getD 0 0) (h1 : 0 ≤ y.getD 0 0) (hn : x.getD 0 0 ≠ y.getD 0 0) : ∀ θ, GoodS ar θ → SatB b θ → ap θ A ≠ ap θ C := by
 intro θ g hs
 rw [hx.same θ hs, hy.same θ hs]
 exact ap_heads g hx.w hy.w h0 h1 hn
theorem Solves.swap (h : Solves ar b b1 (fun θ => ap θ A = ap θ C)) : Solves ar b b1 (fun θ => ap θ C = ap θ A) := h.congr fun _ _ _ => eq_comm
theorem no_swap (h : ∀ θ, GoodS ar θ → SatB b θ → ap θ A ≠ ap θ C) : ∀ θ, GoodS ar θ → SatB b θ → ap θ C ≠ ap θ A := fun θ g s e => h θ g s e.symm
def EqTo (ar x y : List Int) (j : Nat) (θ : Sbs) : Prop := ∀ i, i < j → ap θ ((partsL ar x).getD i []) = ap θ ((partsL ar y).getD i [])
theorem EqTo.start (hb : BOk ar b) : Solves ar b b (EqTo ar x y 0) := Solves.refl hb fun _ _ _ i hi => absurd hi (by omega)
theorem EqTo.next (h : Solves ar b b1 (EqTo ar x y j)) (h2 : Solves ar b1 b2 (fun θ => ap θ ((partsL ar x).getD j []) = ap θ ((partsL ar y).getD j []))) : Solves ar b b2 (EqTo ar x y (j + 1)) :=
 (h.trans h2).congr fun θ _ _ => ⟨fun ⟨p, q⟩ i hi => (Nat.lt_or_ge i j).elim (fun h => p i h) (fun h => by obtain rfl : i = j := (by omega); exact q), fun h => ⟨fun i hi => h i (by omega), h j (by omega)⟩⟩
theorem EqTo.stop (h : Solves ar b b1 (EqTo ar x y j)) (hx : Root ar b A x) (hy : Root ar b C y) (hj : j < (partsL ar x).length) (h0 : 0 ≤ x.getD 0 0) (he : x.getD 0 0 = y.getD 0 0)
  (h2 : ∀ θ, GoodS ar θ → SatB b1 θ → ap θ ((partsL ar x).getD j []) ≠ ap θ ((partsL ar y).getD j [])) : ∀ θ, GoodS ar θ → SatB b θ → ap θ A ≠ ap θ C := by
 intro θ g hs e
 rw [hx.same θ hs, hy.same θ hs] at e
 have hp := (ap_parts g hx.w hy.w h0 he).1 e
 exact h2 θ g ((h.iff θ g).2 ⟨hs, fun i hi => hp i (by omega)⟩) (hp j hj)
theorem EqTo.done (h : Solves ar b b1 (EqTo ar x y j)) (hx : Root ar b A x) (hy : Root ar b C y) (hj : j = (partsL ar x).length) (h0 : 0 ≤ x.getD 0 0) (he : x.getD 0 0 = y.getD 0 0) : Solves ar b b1 (fun θ => ap θ A = ap θ C) :=
 h.congr fun θ g hs => by
  rw [hx.same θ hs, hy.same θ hs, ap_parts g hx.w hy.w h0 he, ← hj]
  rfl
theorem EqTo.less (h : Solves ar b b1 (EqTo ar x y j)) (hb : BOk ar b) (hσ : Sol b σ) (hx : Root ar b A x) (hj : j < (partsL ar x).length) (hk : unb b ≤ k) (hN : (ap σ A).length ≤ N) :
  ∃ σ1 k1 N1, Sol b1 σ1 ∧ unb b1 ≤ k1 ∧ (ap σ1 ((partsL ar x).getD j [])).length ≤ N1 ∧ (k1 < k ∨ k1 = k ∧ N1 < N) := by
 rcases h.less with h1 | h1
 ·obtain ⟨σ1, h2⟩ := h.ok.sol
  exact ⟨σ1, unb b1, _, h2, Nat.le_refl _, Nat.le_refl _, .inl (by omega)⟩
 ·subst h1
  refine ⟨σ, k, _, hσ, hk, Nat.le_refl _, .inr ⟨rfl, ?_⟩⟩
  have := part_lt (hσ.good hb) hx.w hj
  rw [hx.same σ hσ.sat] at hN
  omega
theorem parts_get (hj : j < (argsL ar t 0).length) : (partsL ar t).getD j [] = sub ar t ((argsL ar t 0).getD j 0).toNat := by
 unfold partsL
 simp [List.getD, hj]
theorem parts_W (h : TermW ar t) (hj : j < (argsL ar t 0).length) : TermW ar ((partsL ar t).getD j []) := by
 have hl : j < (partsL ar t).length := by unfold partsL; simpa using hj
 refine parts_wf h _ ?_
 simp only [List.getD, List.getElem?_eq_getElem hl, Option.getD_some]
 exact List.getElem_mem hl
theorem args_same (he : x.getD 0 0 = y.getD 0 0) : (argsL ar x 0).length = (argsL ar y 0).length := by rw [argsL_len, argsL_len, he]
theorem parts_args : (partsL ar t).length = (argsL ar t 0).length := by unfold partsL; simp
end
theorem args_nextW {ar t : List Int} {p n q : Nat} {os : List Int} (hn : 1 ≤ n) (he : argsL ar t p = os ++ argsGo ar t n q) : argsL ar t p = (os ++ [(q : Int)]) ++ argsGo ar t (n - 1) (endN ar t q) := by
 obtain ⟨n, rfl⟩ : ∃ m, n = m + 1 := ⟨n - 1, by omega⟩
 rw [he, argsGo, Nat.add_sub_cancel, List.append_assoc]; rfl
section
variable {ar t os : List Int} {b : RowL} {σ : Sbs} {ρ : Int → Nat} {m : Int} {j : Nat}
end
def awayL (t : List Int) : List Int := t.map fun n => if n < 0 then n - 24 else n
theorem away_at {t : List Int} {k : Nat} (h : k < t.length) : (awayL (t.take k) ++ t.drop k).getD k 0 = t.getD k 0 := by
 have hl : (awayL (t.take k)).length = k := by simp [awayL]; omega
 rw [List.getD_eq_getElem?_getD, List.getElem?_append_right (by omega), hl, Nat.sub_self, List.getElem?_drop, List.getD_eq_getElem?_getD, Nat.add_zero]
theorem away_next {t ws w2 : List Int} {k : Nat} (h : k < t.length) (hws : ws = awayL (t.take k) ++ t.drop k) (h2 : (w2 = ws.set k (ws.getD k 0 - 24) ∧ t.getD k 0 < 0) ∨ (w2 = ws ∧ 0 ≤ t.getD k 0)) : w2 = awayL (t.take (k + 1)) ++ t.drop (k + 1) := by
 have hl : (awayL (t.take k)).length = k := by simp [awayL]; omega
 have e : awayL (t.take (k + 1)) = awayL (t.take k) ++ [if t.getD k 0 < 0 then t.getD k 0 - 24 else t.getD k 0] := by
  unfold awayL; rw [take_succ_getD 0 h, List.map_append]; rfl
 rw [e, List.append_assoc]
 have hd := drop_cons h
 rcases h2 with ⟨rfl, h0⟩ | ⟨rfl, h0⟩
 ·rw [hws, away_at h, if_pos h0, List.set_append_right _ _ (by omega), hl, Nat.sub_self, hd]; rfl
 ·rw [hws, if_neg (by omega), hd]; rfl
end Go.Proofs.YtjpfankibmeaaaaGreat.M
namespace Go.Proofs.YtjpfankibmeaaaaGreat.X
open Go
end Go.Proofs.YtjpfankibmeaaaaGreat.X
namespace Go.Proofs.YtjpfankibmeaaaaGreat.M
structure Mgu (ar A C : List Int) (b : RowL) : Prop where
 ok : BOk ar b
 iff : ∀ θ, GoodS ar θ → (SatB b θ ↔ ap θ A = ap θ C)
section
variable {ar A C t s : List Int} {b1 b2 : RowL} {σ1 σ2 : Sbs} {n m : Int}
end
def orderGo : List Int → List Int → List Int
 | s, [] => s
 | s, n :: t => orderGo (if n < 0 ∧ n ∉ s then s ++ [n] else s) t
def orderL (t : List Int) : List Int := orderGo [] t
section
variable {o s t : List Int} {f g : Int → Int} {n : Int} {k : Nat}
end
abbrev PkT := List Int × List Int × List Int × Int × Int × Int
abbrev RulesT := List (List Int × List Int)
abbrev Lr (rs : RulesT) (o : Nat) : List Int := (rs.getD o ([], [])).1
abbrev Rr (rs : RulesT) (o : Nat) : List Int := (rs.getD o ([], [])).2
def leftT (ar : List Int) (rs : RulesT) (o p u : Nat) : List Int := (Lr rs o).take p ++ awayL (Rr rs u) ++ (Lr rs o).drop (endN ar (Lr rs o) p)
open Classical in
open Classical in
section
variable {ar : List Int} {rs : RulesT} {o p u : Nat} {b b1 b2 : RowL} {σ σ1 σ2 : Sbs} {n : Int}
theorem away_W {l : List Int} (h : termOk ar l = true) : TermW ar (awayL l) := by
 have h1 := termOk_iff.1 h
 have hl : (awayL l).length = l.length := by simp [awayL]
 have hw : ∀ (r : List Int) (n : Nat), endGo ar (awayL r) n = endGo ar r n := by
  intro r
  induction r with
  | nil => intro n; rfl
  | cons x r ih =>
   intro n
   cases n with
   | zero => simp [endGo]
   | succ n =>
    show endGo ar ((if x < 0 then x - 24 else x) :: awayL r) (n + 1) = _
    simp only [endGo]
    by_cases hx : x < 0
    ·rw [if_pos hx, if_pos (by omega), if_pos (by omega), ih]
     unfold arity; rw [if_pos (by omega), if_pos hx]
    ·rw [if_neg hx, ih]
 refine ⟨h1.sig, by rw [hl]; exact ⟨h1.pos, h1.len⟩, by rw [hl, hw]; exact h1.whole, fun x hx => ?_⟩
 obtain ⟨y, hy, rfl⟩ := List.mem_map.1 hx
 have := h1.ge y hy
 split <;> omega
theorem away_len {l : List Int} : (awayL l).length = l.length := by simp [awayL]
theorem nils_no {A C : List Int} (h : ∀ θ, GoodS ar θ → SatB (List.replicate 48 []) θ → ap θ A ≠ ap θ C) : ∀ θ, GoodS ar θ → ap θ A ≠ ap θ C := fun θ g => h θ g SatB.nils
end
section
variable {s t w ss S : List Int} {ts os : RowL} {n : Int} {j k : Nat}
theorem orderGo_app : ∀ {a b s : List Int}, orderGo s (a ++ b) = orderGo (orderGo s a) b
 | [], b, s => rfl
 | x :: a, b, s => by rw [List.cons_append, orderGo, orderGo_app, orderGo]
theorem orderGo_take (hj : j < t.length) : orderGo s (t.take (j + 1)) = if t.getD j 0 < 0 ∧ t.getD j 0 ∉ orderGo s (t.take j) then orderGo s (t.take j) ++ [t.getD j 0] else orderGo s (t.take j) := by
 rw [take_succ_getD 0 hj, orderGo_app]
 simp only [orderGo]
end
section
variable {ar t : List Int} {σ : Sbs} {p : Nat}
end
section
variable {ar : List Int} {rs : RulesT} {o p u : Nat} {b : RowL} {σ : Sbs}
end
end Go.Proofs.YtjpfankibmeaaaaGreat.M
namespace Go.Proofs.YtjpfankibmeaaaaGreat.X
open Go
end Go.Proofs.YtjpfankibmeaaaaGreat.X
namespace Go.Proofs.YtjpfankibmeaaaaGreat.M
abbrev Tr := Nat × Nat × Nat
section
variable (ar : List Int) (rs : RulesT)
open Classical in
end
section
variable {ar : List Int} {rs : RulesT} {o p u k n : Nat} {ms : List Tr} {os : List PkT} {m : Tr}
end
end Go.Proofs.YtjpfankibmeaaaaGreat.M
namespace Go.Proofs.YtjpfankibmeaaaaGreat.X
open Go
abbrev PeakT := List Int × List Int × List Int × Int × Int × Int
section
variable {e E : TypeId} {F G : FH} {v : Value} {cs : List Value} {xs : List PeakT} {L : List HP}
end
section
variable {P : Program} {n : Nat} {r0 : Option Nat} {d0 : List Deferred} {ops : Array Oper} {l : List Oper} {Q : QX} {ρ : Env} {F : FH} {L : List HP}
end
end Go.Proofs.YtjpfankibmeaaaaGreat.X
namespace Go.Proofs.YtjpfankibmeaaaaGreat.M
section
variable {t u x : List Int} {b : RowL} {σ : Sbs} {ρ : Int → Nat} {n m : Int} {i : Nat} {sn : List Bool} {td : RowL}
def Mk (sn : List Bool) (m : Int) : Prop := sn.getD (varIx m) false = true
def Hd1 (b : RowL) (n : Int) (sn : List Bool) (y : Int) : Prop := y ≠ n ∧ (y < 0 → lkN b y ≠ [] → Mk sn y)
def Hd (b : RowL) (n : Int) (sn : List Bool) (x : List Int) : Prop := ∀ y ∈ x, Hd1 b n sn y
structure OccI (b : RowL) (σ : Sbs) (n : Int) (t : List Int) (sn : List Bool) (td : RowL) : Prop where
 len : sn.length = 48
 sound : ∀ x ∈ td, n ∈ ap σ x → n ∈ ap σ t
 all : ∀ x, (x = t ∨ ∃ m, m < 0 ∧ Mk sn m ∧ lkN b m ≠ [] ∧ x = lkN b m) → x ∈ td ∨ Hd b n sn x
structure OccJ (b : RowL) (σ : Sbs) (n : Int) (t u : List Int) (i : Nat) (sn : List Bool) (td : RowL) : Prop where
 len : sn.length = 48
 sound : ∀ x ∈ td, n ∈ ap σ x → n ∈ ap σ t
 us : n ∈ ap σ u → n ∈ ap σ t
 all : ∀ x, (x = t ∨ ∃ m, m < 0 ∧ Mk sn m ∧ lkN b m ≠ [] ∧ x = lkN b m) → x ∈ td ∨ Hd b n sn x ∨ x = u
 done : ∀ k, k < i → Hd1 b n sn (u.getD k 0)
end
section
variable {ar A C t w : List Int} {b b1 : RowL} {σ σ1 θ : Sbs} {n z : Int} {l r : RowL}
structure MeetI (ar A C : List Int) (b l r : RowL) : Prop where
 ok : BOk ar b
 same : l.length = r.length
 lw : ∀ x ∈ l, TermW ar x
 rw' : ∀ x ∈ r, TermW ar x
 iff : ∀ θ, GoodS ar θ → (ap θ A = ap θ C ↔ SatB b θ ∧ ∀ i, i < l.length → ap θ (l.getD i []) = ap θ (r.getD i []))
section
variable {u v : List Int} {k : Nat}
end
end
section
variable {ar t : List Int} {p k e m q : Nat} {os : RowL}
end
section
variable {ar : List Int} {rs : RulesT} {o p u : Nat} {b : RowL} {σ : Sbs} {t : List Int}
end
section
variable {ar t u A C : List Int} {b b1 l r : RowL} {σ : Sbs} {ρ : Int → Nat} {n : Int} {k : Nat}
end
end Go.Proofs.YtjpfankibmeaaaaGreat.M
namespace Go.Proofs.YtjpfankibmeaaaaGreat.X
open Go
section
variable {P : Program} {ρ : Env} {F : FH} {L : List HP} {K : Post} {d : Option Tmp} {ty : TypeId} {pos : String} {af : Array Edge} {g : Option (Nat × Bool)}
end
theorem CO.setOne {α : Type} {s : Nat} {R : FH → List Value → α → Prop} {d : α} {F : FH} {cs : List Value} {xs : List α} {x : α} {u : Value} (h : CO s R d F cs xs) {j o : Nat} (hj : j < xs.length) (ho : o < s) (hR : ∀ es, es.length = s → R F es (xs.getD j d) → R F (es.set o u) x) :
  CO s R d F (cs.set (j * s + o) u) (xs.set j x) := by
 obtain ⟨es, h1, h2, h3⟩ := h.2 j hj
 have hb : j * s + s ≤ cs.length := by
  rw [h.1]
  have : (j + 1) * s ≤ xs.length * s := Nat.mul_le_mul_right s hj
  rwa [Nat.succ_mul] at this
 have k := CO.setN h hj (es := es.set o u) (by rw [List.length_set]; exact h1) (hR es h1 h3)
 have hA : (cs.take (j * s)).length = j * s := by rw [List.length_take]; omega
 have e1 : cs = cs.take (j * s) ++ (es ++ cs.drop (j * s + s)) := by
  have : cs.drop (j * s) = es ++ cs.drop (j * s + s) := by
   rw [← h2, ← List.drop_drop, List.take_append_drop]
  rw [← this, List.take_append_drop]
 have e2 : cs.set (j * s + o) u = cs.take (j * s) ++ es.set o u ++ cs.drop (j * s + (es.set o u).length) := by
  rw [List.length_set, h1]
  conv => lhs; rw [e1]
  rw [List.set_append_right _ _ (by omega), hA, Nat.add_sub_cancel_left, List.set_append_left _ _ (by omega), List.append_assoc]
 rw [e2]
 exact k
section
variable {P : Program} {ρ : Env} {F : FH} {L : List HP} {K : Post} {d : Option Tmp} {ty : TypeId} {pos : String} {af : Array Edge} {g : Option (Nat × Bool)}
end
end Go.Proofs.YtjpfankibmeaaaaGreat.X
namespace Go.Proofs.YtjpfankibmeaaaaGreat.M
section
variable {ar : List Int} {rs : Rules} {a b t : List Int} {n : Int}
end
section
variable {o t : List Int} {k j : Nat} {n x : Int}
theorem ord_add (hj : j < t.length) {os : List Int} (h : os = orderL (t.take j)) (h0 : t.getD j 0 < 0) (hn : t.getD j 0 ∉ os) : os ++ [t.getD j 0] = orderL (t.take (j + 1)) := by
 unfold orderL at h ⊢
 rw [orderGo_take hj, ← h, if_pos ⟨h0, hn⟩]
theorem ord_skip (hj : j < t.length) {os : List Int} (h : os = orderL (t.take j)) (h0 : 0 ≤ t.getD j 0 ∨ t.getD j 0 ∈ os) : os = orderL (t.take (j + 1)) := by
 unfold orderL at h ⊢
 rw [orderGo_take hj, ← h, if_neg]
 rintro ⟨h1, h2⟩
 rcases h0 with h0 | h0
 ·omega
 ·exact h2 h0
end
section
variable {ar : List Int} {rs : RulesT} {o p u : Nat} {b : RowL} {σ : Sbs}
end
end Go.Proofs.YtjpfankibmeaaaaGreat.M
namespace Go.Proofs.YtjpfankibmeaaaaGreat.X
open Go
section
variable {P : Program} {ρ : Env} {F : FH} {L : List HP} {K : Post} {d : Option Tmp} {ty : TypeId} {pos : String} {af : Array Edge} {g : Option (Nat × Bool)}
end
end Go.Proofs.YtjpfankibmeaaaaGreat.X
namespace Go.Proofs.YtjpfankibmeaaaaGreat.M
section
variable {ar : List Int} {rs : RulesT} {o p u : Nat} {x : PkT}
end
section
variable {t : List Int} {rs : RulesT} {ar : List Int} {k : Nat}
def LinT (t : List Int) : Prop := ∀ i, i < t.length → t.getD i 0 < 0 → t.getD i 0 ∉ t.take i
def LinAt (t : List Int) (k : Nat) : Prop := ∀ i, i < k → t.getD i 0 < 0 → t.getD i 0 ∉ t.take i
instance : Decidable (LinT t) := by unfold LinT; infer_instance
def LinS (rs : RulesT) : Prop := ∀ i, i < rs.length → LinT (rs.getD i ([], [])).1
instance : Decidable (LinS rs) := by unfold LinS; infer_instance
theorem lin_done (h : LinAt t k) (hk : k = t.length) : LinT t := by subst hk; exact h
theorem count_take {n : Int} (hk : k < t.length) : (t.take (k + 1)).count n = (t.take k).count n + if t.getD k 0 = n then 1 else 0 := by
 rw [take_succ_getD (l := t) (k := k) 0 hk, List.count_append]
 simp [List.count_singleton]
theorem lin_next (h : LinAt t k) (h1 : 0 ≤ t.getD k 0 ∨ t.getD k 0 ∉ t.take k) : LinAt t (k + 1) := fun i hi h0 => by
 rcases Nat.lt_or_ge i k with hlt | hge
 ·exact h i hlt h0
 ·obtain rfl : i = k := by omega
  exact h1.resolve_left (by omega)
theorem lin_no (hk : k < t.length) (h0 : t.getD k 0 < 0) (h1 : t.getD k 0 ∈ t.take k) : ¬ LinT t := fun h => h k hk h0 h1
theorem lin_count : LinT t ↔ ∀ i, i < t.length → t.getD i 0 < 0 → t.count (t.getD i 0) ≤ 1 := by
 constructor
 ·intro h i hi h0
  generalize t.getD i 0 = x at h0
  have key : ∀ j, j ≤ t.length → (t.take j).count x ≤ 1 := by
   intro j
   induction j with
   | zero => intro _; simp
   | succ j ih =>
    intro hj
    have ih := ih (by omega)
    rw [take_succ_getD (l := t) (k := j) 0 (by omega), List.count_append]
    by_cases hy : t.getD j 0 = x
    ·have h2 := h j (by omega) (by omega)
     rw [hy] at h2 ⊢
     rw [List.count_eq_zero.2 h2]
     simp
    ·rw [List.count_eq_zero.2 (fun hm => hy (List.mem_singleton.1 hm).symm)]
     omega
  have := key t.length (Nat.le_refl _)
  rwa [List.take_length] at this
 ·intro h i hi h0 hm
  have h1 := h i hi h0
  have e : t = t.take i ++ (t.getD i 0 :: t.drop (i + 1)) := by
   have : t.getD i 0 = t[i] := by simp [List.getD, hi]
   rw [this, ← List.drop_eq_getElem_cons hi, List.take_append_drop]
  generalize t.getD i 0 = x at h1 hm e
  rw [e, List.count_append, List.count_cons_self] at h1
  have := List.count_pos_iff.2 hm
  omega
end
abbrev StepV := Int × Int × List Int
def stepOne (ar : List Int) (rs : Rules) (t : List Int) (p r : Nat) : List StepV := match stepL ar rs t p r with | some u => [((p : Int), (r : Int), u)] | none => []
def stepsRow (ar : List Int) (rs : Rules) (t : List Int) (p k : Nat) : List StepV := (List.range k).flatMap (stepOne ar rs t p)
def stepsTo (ar : List Int) (rs : Rules) (t : List Int) (p : Nat) : List StepV := (List.range p).flatMap fun q => stepsRow ar rs t q rs.length
def stepsL (ar : List Int) (rs : Rules) (t : List Int) : List StepV := stepsTo ar rs t t.length
section
variable {ar t : List Int} {rs : Rules} {p r k : Nat} {u : List Int}
end
abbrev FoundV := List Int × Int × StepV × Int
def isIn (all : List FoundV) (t : List Int) : Bool := all.any fun x => decide (x.1 = t)
def addGo (k d : Int) : List StepV → List FoundV → List FoundV × Bool
 | [], all => (all, true)
 | s :: r, all => if isIn all s.2.2 = true then addGo k d r all else if all.length = 60 then (all, false) else addGo k d r (all ++ [(s.2.2, k, s, d + 1)])
def reachGo (ar : List Int) (rs : Rules) (n : Int) : Nat → Nat → List FoundV → List FoundV × Bool
  | 0, _, all => (all, true)
  | f + 1, k, all => if k < all.length then
      (if (all.getD k ([], 0, (0, 0, []), 0)).2.2.2 = n then reachGo ar rs n f (k + 1) all
       else if (addGo (k : Int) (all.getD k ([], 0, (0, 0, []), 0)).2.2.2 (stepsL ar rs (all.getD k ([], 0, (0, 0, []), 0)).1) all).2 = true then reachGo ar rs n f (k + 1) (addGo (k : Int) (all.getD k ([], 0, (0, 0, []), 0)).2.2.2 (stepsL ar rs (all.getD k ([], 0, (0, 0, []), 0)).1) all).1
       else (addGo (k : Int) (all.getD k ([], 0, (0, 0, []), 0)).2.2.2 (stepsL ar rs (all.getD k ([], 0, (0, 0, []), 0)).1) all))
    else (all, true)
def start0 (t : List Int) : List FoundV := [(t, -1, (0, 0, []), 0)]
def reachL (ar : List Int) (rs : Rules) (t : List Int) (n : Int) : List FoundV × Bool := reachGo ar rs n 60 0 (start0 t)
section
variable {ar t : List Int} {rs : Rules} {n d : Int} {k f : Nat} {all : List FoundV} {ss : List StepV}
abbrev EL (all : List FoundV) (k : Nat) : FoundV := all.getD k ([], 0, (0, 0, []), 0)
end
def foundI (all : List FoundV) (u : List Int) : Int := badG (fun x => !decide (x.1 = u)) all
theorem foundI_iff {all : List FoundV} {u : List Int} : (foundI all u ≥ 0) ↔ isIn all u = true := by
 unfold foundI
 rw [badG_iff]
 unfold isIn
 constructor
 ·intro h
  rw [List.all_eq_false] at h
  obtain ⟨x, hx, h⟩ := h
  rw [List.any_eq_true]
  exact ⟨x, hx, by simpa using h⟩
 ·intro h
  rw [List.any_eq_true] at h
  obtain ⟨x, hx, h⟩ := h
  rw [List.all_eq_false]
  exact ⟨x, hx, by simpa using h⟩
section
variable {all : List FoundV} {x : FoundV} {i : Nat}
end
section
variable {ar t : List Int} {rs : Rules} {n : Int} {all : List FoundV}
def backF (all : List FoundV) : Nat → Nat → List StepV
 | 0, _ => []
 | f + 1, k => if k = 0 then [] else (EL all k).2.2.1 :: backF all f (EL all k).2.1.toNat
def backL (all : List FoundV) (k : Nat) : List StepV := backF all k k
def walkL (all : List FoundV) (k : Nat) : List StepV := (backL all k).reverse
end
def WalkB (f : List Int) (ss : List StepV) : Prop := f.length ≤ 60 ∧ ss.length ≤ 60 ∧ (∀ i, i < ss.length → (ss.getD i (0, 0, [])).2.2.length ≤ 60) ∧ (ss.flatMap flatStep).length ≤ 4000
theorem WalkB.mk {f : List Int} {ss : List StepV} (hf : f.length ≤ 60) (hs : ss.length ≤ 60) (h : ∀ s ∈ ss, s.2.2.length ≤ 60) : WalkB f ss := by
 have h0 : ∀ i, i < ss.length → (ss.getD i (0, 0, [])).2.2.length ≤ 60 := fun i hi => h _ (by simp [List.getD, hi])
 refine ⟨hf, hs, h0, ?_⟩
 have h1 := flatStep_len ss
 have h2 := gTo_bound h0 _ (Nat.le_refl _)
 have h4 : ss.length * 60 ≤ 60 * 60 := Nat.mul_le_mul_right 60 hs
 omega
section
variable {ar t u a b : List Int} {rs : Rules} {n : Int} {all : List FoundV} {k : Nat}
def joinI (l r : List FoundV) : Int := badG (fun x => !isIn r x.1) l
theorem joinI_none {l r : List FoundV} (hall : ∀ i, i < l.length → foundI r (EL l i).1 < 0) : joinI l r = -1 :=
 badG_none ([], 0, (0, 0, []), 0) (fun i hi => by
  have := hall i hi
  cases hx : isIn r (EL l i).1 with
  | true => have := foundI_iff.2 hx; omega
  | false => rfl)
abbrev Two := List Int × List StepV × List Int × List StepV × Bool
def join0 (ar : List Int) (rs : Rules) (a b : List Int) (n : Int) : Two :=
 if 0 ≤ joinI (reachL ar rs a n).1 (reachL ar rs b n).1 then
  (a, walkL (reachL ar rs a n).1 (joinI (reachL ar rs a n).1 (reachL ar rs b n).1).toNat, b, walkL (reachL ar rs b n).1 (foundI (reachL ar rs b n).1 (EL (reachL ar rs a n).1 (joinI (reachL ar rs a n).1 (reachL ar rs b n).1).toNat).1).toNat, true)
 else ([], [], [], [], false)
theorem join0_none (hall : ∀ i, i < (reachL ar rs a n).1.length → foundI (reachL ar rs b n).1 (EL (reachL ar rs a n).1 i).1 < 0) : join0 ar rs a b n = ([], [], [], [], false) := by
 unfold join0
 rw [joinI_none hall, if_neg (by omega)]
theorem badG_lt {α : Type} (d : α) {q : α → Bool} {l : List α} (h : 0 ≤ badG q l) : (badG q l).toNat < l.length ∧ q (l.getD (badG q l).toNat d) = false := by
 unfold badG at h ⊢
 split at h
 ·rename_i i he
  rw [List.findIdx?_eq_some_iff_getElem] at he
  obtain ⟨hi, h1, _⟩ := he
  rw [show ((i : Int)).toNat = i from by omega]
  simp only [List.getD_eq_getElem?_getD, List.getElem?_eq_getElem hi, Option.getD_some]
  exact ⟨hi, by simpa using h1⟩
 ·omega
end
abbrev LnT := Int × List (List Int) × List Int
def leftL (x : LnT) : List Int := x.1 :: x.2.1.flatten
def freeB (fs t : List Int) : Bool := t.all fun n => !decide (n ∈ fs)
open Classical in
noncomputable def lineB (ar fs : List Int) (x : LnT) : Bool := (decide (x.1 ∈ fs) && decide ((x.2.1.length : Int) = ar.getD x.1.toNat 0)) && (x.2.1.all (fun p => termOk ar p && freeB fs p) && (ruleOk ar (leftL x) x.2.2 && decide (LinT (leftL x))))
def setB (fs : List Int) (n : Int) : Bool := (List.range fs.length).all fun i => decide ((0 ≤ fs.getD i 0 ∧ fs.getD i 0 < n) ∧ (0 < i → fs.getD ((i : Int) - 1).toNat 0 < fs.getD i 0))
noncomputable def frontB (ar fs : List Int) (ls : List LnT) : Bool := (sigOk ar && setB fs ar.length) && (decide (ls.length ≤ 8) && ls.all (lineB ar fs))
def groundB (ar t : List Int) : Bool := termOk ar t && t.all fun n => decide (0 ≤ n)
section
variable {ar fs t : List Int} {ls : List LnT} {x : LnT} {k : Nat} {n : Int}
theorem free_iff : freeB fs t = true ↔ ∀ n ∈ t, n ∉ fs := by
 unfold freeB; rw [List.all_eq_true]
 exact ⟨fun h n hn => by simpa using h n hn, fun h n hn => by simpa using h n hn⟩
theorem free_badG (t : List Int) : (badG (fun n => !decide (n ∈ fs)) t ≥ 0) ↔ freeB fs t = false := badG_iff
theorem set_iff : setB fs n = true ↔ ∀ i, i < fs.length → (0 ≤ fs.getD i 0 ∧ fs.getD i 0 < n) ∧ (0 < i → fs.getD ((i : Int) - 1).toNat 0 < fs.getD i 0) := by
 unfold setB; rw [List.all_eq_true]
 exact ⟨fun h i hi => of_decide_eq_true (h i (List.mem_range.2 hi)), fun h i hi => decide_eq_true (h i (List.mem_range.1 hi))⟩
theorem set_no (hk : k < fs.length) (h : ¬ ((0 ≤ fs.getD k 0 ∧ fs.getD k 0 < n) ∧ (0 < k → fs.getD ((k : Int) - 1).toNat 0 < fs.getD k 0))) : setB fs n = false := by
 cases hs : setB fs n with
 | false => rfl
 | true => exact absurd (set_iff.1 hs k hk) h
theorem set_mem (h : setB fs n = true) {m : Int} (hm : m ∈ fs) : 0 ≤ m ∧ m < n := by
 obtain ⟨i, hi, rfl⟩ := List.getElem_of_mem hm
 have := (set_iff.1 h i hi).1
 simpa [List.getD, hi] using this
theorem line_iff : lineB ar fs x = true ↔ x.1 ∈ fs ∧ (x.2.1.length : Int) = ar.getD x.1.toNat 0 ∧ (∀ i, i < x.2.1.length → termOk ar (x.2.1.getD i []) = true ∧ freeB fs (x.2.1.getD i []) = true) ∧ ruleOk ar (leftL x) x.2.2 = true ∧ LinT (leftL x) := by
 unfold lineB
 simp only [Bool.and_eq_true, decide_eq_true_eq]
 constructor
 ·rintro ⟨⟨h1, h2⟩, h3, h4, h5⟩
  refine ⟨h1, h2, fun i hi => ?_, h4, h5⟩
  have := (all_getD_iff []).1 h3 i hi
  simpa using this
 ·rintro ⟨h1, h2, h3, h4, h5⟩
  refine ⟨⟨h1, h2⟩, (all_getD_iff []).2 fun i hi => ?_, h4, h5⟩
  have := h3 i hi
  simpa using this
theorem line_no (h : ¬ (x.1 ∈ fs ∧ (x.2.1.length : Int) = ar.getD x.1.toNat 0 ∧ (∀ i, i < x.2.1.length → termOk ar (x.2.1.getD i []) = true ∧ freeB fs (x.2.1.getD i []) = true) ∧ ruleOk ar (leftL x) x.2.2 = true ∧ LinT (leftL x))) : lineB ar fs x = false := by
 cases hs : lineB ar fs x with
 | false => rfl
 | true => exact absurd (line_iff.1 hs) h
theorem ground_iff : groundB ar t = true ↔ termOk ar t = true ∧ ∀ n ∈ t, 0 ≤ n := by
 unfold groundB
 rw [Bool.and_eq_true, List.all_eq_true]
 exact ⟨fun h => ⟨h.1, fun n hn => of_decide_eq_true (h.2 n hn)⟩, fun h => ⟨h.1, fun n hn => decide_eq_true (h.2 n hn)⟩⟩
theorem ground_of (ho : termOk ar t = true) (h : ∀ i : Nat, i < 24 → (-1 - (i : Int)) ∉ t) : groundB ar t = true := by
 refine ground_iff.2 ⟨ho, fun n hn => ?_⟩
 rcases Int.lt_or_le n 0 with h0 | h0
 ·exfalso
  have := (termOk_iff.1 ho).ge n hn
  exact h (-1 - n).toNat (by omega) (by rw [show -1 - (((-1 - n).toNat : Nat) : Int) = n from by omega]; exact hn)
 ·exact h0
theorem ground_not {i : Nat} (h : (-1 - (i : Int)) ∈ t) : groundB ar t = false := by
 cases hs : groundB ar t with
 | false => rfl
 | true => have := (ground_iff.1 hs).2 _ h; omega
theorem ground_no (h : termOk ar t = false) : groundB ar t = false := by unfold groundB; rw [h]; rfl
theorem ground_dec {os : List Int} (ho : termOk ar t = true) (h1 : os = [] → ∀ i, i < t.length → 0 ≤ t.getD i 0) (h2 : os ≠ [] → ∃ i, i < t.length ∧ t.getD i 0 < 0) : groundB ar t = decide ((os.length : Int) = 0) := by
 by_cases h : os = []
 ·rw [decide_eq_true (show (os.length : Int) = 0 by rw [h]; rfl)]
  refine ground_iff.2 ⟨ho, fun n hn => ?_⟩
  obtain ⟨i, hi, rfl⟩ := List.getElem_of_mem hn
  have := h1 h i hi
  simpa [List.getD, hi] using this
 ·have hl : 0 < os.length := List.length_pos_iff.2 h
  rw [decide_eq_false (show ¬ (os.length : Int) = 0 by omega)]
  obtain ⟨i, hi, hneg⟩ := h2 h
  cases hs : groundB ar t with
  | false => rfl
  | true =>
   have := (ground_iff.1 hs).2 (t.getD i 0) (by rw [List.getD_eq_getElem?_getD, List.getElem?_eq_getElem hi]; exact List.getElem_mem hi)
   omega
theorem flatN_le {xs : List (List Int)} {N : Nat} (h : ∀ i, i < xs.length → (xs.getD i []).length ≤ N) : xs.flatten.length ≤ xs.length * N := by
 have := flatten_bound h xs.length (Nat.le_refl _)
 rwa [List.take_of_length_le (Nat.le_refl _)] at this
theorem leftL_lenN {N : Nat} (h : ∀ i, i < x.2.1.length → (x.2.1.getD i []).length ≤ N) : (leftL x).length ≤ 1 + x.2.1.length * N := by
 have := flatN_le h
 show (x.1 :: x.2.1.flatten).length ≤ _
 rw [List.length_cons]; omega
theorem front_iff : frontB ar fs ls = true ↔ sigOk ar = true ∧ setB fs ar.length = true ∧ ls.length ≤ 8 ∧ ls.all (lineB ar fs) = true := by
 unfold frontB
 simp only [Bool.and_eq_true, decide_eq_true_eq]
 exact ⟨fun h => ⟨h.1.1, h.1.2, h.2.1, h.2.2⟩, fun h => ⟨⟨h.1, h.2.1⟩, h.2.2.1, h.2.2.2⟩⟩
theorem front_no (h : ¬ (sigOk ar = true ∧ setB fs ar.length = true ∧ ls.length ≤ 8 ∧ ls.all (lineB ar fs) = true)) : frontB ar fs ls = false := by
 cases hs : frontB ar fs ls with
 | false => rfl
 | true => exact absurd (front_iff.1 hs) h
theorem front_lines (h1 : sigOk ar = true) (h2 : setB fs ar.length = true) (h3 : ls.length ≤ 8) : frontB ar fs ls = ls.all (lineB ar fs) := by
 cases hs : ls.all (lineB ar fs) with
 | false => exact front_no fun h => by rw [hs] at h; cases h.2.2.2
 | true => exact front_iff.2 ⟨h1, h2, h3, hs⟩
end
def rulesOf (ls : List LnT) : Rules := ls.map fun x => (leftL x, x.2.2)
def callAt (ar fs t : List Int) (p : Nat) : Bool := decide (t.getD p 0 ∈ fs) && freeB fs ((sub ar t p).drop 1)
def firstC (ar fs t : List Int) : Nat := (List.range t.length).findIdx (callAt ar fs t)
def firstL (ar : List Int) (ls : List LnT) (t : List Int) : Int := badG (fun x => !(matchB ar (leftL x) t).isSome) ls
def callGo (ar fs : List Int) (ls : List LnT) : Nat → List Int → List Int × Int
 | n, t =>
  if firstC ar fs t = t.length then (t, 0)
  else if firstL ar ls (sub ar t (firstC ar fs t)) < 0 then (t, 1)
  else match n with
   | 0 => (t, 2)
   | n + 1 => match stepL ar (rulesOf ls) t (firstC ar fs t) (firstL ar ls (sub ar t (firstC ar fs t))).toNat with
    | none => (t, 3)
    | some u => callGo ar fs ls n u
noncomputable def callL (ar fs : List Int) (ls : List LnT) (t : List Int) (n : Int) : List Int × Int :=
 if frontB ar fs ls = true ∧ groundB ar t = true ∧ 0 ≤ n ∧ n ≤ 60 then callGo ar fs ls n.toNat t else ([], -1)
section
variable {ar fs t u : List Int} {ls : List LnT} {n k : Nat} {m : Int}
theorem fill_le60L {s : RowL} {t : List Int} : ((fillL s t).getD []).length ≤ 60 := by
 cases h : fillL s t with
 | none => simp
 | some v => exact (fillL_len h).1
theorem callAt_eq {p : Nat} : (decide (t.getD p 0 ∈ fs) && freeB fs ((t.drop (p + 1)).take (endN ar t p - (p + 1)))) = callAt ar fs t p := by
 unfold callAt sub
 rw [List.drop_take, List.drop_drop, Nat.sub_sub]
theorem firstC_at (hk : k < t.length) (h : callAt ar fs t k = true) (hall : ∀ i, i < k → callAt ar fs t i = false) : firstC ar fs t = k := by
 unfold firstC
 have hl : k < (List.range t.length).length := by rw [List.length_range]; exact hk
 refine (List.findIdx_eq hl).2 ⟨by simpa using h, fun j hj => ?_⟩
 have := hall j hj
 simpa using this
theorem firstC_none (hall : ∀ i, i < t.length → callAt ar fs t i = false) : firstC ar fs t = t.length := by
 unfold firstC
 have : (List.range t.length).findIdx (callAt ar fs t) = (List.range t.length).length := by
  rw [List.findIdx_eq_length]
  intro x hx
  simpa using hall x (List.mem_range.1 hx)
 rw [this, List.length_range]
theorem firstC_le : firstC ar fs t ≤ t.length := by
 unfold firstC
 have := List.findIdx_le_length (xs := List.range t.length) (p := callAt ar fs t)
 rwa [List.length_range] at this
theorem front_sys (h : frontB ar fs ls = true) : sysOk ar (rulesOf ls) = true := by
 obtain ⟨h1, h2, h3, h4⟩ := front_iff.1 h
 refine sysOk_iff.2 ⟨h1, by unfold rulesOf; rw [List.length_map]; omega, fun i hi => ?_⟩
 unfold rulesOf at hi ⊢
 rw [List.length_map] at hi
 have hl := (line_iff.1 ((all_getD_iff ((0, [], []) : LnT)).1 h4 i hi)).2.2.2.1
 have e : (ls.map fun x => (leftL x, x.2.2)).getD i ([], []) = (leftL (ls.getD i (0, [], [])), (ls.getD i (0, [], [])).2.2) := by
  simp [List.getD, hi]
 rw [e]; exact hl
theorem rules_get (hk : k < ls.length) : (rulesOf ls).getD k ([], []) = (leftL (ls.getD k (0, [], [])), (ls.getD k (0, [], [])).2.2) := by
 unfold rulesOf; simp [List.getD, hk]
theorem rules_len : (rulesOf ls).length = ls.length := by unfold rulesOf; rw [List.length_map]
theorem firstL_lt (h : ¬ firstL ar ls t < 0) : (firstL ar ls t).toNat < ls.length ∧ (matchB ar (leftL (ls.getD (firstL ar ls t).toNat (0, [], []))) t).isSome = true := by
 unfold firstL at h ⊢
 have h1 := badG_lt ((0, [], []) : LnT) (show 0 ≤ badG (fun x => !(matchB ar (leftL x) t).isSome) ls by omega)
 exact ⟨h1.1, by simpa using h1.2⟩
theorem step_nofillL {p : Nat} (hk : k < ls.length) (hm : (matchB ar (leftL (ls.getD k (0, [], []))) (sub ar t p)).isSome = true) (hf : (fillL (matchP ar (leftL (ls.getD k (0, [], []))) (sub ar t p)) (ls.getD k (0, [], [])).2.2).isSome = false) : stepL ar (rulesOf ls) t p k = none :=
 stepL_nofill (by rw [rules_get hk]; exact hm) (by rw [rules_get hk]; exact hf)
theorem step_putL {p : Nat} (hk : k < ls.length) (hm : (matchB ar (leftL (ls.getD k (0, [], []))) (sub ar t p)).isSome = true) (hf : (fillL (matchP ar (leftL (ls.getD k (0, [], []))) (sub ar t p)) (ls.getD k (0, [], [])).2.2).isSome = true) : stepL ar (rulesOf ls) t p k = putL ar t p ((fillL (matchP ar (leftL (ls.getD k (0, [], []))) (sub ar t p)) (ls.getD k (0, [], [])).2.2).getD []) := by
 have e := stepL_put (rs := rulesOf ls) (r := k) (by rw [rules_get hk]; exact hm) (by rw [rules_get hk]; exact hf)
 rw [e, rules_get hk]
theorem step_okL (hfr : frontB ar fs ls = true) (ht : termOk ar t = true) {p : Nat} (hp : p < t.length) (hk : k < ls.length) (h : stepL ar (rulesOf ls) t p k = some u) : termOk ar u = true :=
 stepL_ok (front_sys hfr) ht hp (by rw [rules_len]; exact hk) h
theorem call_done (h : firstC ar fs t = t.length) : callGo ar fs ls n t = (t, 0) := by cases n <;> rw [callGo, if_pos h]
theorem call_gap (h : firstC ar fs t ≠ t.length) (h2 : firstL ar ls (sub ar t (firstC ar fs t)) < 0) : callGo ar fs ls n t = (t, 1) := by cases n <;> rw [callGo, if_neg h, if_pos h2]
theorem call_fuel (h : firstC ar fs t ≠ t.length) (h2 : ¬ firstL ar ls (sub ar t (firstC ar fs t)) < 0) (h3 : n = 0) : callGo ar fs ls n t = (t, 2) := by subst h3; rw [callGo, if_neg h, if_neg h2]
theorem call_long (h : firstC ar fs t ≠ t.length) (h2 : ¬ firstL ar ls (sub ar t (firstC ar fs t)) < 0) (h3 : n ≠ 0) (h4 : stepL ar (rulesOf ls) t (firstC ar fs t) (firstL ar ls (sub ar t (firstC ar fs t))).toNat = none) : callGo ar fs ls n t = (t, 3) := by
 obtain ⟨q, rfl⟩ : ∃ q, n = q + 1 := ⟨n - 1, by omega⟩
 rw [callGo, if_neg h, if_neg h2, h4]
theorem call_next (h : firstC ar fs t ≠ t.length) (h2 : ¬ firstL ar ls (sub ar t (firstC ar fs t)) < 0) (h3 : n ≠ 0) (h4 : stepL ar (rulesOf ls) t (firstC ar fs t) (firstL ar ls (sub ar t (firstC ar fs t))).toNat = some u) : callGo ar fs ls n t = callGo ar fs ls (n - 1) u := by
 obtain ⟨q, rfl⟩ : ∃ q, n = q + 1 := ⟨n - 1, by omega⟩
 rw [callGo, if_neg h, if_neg h2, h4]; rfl
theorem callL_yes (h1 : frontB ar fs ls = true) (h2 : groundB ar t = true) (h3 : 0 ≤ m ∧ m ≤ 60) : callL ar fs ls t m = callGo ar fs ls m.toNat t := by unfold callL; rw [if_pos ⟨h1, h2, h3⟩]
theorem callL_no (h : ¬ (frontB ar fs ls = true ∧ groundB ar t = true ∧ 0 ≤ m ∧ m ≤ 60)) : callL ar fs ls t m = ([], -1) := by unfold callL; rw [if_neg h]
theorem callGo_len (ht : t.length ≤ 60) : ∀ (n : Nat) (t : List Int), t.length ≤ 60 → (callGo ar fs ls n t).1.length ≤ 60 := by
 intro n
 induction n with
 | zero => intro t h; rw [callGo]; split; exact h; split; exact h; exact h
 | succ n ih =>
  intro t h
  rw [callGo]
  split
  ·exact h
  ·split
   ·exact h
   ·split
    ·exact h
    ·rename_i u hu
     refine ih u ?_
     unfold stepL at hu
     split at hu
     ·cases hu
     ·split at hu
      ·cases hu
      ·unfold putL at hu
       split at hu
       ·cases hu
       ·cases hu; omega
end
section
variable {ar f g : List Int} {rs : Rules} {xs ys : List StepV}
end
section
variable {ar f cur u ns : List Int} {rs : Rules} {ss : List StepV} {k : Nat}
theorem opt_none {o : Option (List Int)} (h : o.isSome = false) : o = none := by cases o <;> simp_all
theorem opt_get {o : Option (List Int)} (h : o.isSome = true) : o = some (o.getD []) := by cases o <;> simp_all
end
end Go.Proofs.YtjpfankibmeaaaaGreat.M
namespace Go.Proofs.YtjpfankibmeaaaaGreat.X
open Go
def LineO (E1 e : TypeId) (es : List Value) (x : LineT) (K : List HP) : Prop := ∃ a b, es = [.int .i64 x.1, a, b] ∧ K = [rowsD e E1 a x.2.1, intsH e b x.2.2]
abbrev linesD (e E1 E : TypeId) (v : Value) (xs : List LineT) : HP := deepH 3 (LineO E1 e) E v xs
section
variable {e E1 E : TypeId} {F G : FH} {v : Value} {cs : List Value} {xs : List LineT} {L : List HP}
theorem LineO.fz (es : List Value) (x : LineT) (K : List HP) (h : LineO E1 e es x K) (hz : ∃ l, star K l ∧ ∀ p ∈ l, F.cells p.1 = some p.2) : LineF F es x := by
 obtain ⟨a, b, rfl, rfl⟩ := h
 exact ⟨a, b, rfl, rowsD.fz (e := e) (E := E1) (frozen_star hz _ (by simp)), intsH.fz (E := e) (frozen_star hz _ (by simp))⟩
theorem linesD.fz (h : Fz (linesD e E1 E v xs) F) : LinesF F v xs := deepH.fz LineO.fz h
theorem DeepL.lines (h : DeepL 3 (LineO E1 e) cs xs L) (hz : Fresh G F (star L)) : LinesC F cs xs := h.co LineO.fz (let ⟨m, h1, _, h3⟩ := hz; ⟨m, h1, fun p hp => (h3 p hp).2⟩)
end
section
variable {P : Program} {ρ : Env} {F : FH} {L : List HP} {K : Post} {d : Option Tmp} {ty : TypeId} {pos : String} {af : Array Edge} {g : Option (Nat × Bool)}
end
section
variable {α : Type} {s : Nat} {R : List Value → α → List HP → Prop} {cs cs0 : List Value} {xs : List α} {Ls Ls' L1 : List HP} {d : α}
theorem star_sub {A B : List HP} (h : A.Sublist B) : ∀ {l : OH}, star B l → ∃ l', star A l' ∧ l'.Sublist l := by
 induction h with
 | slnil => intro l h; exact ⟨l, h, List.Sublist.refl _⟩
 | cons x _ ih =>
  rintro l ⟨a, b, ha, hb, rfl⟩
  obtain ⟨l', h1, h2⟩ := ih hb
  exact ⟨l', h1, h2.trans (List.sublist_append_right a b)⟩
 | cons_cons x _ ih =>
  rintro l ⟨a, b, ha, hb, rfl⟩
  obtain ⟨l', h1, h2⟩ := ih hb
  exact ⟨a ++ l', ⟨a, l', ha, h1, rfl⟩, List.Sublist.append (List.Sublist.refl a) h2⟩
theorem Fresh.sub {F F' : FH} {A B : List HP} (h : Fresh F F' (star B)) (hs : A.Sublist B) : Fresh F F' (star A) := by
 obtain ⟨m, h1, h2, h3⟩ := h
 obtain ⟨l, hl, hsub⟩ := star_sub hs h1
 exact ⟨l, hl, (hsub.map Prod.fst).nodup h2, fun p hp => h3 p (hsub.subset hp)⟩
end
section
variable {α : Type} {s : Nat} {R : List Value → α → List HP → Prop} {cs cs0 : List Value} {xs : List α} {Ls : List HP} {d : α} {q : α → Bool} {i j : Nat}
structure DelI (s : Nat) (R : List Value → α → List HP → Prop) (q : α → Bool) (cs0 : List Value) (xs : List α) (cs : List Value) (i j : Nat) : Prop where
 le : j ≤ xs.length
 cnt : i = ((xs.take j).filter q).length
 len : cs.length = cs0.length
 rest : cs.drop (j * s) = cs0.drop (j * s)
 pre : ∃ L1 Lk, DeepL s R (cs0.take (j * s)) (xs.take j) L1 ∧ DeepL s R (cs.take (i * s)) ((xs.take j).filter q) Lk ∧ Lk.Sublist L1
end
section
variable {e E1 E : TypeId} {F F1 F2 G : FH} {v a b : Value} {cs : List Value} {xs : List LineT} {L M : List HP}
theorem Fresh.idx {D : HP} {L L' : List HP} {n : Nat} (is : List Nat) (h : Fresh F G (star L)) (hn : L.length = n) (hi : is.Perm (List.range n)) (hL : (is.map fun i => L.getD i D) = L') : Fresh F G (star L') := by
 subst hn hL
 refine h.perm ?_
 have e : (List.range L.length).map (fun i => L.getD i D) = L := by
  refine List.ext_getElem (by simp) (fun i h1 h2 => ?_)
  simp [List.getD, h2]
 have := (hi.map fun i => L.getD i D).symm
 rwa [e] at this
def LFl (e E1 : TypeId) (cs : List Value) (xs : List LineT) (M : List HP) : Prop := ∀ l, star M l → ∃ Ls, DeepL 3 (LineO E1 e) cs xs Ls ∧ star Ls l
theorem LFl.nil : LFl e E1 [] [] [] := fun l h => ⟨[], DeepL.nil, h⟩
theorem DeepL.cons9 {α : Type} {s : Nat} {R : List Value → α → List HP → Prop} {es cs : List Value} {x : α} {xs : List α} {K L : List HP} (hl : es.length = s) (hr : R es x K) (h : DeepL s R cs xs L) : DeepL s R (es ++ cs) (x :: xs) (K ++ L) := by
 induction h with
 | nil => have := DeepL.snoc (DeepL.nil (s := s) (R := R)) hl hr; simpa using this
 | @snoc cs es2 xs x2 L K2 h hl2 hr2 ih =>
  have := ih.snoc hl2 hr2
  simpa [List.append_assoc] using this
theorem rowsD2 {a1 a2 : Value} {x1 x2 : List Int} {l : OH} (h : star [slH E1 1 a 2 [a1, a2], intsH e a1 x1, intsH e a2 x2] l) : rowsD e E1 a [x1, x2] l :=
 ⟨[a1, a2], [intsH e a1 x1, intsH e a2 x2], (DeepL.nil.snoc (es := [a1]) (x := x1) (K := [intsH e a1 x1]) rfl ⟨_, rfl, rfl⟩).snoc (es := [a2]) (x := x2) (K := [intsH e a2 x2]) rfl ⟨_, rfl, rfl⟩, h⟩
theorem LFl.cons {a1 a2 : Value} {x1 x2 y : List Int} {f : Int} (h : LFl e E1 cs xs M) : LFl e E1 ([.int .i64 f, a, b] ++ cs) ((f, [x1, x2], y) :: xs) (slH E1 1 a 2 [a1, a2] :: intsH e a1 x1 :: intsH e a2 x2 :: intsH e b y :: M) := by
 intro l hl
 obtain ⟨p, q, hp, hq, rfl⟩ := (star_append (A := [slH E1 1 a 2 [a1, a2], intsH e a1 x1, intsH e a2 x2, intsH e b y]) (B := M)).1 hl
 obtain ⟨Ls, hd, hs⟩ := h q hq
 obtain ⟨r, t, hr, ht, rfl⟩ := (star_append (A := [slH E1 1 a 2 [a1, a2], intsH e a1 x1, intsH e a2 x2]) (B := [intsH e b y])).1 hp
 exact ⟨[rowsD e E1 a [x1, x2], intsH e b y] ++ Ls, DeepL.cons9 (es := [.int .i64 f, a, b]) (x := (f, [x1, x2], y)) rfl ⟨a, b, rfl, rfl⟩ hd, star_append.2 ⟨r ++ t, q, ⟨r, t, rowsD2 hr, ht, rfl⟩, hs, rfl⟩⟩
theorem front_fresh {n : Nat} {va vb : Value} {ar fs : List Int} (h : LFl e E1 cs xs M) (k : Fresh F G (star (intsH e va ar :: intsH e vb fs :: slH E 3 v n cs :: M))) (hn : n = xs.length) : Fresh F G (star [intsH e va ar, intsH e vb fs, linesD e E1 E v xs]) := by
 subst hn
 refine k.imp fun l hl => ?_
 obtain ⟨p, q, hp, hq, rfl⟩ := (star_append (A := [intsH e va ar, intsH e vb fs]) (B := slH E 3 v xs.length cs :: M)).1 hl
 obtain ⟨r, t, hr, ht, rfl⟩ := hq
 obtain ⟨Ls, hd, hs⟩ := h t ht
 exact (star_append (A := [intsH e va ar, intsH e vb fs]) (B := [linesD e E1 E v xs])).2 ⟨p, _, hp, ⟨r ++ t, [], ⟨cs, Ls, hd, r, t, hr, hs, rfl⟩, rfl, by simp⟩, rfl⟩
theorem Fresh.two {A B C : HP} (h : Fresh F G (star [A, B, C])) : Fresh F G (star [A, B]) := h.sub (List.Sublist.cons_cons _ (List.Sublist.cons_cons _ (List.Sublist.cons _ List.Sublist.slnil)))
theorem line_perm {A B C D : HP} {Ls : List HP} (h : Fresh F G (star ((((Ls ++ [A]) ++ [B]) ++ [C]) ++ [D]))) : Fresh F G (star (Ls ++ [C, A, B, D])) := by
 refine h.perm ?_
 simp only [List.append_assoc, List.cons_append, List.nil_append]
 exact List.Perm.append_left Ls (List.perm_middle (l₁ := [A, B]) (a := C) (l₂ := [D]))
theorem line_more {a1 a2 : Value} {x1 x2 y : List Int} {f : Int} (hd : DeepL 3 (LineO E1 e) cs xs L) (k : Fresh F G (star (L ++ [slH E1 1 a 2 [a1, a2], intsH e a1 x1, intsH e a2 x2, intsH e b y]))) :
  ∃ L', DeepL 3 (LineO E1 e) (cs ++ [.int .i64 f, a, b]) (xs ++ [(f, [x1, x2], y)]) L' ∧ Fresh F G (star L') := by
 refine ⟨_, hd.snoc (es := [.int .i64 f, a, b]) (x := (f, [x1, x2], y)) (K := [rowsD e E1 a [x1, x2], intsH e b y]) rfl ⟨a, b, rfl, rfl⟩, k.imp fun l hl => ?_⟩
 obtain ⟨p, q, hp, hq, rfl⟩ := star_append.1 hl
 obtain ⟨r, t, hr, ht, rfl⟩ := (star_append (A := [slH E1 1 a 2 [a1, a2], intsH e a1 x1, intsH e a2 x2]) (B := [intsH e b y])).1 hq
 exact star_append.2 ⟨p, r ++ t, hp, ⟨r, t, rowsD2 hr, ht, rfl⟩, rfl⟩
theorem LinesC.setFun {n : Int} (h : LinesC F cs xs) {j : Nat} (hj : j < xs.length) : LinesC F (cs.set (j * 3) (.int .i64 n)) (xs.set j (n, (xs.getD j (0, [], [])).2)) :=
 CO.setOne (o := 0) h hj (by omega) (fun es _ ⟨c, d, h1, h2, h3⟩ => ⟨c, d, by rw [h1]; rfl, h2, h3⟩)
theorem LinesC.setPats {y : List (List Int)} (h : LinesC F cs xs) {j : Nat} (hj : j < xs.length) (ha : RowsF F a y) : LinesC F (cs.set (j * 3 + 1) a) (xs.set j ((xs.getD j (0, [], [])).1, y, (xs.getD j (0, [], [])).2.2)) :=
 CO.setOne (o := 1) h hj (by omega) (fun es _ ⟨c, d, h1, h2, h3⟩ => ⟨a, d, by rw [h1]; rfl, ha, h3⟩)
theorem LinesC.setBody {y : List Int} (h : LinesC F cs xs) {j : Nat} (hj : j < xs.length) (ha : IntsF F a y) : LinesC F (cs.set (j * 3 + 2) a) (xs.set j ((xs.getD j (0, [], [])).1, (xs.getD j (0, [], [])).2.1, y)) :=
 CO.setOne (o := 2) h hj (by omega) (fun es _ ⟨c, d, h1, h2, h3⟩ => ⟨c, a, by rw [h1]; rfl, h2, ha⟩)
def LineO2 (F : FH) (E1 e : TypeId) (es : List Value) (x : LineT) (K : List HP) : Prop := LineO E1 e es x K ∨ ∃ a b, es = [.int .i64 x.1, a, b] ∧ RowsF F a x.2.1 ∧ K = [intsH e b x.2.2]
theorem DeepL.imp9 {α : Type} {s : Nat} {R R' : List Value → α → List HP → Prop} {cs : List Value} {xs : List α} {L : List HP} (hR : ∀ es x K, R es x K → R' es x K) (h : DeepL s R cs xs L) : DeepL s R' cs xs L := by
 induction h with
 | nil => exact DeepL.nil
 | snoc _ hl hr ih => exact ih.snoc hl (hR _ _ _ hr)
theorem DeepL.at9 {α : Type} {s : Nat} {R : List Value → α → List HP → Prop} {d : α} {cs : List Value} {xs : List α} {L : List HP} (h : DeepL s R cs xs L) {k : Nat} (hk : k < xs.length) : ∃ A K B es, L = A ++ (K ++ B) ∧ es.length = s ∧ R es (xs.getD k d) K ∧ (∀ j u, es[j]? = some u → cs[k * s + j]? = some u) ∧
  ∀ (R' : List Value → α → List HP → Prop), (∀ es x K, R es x K → R' es x K) → ∀ es' x' K', es'.length = s → R' es' x' K' → DeepL s R' (cs.take (k * s) ++ es' ++ cs.drop (k * s + s)) (xs.set k x') (A ++ (K' ++ B)) := by
 induction h with
 | nil => simp at hk
 | @snoc cs es xs x L K h hl hr ih =>
  have hlen := h.len
  rw [List.length_append, List.length_singleton] at hk
  rcases Nat.lt_or_ge k xs.length with hlt | hge
  ·obtain ⟨A, K0, B, es0, rfl, hl0, hr0, hg0, hput⟩ := ih hlt
   have hb : k * s + s ≤ cs.length := by
    rw [hlen]
    have : (k + 1) * s ≤ xs.length * s := Nat.mul_le_mul_right s hlt
    rwa [Nat.succ_mul] at this
   refine ⟨A, K0, B ++ K, es0, by simp, hl0, ?_, fun j u hu => ?_, fun R' hR es' x' K' hl' hr' => ?_⟩
   ·have : (xs ++ [x]).getD k d = xs.getD k d := by simp [List.getD_eq_getElem?_getD, List.getElem?_append_left hlt]
    rw [this]; exact hr0
   ·have := hg0 j u hu
    rw [List.getElem?_append_left (List.getElem?_eq_some_iff.1 this).1]; exact this
   ·have h1 := (hput R' hR es' x' K' hl' hr').snoc hl (hR _ _ _ hr)
    have e1 : (cs ++ es).take (k * s) ++ es' ++ (cs ++ es).drop (k * s + s) = cs.take (k * s) ++ es' ++ cs.drop (k * s + s) ++ es := by
     rw [List.take_append_of_le_length (by omega), List.drop_append_of_le_length (by omega)]; simp
    have e2 : (xs ++ [x]).set k x' = xs.set k x' ++ [x] := by rw [List.set_append_left _ _ hlt]
    have e3 : A ++ (K' ++ (B ++ K)) = A ++ (K' ++ B) ++ K := by simp
    rw [e1, e2, e3]; exact h1
  ·obtain rfl : k = xs.length := by omega
   refine ⟨L, K, [], es, by simp, hl, ?_, fun j u hu => ?_, fun R' hR es' x' K' hl' hr' => ?_⟩
   ·have : (xs ++ [x]).getD xs.length d = x := by simp [List.getD_eq_getElem?_getD]
    rw [this]; exact hr
   ·rw [← hlen, List.getElem?_append_right (by omega)]
    rw [show cs.length + j - cs.length = j from by omega]; exact hu
   ·have e1 : (cs ++ es).take (xs.length * s) ++ es' ++ (cs ++ es).drop (xs.length * s + s) = cs ++ es' := by
     rw [← hlen, List.take_left, List.drop_eq_nil_of_le (by simp; omega)]; simp
    have e2 : (xs ++ [x]).set xs.length x' = xs ++ [x'] := by simp
    rw [e1, e2, List.append_nil]; exact (h.imp9 hR).snoc hl' hr'
theorem LineO2.fz (es : List Value) (x : LineT) (K : List HP) (h : LineO2 F E1 e es x K) (hz : ∃ l, star K l ∧ ∀ p ∈ l, F.cells p.1 = some p.2) : LineF F es x := by
 rcases h with h | ⟨a, b, rfl, ha, rfl⟩
 ·exact LineO.fz es x K h hz
 ·exact ⟨a, b, rfl, ha, intsH.fz (E := e) (frozen_star hz _ (by simp))⟩
def LinesX (F : FH) (cs : List Value) (xs : List LineT) (k : Nat) (a : Value) : Prop := ∀ F' y, F ≤ F' → RowsF F' a y → LinesC F' cs (xs.set k ((xs.getD k (0, [], [])).1, y, (xs.getD k (0, [], [])).2.2))
theorem Holds.openPats {A B : List HP} {w : World} {k : Nat} (hk : k < xs.length) (H : Holds F (A ++ linesD e E1 E v xs :: B) w) :
  ∃ cs a pcs F2, F ≤ F2 ∧ IsSl v ∧ IsSl a ∧ cs[k * 3 + 1]? = some a ∧ cs.length = xs.length * 3 ∧ RowsC F2 pcs (xs.getD k (0, [], [])).2.1 ∧ LinesX F2 cs xs k a ∧
   Holds F2 (slH E1 1 a (xs.getD k (0, [], [])).2.1.length pcs :: (A ++ slH E 3 v xs.length cs :: B)) w := by
 obtain ⟨h1, h2, h3, h4, l, hl, nd, hp⟩ := H
 obtain ⟨la, m, lc, ha, ⟨cs, Ls, hd, x, y, hx, hy, rfl⟩, hc, rfl⟩ := star_mid.1 hl
 obtain ⟨A1, K, B1, es, rfl, hel, ⟨a, b, rfl, rfl⟩, hg, hput⟩ := hd.at9 (d := ((0, [], []) : LineT)) hk
 have hb := hd.bound hk
 obtain ⟨y1, y2, hy1, hy2, rfl⟩ := star_append.1 hy
 obtain ⟨yk, y3, hyk, hy3, rfl⟩ := star_append.1 hy2
 obtain ⟨kr, kb, ⟨pcs, RL, hdr, p, q, hpp, hqq, rfl⟩, hkb, rfl⟩ := hyk
 have hlen := hd.len
 have hself := splice_self hel hg hb
 have pm : (la ++ ((x ++ (y1 ++ (((p ++ q) ++ kb) ++ y3))) ++ lc)).Perm ((p ++ (la ++ (x ++ lc))) ++ ((q ++ (y1 ++ (kb ++ y3))) ++ [])) := by
  haveI : DecidableEq (Nat × Obj) := fun _ _ => Classical.propDecidable _
  refine List.perm_iff_count.2 fun z => ?_
  simp only [List.count_append, List.count_nil]; omega
 have H2 : Holds F ((slH E1 1 a (xs.getD k (0, [], [])).2.1.length pcs :: (A ++ slH E 3 v xs.length cs :: B)) ++ star (RL ++ (A1 ++ ([intsH e b (xs.getD k (0, [], [])).2.2] ++ B1))) :: []) w := by
  refine ⟨h1, h2, h3, h4, (p ++ (la ++ (x ++ lc))) ++ ((q ++ (y1 ++ (kb ++ y3))) ++ []), star_append.2 ⟨_, _, ⟨p, _, hpp, star_append.2 ⟨la, x ++ lc, ha, ⟨x, lc, hx, hc, rfl⟩, rfl⟩, rfl⟩, ⟨_, [], star_append.2 ⟨q, _, hqq, star_append.2 ⟨y1, _, hy1, star_append.2 ⟨kb, y3, hkb, hy3, rfl⟩, rfl⟩, rfl⟩, rfl, rfl⟩, rfl⟩, ?_, ?_⟩
  ·exact (pm.map Prod.fst).nodup_iff.1 nd
  ·exact fun z hz => hp z (pm.mem_iff.2 hz)
 obtain ⟨F2, le, hz, H3, _⟩ := H2.lendF
 refine ⟨cs, a, pcs, F2, le, hx.isSl, hpp.isSl, hg 1 _ rfl, hlen, ?_, ?_, by simpa using H3⟩
 ·obtain ⟨m, hm, _, hm2⟩ := hz
  obtain ⟨q1, q2, hq1, hq2, rfl⟩ := star_append.1 hm
  exact hdr.co RowO.fz ⟨q1, hq1, fun p hp => (hm2 p (List.mem_append_left _ hp)).2⟩
 ·intro F' y9 le' hy9
  obtain ⟨m, hm, _, hm2⟩ := hz
  obtain ⟨q1, q2, hq1, hq2, rfl⟩ := star_append.1 hm
  have h9 := hput (LineO2 F' E1 e) (fun es x K h => .inl h) [.int .i64 (xs.getD k (0, [], [])).1, a, b] ((xs.getD k (0, [], [])).1, y9, (xs.getD k (0, [], [])).2.2) [intsH e b (xs.getD k (0, [], [])).2.2] rfl (.inr ⟨a, b, rfl, hy9, rfl⟩)
  rw [hself] at h9
  exact h9.co LineO2.fz ⟨q2, hq2, fun p hp => le'.cells _ _ (hm2 p (List.mem_append_right _ hp)).2⟩
theorem X.openPats {P : Program} {n : Nat} {c : Code} {Q : QX} {ρ : Env} (A B : List HP) {k : Nat} (hk : k < xs.length) (hL : L = A ++ linesD e E1 E v xs :: B)
  (H : ∀ cs a pcs F2, F ≤ F2 → IsSl v → IsSl a → cs[k * 3 + 1]? = some a → cs.length = xs.length * 3 → RowsC F2 pcs (xs.getD k (0, [], [])).2.1 → LinesX F2 cs xs k a →
   X P n c Q ρ F2 (slH E1 1 a (xs.getD k (0, [], [])).2.1.length pcs :: (A ++ slH E 3 v xs.length cs :: B))) : X P n c Q ρ F L := by
 subst hL
 intro ok a w r Hw
 obtain ⟨cs, a', pcs, F2, le, h1, h2, h3, h4, h5, h6, H'⟩ := Hw.openPats hk
 exact Code.wp_mono (fun _ _ _ q => low_le le q) (H cs a' pcs F2 le h1 h2 h3 h4 h5 h6 ok a w r H')
theorem linesH.slv (A : List HP) {B : List HP} (hL : L = A ++ linesD e E1 E v xs :: B) : SlV F L v xs.length := by
 subst hL
 intro w H
 obtain ⟨h1, h2, h3, h4, l, hl, nd, hp⟩ := H
 obtain ⟨la, m, lc, ha, ⟨cs, Ls, hd, x, y, hx, hy, rfl⟩, hc, rfl⟩ := star_mid.1 hl
 refine SlV.own (F := F) (A ++ [star Ls]) (B := B) (E := E) (s := 3) (n := xs.length) (v := v) (cs := cs) rfl w ⟨h1, h2, h3, h4, (la ++ y) ++ (x ++ lc), star_append.2 ⟨la ++ y, x ++ lc, star_append.2 ⟨la, y, ha, ⟨y, [], hy, rfl, by simp⟩, rfl⟩, ⟨x, lc, hx, hc, rfl⟩, rfl⟩, ?_, ?_⟩
 ·have pm : (la ++ ((x ++ y) ++ lc)).Perm ((la ++ y) ++ (x ++ lc)) := by
   haveI : DecidableEq (Nat × Obj) := fun _ _ => Classical.propDecidable _
   refine List.perm_iff_count.2 fun z => ?_
   simp only [List.count_append]; omega
  exact (pm.map Prod.fst).nodup_iff.1 nd
 ·intro p hq; refine hp p ?_; simp only [List.mem_append] at hq ⊢
  rcases hq with (hq | hq) | hq | hq
  ·exact .inl hq
  ·exact .inr (.inl (.inr hq))
  ·exact .inr (.inl (.inl hq))
  ·exact .inr (.inr hq)
theorem LinesX.close {k : Nat} {y : List (List Int)} (h : LinesX F cs xs k a) (le : F ≤ F1) (hy : RowsF F1 a y) : LinesC F1 cs (xs.set k ((xs.getD k (0, [], [])).1, y, (xs.getD k (0, [], [])).2.2)) := h F1 y le hy
end
end Go.Proofs.YtjpfankibmeaaaaGreat.X
namespace Go.Proofs.YtjpfankibmeaaaaGreat.M
section
variable {ar fs os t : List Int} {g : Int}
theorem syms_snoc {n : Int} (h : ∀ i, i < os.length → 0 ≤ os.getD i 0 ∧ os.getD i 0 < n) (h1 : 0 ≤ g) (h2 : g < n) : ∀ i, i < (os ++ [g]).length → 0 ≤ ((os ++ [g] : List Int)).getD i 0 ∧ ((os ++ [g] : List Int)).getD i 0 < n := by
 intro i hi
 rw [List.length_append, List.length_singleton] at hi
 rcases Nat.lt_or_ge i os.length with h3 | h3
 ·rw [show ((os ++ [g] : List Int)).getD i 0 = os.getD i 0 by simp [List.getD, List.getElem?_append, h3]]; exact h i h3
 ·obtain rfl : i = os.length := by omega
  rw [show ((os ++ [g] : List Int)).getD os.length 0 = g by simp [List.getD]]; exact ⟨h1, h2⟩
end
theorem pats2_b {p q : List Int} {N : Nat} (hp : p.length ≤ N) (hq : q.length ≤ N) : ∀ i, i < ([p, q] : List (List Int)).length → (([p, q] : List (List Int)).getD i []).length ≤ N
 | 0, _ => hp
 | 1, _ => hq
 | n + 2, h => absurd h (by simp)
theorem left2_le {p q b : List Int} {f : Int} (hp : p.length ≤ 2000) (hq : q.length ≤ 2000) : (leftL (f, [p, q], b)).length ≤ 4000000 := by unfold leftL; simp; omega
def lineS (x : Int × List (List Int) × List Int) : Bool := decide (x.2.1.length = 2) && (x.2.1.all fun p => decide (p.length ≤ 2000)) && decide (x.2.2.length ≤ 2000)
def linesS (ls : List (Int × List (List Int) × List Int)) : Bool := ls.all lineS
def lineW (x : Int × List (List Int) × List Int) : Bool := decide (x.2.1.length ≤ 2) && (x.2.1.all fun p => decide (p.length ≤ 2000)) && decide (x.2.2.length ≤ 2000)
def linesW (ls : List (Int × List (List Int) × List Int)) : Bool := ls.all lineW
section
variable {ls : List (Int × List (List Int) × List Int)} {x : Int × List (List Int) × List Int} {k : Nat} {p q b : List Int} {f : Int}
theorem linesS_snoc (h : linesS ls = true) (hp : p.length ≤ 2000) (hq : q.length ≤ 2000) (hb : b.length ≤ 2000) : linesS (ls ++ [(f, [p, q], b)]) = true := by
 unfold linesS at h ⊢
 rw [List.all_append, h, Bool.true_and]
 simp [lineS, hp, hq, hb]
theorem lineS_W (h : lineS x = true) : lineW x = true := by
 unfold lineS at h; unfold lineW
 simp only [Bool.and_eq_true, decide_eq_true_eq] at h ⊢
 exact ⟨⟨by omega, h.1.2⟩, h.2⟩
theorem linesS_W (h : linesS ls = true) : linesW ls = true := by
 unfold linesS at h; unfold linesW
 rw [List.all_eq_true] at h ⊢
 exact fun x hx => lineS_W (h x hx)
theorem lineS_two (h : linesS ls = true) (hk : k < ls.length) : (ls.getD k (0, [], [])).2.1.length = 2 := by
 unfold linesS at h
 have := List.all_eq_true.1 h ls[k] (List.getElem_mem hk)
 have e : ls.getD k (0, [], []) = ls[k] := by simp [List.getD, hk]
 rw [e]
 unfold lineS at this
 simp only [Bool.and_eq_true, decide_eq_true_eq] at this
 exact this.1.1
theorem lineW_at (h : linesW ls = true) (k : Nat) : lineW (ls.getD k (0, [], [])) = true := by
 rcases Nat.lt_or_ge k ls.length with hk | hk
 ·have e : ls.getD k (0, [], []) = ls[k] := by simp [List.getD, hk]
  rw [e]; exact List.all_eq_true.1 h _ (List.getElem_mem hk)
 ·rw [List.getD_eq_getElem?_getD, List.getElem?_eq_none hk]; rfl
theorem lineW_iff : lineW x = true ↔ x.2.1.length ≤ 2 ∧ (∀ p ∈ x.2.1, p.length ≤ 2000) ∧ x.2.2.length ≤ 2000 := by
 unfold lineW
 simp only [Bool.and_eq_true, decide_eq_true_eq, List.all_eq_true]
 exact ⟨fun h => ⟨h.1.1, h.1.2, h.2⟩, fun h => ⟨⟨h.1, h.2.1⟩, h.2.2⟩⟩
theorem lineW_drop {n : Nat} (h : lineW x = true) : lineW (x.1, (x.2.1.drop 1).take n, x.2.2) = true := by
 have h1 := lineW_iff.1 h
 refine lineW_iff.2 ⟨?_, fun p hp => h1.2.1 p (List.mem_of_mem_drop (List.mem_of_mem_take hp)), h1.2.2⟩
 dsimp only
 rw [List.length_take, List.length_drop]; omega
theorem lineW_body {u : List Int} (h : lineW x = true) (hu : u.length ≤ 2000) : lineW (x.1, x.2.1, u) = true := by
 have h1 := lineW_iff.1 h
 exact lineW_iff.2 ⟨h1.1, h1.2.1, hu⟩
theorem lineW_pat {u : List Int} {j : Nat} (h : lineW x = true) (hu : u.length ≤ 2000) : lineW (x.1, x.2.1.set j u, x.2.2) = true := by
 have h1 := lineW_iff.1 h
 refine lineW_iff.2 ⟨by dsimp only; rw [List.length_set]; exact h1.1, fun p hp => ?_, h1.2.2⟩
 rcases List.mem_or_eq_of_mem_set hp with h2 | rfl
 ·exact h1.2.1 p h2
 ·exact hu
theorem linesW_set (h : linesW ls = true) (hx : lineW x = true) : linesW (ls.set k x) = true := by
 unfold linesW at h ⊢
 rw [List.all_eq_true] at h ⊢
 intro y hy
 rcases List.mem_or_eq_of_mem_set hy with h1 | rfl
 ·exact h y h1
 ·exact hx
theorem linesW_app (h : linesW ls = true) (hx : lineW x = true) : linesW (ls ++ [x]) = true := by
 unfold linesW at h ⊢
 rw [List.all_append, h, Bool.true_and]; simp [hx]
theorem linesW_bounds (h : linesW ls = true) : ∀ i, i < ls.length → (ls.getD i (0, [], [])).2.1.length ≤ 4000000 ∧ (∀ q, q < (ls.getD i (0, [], [])).2.1.length → ((ls.getD i (0, [], [])).2.1.getD q []).length ≤ 4000000) ∧ (ls.getD i (0, [], [])).2.2.length ≤ 4000000 := by
 intro i hi
 have h1 := lineW_iff.1 (lineW_at h i)
 refine ⟨by omega, fun q hq => ?_, by omega⟩
 have e : (ls.getD i (0, [], [])).2.1.getD q [] = (ls.getD i (0, [], [])).2.1[q] := (List.getElem_eq_getD []).symm
 rw [e]
 have := h1.2.1 _ (List.getElem_mem hq)
 omega
end
def NoC (ar A C : List Int) : Prop := ∀ θ, GoodS ar θ → ap θ A ≠ ap θ (awayL C)
section
variable {ar : List Int} {rs : Rules} {t f now : List Int} {ss acc : List StepL} {s : RowL} {k : Nat}
end
section
variable {ar t u f : List Int} {rs : Rules} {ss : List StepL} {st n : Int}
theorem endL_cons' {s : StepL} : endL t (s :: ss) = endL s.2.2 ss := by
 unfold endL
 cases ss with
 | nil => rfl
 | cons a l => simp
end
section
variable {ar t : List Int} {rs : Rules} {p r : Int} {k : Nat}
end
section
variable {ar t f u v w g A R : List Int} {rs : Rules} {p q r : Nat} {ss xs : List StepL}
theorem endN_of {e : Nat} (h : endGo ar (t.drop p) 1 = some e) : endN ar t p = p + e := by simp [endN, endAt, h]
end
section
variable {ar t f u v w g : List Int} {rs : Rules} {p q r k n : Nat} {ss xs : List StepL} {s b b' : RowL}
abbrev FM (s : RowL) (t : List Int) : List Int := t.flatMap (lk s)
end
section
variable {ar t f : List Int} {rs : Rules} {ss xs : List StepL} {k : Nat}
end
section
variable {f : List Int} {ss : List StepL} {s : StepL} {k : Nat}
end
section
variable {ar t od : List Int} {σ τ : Sbs} {n : Nat}
end
section
variable {ar : List Int} {rs : RulesT} {o p u : Nat} {b : RowL} {σ : Sbs} {x : PkT}
structure PkS (ar : List Int) (rs : RulesT) (o p u : Nat) (x : PkT) (τ : Sbs) : Prop where
 good : GoodS ar τ
 top : x.1 = ap τ (Lr rs o)
 left : x.2.1 = ap τ (leftT ar rs o p u)
 right : x.2.2.1 = ap τ (Rr rs o)
 nums : x.2.2.2 = ((p : Int), (u : Int), (o : Int))
 met : ap τ (sub ar (Lr rs o) p) = ap τ (awayL (Lr rs u))
 topOk : termOk ar x.1 = true
 leftOk : termOk ar x.2.1 = true
 rightOk : termOk ar x.2.2.1 = true
end
section
variable {ar : List Int} {rs : RulesT} {a b : List Int}
end
section
variable {ar t : List Int} {τ : Sbs} {b : RowL} {n : Int}
theorem sub_at {A B u : List Int} (hu : WF ar u 1) : sub ar (A ++ u ++ B) A.length = u := by
 have h : endN ar (A ++ u ++ B) A.length = A.length + u.length := endN_of (by rw [List.append_assoc, List.drop_left]; exact endGo_more hu)
 unfold sub
 rw [h, List.append_assoc, List.drop_left, Nat.add_sub_cancel_left, List.take_left]
end
section
variable {ar t : List Int} {rs : RulesT} {τ : Sbs} {p q r : Nat}
theorem ap_away : ap τ (awayL t) = ap (fun n => τ (if n < 0 then n - 24 else n)) t := by
 unfold ap awayL
 rw [List.flatMap_map]
variable {o u : Nat} {x : PkT}
end
section
variable {ar A C t s : List Int} {σ τ θ σ1 σ2 : Sbs} {n m : Int} {b : RowL}
structure MguS (ar A C : List Int) (σ : Sbs) : Prop where
 good : GoodS ar σ
 eq : ap σ A = ap σ C
 most : ∀ θ, GoodS ar θ → ap θ A = ap θ C → ∀ t, ap θ (ap σ t) = ap θ t
end
section
variable {ar A C x y u v : List Int} {σ θ : Sbs} {n : Int} {k : Nat}
structure SolS (ar A C : List Int) (σ : Sbs) : Prop where
 good : GoodS ar σ
 idem : ∀ n, ap σ (σ n) = σ n
 most : ∀ θ, GoodS ar θ → ap θ A = ap θ C → ∀ n, ap θ (σ n) = θ n
end
section
variable {ar A C x y u t : List Int} {s : RowL} {σ : Sbs} {n : Int} {k i : Nat}
open Classical in
structure UniI (ar A C : List Int) (s : RowL) : Prop where
 sol : SolS ar A C (lk s)
 len : s.length ≤ 24
 rows : RowsOk ar s
structure Dif (ar A C : List Int) (s : RowL) (n : Int) (u : List Int) : Prop where
 neg : n < 0
 ge : -24 ≤ n
 free : lk s n = [n]
 ok : termOk ar u = true
 fix : ap (lk s) u = u
 ne : u ≠ [n]
 all : ∀ θ, GoodS ar θ → ap θ A = ap θ C → θ n = ap θ u
end
section
variable {ar A C t a b : List Int} {s l : RowL} {σ : Sbs} {n c : Int} {k i : Nat}
structure UniR (ar A C : List Int) (s : RowL) : Prop where
 mgu : MguS ar A C (lk s)
 len : s.length ≤ 24
 rows : RowsOk ar s
end
section
variable {ar t u : List Int} {rs : Rules} {n : Int} {all : List FoundV} {k : Nat} {ss : List StepV}
end
section
variable {ar t u a b : List Int} {rs : Rules} {n : Int} {all : List FoundV} {ss xs : List StepV} {s : StepV} {k m : Nat}
end
section
variable {ar t p : List Int} {g g' b : RowL}
theorem getD_set_self {b : RowL} {k : Nat} {x : List Int} (h : k < b.length) : (b.set k x).getD k [] = x := by
 rw [List.getD_eq_getElem?_getD, List.getElem?_set_self h]; rfl
theorem getD_set_other {b : RowL} {k j : Nat} {x : List Int} (h : k ≠ j) : (b.set k x).getD j [] = b.getD j [] := by
 rw [List.getD_eq_getElem?_getD, List.getElem?_set_ne h, ← List.getD_eq_getElem?_getD]
theorem mGo_sound (ht : termOk ar t = true) : ∀ (P : List Int) (n i e : Nat) (g g' : RowL), endGo ar P n = some P.length → endGo ar (t.drop i) n = some e → (∀ x ∈ P, -24 ≤ x) → g.length = 24 → mGo ar t P i g = some g' →
  FM g' P = (t.drop i).take e ∧ ∀ k, g.getD k [] ≠ [] → g'.getD k [] = g.getD k []
 | [], n, i, e, g, g', hP, hE, hr, hl, h => by
  simp [mGo] at h; subst h
  cases n with
  | zero => simp [endGo] at hE; subst hE; exact ⟨by simp [FM], fun k _ => rfl⟩
  | succ n => simp [endGo] at hP
 | x :: P, n, i, e, g, g', hP, hE, hr, hl, h => by
  obtain ⟨m, rfl, hx⟩ := Forest.lt (ar := ar) (r := P) (x := x) hP
  have hF := (Forest.cons hx).1 hP
  have hr' : ∀ y ∈ P, -24 ≤ y := fun y hy => hr y (List.mem_cons_of_mem _ hy)
  rw [mGo] at h
  split at h
  ·cases h
  ·rename_i hi
   have hi2 : i < t.length := by omega
   split at h
   ·rename_i h0
    split at h
    ·rename_i he
     rw [endGo_step (show 0 < m + 1 by omega) hi2 (by rw [he]; exact hx), he, show m + 1 - 1 = m from rfl] at hE
     cases hq : endGo ar (t.drop (i + 1)) (m + (arity ar x).toNat) with
     | none => rw [hq] at hE; simp at hE
     | some e1 =>
      rw [hq] at hE; simp at hE; subst hE
      obtain ⟨h1, h2⟩ := mGo_sound ht P _ (i + 1) e1 g g' hF hq hr' hl h
      refine ⟨?_, h2⟩
      rw [drop_get 0 hi2, List.take_succ_cons, he, ← h1, FM, List.flatMap_cons, lk_sym h0]
      rfl
    ·cases h
   ·rename_i h0
    rw [arity_var (by omega), show m + (0 : Int).toNat = m from rfl] at hF
    rw [Nat.add_comm m 1] at hE
    obtain ⟨e1, e2, h1, h2, rfl⟩ := endGo_split hE
    have hN : endN ar t i = i + e1 := endN_of h1
    have hS : sub ar t i = (t.drop i).take e1 := by unfold sub; rw [hN, Nat.add_sub_cancel_left]
    have hSl : (sub ar t i).length = e1 := by rw [sub_length ht hi2, hN, Nat.add_sub_cancel_left]
    have hne := sub_ne ht hi2
    have hv : varIx x < 24 := by have := hr x (by simp); unfold varIx; omega
    rw [List.drop_drop] at h2
    have fin : ∀ (g' : RowL), g'.getD (varIx x) [] = sub ar t i → FM g' P = (t.drop (i + e1)).take e2 → FM g' (x :: P) = (t.drop i).take (e1 + e2) := by
     intro g' h3 h4
     rw [FM, List.flatMap_cons, lk_some (by omega) (by rw [h3]; exact hne), h3, hS, List.take_add, List.drop_drop, ← h4]
    split at h
    ·rename_i he
     rw [hSl] at h
     obtain ⟨h3, h4⟩ := mGo_sound ht P m (i + e1) e2 _ g' hF h2 hr' (by rw [List.length_set]; exact hl) h
     refine ⟨fin g' ?_ h3, fun k hk => ?_⟩
     ·have := h4 (varIx x) (by rw [getD_set_self (by omega)]; exact hne)
      rw [this, getD_set_self (by omega)]
     ·have hkx : varIx x ≠ k := fun e => hk (e ▸ he)
      have := h4 k (by rw [getD_set_other hkx]; exact hk)
      rw [this, getD_set_other hkx]
    ·rename_i he
     split at h
     ·rename_i hq
      rw [hSl] at h
      obtain ⟨h3, h4⟩ := mGo_sound ht P m (i + e1) e2 g g' hF h2 hr' hl h
      exact ⟨fin g' (by rw [h4 _ he, hq]) h3, h4⟩
     ·cases h
theorem match_fm (hp : termOk ar p = true) (ht : termOk ar t = true) (h : matchB ar p t = some b) : FM b p = t := by
 have hT := termOk_iff.1 ht
 have hP := termOk_iff.1 hp
 have := (mGo_sound ht p 1 0 t.length _ b hP.whole (by rw [List.drop_zero]; exact hT.whole) hP.ge (by simp) h).1
 rwa [List.drop_zero, List.take_length] at this
end
section
variable {ar t f : List Int} {rs : Rules} {n : Int} {all : List FoundV} {ss ys : List StepV} {p many : Int} {s : RowL}
def againOk (ar : List Int) (rs : Rules) (f : List Int) (ss : List StepV) (p : Int) (s : RowL) (many : Int) : Prop := (sysOk ar rs && loopOkL ar rs f ss p s) = true ∧ 1 ≤ many ∧ many ≤ 60 ∧ many * (ss.length : Int) ≤ 60
instance : Decidable (againOk ar rs f ss p s many) := by unfold againOk; infer_instance
section
variable {m : Nat}
end
end
section
variable {ar : List Int} {rs : RulesT} {o p u : Nat} {b : RowL} {σ τ : Sbs} {x : PkT} {t l r od X : List Int}
theorem lk_goodS (hb : RowsOk ar b) : GoodS ar (lk b) :=
 ⟨fun n hn => lk_sym hn, fun n hn => by
  by_cases h : b.getD (varIx n) [] = []
  ·rw [lk_none hn h]; exact WF.var hn
  ·rw [lk_some hn h]; exact (termW_of ((hb (varIx n)).resolve_left h)).wf⟩
end
section
variable {f : Int} {os t t' : List Int} {n : Nat}
def L9 (u : List Int) : Prop := termOk [2, 1, 0] u = true ∧ u.length ≤ 5 ∧ 0 ≤ u.getD 0 0
end
section
variable {ar A C s : List Int}
theorem noC_match (hA : termOk ar A = true) (hC : termOk ar C = true) (hs : termOk ar s = true) (h : NoC ar A C) (m1 : (matchB ar A s).isSome = true) (m2 : (matchB ar C s).isSome = true) : False := by
 obtain ⟨b1, e1⟩ := Option.isSome_iff_exists.1 m1
 obtain ⟨b2, e2⟩ := Option.isSome_iff_exists.1 m2
 have f1 : ap (lk b1) A = s := match_fm hA hs e1
 have f2 : ap (lk b2) C = s := match_fm hC hs e2
 have g1 := lk_goodS (matchB_ok hs e1)
 have g2 := lk_goodS (matchB_ok hs e2)
 let θ : Sbs := fun n => if n < -24 then lk b2 (n + 24) else lk b1 n
 have gθ : GoodS ar θ := ⟨fun n hn => by show (if n < -24 then lk b2 (n + 24) else lk b1 n) = [n]; rw [if_neg (by omega)]; exact g1.sym n hn, fun n hn => by
  show WF ar (if n < -24 then lk b2 (n + 24) else lk b1 n) 1
  split
  ·exact g2.var _ (by omega)
  ·exact g1.var n hn⟩
 refine h θ gθ ?_
 have h1 : ap θ A = ap (lk b1) A := ap_congr fun y hy => by show (if y < -24 then lk b2 (y + 24) else lk b1 y) = lk b1 y; rw [if_neg (by have := (termOk_iff.1 hA).ge y hy; omega)]
 have h2 : ap θ (awayL C) = ap (lk b2) C := by
  rw [ap_away]
  refine ap_congr fun y hy => ?_
  show (if (if y < 0 then y - 24 else y) < -24 then lk b2 ((if y < 0 then y - 24 else y) + 24) else lk b1 (if y < 0 then y - 24 else y)) = lk b2 y
  rcases Int.lt_or_le y 0 with h | h
  ·rw [if_pos h, if_pos (by omega), show y - 24 + 24 = y from by omega]
  ·rw [if_neg (by omega), if_neg (by omega), g1.sym y h, g2.sym y h]
 rw [h1, h2, f1, f2]
end
section
variable {ar : List Int} {rs : Rules} {t x : List Int} {ts : RowL} {n : Int} {k : Nat}
end
section
variable {α : Type} {q : α → Bool} {l : List α} {k : Nat} {ar : List Int} {rs : RulesT}
end
inductive LeS : List Nat → List Nat → Prop
 | nil : LeS [] []
 | cons {a b : Nat} {r s : List Nat} : a ≤ b → LeS r s → LeS (a :: r) (b :: s)
inductive LtS : List Nat → List Nat → Prop
 | here {a b : Nat} {r s : List Nat} : a < b → LeS r s → LtS (a :: r) (b :: s)
 | there {a b : Nat} {r s : List Nat} : a ≤ b → LtS r s → LtS (a :: r) (b :: s)
section
variable {c d : Nat} {n : Int} {r s : List Nat} {t u : List Int}
variable {rs : Rules} {p k : Nat}
end
section
variable {ar : List Int} {rs : Rules} {ts : RowL} {i k : Nat} {a b : List Int}
end
theorem WF_flat {ar : List Int} : ∀ {xs : RowL}, (∀ x ∈ xs, WF ar x 1) → WF ar xs.flatten xs.length
 | [], _ => WF_nil
 | x :: xs, h => by
  rw [List.flatten_cons, List.length_cons, Nat.add_comm]
  exact WF_app (h x (by simp)) (WF_flat fun y hy => h y (List.mem_cons_of_mem _ hy))
section
variable (ar fs : List Int) (ls : List LnT)
abbrev LN (ls : List LnT) (k : Nat) : LnT := ls.getD k (0, [], [])
def opE (E : List Int → List Int → Prop) (h : Int) (s s' : RowL) : Prop :=
  (arity ar h).toNat ≤ s.length ∧ ∃ v, s' = v :: s.drop (arity ar h).toNat ∧
    ((h ∉ fs ∧ v = h :: (s.take (arity ar h).toNat).flatten) ∨
     (h ∈ fs ∧ ∃ k, k < ls.length ∧ ∃ b, matchB ar (leftL (LN ls k)) (h :: (s.take (arity ar h).toNat).flatten) = some b ∧ E (FM b (LN ls k).2.2) v))
def runE (E : List Int → List Int → Prop) : List Int → RowL → RowL → Prop
 | [], s, s' => s' = s
 | h :: t, s, s' => ∃ s1, runE E t s s1 ∧ opE ar fs ls E h s1 s'
def EvN : Nat → List Int → List Int → Prop
 | 0 => fun _ _ => False
 | n + 1 => fun t v => runE ar fs ls (EvN n) t [] [v]
def Ev (t v : List Int) : Prop := ∃ n, EvN ar fs ls n t v
end
section
variable {ar fs t a b r v w x : List Int} {ls : List LnT} {E E' : List Int → List Int → Prop} {s s' s1 : RowL} {h : Int} {n m k : Nat}
theorem opE.mono (hE : ∀ t v, E t v → E' t v) (k : opE ar fs ls E h s s') : opE ar fs ls E' h s s' := by
 obtain ⟨h1, v, h2, h3⟩ := k
 refine ⟨h1, v, h2, h3.imp id ?_⟩
 rintro ⟨h4, k, h5, b, h6, h7⟩
 exact ⟨h4, k, h5, b, h6, hE _ _ h7⟩
theorem runE.mono (hE : ∀ t v, E t v → E' t v) : ∀ {t : List Int} {s s' : RowL}, runE ar fs ls E t s s' → runE ar fs ls E' t s s'
 | [], _, _, k => k
 | _ :: _, _, _, ⟨s1, k1, k2⟩ => ⟨s1, runE.mono hE k1, k2.mono hE⟩
theorem EvN.up : ∀ (n : Nat) (t v : List Int), EvN ar fs ls n t v → EvN ar fs ls (n + 1) t v
 | 0, _, _, k => k.elim
 | n + 1, t, v, k => runE.mono (EvN.up n) k
theorem EvN.le (hn : n ≤ m) (k : EvN ar fs ls n t v) : EvN ar fs ls m t v := by
 induction hn with
 | refl => exact k
 | step _ ih => exact EvN.up _ _ _ ih
theorem opE.fin (k : opE ar fs ls (Ev ar fs ls) h s s') : ∃ n, opE ar fs ls (EvN ar fs ls n) h s s' := by
 obtain ⟨h1, v, h2, h3⟩ := k
 rcases h3 with h3 | ⟨h4, k, h5, b, h6, n, h7⟩
 ·exact ⟨0, h1, v, h2, .inl h3⟩
 ·exact ⟨n, h1, v, h2, .inr ⟨h4, k, h5, b, h6, h7⟩⟩
theorem runE.fin : ∀ {t : List Int} {s s' : RowL}, runE ar fs ls (Ev ar fs ls) t s s' → ∃ n, runE ar fs ls (EvN ar fs ls n) t s s'
 | [], _, _, k => ⟨0, k⟩
 | _ :: _, _, _, ⟨s1, k1, k2⟩ => by
  obtain ⟨n, h1⟩ := runE.fin k1
  obtain ⟨m, h2⟩ := k2.fin
  exact ⟨max n m, s1, h1.mono fun _ _ q => q.le (Nat.le_max_left n m), h2.mono fun _ _ q => q.le (Nat.le_max_right n m)⟩
theorem ev_iff : Ev ar fs ls t v ↔ runE ar fs ls (Ev ar fs ls) t [] [v] := by
 constructor
 ·rintro ⟨n, k⟩
  cases n with
  | zero => exact k.elim
  | succ n => exact runE.mono (fun _ _ q => ⟨n, q⟩) k
 ·intro k
  obtain ⟨n, q⟩ := k.fin
  exact ⟨n + 1, q⟩
theorem runE_app : ∀ {a : List Int} {s s' : RowL}, runE ar fs ls E (a ++ b) s s' ↔ ∃ s1, runE ar fs ls E b s s1 ∧ runE ar fs ls E a s1 s'
 | [], s, s' => by
  show runE ar fs ls E b s s' ↔ _
  constructor
  ·intro k; exact ⟨_, k, rfl⟩
  ·rintro ⟨s1, k, rfl⟩; exact k
 | x :: a, s, s' => by
  show (∃ s1, runE ar fs ls E (a ++ b) s s1 ∧ _) ↔ ∃ s1, runE ar fs ls E b s s1 ∧ ∃ s2, _
  constructor
  ·rintro ⟨s1, k1, k2⟩
   obtain ⟨s2, k3, k4⟩ := runE_app.1 k1
   exact ⟨s2, k3, s1, k4, k2⟩
  ·rintro ⟨s2, k3, s1, k4, k2⟩
   exact ⟨s1, runE_app.2 ⟨s2, k3, k4⟩, k2⟩
theorem runE_wf : ∀ {r : List Int} {n : Nat} {s s' : RowL}, WF ar r n → runE ar fs ls E r s s' → ∃ ws : RowL, ws.length = n ∧ s' = ws ++ s ∧ ∀ s0, runE ar fs ls E r s0 (ws ++ s0)
 | [], n, s, s', hw, k => by
  have : n = 0 := by unfold WF at hw; cases n with | zero => rfl | succ n => simp [endGo] at hw
  subst this
  exact ⟨[], rfl, k, fun _ => rfl⟩
 | x :: r, n, s, s', hw, k => by
  cases n with
  | zero => unfold WF at hw; simp [endGo] at hw
  | succ n =>
   obtain ⟨hx, hw⟩ := WF_cons.1 hw
   obtain ⟨s1, k1, h1, v, rfl, h3⟩ := k
   obtain ⟨ws, hl, rfl, hs⟩ := runE_wf hw k1
   have e1 : (ws ++ s).take (arity ar x).toNat = ws.take (arity ar x).toNat := List.take_append_of_le_length (by omega)
   have e2 : ∀ s0 : RowL, (ws ++ s0).drop (arity ar x).toNat = ws.drop (arity ar x).toNat ++ s0 := fun s0 => List.drop_append_of_le_length (by omega)
   refine ⟨v :: ws.drop (arity ar x).toNat, by rw [List.length_cons, List.length_drop]; omega, by rw [e2]; rfl, fun s0 => ⟨ws ++ s0, hs s0, by rw [List.length_append]; omega, v, by rw [e2]; rfl, ?_⟩⟩
   rw [List.take_append_of_le_length (by omega)]
   rw [e1] at h3
   exact h3
theorem run_one (hw : WF ar t 1) : runE ar fs ls (Ev ar fs ls) t s s' ↔ ∃ v, s' = v :: s ∧ Ev ar fs ls t v := by
 constructor
 ·intro k
  obtain ⟨ws, hl, rfl, h2⟩ := runE_wf hw k
  match ws, hl with
  | [v], _ => exact ⟨v, rfl, ev_iff.2 (h2 [])⟩
 ·rintro ⟨v, rfl, k⟩
  obtain ⟨ws, hl, he, h2⟩ := runE_wf hw (ev_iff.1 k)
  rw [List.append_nil] at he
  have := h2 s
  rw [← he] at this
  exact this
theorem ev_ctx {A B : List Int} (ha : WF ar a 1) (hb : WF ar b 1) (h : ∀ w, Ev ar fs ls a w → Ev ar fs ls b w) (k : Ev ar fs ls (A ++ a ++ B) v) : Ev ar fs ls (A ++ b ++ B) v := by
 rw [ev_iff, List.append_assoc, runE_app] at k ⊢
 obtain ⟨s1, k1, k2⟩ := k
 rw [runE_app] at k1
 obtain ⟨s2, k3, k4⟩ := k1
 obtain ⟨w, rfl, kw⟩ := (run_one ha).1 k4
 exact ⟨_, runE_app.2 ⟨s2, k3, (run_one hb).2 ⟨w, rfl, h w kw⟩⟩, k2⟩
theorem run_free : ∀ {r : List Int} {n : Nat} {s : RowL}, WF ar r n → (∀ x ∈ r, x ∉ fs) → ∃ ws : RowL, ws.length = n ∧ ws.flatten = r ∧ runE ar fs ls E r s (ws ++ s)
 | [], n, s, hw, _ => by
  have : n = 0 := by unfold WF at hw; cases n with | zero => rfl | succ n => simp [endGo] at hw
  subst this
  exact ⟨[], rfl, rfl, rfl⟩
 | x :: r, n, s, hw, hf => by
  cases n with
  | zero => unfold WF at hw; simp [endGo] at hw
  | succ n =>
   obtain ⟨hx, hw⟩ := WF_cons.1 hw
   obtain ⟨ws, hl, he, k⟩ := run_free (s := s) hw (fun y hy => hf y (List.mem_cons_of_mem _ hy))
   refine ⟨(x :: (ws.take (arity ar x).toNat).flatten) :: ws.drop (arity ar x).toNat, by rw [List.length_cons, List.length_drop]; omega, ?_, ws ++ s, k, by rw [List.length_append]; omega, x :: (ws.take (arity ar x).toNat).flatten, ?_, .inl ⟨hf x (by simp), ?_⟩⟩
   ·rw [List.flatten_cons, List.cons_append, ← List.flatten_append, List.take_append_drop, he]
   ·rw [List.drop_append_of_le_length (by omega)]; rfl
   ·rw [List.take_append_of_le_length (by omega)]
theorem ev_free (hw : WF ar t 1) (hf : ∀ x ∈ t, x ∉ fs) : Ev ar fs ls t t := by
 obtain ⟨ws, hl, he, k⟩ := run_free (ls := ls) (E := Ev ar fs ls) (s := []) hw hf
 match ws, hl with
 | [v], _ =>
  simp only [List.flatten_cons, List.flatten_nil, List.append_nil] at he
  subst he
  exact ev_iff.2 k
theorem ev_call {B : RowL} (hw : WF ar (h :: r) 1) (hf : ∀ x ∈ r, x ∉ fs) (hh : h ∈ fs) (hk : k < ls.length) (hm : matchB ar (leftL (LN ls k)) (h :: r) = some B) (k2 : Ev ar fs ls (FM B (LN ls k).2.2) v) : Ev ar fs ls (h :: r) v := by
 obtain ⟨hx, hw2⟩ := WF_cons.1 hw
 rw [Nat.zero_add] at hw2
 obtain ⟨ws, hl, he, k⟩ := run_free (ls := ls) (E := Ev ar fs ls) (s := []) hw2 hf
 rw [List.append_nil] at k
 refine ev_iff.2 ⟨ws, k, by omega, v, by rw [List.drop_of_length_le (by omega)], .inr ⟨hh, _, hk, B, ?_, k2⟩⟩
 rw [List.take_of_length_le (by omega), he]; exact hm
def NoRed (ar : List Int) (ls : List LnT) (t : List Int) : Prop := ∀ A a B, t = A ++ a ++ B → WF ar a 1 → ∀ k, k < ls.length → matchB ar (leftL (LN ls k)) a = none
theorem NoRed.part {C D : List Int} (h : NoRed ar ls (C ++ t ++ D)) : NoRed ar ls t := fun A a B e hw k hk =>
 h (C ++ A) a (B ++ D) (by rw [e]; simp [List.append_assoc]) hw k hk
theorem norm_run : ∀ {r : List Int} {n : Nat} {s s' : RowL}, WF ar r n → NoRed ar ls r → runE ar fs ls E r s s' → (∀ x ∈ r, x ∉ fs) ∧ ∃ ws : RowL, ws.length = n ∧ ws.flatten = r ∧ s' = ws ++ s ∧ ∀ x ∈ ws, WF ar x 1
 | [], n, s, s', hw, _, k => by
  have : n = 0 := by unfold WF at hw; cases n with | zero => rfl | succ n => simp [endGo] at hw
  subst this
  exact ⟨by simp, [], rfl, rfl, k, by simp⟩
 | x :: r, n, s, s', hw, hr, k => by
  cases n with
  | zero => unfold WF at hw; simp [endGo] at hw
  | succ n =>
   obtain ⟨hx, hw2⟩ := WF_cons.1 hw
   obtain ⟨s1, k1, h1, v, rfl, h3⟩ := k
   have hr2 : NoRed ar ls r := NoRed.part (C := [x]) (D := []) (by simpa using hr)
   obtain ⟨hf, ws, hl, he, rfl, hws⟩ := norm_run hw2 hr2 k1
   have e1 : (ws ++ s).take (arity ar x).toNat = ws.take (arity ar x).toNat := List.take_append_of_le_length (by omega)
   rw [e1] at h3
   have hwx : WF ar (x :: (ws.take (arity ar x).toNat).flatten) 1 := by
    refine WF_cons.2 ⟨hx, ?_⟩
    rw [Nat.zero_add]
    have := WF_flat (ar := ar) (xs := ws.take (arity ar x).toNat) (fun y hy => hws y (List.mem_of_mem_take hy))
    rwa [List.length_take, Nat.min_eq_left (by omega)] at this
   rcases h3 with ⟨h4, rfl⟩ | ⟨h4, k, h5, b, h6, _⟩
   ·refine ⟨fun y hy => ?_, (x :: (ws.take (arity ar x).toNat).flatten) :: ws.drop (arity ar x).toNat, by rw [List.length_cons, List.length_drop]; omega, ?_, ?_, ?_⟩
    ·rcases List.mem_cons.1 hy with rfl | hy
     ·exact h4
     ·exact hf y hy
    ·rw [List.flatten_cons, List.cons_append, ← List.flatten_append, List.take_append_drop, he]
    ·rw [List.drop_append_of_le_length (by omega)]; rfl
    ·intro y hy
     rcases List.mem_cons.1 hy with rfl | hy
     ·exact hwx
     ·exact hws y (List.mem_of_mem_drop hy)
   ·exfalso
    have := hr [] (x :: (ws.take (arity ar x).toNat).flatten) (ws.drop (arity ar x).toNat).flatten (by rw [← he, List.nil_append, List.cons_append, ← List.flatten_append, List.take_append_drop]) hwx k h5
    rw [this] at h6; cases h6
theorem norm_ev (hw : WF ar t 1) (hr : NoRed ar ls t) (k : Ev ar fs ls t v) : v = t := by
 obtain ⟨_, ws, hl, he, h2, _⟩ := norm_run hw hr (ev_iff.1 k)
 match ws, hl with
 | [u], _ =>
  simp only [List.append_nil, List.cons.injEq] at h2
  simp only [List.flatten_cons, List.flatten_nil, List.append_nil] at he
  rw [h2.1, he]
def OneLn (ar : List Int) (ls : List LnT) : Prop := ∀ t, termOk ar t = true → ∀ i j, i < ls.length → j < ls.length → (matchB ar (leftL (LN ls i)) t).isSome = true → (matchB ar (leftL (LN ls j)) t).isSome = true → i = j
theorem ev_inner {B : RowL} (ho : OneLn ar ls) (ht : termOk ar (h :: r) = true) (hr : NoRed ar ls r) (hh : h ∈ fs) (hk : k < ls.length) (hm : matchB ar (leftL (LN ls k)) (h :: r) = some B) (kv : Ev ar fs ls (h :: r) v) : Ev ar fs ls (FM B (LN ls k).2.2) v := by
 have hw : WF ar (h :: r) 1 := (termOk_iff.1 ht).whole
 obtain ⟨hx, hw2⟩ := WF_cons.1 hw
 rw [Nat.zero_add] at hw2
 obtain ⟨s1, k1, h1, u, h2, h3⟩ := ev_iff.1 kv
 obtain ⟨_, ws, hl, he, rfl, _⟩ := norm_run hw2 hr k1
 rw [List.append_nil] at h3 h2 h1
 rw [List.take_of_length_le (by omega), he] at h3
 obtain rfl : v = u := by simpa using (List.cons.inj h2).1
 rcases h3 with ⟨h4, _⟩ | ⟨_, j, h5, b, h6, h7⟩
 ·exact absurd hh h4
 ·obtain rfl := ho _ ht k j hk h5 (by rw [hm]; rfl) (by rw [h6]; rfl)
  rw [hm] at h6
  cases h6
  exact h7
end
section
variable {ar t : List Int} {rs : Rules} {all os : List Int} {e x : Int} {c p k i : Nat}
theorem redL_lt : ∀ {j : Nat}, j < (redL ar rs t).length → ∀ i, i < j → (redL ar rs t).getD i 0 < (redL ar rs t).getD j 0
 | 0, _, i, h => by omega
 | j + 1, hj, i, h => by
  have h1 := redL_asc (ar := ar) (rs := rs) (t := t) (i := j) hj
  rcases Nat.eq_or_lt_of_le (show i ≤ j by omega) with rfl | h2
  ·exact h1
  ·have := redL_lt (j := j) (by omega) i h2
   omega
def insideB (ar t : List Int) (a p : Int) : Bool := (posOk ar t a && posOk ar t p) && decide (a ≤ p ∧ p < (endN ar t a.toNat : Int))
theorem in_law (hi : i < (inL ar rs t).length) (hk : k < (redL ar rs t).length) (hne : (redL ar rs t).getD k 0 ≠ (inL ar rs t).getD i 0) : insideB ar t ((inL ar rs t).getD i 0) ((redL ar rs t).getD k 0) = false := by
 generalize hx : (inL ar rs t).getD i 0 = x at hne
 have hm : x ∈ inL ar rs t := by rw [← hx]; simp [List.getD, hi]
 unfold inL inTo at hm
 obtain ⟨j, hj, rfl⟩ := List.mem_map.1 hm
 have hj1 := List.mem_range.1 (List.mem_filter.1 hj).1
 have hj2 : inOk ar t (redL ar rs t) j = true := (List.mem_filter.1 hj).2
 simp only [inOk, decide_eq_true_eq] at hj2
 unfold insideB
 rw [Bool.and_eq_false_iff]
 refine .inr (decide_eq_false (fun h => ?_))
 rcases Nat.lt_trichotomy j k with h1 | rfl | h1
 ·rcases hj2 with h2 | h2
  ·omega
  ·rcases Nat.eq_or_lt_of_le (show j + 1 ≤ k by omega) with rfl | h3
   ·omega
   ·have := redL_lt hk (j + 1) h3; omega
 ·exact hne rfl
 ·have := redL_lt hj1 k h1; omega
end
section
variable {ar fs t u x : List Int} {ls : List LnT} {p k n : Nat} {m : Int}
theorem step_split {rs : Rules} (ht : termOk ar t = true) (hp : p < t.length) (h : stepL ar rs t p k = some u) :
  ∃ b, matchB ar (rs.getD k ([], [])).1 (sub ar t p) = some b ∧ u = t.take p ++ FM b (rs.getD k ([], [])).2 ++ t.drop (endN ar t p) := by
 unfold stepL at h
 split at h
 ·cases h
 ·rename_i b hb
  split at h
  ·cases h
  ·rename_i w hw
   unfold putL at h
   split at h
   ·cases h
   ·cases h
    exact ⟨b, hb, by rw [fillL_flat hw]⟩
theorem matchB_head {h : Int} {ps s : List Int} {b : RowL} (h0 : 0 ≤ h) (hm : matchB ar (h :: ps) s = some b) : s.getD 0 0 = h := by
 unfold matchB at hm
 rw [mGo] at hm
 by_cases h1 : s.length ≤ 0
 ·rw [if_pos h1] at hm; cases hm
 ·rw [if_neg h1, if_pos h0] at hm
  by_cases h2 : s.getD 0 0 = h
  ·exact h2
  ·rw [if_neg h2] at hm; cases hm
theorem sub_cons (ht : termOk ar t = true) (hp : p < t.length) : sub ar t p = t.getD p 0 :: (sub ar t p).drop 1 := by
 have he := endN_spec ht hp
 unfold sub
 rw [drop_get 0 hp, show endN ar t p - p = (endN ar t p - (p + 1)) + 1 from by omega, List.take_succ_cons]; rfl
theorem fm_term {b : RowL} {r : List Int} (hs : sigOk ar = true) (hb : RowsOk ar b) (hr : termOk ar r = true) : WF ar (FM b r) 1 :=
 Forest.fill (lk_forest hb hs) r 1 (termOk_iff.1 hr).whole
theorem front_one (hf : frontB ar fs ls = true) (hk : k < ls.length) : (LN ls k).1 ∈ fs := by
 have := (front_iff.1 hf).2.2.2
 exact (line_iff.1 ((all_getD_iff ((0, [], []) : LnT)).1 this k hk)).1
theorem line_ok (hf : frontB ar fs ls = true) (hk : k < ls.length) : ruleOk ar (leftL (LN ls k)) (LN ls k).2.2 = true := by
 have := (front_iff.1 hf).2.2.2
 exact (line_iff.1 ((all_getD_iff ((0, [], []) : LnT)).1 this k hk)).2.2.2.1
theorem no_call (ht : termOk ar t = true) (h : firstC ar fs t = t.length) : ∀ x ∈ t, x ∉ fs := by
 have hall : ∀ i, i < t.length → callAt ar fs t i = false := fun i hi => by
  cases hc : callAt ar fs t i with
  | false => rfl
  | true =>
   exfalso
   unfold firstC at h
   have : (List.range t.length).findIdx (callAt ar fs t) < (List.range t.length).length := List.findIdx_lt_length_of_exists ⟨i, List.mem_range.2 hi, hc⟩
   rw [h, List.length_range] at this
   omega
 have key : ∀ d i, i < t.length → t.length - i ≤ d → t.getD i 0 ∉ fs := by
  intro d
  induction d with
  | zero => intro i hi hd; omega
  | succ d ih =>
   intro i hi hd hm
   have := hall i hi
   unfold callAt at this
   rw [decide_eq_true hm, Bool.true_and] at this
   have hfr : freeB fs ((sub ar t i).drop 1) = true := free_iff.2 fun y hy => by
    unfold sub at hy
    rw [List.drop_take, List.drop_drop] at hy
    have hy := List.mem_of_mem_take hy
    obtain ⟨j, hj, rfl⟩ := List.getElem_of_mem hy
    rw [List.length_drop] at hj
    have := ih (i + 1 + j) (by omega) (by omega)
    simpa [List.getD, show i + 1 + j < t.length by omega] using this
   rw [hfr] at this; cases this
 intro x hx
 obtain ⟨i, hi, rfl⟩ := List.getElem_of_mem hx
 have := key _ i hi (Nat.le_refl _)
 simpa [List.getD, hi] using this
theorem first_call (h : firstC ar fs t ≠ t.length) : firstC ar fs t < t.length ∧ callAt ar fs t (firstC ar fs t) = true := by
 have h1 := firstC_le (ar := ar) (fs := fs) (t := t)
 have h2 : firstC ar fs t < t.length := by omega
 refine ⟨h2, ?_⟩
 unfold firstC at h2 ⊢
 have h3 : (List.range t.length).findIdx (callAt ar fs t) < (List.range t.length).length := by rw [List.length_range]; exact h2
 have := List.findIdx_getElem (w := h3)
 simpa using this
theorem ev_back {v : List Int} (hf : frontB ar fs ls = true) (ht : termOk ar t = true) (hp : p < t.length) (hc : callAt ar fs t p = true) (hk : k < ls.length) (h : stepL ar (rulesOf ls) t p k = some u) (he : Ev ar fs ls u v) : Ev ar fs ls t v := by
 obtain ⟨b, hb, rfl⟩ := step_split ht hp h
 rw [rules_get hk] at hb he
 have hso := sub_ok ht hp
 have hR := line_ok hf hk
 rw [parts ht hp]
 refine ev_ctx (fm_term (termOk_sig ht) (matchB_ok hso hb) (ruleOk_iff.1 hR).right) (termOk_iff.1 hso).whole (fun w kw => ?_) he
 have e := sub_cons ht hp
 unfold callAt at hc
 rw [Bool.and_eq_true, decide_eq_true_eq, free_iff] at hc
 rw [e] at hb ⊢
 exact ev_call (by rw [← e]; exact (termOk_iff.1 hso).whole) hc.2 hc.1 hk hb kw
theorem call_ev (hf : frontB ar fs ls = true) : ∀ (n : Nat) (t : List Int), termOk ar t = true → callGo ar fs ls n t = (x, 0) → Ev ar fs ls t x := by
 have done : ∀ t : List Int, termOk ar t = true → firstC ar fs t = t.length → Ev ar fs ls t t := fun t ht h => ev_free (termOk_iff.1 ht).whole (no_call ht h)
 intro n
 induction n with
 | zero =>
  intro t ht h
  rw [callGo] at h
  split at h
  ·rename_i h1; cases h; exact done _ ht h1
  ·split at h <;> simp at h
 | succ n ih =>
  intro t ht h
  rw [callGo] at h
  split at h
  ·rename_i h1; cases h; exact done _ ht h1
  ·rename_i h1
   split at h
   ·simp at h
   ·rename_i h2
    split at h
    ·simp at h
    ·rename_i u hu
     have hfc := first_call h1
     have hfl := firstL_lt h2
     exact ev_back hf ht hfc.1 hfc.2 hfl.1 hu (ih u (step_okL hf ht hfc.1 hfl.1 hu) h)
theorem red_iff (hk : k < ls.length) : isRedex ar (rulesOf ls) t p k = (matchB ar (leftL (LN ls k)) (sub ar t p)).isSome := by
 unfold isRedex; rw [rules_get hk]
theorem rule_neg {rs : Rules} (h : ruleAtL ar rs t p < 0) : ∀ k, k < rs.length → isRedex ar rs t p k = false := by
 rcases ruleAt_spec (ar := ar) (rs := rs) (t := t) (p := p) with h1 | ⟨k, h1, _, _⟩
 ·exact fun k hk => ruleAtGo_none rs.length 0 h1 k (by omega) (by omega)
 ·omega
theorem norm_no (hn : redL ar (rulesOf ls) t = []) (ht : termOk ar t = true) : NoRed ar ls t := by
 intro A a B e hw k hk
 have hl : A.length < t.length := by
  have : a ≠ [] := fun h => by subst h; unfold WF at hw; simp [endGo] at hw
  have := List.length_pos_iff.2 this
  rw [e]; simp only [List.length_append]; omega
 have h1 := rule_neg (redL_nil.1 hn A.length hl) k (by rw [rules_len]; exact hk)
 rw [red_iff hk] at h1
 have h2 : sub ar t A.length = a := by rw [e]; exact sub_at hw
 rw [h2] at h1
 cases hm : matchB ar (leftL (LN ls k)) a with
 | none => rfl
 | some b => rw [hm] at h1; cases h1
theorem in_pick (ht : termOk ar t = true) (hn : redL ar (rulesOf ls) t ≠ []) (hp : pickL ar (rulesOf ls) t 1 = (p : Int)) (hl : p < t.length) : NoRed ar ls ((sub ar t p).drop 1) := fun A a B e hw k hk => by
 have hin := inL_pos hn
 have hpi : (inL ar (rulesOf ls) t).getD 0 0 = (p : Int) := by
  unfold pickL at hp
  rw [if_neg hn, if_pos rfl] at hp; exact hp
 have hs := sub_cons ht hl
 have he := endN_spec ht hl
 have hsl := sub_length ht hl
 have hne : a ≠ [] := fun h => by subst h; unfold WF at hw; simp [endGo] at hw
 have hal := List.length_pos_iff.2 hne
 have hlen : A.length + a.length + B.length + 1 = endN ar t p - p := by
  have := congrArg List.length e
  rw [List.length_drop, hsl] at this
  simp only [List.length_append] at this
  omega
 have ht2 : t = (t.take p ++ t.getD p 0 :: A) ++ a ++ (B ++ t.drop (endN ar t p)) := by
  have h1 := parts ht hl
  rw [hs, e] at h1
  exact h1.trans (by simp [List.append_assoc])
 have hq : (t.take p ++ t.getD p 0 :: A).length = p + 1 + A.length := by simp [List.length_take]; omega
 have hsub : sub ar t (p + 1 + A.length) = a := by
  have := sub_at (ar := ar) (A := t.take p ++ t.getD p 0 :: A) (B := B ++ t.drop (endN ar t p)) hw
  rw [← ht2, hq] at this; exact this
 cases hm : matchB ar (leftL (LN ls k)) a with
 | none => rfl
 | some b =>
  exfalso
  have hr : isRedex ar (rulesOf ls) t (p + 1 + A.length) k = true := by rw [red_iff hk, hsub, hm]; rfl
  have hpos : 0 ≤ ruleAtL ar (rulesOf ls) t (p + 1 + A.length) := by
   rcases Int.lt_or_le (ruleAtL ar (rulesOf ls) t (p + 1 + A.length)) 0 with h | h
   ·rw [rule_neg h k (by rw [rules_len]; exact hk)] at hr; cases hr
   ·exact h
  have hmem : ((p + 1 + A.length : Nat) : Int) ∈ redL ar (rulesOf ls) t := by
   unfold redL redTo
   exact List.mem_map.2 ⟨p + 1 + A.length, List.mem_filter.2 ⟨List.mem_range.2 (by omega), decide_eq_true hpos⟩, rfl⟩
  obtain ⟨j, hj, hje⟩ := List.getElem_of_mem hmem
  have hj2 : (redL ar (rulesOf ls) t).getD j 0 = ((p + 1 + A.length : Nat) : Int) := by rw [List.getD_eq_getElem?_getD, List.getElem?_eq_getElem hj]; exact hje
  have := in_law (ar := ar) (rs := rulesOf ls) (t := t) (i := 0) (k := j) hin hj (by rw [hj2, hpi]; omega)
  rw [hj2, hpi] at this
  unfold insideB at this
  rw [posOk_iff.2 ⟨ht, by omega⟩, posOk_iff.2 ⟨ht, by omega⟩, Bool.true_and, Bool.true_and, decide_eq_false_iff_not] at this
  exact this (by rw [Int.toNat_natCast]; omega)
theorem ev_walk (hf : frontB ar fs ls = true) (ho : OneLn ar ls) : ∀ (n : Nat) (t : List Int), termOk ar t = true → Ev ar fs ls t x → (walkGo ar (rulesOf ls) 1 n t).2 = true → endL t (walkGo ar (rulesOf ls) 1 n t).1 = x := by
 have done : ∀ t : List Int, termOk ar t = true → Ev ar fs ls t x → redL ar (rulesOf ls) t = [] → t = x := fun t ht he hn => (norm_ev (termOk_iff.1 ht).whole (norm_no hn ht) he).symm
 intro n
 induction n with
 | zero =>
  intro t ht he h
  rw [walkGo] at h ⊢
  exact done t ht he (of_decide_eq_true h)
 | succ n ih =>
  intro t ht he h
  by_cases hn : redL ar (rulesOf ls) t = []
  ·rw [walkGo, if_pos hn]; exact done t ht he hn
  ·rw [walkGo, if_neg hn] at h ⊢
   cases hu : stepL ar (rulesOf ls) t (pickL ar (rulesOf ls) t 1).toNat (ruleAtL ar (rulesOf ls) t (pickL ar (rulesOf ls) t 1).toNat).toNat with
   | none => rw [hu] at h; cases h
   | some u =>
    rw [hu] at h
    show endL t (_ :: _) = x
    rw [endL_cons']
    rcases pick_spec (ar := ar) (rs := rulesOf ls) (t := t) 1 with h1 | ⟨p, hp, hl, hr, _⟩
    ·exact absurd h1.2 hn
    ·have hr0 : 0 ≤ ruleAtL ar (rulesOf ls) t p := of_decide_eq_true hr
     rw [hp, Int.toNat_natCast] at hu
     obtain ⟨k, hk1, hk2, hk3⟩ := (ruleAt_spec (ar := ar) (rs := rulesOf ls) (t := t) (p := p)).resolve_left (by omega)
     rw [hk1, Int.toNat_natCast] at hu
     rw [rules_len] at hk2
     have hou := step_okL hf ht hl hk2 hu
     refine ih u hou ?_ h
     obtain ⟨b, hb, rfl⟩ := step_split ht hl hu
     rw [rules_get hk2] at hb ⊢
     have hso := sub_ok ht hl
     have hR := line_ok hf hk2
     rw [parts ht hl] at he
     refine ev_ctx (termOk_iff.1 hso).whole (fm_term (termOk_sig ht) (matchB_ok hso hb) (ruleOk_iff.1 hR).right) (fun w kw => ?_) he
     have e := sub_cons ht hl
     have hin := in_pick ht hn hp hl
     have hh : t.getD p 0 ∈ fs := by
      have h6 := front_one hf hk2
      have h5 := matchB_head (set_mem (front_iff.1 hf).2.1 h6).1 (show matchB ar ((LN ls k).1 :: (LN ls k).2.1.flatten) (sub ar t p) = some b from hb)
      rw [sub_head ht hl] at h5
      rw [h5]; exact h6
     rw [e] at hb kw hso
     exact ev_inner ho hso hin hh hk2 hb kw
end
theorem callL_len {ar fs t : List Int} {ls : List LnT} {n : Int} : (callL ar fs ls t n).1.length ≤ 60 := by
 unfold callL
 split
 ·rename_i h
  have := termOk_len (ground_iff.1 h.2.1).1
  exact callGo_len this.2 _ _ this.2
 ·simp
section
variable {ar fs t : List Int} {ls : List LnT} {n : Int} {k : Nat}
theorem lineL_ok (hf : frontB ar fs ls = true) (hk : k < ls.length) : termOk ar (leftL (LN ls k)) = true := (ruleOk_iff.1 (line_ok hf hk)).left
theorem one_ln (hf : frontB ar fs ls = true) (hn : ∀ a b, a < b → b < ls.length → NoC ar (leftL (LN ls a)) (leftL (LN ls b))) : OneLn ar ls := by
 intro t ht i j hi hj m1 m2
 rcases Nat.lt_trichotomy i j with h | h | h
 ·exact (noC_match (lineL_ok hf hi) (lineL_ok hf hj) ht (hn i j h hj) m1 m2).elim
 ·exact h
 ·exact (noC_match (lineL_ok hf hj) (lineL_ok hf hi) ht (hn j i h hi) m2 m1).elim
theorem call_law (hf : frontB ar fs ls = true) (hn : ∀ a b, a < b → b < ls.length → NoC ar (leftL (LN ls a)) (leftL (LN ls b))) (hd : (callL ar fs ls t n).2 = 0) (hw : (normB ar (rulesOf ls) t 1 60).2 = true) : (normB ar (rulesOf ls) t 1 60).1 = (callL ar fs ls t n).1 := by
 unfold callL at hd ⊢
 split at hd
 ·rename_i h; rw [if_pos h]
  have ht : termOk ar t = true := by
   have := h.2.1
   unfold groundB at this
   rw [Bool.and_eq_true] at this; exact this.1
  have he := call_ev (x := (callGo ar fs ls n.toNat t).1) hf n.toNat t ht (Prod.ext rfl hd)
  unfold normB at hw ⊢
  split at hw
  ·rename_i h2; rw [if_pos h2]
   obtain ⟨h3, h4, h5, h6⟩ := walkB_ok h2
   rw [walkB_yes h3] at h2 ⊢
   exact ev_walk hf (one_ln hf hn) _ t ht he h2
  ·cases hw
 ·exact absurd hd (by decide)
theorem call_none (hf : frontB ar fs ls = false) : (callL ar fs ls t n).2 = -1 := by
 unfold callL
 rw [if_neg (fun h => by rw [hf] at h; cases h.1)]
theorem rules_bounds (hf : frontB ar fs ls = true) : ∀ i, i < (rulesOf ls).length → ((rulesOf ls).getD i ([], [])).1.length ≤ 4000000 ∧ ((rulesOf ls).getD i ([], [])).2.length ≤ 4000000 := fun i hi => by
 have h := ruleOk_iff.1 ((sysOk_iff.1 (front_sys hf)).2.2 i hi)
 have h1 := termOk_len h.left
 have h2 := termOk_len h.right
 omega
theorem call_len (h : t.length ≤ 2000) : (callL ar fs ls t n).1.length ≤ 4000000 := by
 have := callL_len (ar := ar) (fs := fs) (ls := ls) (t := t) (n := n)
 omega
end
end Go.Proofs.YtjpfankibmeaaaaGreat.M
namespace Go.Proofs.YtjpfankibmeaaaaGreat.X
open Go Go.WideShapes Go.ChangeShapes Go.RowKit
def fhOf (w : World) : FH := ⟨fun b => w.heap[b]?, w.os, w.output, w.tape⟩
theorem holds_fhOf (w : World) : Holds (fhOf w) [] w := ⟨rfl, rfl, rfl, fun _ _ h => h, [], rfl, List.nodup_nil, fun p hp => absurd hp (by simp)⟩
theorem cell_fhOf (w : World) (a : Addr) : (fhOf w).cell? a = w.cell? a := by
 unfold FH.cell? World.cell? fhOf
 rfl
theorem below_of_holds {w w' : World} {F' : FH} {L' : List HP} (le : fhOf w ≤ F') (h : Holds F' L' w') : Below w.heap.size w w' := by
 have key : ∀ k o, w.heap[k]? = some o → w'.heap[k]? = some o := fun k o hk => h.cells k o (le.cells k o hk)
 refine ⟨h.os.trans le.os, h.tape.trans le.tape, h.output.trans le.output, ?_, fun k hk => ?_⟩
 ·rcases Nat.eq_zero_or_pos w.heap.size with h0 | h0
  ·omega
  ·have h1 : w.heap[w.heap.size - 1]? = some (w.heap[w.heap.size - 1]'(by omega)) := Array.getElem?_eq_getElem (by omega)
   have h2 := (Array.getElem?_eq_some_iff.1 (key _ _ h1)).1
   omega
 ·have h1 : w.heap[k]? = some (w.heap[k]'hk) := Array.getElem?_eq_getElem hk
  rw [h1]
  exact key _ _ h1
def Opens (P : Program) (t : TypeId) {α : Type} (R : FH → List Value → α → Prop) (B : α → Prop) : Prop :=
 ∀ (H : Type) (enc : TypeId × Value → H) (w : World) (base : Nat) (spare : Nat → Bool) (held : Bool) (fuel : Nat) (cs : List Value) (x : DataW H × List MemPlace),
  DataW.trod enc P w base spare held fuel t cs = some x → ∃ a, R (fhOf w) cs a ∧ B a
section
variable {P : Program} {t e : TypeId}
theorem opens_slice {α : Type} {R : FH → List Value → α → Prop} {B : α → Prop} {s : Nat} (d : α) (ht : P.underlying t = some (.slice e)) (hc : P.cellsOf e = s) (ho : Opens P e R B) :
  Opens P t (fun F cs (xs : List α) => ∃ v, cs = [v] ∧ SlOf s R d F v xs) (fun xs => xs.length ≤ 9223372036854775807 ∧ ∀ i, i < xs.length → B (xs.getD i d)) := by
 intro H enc w base spare held fuel cs x h
 rcases Go.Deep.open_slice ht h with ⟨rfl, _⟩ | ⟨a, len, cap, m, n, D, Pl, rfl, hb, hl, hm, hmm, _, hx⟩
 ·exact ⟨[], ⟨_, rfl, [], ⟨by simp, none, 0, rfl, by simp, fun _ => rfl, fun a h => by cases h⟩, fun i hi => by simp at hi⟩, by simp, fun i hi => by simp at hi⟩
 ·have hlm : len ≤ m := by rw [hmm]; split <;> omega
  rw [hc] at hx
  have each : ∀ i, i < len → ∃ q : α, ∃ cs' : List Value, cs'.length = s ∧ (∀ r, r < s → w.cell? (a.add (i * s + r)) = cs'[r]?) ∧ R (fhOf w) cs' q ∧ B q := by
   intro i hi
   obtain ⟨cs', h1, h2⟩ := hx i (by omega)
   obtain ⟨_, hlen, hcell⟩ := World.cells?_some h1
   obtain ⟨q, hq, hbq⟩ := ho H enc w base spare held n cs' _ h2
   exact ⟨q, cs', hlen, fun r hr => by rw [← hcell r hr, add_add], hq, hbq⟩
  have ⟨q, hq⟩ : ∃ q : Nat → α, ∀ i, i < len → ∃ cs' : List Value, cs'.length = s ∧ (∀ r, r < s → w.cell? (a.add (i * s + r)) = cs'[r]?) ∧ R (fhOf w) cs' (q i) ∧ B (q i) := by
   haveI : Inhabited α := ⟨d⟩
   exact Go.Deep.choose_lt each
  let V : Nat → Value := fun j => (w.cell? (a.add j)).getD undef
  have hV : ∀ j, j < len * s → w.cell? (a.add j) = some (V j) := by
   intro j hj
   have hs : 0 < s := by rcases Nat.eq_zero_or_pos s with h0 | h0; subst h0; simp at hj; exact h0
   have hdiv : j / s < len := (Nat.div_lt_iff_lt_mul hs).2 hj
   obtain ⟨cs', hl', hcell, _⟩ := hq (j / s) hdiv
   have hr := hcell (j % s) (Nat.mod_lt _ hs)
   have e1 : j / s * s + j % s = j := by rw [Nat.mul_comm]; exact Nat.div_add_mod j s
   rw [e1] at hr
   have hlt : j % s < cs'.length := by rw [hl']; exact Nat.mod_lt _ hs
   rw [List.getElem?_eq_getElem hlt] at hr
   show w.cell? (a.add j) = some ((w.cell? (a.add j)).getD undef)
   rw [hr]; rfl
  have hxl : ((List.range len).map q).length = len := by simp
  have hgd : ∀ i, i < len → ((List.range len).map q).getD i d = q i := fun i hi => by simp [List.getD, hi]
  refine ⟨(List.range len).map q, ⟨_, rfl, (List.range (len * s)).map V, ⟨by simp, some a, cap, by rw [hxl], by omega, (fun h => by cases h), ?_⟩, ?_⟩, by rw [hxl]; unfold maxLen at hm; omega, fun i hi => ?_⟩
  ·intro a' ha i u hu
   obtain rfl := Option.some.inj ha
   have hi : i < len * s := by have := (List.getElem?_eq_some_iff.1 hu).1; simpa using this
   rw [cell_fhOf, hV i hi]
   rw [List.getElem?_map, List.getElem?_range hi] at hu
   exact hu
  ·intro i hi
   rw [hxl] at hi
   obtain ⟨cs', hl', hcell, hR, _⟩ := hq i hi
   refine ⟨cs', hl', ?_, by rw [hgd i hi]; exact hR⟩
   have hle : i * s + s ≤ len * s := by
    have : (i + 1) * s ≤ len * s := Nat.mul_le_mul_right s hi
    rwa [Nat.succ_mul] at this
   apply List.ext_getElem?
   intro r
   rcases Nat.lt_or_ge r s with hr | hr
   ·rw [List.getElem?_take, if_pos hr, List.getElem?_drop, List.getElem?_map, List.getElem?_range (by omega), ← hcell r hr, hV _ (by omega)]; rfl
   ·rw [List.getElem?_eq_none (by simp; omega), List.getElem?_eq_none (by omega)]
  ·rw [hxl] at hi
   obtain ⟨_, _, _, _, hB⟩ := hq i hi
   rw [hgd i hi]
   exact hB
theorem Opens.mono {α : Type} {R R' : FH → List Value → α → Prop} {B B' : α → Prop} (h : Opens P t R B) (hR : ∀ F cs a, R F cs a → R' F cs a) (hB : ∀ a, B a → B' a) : Opens P t R' B' := fun H enc w base spare held fuel cs x hx =>
 let ⟨a, h1, h2⟩ := h H enc w base spare held fuel cs x hx
 ⟨a, hR _ _ _ h1, hB _ h2⟩
theorem Opens.slv {α : Type} {R : FH → List Value → α → Prop} {B : α → Prop} (h : Opens P t R B) (ht : P.underlying t = some (.slice e)) {H : Type} {enc : TypeId × Value → H} {w : World} {r : Reach} {base b0 : Nat} {spare : Nat → Bool} {held : Bool} {v : Value} {d : DataW H} {ps : List MemPlace}
  (hv : Value.okWide P w r b0 t v) (ht' : DataW.Trod enc P w base spare held t v d ps) : ∃ a, R (fhOf w) [v] a ∧ B a := by
 obtain ⟨a, l, c, rfl⟩ := okWide_slice ht hv
 obtain ⟨n, hn⟩ := ht'
 exact h H enc w base spare held n _ _ hn
theorem trodAll_below {H : Type} {enc : TypeId × Value → H} (hl : laidOutB P = true) {W W' : World} (hb : Below W.heap.size W W') {sp : Nat → Bool} :
  ∀ {ts : List TypeId} {vs : List Value} {ds : List (DataW H)} {ps : List MemPlace}, (ts.all fun t => P.readableRec t && decide (t < P.types.size)) = true → DataW.TrodAll enc P W 0 (fun _ => true) true ts vs ds ps →
   (∀ x ∈ ps, x.block < W.heap.size) → (∀ p ∈ ps, sp p.block = true) → DataW.TrodAll enc P W' 0 sp true ts vs ds ps
 | [], [], [], _, _, h, _, _ => h
 | [], _ :: _, _, _, _, h, _, _ => by cases h
 | [], [], _ :: _, _, _, h, _, _ => by cases h
 | _ :: _, [], _, _, _, h, _, _ => by cases h
 | _ :: _, _ :: _, [], _, _, h, _, _ => by cases h
 | t :: ts, v :: vs, d :: ds, ps, hr, h, hlt, hsp => by
  obtain ⟨p, q, h1, h2, rfl⟩ := h
  simp only [List.all_cons, Bool.and_eq_true, decide_eq_true_eq] at hr
  exact ⟨p, q, Go.WideElems.Trod_stays hl hr.1.1 hr.1.2 h1 (fun x hx => hb.same (hlt x (List.mem_append_left _ hx))) (fun x hx => hsp x (List.mem_append_left _ hx)),
   trodAll_below hl hb hr.2 h2 (fun x hx => hlt x (List.mem_append_right _ hx)) (fun x hx => hsp x (List.mem_append_right _ hx)), rfl⟩
theorem post_of_law {H : Type} {enc : TypeId × Value → H} {f : Func} {s : ChangeSpec} {apart fresh handsOn : Bool} {W W' : World} {args : Array Value} {ds gs : List (DataW H)} {before : List MemPlace} {tb : TypeId}
  (hs : s.vars = []) (hfn : s.fn H (ds ++ gs) = { results := [.lit (.bool true)], args := ds }) (hl : laidOutB P = true) (hr : (f.params.toList.all fun t => P.readableRec t && decide (t < P.types.size)) = true)
  (hres : f.resultTypes = #[tb]) (htb : P.underlying tb = some .bool) (hW : DataW.Whole enc P f.params.toList s.vars apart W args.toList ds gs before) (hb : Below W.heap.size W W') : s.post enc P f apart fresh handsOn false W args (.bool true) W' := by
 have hlt := hW.lt
 have hW' := hW
 obtain ⟨p, q, hA, hV, rfl, _, _⟩ := hW
 rw [hs] at hV
 obtain ⟨rfl, rfl⟩ := trodVars_none hV
 refine ⟨ds, [], p ++ [], [], p, [], hW', ?_, ?_, ?_, ?_, fun h => by cases h⟩
 ·rw [hfn, hres]
  exact trodAll_cons_mk (shut_bool htb _) trodAll_mk0
 ·rw [hfn]
  exact trodAll_below hl hb hr hA (fun x hx => hlt x (by simpa using hx)) (fun x hx => by simpa using hlt x (by simpa using hx))
 ·rw [hfn, hs]; rfl
 ·exact World.keptBut_mono (fun x hx => ⟨hx, .inr (.inl (by simpa using hx))⟩) (hb.frame (· ∈ p ++ []))
theorem Does.atTop {f : FuncId} {args : List Value} {W : World} (h : Does P f args (fhOf W) [] fun v _ _ => v = .bool true) : Calls P f args.toArray W fun e W' => e = .returned (.bool true) ∧ Below W.heap.size W W' :=
 (h W (holds_fhOf W)).mono fun _ _ ⟨_, _, _, he, le, H, hv⟩ => ⟨by rw [he, hv], below_of_holds le H⟩
end
section
variable {P : Program} {t e : TypeId}
end
open Go Go.ChangeShapes Go.WideShapes Go.ChangeAt
section
variable {P : Program} {t e : TypeId}
theorem opens_byte (ht : P.underlying e = some (.int .u8)) : Opens P e ByteE (fun _ => True) := by
 intro H enc w base spare held fuel cs x h
 obtain ⟨n, rfl, _, hw⟩ := DataW.trod_int ht h
 refine ⟨n, ⟨rfl, ?_⟩, trivial⟩
 simp [Lit.wf, IntKind.min, IntKind.max, IntKind.signed, IntKind.bits] at hw
 omega
theorem opens_bytes (ht : P.underlying t = some (.slice e)) (he : P.underlying e = some (.int .u8)) (hc : P.cellsOf e = 1) :
  Opens P t (fun F cs (xs : List Int) => ∃ v, cs = [v] ∧ BytesF F v xs) (fun xs => xs.length ≤ 9223372036854775807) :=
 (opens_slice 0 ht hc (opens_byte he)).mono (fun _ _ _ h => h) (fun _ h => h.1)
end
end Go.Proofs.YtjpfankibmeaaaaGreat.X
