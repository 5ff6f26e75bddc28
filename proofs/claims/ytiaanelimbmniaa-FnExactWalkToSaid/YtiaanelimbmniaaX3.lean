/-
  One rule for each kind of operation. What a rule asks of the program's types are the closed facts that the loaded program gives ('runUnderlying', 'sizeOf', 'isAgg', 'zeroValue').
-/
import Derived.Test.YtiaanelimbmniaaX2
import Derived.IntWalk
set_option linter.unusedSimpArgs false
set_option linter.unusedVariables false
namespace Go.Proofs.Ytiaanelimbmniaa.X
open Go

abbrev ptr (b o : Nat) : Value := .pointer (some ⟨b, o, none⟩)
abbrev i64 (n : Int) : Value := .int .i64 n

/-- The address of cell k of a slice. -/
def elemA (v : Value) (k : Nat) : Addr := match v with | .slice (some a) _ _ => a.add k | _ => ⟨0, k, none⟩
theorem elemA_add (v : Value) (k j : Nat) : (elemA v k).add j = elemA v (k + j) := by
  unfold elemA
  split
  · exact add_add _ _ _
  · exact add_lit _ _ _

/-- In every world of (F, L) the cell at a holds v. -/
def Rd (F : FH) (L : List HP) (a : Addr) (v : Value) : Prop := ∀ w, Holds F L w → w.cell? a = some v
/-- In every world of (F, L) v is a slice of length n. -/
def SlV (F : FH) (L : List HP) (v : Value) (n : Nat) : Prop := ∀ w, Holds F L w → ∃ base cap, v = .slice base n cap ∧ n ≤ cap ∧ (base = none → cap = 0)

theorem Holds.getCells {F : FH} {A B : List HP} {b : Nat} {cs : List Value} {E : TypeId} {w : World} (h : Holds F (A ++ cellsH b cs E :: B) w) : w.heap[b]? = some (.cells cs.toArray E (0, 0)) :=
  Holds.get (o := .cells cs.toArray E (0, 0)) h

theorem cell_of_heap {w : World} {b i : Nat} {c : Array Value} {E : TypeId} {fz : Nat × Nat} {u : Value} (h : w.heap[b]? = some (.cells c E fz)) (hu : c[i]? = some u) : w.cell? ⟨b, i, none⟩ = some u := by
  simp [World.cell?, h, hu]

theorem Rd.own {F : FH} {L : List HP} {b o : Nat} {v : Value} (A : List HP) {B : List HP} {cs : List Value} {E : TypeId} (hL : L = A ++ cellsH b cs E :: B) (hv : cs[o]? = some v) : Rd F L ⟨b, o, none⟩ v := by
  subst hL
  intro w H
  exact cell_of_heap H.getCells (by simpa using hv)
theorem Rd.fz {F : FH} {L : List HP} {a : Addr} {v : Value} (h : F.cell? a = some v) : Rd F L a v := fun _ H => H.cell h
theorem Rd.arr {F : FH} {L : List HP} {s n k : Nat} {v u : Value} {cs : List Value} (h : ArrF F s v n cs) (hk : cs[k]? = some u) : Rd F L (elemA v k) u := by
  intro w H
  obtain ⟨hl, base, cap, rfl, hc, hn, hx⟩ := h
  cases base with
  | none =>
    have h0 := hn rfl
    have : n = 0 := by omega
    subst this
    have : cs = [] := List.eq_nil_of_length_eq_zero (by simpa using hl)
    subst this
    simp at hk
  | some a => exact H.cell (hx a rfl k u hk)

/-- An owned slice, in a world. -/
theorem Holds.getSl {F : FH} {A B : List HP} {E s : Nat} {v : Value} {n : Nat} {cs : List Value} {w : World} (h : Holds F (A ++ slH E s v n cs :: B) w) :
    cs.length = n * s ∧ ((∃ base, v = .slice base 0 0 ∧ n = 0 ∧ Holds F (A ++ B) w) ∨
      ∃ b cap spare, v = .slice (some ⟨b, 0, none⟩) n cap ∧ n ≤ cap ∧ spare.length = (cap - n) * s ∧ Holds F (A ++ cellsH b (cs ++ spare) E :: B) w) := by
  obtain ⟨h1, h2, h3, h4, l, hl, nd, hp⟩ := h
  obtain ⟨a, m, c, ha, ⟨hlen, hm⟩, hc, rfl⟩ := star_mid.1 hl
  refine ⟨hlen, ?_⟩
  rcases hm with ⟨base, hv, rfl, rfl⟩ | ⟨b, cap, spare, rfl, hcap, hs, rfl⟩
  · exact .inl ⟨base, hv, rfl, h1, h2, h3, h4, a ++ c, star_append.2 ⟨a, c, ha, hc, rfl⟩, by simpa using nd, by simpa using hp⟩
  · exact .inr ⟨b, cap, spare, rfl, hcap, hs, h1, h2, h3, h4, _, star_mid.2 ⟨a, _, c, ha, rfl, hc, rfl⟩, nd, hp⟩

/-- The other way round: what the rules for own slices give back. -/
theorem Sub.mkSl {A B : List HP} {E s : Nat} {n b cap : Nat} {cs spare : List Value} (hlen : cs.length = n * s) (hc : n ≤ cap) (hs : spare.length = (cap - n) * s) :
    Sub (A ++ cellsH b (cs ++ spare) E :: B) (A ++ slH E s (.slice (some ⟨b, 0, none⟩) n cap) n cs :: B) :=
  Sub.mid fun l hl => ⟨hlen, .inr ⟨b, cap, spare, rfl, hc, hs, hl⟩⟩
theorem Sub.mkNil {A B : List HP} (E s : Nat) (base : Option Addr) : Sub (A ++ B) (A ++ slH E s (.slice base 0 0) 0 [] :: B) :=
  Sub.append (Sub.refl A) (Sub.addNil E s base B)

theorem SlV.arr {F : FH} {L : List HP} {s n : Nat} {v : Value} {cs : List Value} (h : ArrF F s v n cs) : SlV F L v n := by
  intro w _
  obtain ⟨_, base, cap, hv, hc, hn, _⟩ := h
  exact ⟨base, cap, hv, hc, hn⟩
theorem SlV.own {F : FH} {L : List HP} {E s n : Nat} {v : Value} {cs : List Value} (A : List HP) {B : List HP} (hL : L = A ++ slH E s v n cs :: B) : SlV F L v n := by
  subst hL
  intro w H
  rcases H.getSl with ⟨_, ⟨base, rfl, rfl, _⟩ | ⟨b, cap, spare, rfl, hc, _, _⟩⟩
  · exact ⟨base, 0, rfl, Nat.le_refl _, fun _ => rfl⟩
  · exact ⟨_, cap, rfl, hc, by simp⟩
theorem Rd.sl {F : FH} {L : List HP} {E s n k : Nat} {v u : Value} {cs : List Value} (A : List HP) {B : List HP} (hL : L = A ++ slH E s v n cs :: B) (hk : cs[k]? = some u) : Rd F L (elemA v k) u := by
  subst hL
  intro w H
  rcases H.getSl with ⟨hlen, ⟨base, rfl, rfl, _⟩ | ⟨b, cap, spare, rfl, hc, _, H'⟩⟩
  · have : cs = [] := List.eq_nil_of_length_eq_zero (by simpa using hlen)
    subst this
    simp at hk
  · simp only [elemA, add_lit, Nat.zero_add]
    exact cell_of_heap H'.getCells (by
      rw [List.getElem?_toArray, List.getElem?_append_left (List.getElem?_eq_some_iff.1 hk).1]; exact hk)

/-- v is a slice. -/
def IsSl (v : Value) : Prop := ∃ b n c, v = .slice b n c
theorem IsSl.of_slv {F : FH} {L : List HP} {v : Value} {n : Nat} {w : World} (h : SlV F L v n) (H : Holds F L w) : IsSl v := by
  obtain ⟨b, c, hv, _, _⟩ := h w H; exact ⟨b, n, c, hv⟩
theorem isSl_lit {v : Value} {n c : Nat} (h : ∃ b, v = .slice (some ⟨b, 0, none⟩) n c) : IsSl v := by
  obtain ⟨b, rfl⟩ := h; exact ⟨_, _, _, rfl⟩
theorem cells_one {v : Value} (h : IsSl v) : v.cells = [v].toArray := by obtain ⟨b, n, c, rfl⟩ := h; rfl
theorem one_sl {v : Value} (h : IsSl v) : v.oneCell' = true := by obtain ⟨b, n, c, rfl⟩ := h; rfl
theorem SlV.nil {F : FH} {L : List HP} : SlV F L (.slice none 0 0) 0 := fun _ _ => ⟨none, 0, rfl, Nat.le_refl _, fun _ => rfl⟩
theorem ones_nil : ∀ v ∈ ([] : List Value), v.oneCell' = true := by simp
theorem ones_cons {v : Value} {l : List Value} (h : v.oneCell' = true) (k : ∀ v ∈ l, v.oneCell' = true) : ∀ u ∈ v :: l, u.oneCell' = true := by
  intro u hu
  rcases List.mem_cons.1 hu with rfl | hu
  · exact h
  · exact k u hu
def isNil : Value → Bool
  | .slice none _ _ => true
  | _ => false

section
variable {P : Program} {ρ : Env} {F : FH} {L : List HP} {K : Post} {d : Option Tmp} {ty : TypeId} {pos : String} {af : Array Edge} {g : Option (Nat × Bool)}

/- 1. VALUES -/

theorem XOp.move {x : Operand} (v : Value) (hx : evO ρ x = v) (k : K v F L) : XOp P ⟨d, .move x, ty, pos, af, g⟩ ρ F L K :=
  XOp.value (fun w _ => by simp [execOp, hx]) k
theorem XOp.assign {x : Operand} (v : Value) (hx : evO ρ x = v) (k : K v F L) : XOp P ⟨d, .assign x, ty, pos, af, g⟩ ρ F L K :=
  XOp.value (fun w _ => by simp [execOp, hx]) k
theorem XOp.pickT {c a b : Operand} (v : Value) (hc : evO ρ c = .bool true) (hv : evO ρ a = v) (k : K v F L) : XOp P ⟨d, .pick c a b, ty, pos, af, g⟩ ρ F L K :=
  XOp.value (fun w _ => by simp [execOp, hc, hv, asBool]) k
theorem XOp.pickF {c a b : Operand} (v : Value) (hc : evO ρ c = .bool false) (hv : evO ρ b = v) (k : K v F L) : XOp P ⟨d, .pick c a b, ty, pos, af, g⟩ ρ F L K :=
  XOp.value (fun w _ => by simp [execOp, hc, hv, asBool]) k

/- 2. INTEGERS -/

theorem XOp.arith {op : BinOp} {x y : Operand} {t u : TypeId} {k : IntKind} {a b : Int} (r : Int) (hop : op = .add ∨ op = .sub ∨ op = .mul)
    (hx : evO ρ x = .int k a) (hy : evO ρ y = .int k b) (hr : k.wrap (match op with | .add => a + b | .sub => a - b | _ => a * b) = r) (kk : K (.int k r) F L) :
    XOp P ⟨d, .binOp op t x y u, ty, pos, af, g⟩ ρ F L K :=
  XOp.value (fun w _ => by rcases hop with rfl | rfl | rfl <;> simp at hr <;> simp [execOp, hx, hy, eqGuard, binOp, Op.intArith, hr]) kk
theorem XOp.add {x y : Operand} {t u : TypeId} {a b : Int} (hx : evO ρ x = .int .i64 a) (hy : evO ρ y = .int .i64 b)
    (hr : -9223372036854775808 ≤ a + b ∧ a + b ≤ 9223372036854775807) (kk : K (.int .i64 (a + b)) F L) : XOp P ⟨d, .binOp .add t x y u, ty, pos, af, g⟩ ρ F L K :=
  XOp.arith _ (.inl rfl) hx hy (IntWalk.i64_in _ hr) kk
theorem XOp.sub {x y : Operand} {t u : TypeId} {a b : Int} (hx : evO ρ x = .int .i64 a) (hy : evO ρ y = .int .i64 b)
    (hr : -9223372036854775808 ≤ a - b ∧ a - b ≤ 9223372036854775807) (kk : K (.int .i64 (a - b)) F L) : XOp P ⟨d, .binOp .sub t x y u, ty, pos, af, g⟩ ρ F L K :=
  XOp.arith _ (.inr (.inl rfl)) hx hy (IntWalk.i64_in _ hr) kk
theorem XOp.mul {x y : Operand} {t u : TypeId} {a b : Int} (hx : evO ρ x = .int .i64 a) (hy : evO ρ y = .int .i64 b)
    (hr : -9223372036854775808 ≤ a * b ∧ a * b ≤ 9223372036854775807) (kk : K (.int .i64 (a * b)) F L) : XOp P ⟨d, .binOp .mul t x y u, ty, pos, af, g⟩ ρ F L K :=
  XOp.arith _ (.inr (.inr rfl)) hx hy (IntWalk.i64_in _ hr) kk

theorem XOp.addR {x y : Operand} {t u : TypeId} {a b : Int} (r : Int) (hx : evO ρ x = .int .i64 a) (hy : evO ρ y = .int .i64 b) (hr : a + b = r)
    (hb : -9223372036854775808 ≤ r ∧ r ≤ 9223372036854775807) (kk : K (.int .i64 r) F L) : XOp P ⟨d, .binOp .add t x y u, ty, pos, af, g⟩ ρ F L K := by
  subst hr; exact XOp.add hx hy hb kk
theorem XOp.subR {x y : Operand} {t u : TypeId} {a b : Int} (r : Int) (hx : evO ρ x = .int .i64 a) (hy : evO ρ y = .int .i64 b) (hr : a - b = r)
    (hb : -9223372036854775808 ≤ r ∧ r ≤ 9223372036854775807) (kk : K (.int .i64 r) F L) : XOp P ⟨d, .binOp .sub t x y u, ty, pos, af, g⟩ ρ F L K := by
  subst hr; exact XOp.sub hx hy hb kk
theorem XOp.mulR {x y : Operand} {t u : TypeId} {a b : Int} (r : Int) (hx : evO ρ x = .int .i64 a) (hy : evO ρ y = .int .i64 b) (hr : a * b = r)
    (hb : -9223372036854775808 ≤ r ∧ r ≤ 9223372036854775807) (kk : K (.int .i64 r) F L) : XOp P ⟨d, .binOp .mul t x y u, ty, pos, af, g⟩ ρ F L K := by
  subst hr; exact XOp.mul hx hy hb kk

theorem XOp.lss {x y : Operand} {t u : TypeId} {k : IntKind} {a b : Int} (hx : evO ρ x = .int k a) (hy : evO ρ y = .int k b) (kk : K (.bool (decide (a < b))) F L) : XOp P ⟨d, .binOp .lss t x y u, ty, pos, af, g⟩ ρ F L K :=
  XOp.value (fun w _ => by simp [execOp, hx, hy, eqGuard, binOp, Op.intCmp]) kk
theorem XOp.leq {x y : Operand} {t u : TypeId} {k : IntKind} {a b : Int} (hx : evO ρ x = .int k a) (hy : evO ρ y = .int k b) (kk : K (.bool (decide (a ≤ b))) F L) : XOp P ⟨d, .binOp .leq t x y u, ty, pos, af, g⟩ ρ F L K :=
  XOp.value (fun w _ => by simp [execOp, hx, hy, eqGuard, binOp, Op.intCmp]) kk
theorem XOp.gtr {x y : Operand} {t u : TypeId} {k : IntKind} {a b : Int} (hx : evO ρ x = .int k a) (hy : evO ρ y = .int k b) (kk : K (.bool (decide (a > b))) F L) : XOp P ⟨d, .binOp .gtr t x y u, ty, pos, af, g⟩ ρ F L K :=
  XOp.value (fun w _ => by simp [execOp, hx, hy, eqGuard, binOp, Op.intCmp]) kk
theorem XOp.geq {x y : Operand} {t u : TypeId} {k : IntKind} {a b : Int} (hx : evO ρ x = .int k a) (hy : evO ρ y = .int k b) (kk : K (.bool (decide (a ≥ b))) F L) : XOp P ⟨d, .binOp .geq t x y u, ty, pos, af, g⟩ ρ F L K :=
  XOp.value (fun w _ => by simp [execOp, hx, hy, eqGuard, binOp, Op.intCmp]) kk
theorem XOp.eql {x y : Operand} {t u : TypeId} {k : IntKind} {a b : Int} (hx : evO ρ x = .int k a) (hy : evO ρ y = .int k b) (kk : K (.bool (decide (a = b))) F L) : XOp P ⟨d, .binOp .eql t x y u, ty, pos, af, g⟩ ρ F L K :=
  XOp.value (fun w _ => by simp [execOp, hx, hy, eqGuard, binOp, Op.intCmp]; rfl) kk
theorem XOp.neq {x y : Operand} {t u : TypeId} {k : IntKind} {a b : Int} (hx : evO ρ x = .int k a) (hy : evO ρ y = .int k b) (kk : K (.bool (decide (a ≠ b))) F L) : XOp P ⟨d, .binOp .neq t x y u, ty, pos, af, g⟩ ρ F L K :=
  XOp.value (fun w _ => by
    have : (a != b) = decide (a ≠ b) := by by_cases h : a = b <;> simp [h]
    simp [execOp, hx, hy, eqGuard, binOp, Op.intCmp, this]) kk

theorem XOp.notB {x : Operand} {t : TypeId} {b : Bool} (hx : evO ρ x = .bool b) (kk : K (.bool (!b)) F L) : XOp P ⟨d, .unOp .not t x, ty, pos, af, g⟩ ρ F L K :=
  XOp.value (fun w _ => by simp [execOp, hx, Op.unary]) kk
theorem XOp.notD {x : Operand} {t : TypeId} {p : Prop} [Decidable p] (hx : evO ρ x = .bool (decide p)) (kk : K (.bool (decide (¬p))) F L) : XOp P ⟨d, .unOp .not t x, ty, pos, af, g⟩ ρ F L K :=
  XOp.value (fun w _ => by by_cases h : p <;> simp [execOp, hx, Op.unary, h]) kk
theorem XOp.neg {x : Operand} {t : TypeId} {a : Int} (hx : evO ρ x = .int .i64 a) (hr : -9223372036854775808 ≤ -a ∧ -a ≤ 9223372036854775807) (kk : K (.int .i64 (-a)) F L) : XOp P ⟨d, .unOp .neg t x, ty, pos, af, g⟩ ρ F L K :=
  XOp.value (fun w _ => by
    have := IntWalk.i64_in (-a) hr
    simp [execOp, hx, Op.unary, Op.intArith, Int.zero_sub, this]) kk
theorem XOp.convI {x : Operand} {s t : TypeId} {k k' : IntKind} {a : Int} {ds : TypeDesc} (r : Int) (hs : ∀ w, (underlying s).run P w = .ok ds w) (ht : ∀ w, (underlying t).run P w = .ok (.int k) w)
    (hx : evO ρ x = .int k' a) (hr : k.wrap a = r) (kk : K (.int k r) F L) : XOp P ⟨d, .convert s t x, ty, pos, af, g⟩ ρ F L K :=
  XOp.value (fun w _ => by
    have e : (convert s t (.int k' a)).run P w = .ok (.int k r) w := by
      unfold convert
      simp only [Sem.run_bind, hs, ht, Result.andThen_ok]
      cases ds <;> simp [Conv.intToInt, hr]
    simp [execOp, hx, e]) kk

/- 3. MEMORY: READING -/

theorem XOp.load1 {x : Operand} {t : TypeId} {a : Addr} {v : Value} (hA : ∀ w, (isAgg t).run P w = .ok false w) (hx : evO ρ x = .pointer (some a)) (hr : Rd F L a v) (k : K v F L) :
    XOp P ⟨d, .load t x, ty, pos, af, g⟩ ρ F L K :=
  XOp.value (fun w H => by simp [execOp, hx, Instr.loadAt, Instr.sureAddr, loadVar, hA, run_load, hr w H]) k

theorem XOp.loadN {x : Operand} {t : TypeId} {s : Nat} {a : Addr} (vs : List Value) (hA : ∀ w, (isAgg t).run P w = .ok true w) (hs : ∀ w, (sizeOf t).run P w = .ok s w) (hl : vs.length = s)
    (hx : evO ρ x = .pointer (some a)) (hr : ∀ i u, vs[i]? = some u → Rd F L (a.add i) u) (k : K (.agg vs.toArray) F L) :
    XOp P ⟨d, .load t x, ty, pos, af, g⟩ ρ F L K :=
  XOp.value (fun w H => by
    have := run_loadCells_list (P := P) w a vs (fun j u hu => hr j u hu w H)
    rw [hl] at this
    simp [execOp, hx, Instr.loadAt, Instr.sureAddr, loadVar, hA, hs, this]) k

theorem Rd.ownN {F : FH} {L : List HP} {b o : Nat} (A : List HP) {B : List HP} {cs vs : List Value} {E : TypeId} (hL : L = A ++ cellsH b cs E :: B) (hv : (cs.drop o).take vs.length = vs) :
    ∀ i u, vs[i]? = some u → Rd F L ((⟨b, o, none⟩ : Addr).add i) u := by
  intro i u hu
  rw [add_lit]
  refine Rd.own A hL ?_
  rw [← hv, List.getElem?_take] at hu
  split at hu
  · simpa [List.getElem?_drop] using hu
  · cases hu
theorem Rd.arrN {F : FH} {L : List HP} {s n k : Nat} {v : Value} {cs vs : List Value} (h : ArrF F s v n cs) (hv : (cs.drop k).take vs.length = vs) :
    ∀ i u, vs[i]? = some u → Rd F L ((elemA v k).add i) u := by
  intro i u hu
  rw [elemA_add]
  refine Rd.arr h ?_
  rw [← hv, List.getElem?_take] at hu
  split at hu
  · simpa [List.getElem?_drop] using hu
  · cases hu
theorem Rd.slN {F : FH} {L : List HP} {E s n k : Nat} {v : Value} {cs vs : List Value} (A : List HP) {B : List HP} (hL : L = A ++ slH E s v n cs :: B) (hv : (cs.drop k).take vs.length = vs) :
    ∀ i u, vs[i]? = some u → Rd F L ((elemA v k).add i) u := by
  intro i u hu
  rw [elemA_add]
  refine Rd.sl A hL ?_
  rw [← hv, List.getElem?_take] at hu
  split at hu
  · simpa [List.getElem?_drop] using hu
  · cases hu

theorem load1V {t : TypeId} {a : Addr} {v : Value} (hA : ∀ w, (isAgg t).run P w = .ok false w) (hr : Rd F L a v) : ∀ w, Holds F L w → (loadVar t a).run P w = .ok v w :=
  fun w H => by simp [loadVar, hA, run_load, hr w H]
theorem loadNV {t : TypeId} {s : Nat} {a : Addr} (vs : List Value) (hA : ∀ w, (isAgg t).run P w = .ok true w) (hs : ∀ w, (sizeOf t).run P w = .ok s w) (hl : vs.length = s) (hr : ∀ i u, vs[i]? = some u → Rd F L (a.add i) u) :
    ∀ w, Holds F L w → (loadVar t a).run P w = .ok (.agg vs.toArray) w :=
  fun w H => by
    have := run_loadCells_list (P := P) w a vs (fun j u hu => hr j u hu w H)
    rw [hl] at this
    simp [loadVar, hA, hs, this]

theorem XOp.lenS {x : Operand} {t e : TypeId} {v : Value} {n : Nat} (hu : ∀ w, (underlying t).run P w = .ok (.slice e) w) (hx : evO ρ x = v) (hv : SlV F L v n) (k : K (.int .i64 n) F L) :
    XOp P ⟨d, .call { callee := .builtin .len, args := #[x], argTypes := #[t] }, ty, pos, af, g⟩ ρ F L K :=
  XOp.value (fun w H => by
    obtain ⟨base, cap, rfl, _, _⟩ := hv w H
    simp [execOp, resolve, invoke, builtin, hx, Builtin.len_, hu, goInt]) k

theorem XOp.indexS {x ix : Operand} {t e : TypeId} {s n m : Nat} {v : Value} {i : Int} {kk : IntKind} (j : Nat) (hu : ∀ w, (underlying t).run P w = .ok (.slice e) w) (hs : ∀ w, (sizeOf e).run P w = .ok s w)
    (hx : evO ρ x = v) (hi : evO ρ ix = .int kk i) (hj : i = (j : Int)) (hv : SlV F L v n) (h1 : j < n) (hm : j * s = m) (k : K (.pointer (some (elemA v m))) F L) :
    XOp P ⟨d, .indexAddr t x ix, ty, pos, af, g⟩ ρ F L K :=
  XOp.value (fun w H => by
    obtain ⟨base, cap, rfl, hc, hn⟩ := hv w H
    subst hj hm
    cases base with
    | none => have := hn rfl; omega
    | some a => simp [execOp, hx, hi, Instr.indexAt, asIntOf, hu, hs, h1, elemA]) k

theorem XOp.indexA {x ix : Operand} {t e : TypeId} {s len b o : Nat} {i : Int} {kk : IntKind} (j o' : Nat) (hu : ∀ w, (underlying t).run P w = .ok (.array len e) w) (hs : ∀ w, (sizeOf e).run P w = .ok s w)
    (hx : evO ρ x = ptr b o) (hi : evO ρ ix = .int kk i) (hj : i = (j : Int)) (h1 : j < len) (ho : o + j * s = o') (k : K (ptr b o') F L) :
    XOp P ⟨d, .indexAddr t x ix, ty, pos, af, g⟩ ρ F L K :=
  XOp.value (fun w H => by
    subst ho hj
    simp [execOp, hx, hi, Instr.indexAt, asIntOf, hu, hs, h1, Instr.sureAddr, add_lit]) k

theorem XOp.fieldAddr {x : Operand} {t : TypeId} {f sz : Nat} {fs : Array Field} {fl : Field} {a : Addr} (hu : ∀ w, (underlying t).run P w = .ok (.struct fs) w) (hf : fs[f]? = some fl)
    (hs : ∀ w, (sizeOf fl.type).run P w = .ok sz w) (hz : sz ≠ 0) (hx : evO ρ x = .pointer (some a)) (k : K (.pointer (some (a.add fl.offset))) F L) :
    XOp P ⟨d, .fieldAddr t x f, ty, pos, af, g⟩ ρ F L K :=
  XOp.value (fun w H => by simp [execOp, hx, Instr.fieldAt, hu, hf, Instr.sureAddr, fieldPlace, hs, hz]) k
theorem XOp.fieldP {x : Operand} {t : TypeId} {f sz : Nat} {fs : Array Field} {fl : Field} {b o : Nat} (o' : Nat) (hu : ∀ w, (underlying t).run P w = .ok (.struct fs) w) (hf : fs[f]? = some fl)
    (hs : ∀ w, (sizeOf fl.type).run P w = .ok sz w) (hz : sz ≠ 0) (hx : evO ρ x = ptr b o) (ho : o + fl.offset = o') (k : K (ptr b o') F L) :
    XOp P ⟨d, .fieldAddr t x f, ty, pos, af, g⟩ ρ F L K := by
  subst ho
  refine XOp.fieldAddr hu hf hs hz hx ?_
  rw [add_lit]; exact k
theorem XOp.fieldE {x : Operand} {t : TypeId} {f sz : Nat} {fs : Array Field} {fl : Field} {v : Value} {i : Nat} (i' : Nat) (hu : ∀ w, (underlying t).run P w = .ok (.struct fs) w) (hf : fs[f]? = some fl)
    (hs : ∀ w, (sizeOf fl.type).run P w = .ok sz w) (hz : sz ≠ 0) (hx : evO ρ x = .pointer (some (elemA v i))) (ho : i + fl.offset = i') (k : K (.pointer (some (elemA v i'))) F L) :
    XOp P ⟨d, .fieldAddr t x f, ty, pos, af, g⟩ ρ F L K := by
  subst ho
  refine XOp.fieldAddr hu hf hs hz hx ?_
  rw [elemA_add]; exact k

theorem XOp.nilCheck {x : Operand} {a : Addr} (hx : evO ρ x = .pointer (some a)) (k : K (.pointer (some a)) F L) : XOp P ⟨d, .nilCheck x, ty, pos, af, g⟩ ρ F L K :=
  XOp.value (fun w H => by simp [execOp, hx]) k

theorem XOp.field1 {x : Operand} {t : TypeId} {f : Nat} {fs : Array Field} {fl : Field} {cs : List Value} (v : Value) (hu : ∀ w, (underlying t).run P w = .ok (.struct fs) w) (hf : fs[f]? = some fl)
    (hA : ∀ w, (isAgg fl.type).run P w = .ok false w) (hx : evO ρ x = .agg cs.toArray) (hv : cs[fl.offset]? = some v) (k : K v F L) : XOp P ⟨d, .field t x f, ty, pos, af, g⟩ ρ F L K :=
  XOp.value (fun w H => by simp [execOp, hx, Instr.field, hu, hf, asAgg, part, hA, hv]) k
theorem XOp.fieldN {x : Operand} {t : TypeId} {f s : Nat} {fs : Array Field} {fl : Field} {cs : List Value} (vs : List Value) (hu : ∀ w, (underlying t).run P w = .ok (.struct fs) w) (hf : fs[f]? = some fl)
    (hA : ∀ w, (isAgg fl.type).run P w = .ok true w) (hs : ∀ w, (sizeOf fl.type).run P w = .ok s w) (hx : evO ρ x = .agg cs.toArray) (hv : (cs.drop fl.offset).take s = vs) (k : K (.agg vs.toArray) F L) :
    XOp P ⟨d, .field t x f, ty, pos, af, g⟩ ρ F L K :=
  XOp.value (fun w H => by
    have e : cs.toArray.extract fl.offset (fl.offset + s) = vs.toArray := by
      apply Array.ext'
      rw [← hv]
      simp [List.take_drop]
    simp only [execOp, hx, Instr.field, Sem.run_bind, hu, Result.andThen_ok, hf, asAgg, Sem.run_pure, part, hA, hs, if_true, e]) k
theorem XOp.extract {x : Operand} {i : Nat} {vs : List Value} (v : Value) (hx : evO ρ x = .tuple vs.toArray) (hv : vs[i]? = some v) (k : K v F L) : XOp P ⟨d, .extract x i, ty, pos, af, g⟩ ρ F L K :=
  XOp.value (fun w H => by simp [execOp, hx, Instr.extract, hv]) k

/- 4. MEMORY: NEW BLOCKS -/

theorem XOp.box {x : Operand} {E : TypeId} {v : Value} (cs : List Value) (hx : evO ρ x = v) (hcs : v.cells = cs.toArray) (k : ∀ b, K (ptr b 0) F (cellsH b cs E :: L)) : XOp P ⟨d, .box E x, ty, pos, af, g⟩ ρ F L K := by
  intro w H
  refine .inl ⟨ptr w.heap.size 0, w.alloc (.cells cs.toArray E), F, _, ?_, FLe.refl F, H.new _, k _⟩
  simp [execOp, hx, Instr.box, newVar, newRow, newObj, Sem.run, hcs]
theorem XOp.alloc {E : TypeId} {z : Value} (cs : List Value) (hz : ∀ w, (zeroValue E).run P w = .ok z w) (hcs : z.cells = cs.toArray) (k : ∀ b, K (ptr b 0) F (cellsH b cs E :: L)) : XOp P ⟨d, .alloc E, ty, pos, af, g⟩ ρ F L K := by
  intro w H
  refine .inl ⟨ptr w.heap.size 0, w.alloc (.cells cs.toArray E), F, _, ?_, FLe.refl F, H.new _, k _⟩
  simp [execOp, Instr.alloc, hz, newVar, newRow, newObj, Sem.run, hcs]

theorem XOp.makeFunc {fn : Go.Fn} {first captured : Array Operand} (v : Value) (hv : Value.func fn (first.map (evO ρ)) (captured.map (evO ρ)) = v) (k : K v F L) : XOp P ⟨d, .makeFunc fn first captured, ty, pos, af, g⟩ ρ F L K :=
  XOp.value (fun w _ => by subst hv; simp [execOp, Instr.makeFunc]) k

/-- Struct and slice literals: what each part's cells are. -/
inductive CellsAre (ρ : Env) : List (Nat × Operand) → List (Nat × List Value) → Prop
  | nil : CellsAre ρ [] []
  | cons {i : Nat} {x : Operand} {l : List Value} {ps : List (Nat × Operand)} {pl : List (Nat × List Value)} (h : (evO ρ x).cells = l.toArray) (r : CellsAre ρ ps pl) : CellsAre ρ ((i, x) :: ps) ((i, l) :: pl)
inductive PlacesAre (P : Program) : List Field → List (Nat × Nat) → Prop
  | nil : PlacesAre P [] []
  | cons {f : Field} {off sz : Nat} {fs : List Field} {pl : List (Nat × Nat)} (h : f.offset = off) (hs : ∀ w, (sizeOf f.type).run P w = .ok sz w) (r : PlacesAre P fs pl) : PlacesAre P (f :: fs) ((off, sz) :: pl)

def setsAt (off : Nat) (l cs : List Value) : List Value := l.zipIdx.foldl (fun cs p => cs.set (off + p.2) p.1) cs
def fillL (place : Nat → Option (Nat × Nat)) : List Value → List (Nat × List Value) → Option (List Value)
  | cs, [] => some cs
  | cs, (i, l) :: r => match place i with
    | none => none
    | some (off, size) => if l.length ≠ size || off + l.length > cs.length then none else fillL place (setsAt off l cs) r

theorem sets_toArray (off : Nat) : ∀ (l : List (Value × Nat)) (cs : List Value),
    l.foldl (fun (cs : Array Value) (p : Value × Nat) => cs.setIfInBounds (off + p.2) p.1) cs.toArray = (l.foldl (fun cs p => cs.set (off + p.2) p.1) cs).toArray
  | [], cs => rfl
  | p :: l, cs => by
    simp only [List.foldl_cons]
    rw [List.setIfInBounds_toArray, sets_toArray off l]
theorem fill_eq {ρ : Env} (place : Nat → Option (Nat × Nat)) {ps : List (Nat × Operand)} {pl : List (Nat × List Value)} (h : CellsAre ρ ps pl) :
    ∀ (cs : List Value), Instr.fill place cs.toArray (ps.map fun p => (p.1, evO ρ p.2)) = (fillL place cs pl).map List.toArray := by
  induction h with
  | nil => intro cs; rfl
  | @cons i x l ps pl hx _ ih =>
    intro cs
    simp only [List.map_cons, Instr.fill, fillL, hx]
    cases place i with
    | none => rfl
    | some os =>
      obtain ⟨off, size⟩ := os
      simp only [List.size_toArray]
      split
      · rfl
      · have e : (Array.foldl (fun cs (x : Value × Nat) => match x with | (c, j) => cs.setIfInBounds (off + j) c) cs.toArray l.toArray.zipIdx) = (setsAt off l cs).toArray := by
          rw [← Array.foldl_toList]
          have h1 : l.toArray.zipIdx.toList = l.zipIdx := by simp
          rw [h1]
          exact sets_toArray off l.zipIdx cs
        rw [e]
        exact ih _

theorem places_run {w : World} : ∀ {fs : List Field} {pl : List (Nat × Nat)}, PlacesAre P fs pl → (fs.mapM (m := Sem) fun f => do pure (f.offset, ← sizeOf f.type)).run P w = .ok pl w := by
  intro fs pl h
  induction h with
  | nil => simp
  | cons h hs _ ih =>
    simp only [List.mapM_cons, Sem.run_bind, hs, Result.andThen_ok, Sem.run_pure, ih, h]

theorem XOp.build {t : TypeId} {ps : List (Nat × Operand)} {fs : List Field} {z : Value} (cs zs : List Value) (pls : List (Nat × Nat)) (pl : List (Nat × List Value))
    (hu : ∀ w, (underlying t).run P w = .ok (.struct fs.toArray) w) (hz : ∀ w, (zeroValue t).run P w = .ok z w) (hzs : z.cells = zs.toArray) (hp : PlacesAre P fs pls)
    (hk : fillL (fun i => pls[i]?) zs pl = some cs) (hc : CellsAre ρ ps pl) (k : K (.agg cs.toArray) F L) : XOp P ⟨d, .build t ps.toArray, ty, pos, af, g⟩ ρ F L K :=
  XOp.value (fun w _ => by
    have e : (Instr.build t (ps.map fun p => (p.1, evO ρ p.2)).toArray).run P w = .ok (.agg cs.toArray) w := by
      unfold Instr.build
      have h1 := places_run (P := P) (w := w) hp
      have h2 := fill_eq (fun i => pls[i]?) hc zs
      rw [hk] at h2
      simp only [Sem.run_bind, hz, Result.andThen_ok, hu, List.mapM_toArray, Sem.run_map, h1, hzs]
      simp only [List.getElem?_toArray, h2, Option.map_some, Sem.run_pure]
    simp [execOp, e]) k

theorem XOp.buildSlice {t E s len : Nat} {ps : List (Nat × Operand)} {z : Value} (cs zs : List Value) (pl : List (Nat × List Value))
    (hu : ∀ w, (underlying t).run P w = .ok (.slice E) w) (hs : ∀ w, (sizeOf E).run P w = .ok s w) (hz : ∀ w, (zeroValue E).run P w = .ok z w) (hzs : z.cells = zs.toArray)
    (hb : len * s ≤ 2 ^ 24) (hk : fillL (fun i => some (i * s, s)) ((List.range (len * s)).map fun i => zs.toArray[i % zs.toArray.size]!) pl = some cs) (hc : CellsAre ρ ps pl) (hlen : cs.length = len * s)
    (k : ∀ v, (∃ b, v = .slice (some ⟨b, 0, none⟩) len len) → K v F (slH E s v len cs :: L)) : XOp P ⟨d, .buildSlice t len ps.toArray, ty, pos, af, g⟩ ρ F L K := by
  intro w H
  refine .inl ⟨.slice (some ⟨w.heap.size, 0, none⟩) len len, w.alloc (.cells cs.toArray E), F, _, ?_, FLe.refl F, ?_, k _ ⟨_, rfl⟩⟩
  · have e : (Instr.buildSlice t len (ps.map fun p => (p.1, evO ρ p.2)).toArray).run P w = .ok (.slice (some ⟨w.heap.size, 0, none⟩) len len) (w.alloc (.cells cs.toArray E)) := by
      unfold Instr.buildSlice
      have h2 := fill_eq (fun i => some (i * s, s)) hc ((List.range (len * s)).map fun i => zs.toArray[i % zs.toArray.size]!)
      rw [hk] at h2
      have hb' : ¬ (len * s > 2 ^ 24) := by omega
      by_cases h0 : len * s = 0
      · simp only [h0, List.range_zero, List.map_nil] at h2
        have hb0 : ¬ (0 > 2 ^ 24) := by omega
        simp only [Sem.run_bind, hu, Result.andThen_ok, hs, h0, hb0, if_false, if_true, Sem.run_pure]
        have h4 : ∀ f : Nat → Value, Array.map f (Array.range 0) = #[] := fun f => by apply Array.ext'; simp
        rw [h4, h2]
        simp [newRow, newObj, Sem.run]
      · simp only [Sem.run_bind, hu, Result.andThen_ok, hs, hb', if_false, Sem.run_pure, h0, hz, hzs]
        have h3 : (Array.range (len * s)).map (fun i => zs.toArray[i % zs.toArray.size]!) = ((List.range (len * s)).map fun i => zs.toArray[i % zs.toArray.size]!).toArray := by
          apply Array.ext'; simp
        simp only [h3, h2]
        simp [newRow, newObj, Sem.run]
    simp [execOp, e]
  · refine (Sub.mkSl (A := []) (spare := []) hlen (Nat.le_refl _) (by simp)).holds ?_
    rw [List.append_nil]
    exact H.new (.cells cs.toArray E)

/- 5. MEMORY: WRITING -/

theorem storeCells_one {w : World} {b o : Nat} {cs : List Value} {E : TypeId} {F : FH} {A B : List HP} {vs : List Value} (H : Holds F (A ++ cellsH b cs E :: B) w) (ho : o + vs.length ≤ cs.length) (h1 : ∀ v ∈ vs, v.oneCell' = true) :
    ∃ w', (storeCells ⟨b, o, none⟩ vs).run P w = .ok () w' ∧ Holds F (A ++ cellsH b (cs.take o ++ vs ++ cs.drop (o + vs.length)) E :: B) w' := by
  have hh := H.getCells
  have := run_storeCells_at P b o E vs 0 cs.toArray w hh (by simpa using ho) h1
  refine ⟨_, this, ?_⟩
  simp only [Nat.add_zero] at this ⊢
  refine Holds.put (o := .cells cs.toArray E (0, 0)) (o' := .cells _ E (0, 0)) H rfl rfl rfl (setRow_heap w b _ _ E _ hh) fun k hk => setRow_other w b k _ hk

theorem XOp.store1 {x y : Operand} {t : TypeId} {b o : Nat} {v : Value} {E : TypeId} {cs : List Value} (A B : List HP) (cs' : List Value) (hs : ∀ w, (sizeOf t).run P w = .ok 1 w) (hx : evO ρ x = ptr b o) (hy : evO ρ y = v) (hv : v.oneCell' = true)
    (hL : L = A ++ cellsH b cs E :: B) (ho' : Nat.blt o cs.length = true) (hcs : cs.set o v = cs') (k : K undef F (A ++ cellsH b cs' E :: B)) : XOp P ⟨d, .store t x y, ty, pos, af, g⟩ ρ F L K := by
  subst hL hcs
  have ho : o < cs.length := Nat.le_of_ble_eq_true ho'
  intro w H
  obtain ⟨w', hrun, H'⟩ := storeCells_one (P := P) (vs := [v]) (o := o) H (by simp; omega) (by simpa using hv)
  have hc : v.cells = #[v] := by cases v <;> first | rfl | (simp [Value.oneCell'] at hv)
  refine .inr (.inl ⟨w', F, _, ?_, FLe.refl F, ?_, k⟩)
  · simp [execOp, hx, hy, Instr.storeAt, Instr.sureAddr, storeVar, hs, hc, hrun]
  · have e : cs.take o ++ [v] ++ cs.drop (o + 1) = cs.set o v := by
      rw [List.set_eq_take_append_cons_drop, if_pos ho]; simp
    simpa [e] using H'

theorem XOp.storeN {x y : Operand} {t : TypeId} {s b o : Nat} {vs : List Value} {E : TypeId} {cs : List Value} (A B : List HP) (cs' : List Value) (hs : ∀ w, (sizeOf t).run P w = .ok s w) (hx : evO ρ x = ptr b o) (hy : evO ρ y = .agg vs.toArray) (hl : vs.length = s) (hv : ∀ v ∈ vs, v.oneCell' = true)
    (hL : L = A ++ cellsH b cs E :: B) (ho' : Nat.ble (o + s) cs.length = true) (hcs : cs.take o ++ vs ++ cs.drop (o + s) = cs') (k : K undef F (A ++ cellsH b cs' E :: B)) : XOp P ⟨d, .store t x y, ty, pos, af, g⟩ ρ F L K := by
  subst hL hcs hl
  have ho := Nat.le_of_ble_eq_true ho'
  intro w H
  obtain ⟨w', hrun, H'⟩ := storeCells_one (P := P) (vs := vs) H (by simpa using ho) hv
  refine .inr (.inl ⟨w', F, _, ?_, FLe.refl F, H', k⟩)
  simp [execOp, hx, hy, Instr.storeAt, Instr.sureAddr, storeVar, hs, Value.cells, hrun]

/-- A store into an own slice. -/
theorem XOp.storeS {x y : Operand} {t : TypeId} {s n i : Nat} {u v : Value} {E : TypeId} {cs : List Value} (A B : List HP) (hs : ∀ w, (sizeOf t).run P w = .ok 1 w) (hx : evO ρ x = .pointer (some (elemA v i))) (hy : evO ρ y = u) (hu : u.oneCell' = true)
    (hL : L = A ++ slH E s v n cs :: B) (ho : i < cs.length) (k : K undef F (A ++ slH E s v n (cs.set i u) :: B)) : XOp P ⟨d, .store t x y, ty, pos, af, g⟩ ρ F L K := by
  subst hL
  intro w H
  rcases H.getSl with ⟨hlen, ⟨base, rfl, rfl, _⟩ | ⟨b, cap, spare, rfl, hc, hsp, H1⟩⟩
  · have : cs = [] := List.eq_nil_of_length_eq_zero (by simpa using hlen)
    subst this; simp at ho
  · obtain ⟨w', hrun, H'⟩ := storeCells_one (P := P) (vs := [u]) (o := i) H1 (by simp; omega) (by simpa using hu)
    have hcl : u.cells = #[u] := by cases u <;> first | rfl | (simp [Value.oneCell'] at hu)
    refine .inr (.inl ⟨w', F, _, ?_, FLe.refl F, ?_, k⟩)
    · simp [execOp, hx, hy, elemA, add_lit, Instr.storeAt, Instr.sureAddr, storeVar, hs, hcl, hrun]
    · have e : (cs ++ spare).take i ++ [u] ++ (cs ++ spare).drop (i + 1) = cs.set i u ++ spare := by
        have h1 : (cs ++ spare).take i ++ [u] ++ (cs ++ spare).drop (i + 1) = (cs ++ spare).set i u := by
          rw [List.set_eq_take_append_cons_drop, if_pos (by simp; omega)]; simp
        rw [h1, List.set_append_left _ _ ho]
      simp only [List.length_singleton, e] at H'
      exact (Sub.mkSl (by simpa using hlen) hc hsp).holds H'

/- 6. CALLS -/

theorem XOp.call {f : FuncId} {l : List Operand} {ts : Array TypeId} {Q : Post} (args : List Value) (hf : ∀ args w, (callFunc f args).run P w = .ok (.enter f args) w) (ha : l.map (evO ρ) = args)
    (hspec : Does P f args F L Q) (k : ∀ v F' L', F ≤ F' → Q v F' L' → K v F' L') :
    XOp P ⟨d, .call { callee := .value (.func f), args := l.toArray, argTypes := ts }, ty, pos, af, g⟩ ρ F L K := by
  subst ha
  intro w H
  refine .inr (.inr ⟨f, (l.map (evO ρ)).toArray, w, ?_, (hspec w H).mono fun e w'' ⟨v, F', L', he, le, H', q⟩ => ⟨v, F', L', he, le, H', k v F' L' le q⟩⟩)
  simp [execOp, resolve, evO, Deferred.ofValue, invoke, hf]

theorem XOp.callV {f : FuncId} {fv : Operand} {l : List Operand} {ts : Array TypeId} {Q : Post} {first captured : List Value} (args : List Value) (hf : ∀ args w, (callFunc f args).run P w = .ok (.enter f args) w)
    (hv : evO ρ fv = .func (.func f) first.toArray captured.toArray) (ha : first ++ l.map (evO ρ) ++ captured = args)
    (hspec : Does P f args F L Q) (k : ∀ v F' L', F ≤ F' → Q v F' L' → K v F' L') :
    XOp P ⟨d, .call { callee := .value fv, args := l.toArray, argTypes := ts }, ty, pos, af, g⟩ ρ F L K := by
  subst ha
  intro w H
  refine .inr (.inr ⟨f, (first ++ l.map (evO ρ) ++ captured).toArray, w, ?_, (hspec w H).mono fun e w'' ⟨v, F', L', he, le, H', q⟩ => ⟨v, F', L', he, le, H', k v F' L' le q⟩⟩)
  simp [execOp, resolve, hv, Deferred.ofValue, invoke, hf]
end
end Go.Proofs.Ytiaanelimbmniaa.X
