/-
  Slice expressions, make, min; owned slices of numbers.
-/
import Derived.Test.YtiaanelimbmniaaX6
set_option linter.unusedSimpArgs false
set_option linter.unusedVariables false
namespace Go.Proofs.Ytiaanelimbmniaa.X
open Go

def OptIs (ρ : Env) (o : Option Operand) (l dflt : Nat) : Prop :=
  match o with
  | none => l = dflt
  | some x => ∃ k, evO ρ x = .int k (l : Int)

theorem bound_run {P : Program} {w : World} {k : IntKind} {l y : Nat} (code : BoundsCode) (h : l ≤ y) : (Instr.sliceBound (.int k (l : Int)) y code).run P w = .ok l w := by
  have h1 : (0 : Int) ≤ (l : Int) ∧ (l : Int) ≤ (y : Int) := by omega
  simp [Instr.sliceBound, asIntOf, h1]

theorem slice_run {P : Program} {w : World} {ρ : Env} {t e : TypeId} {s n cap l h : Nat} {base : Option Addr} {lo hi : Option Operand}
    (hu : ∀ w, (underlying t).run P w = .ok (.slice e) w) (hs : ∀ w, (sizeOf e).run P w = .ok s w) (hlo : OptIs ρ lo l 0) (hhi : OptIs ρ hi h n) (hlh : l ≤ h) (hhc : h ≤ cap) :
    (Instr.sliceAt t (.slice base n cap) (lo.map (evO ρ)) (hi.map (evO ρ)) none).run P w = .ok (.slice (if cap = l then base else base.map (·.add (l * s))) (h - l) (cap - l)) w := by
  have e1 : (Instr.sliceAt t (.slice base n cap) (lo.map (evO ρ)) (hi.map (evO ρ)) none).run P w = (Instr.slice t (.slice base n cap) (lo.map (evO ρ)) (hi.map (evO ρ)) none).run P w := by
    simp [Instr.sliceAt, hu]
  have e2 : (Instr.sliceBounds true n cap (lo.map (evO ρ)) (hi.map (evO ρ)) none).run P w = .ok (l, h, cap) w := by
    unfold Instr.sliceBounds
    cases lo with
    | none =>
      simp only [OptIs] at hlo
      subst hlo
      cases hi with
      | none => simp only [OptIs] at hhi; subst hhi; simp
      | some x => obtain ⟨k, hx⟩ := hhi; simp [hx, bound_run .sliceAcap hhc]
    | some y =>
      obtain ⟨k, hy⟩ := hlo
      cases hi with
      | none => simp only [OptIs] at hhi; subst hhi; simp [hy, bound_run .sliceB hlh]
      | some x => obtain ⟨k2, hx⟩ := hhi; simp [hx, hy, bound_run .sliceAcap hhc, bound_run .sliceB hlh]
  rw [e1]
  unfold Instr.slice
  simp only [Sem.run_bind, hu, Result.andThen_ok, e2, hs, Sem.run_pure]

section
variable {P : Program} {ρ : Env} {F : FH} {L : List HP} {K : Post} {d : Option Tmp} {ty : TypeId} {pos : String} {af : Array Edge} {g : Option (Nat × Bool)}

theorem XOp.sliceF {x : Operand} {lo hi : Option Operand} {t e : TypeId} {s n l h : Nat} {v : Value} {cs : List Value}
    (hu : ∀ w, (underlying t).run P w = .ok (.slice e) w) (hs : ∀ w, (sizeOf e).run P w = .ok s w) (hx : evO ρ x = v) (ha : ArrF F s v n cs) (hlo : OptIs ρ lo l 0) (hhi : OptIs ρ hi h n) (hlh : l ≤ h) (hhn : h ≤ n)
    (k : ∀ v', ArrF F s v' (h - l) ((cs.drop (l * s)).take ((h - l) * s)) → isNil v' = isNil v → K v' F L) : XOp P ⟨d, .slice t x lo hi none, ty, pos, af, g⟩ ρ F L K := by
  intro w H
  obtain ⟨hl, base, cap, rfl, hc, hb, hcell⟩ := ha
  have hrun := slice_run (P := P) (w := w) (base := base) (n := n) (cap := cap) hu hs hlo hhi hlh (by omega)
  refine .inl ⟨.slice (if cap = l then base else base.map (·.add (l * s))) (h - l) (cap - l), w, F, L, ?_, FLe.refl F, H, k _ ?_ ?_⟩
  · simp [execOp, hx, hrun]
  · refine ⟨?_, _, _, rfl, by omega, ?_, ?_⟩
    · rw [List.length_take, List.length_drop, hl, ← Nat.sub_mul]
      have : (h - l) * s ≤ (n - l) * s := Nat.mul_le_mul_right _ (by omega)
      omega
    · intro hn
      split at hn
      · have := hb hn; omega
      · cases base with
        | none => have := hb rfl; omega
        | some a => simp at hn
    · intro a ha i u hu'
      split at ha
      · have : h - l = 0 := by omega
        rw [this] at hu'
        simp at hu'
      · cases base with
        | none => simp at ha
        | some a0 =>
          simp at ha
          subst ha
          rw [add_add]
          refine hcell a0 rfl (l * s + i) u ?_
          rw [List.getElem?_take] at hu'
          split at hu'
          · rw [List.getElem?_drop] at hu'; exact hu'
          · cases hu'
  · split
    · cases base <;> rfl
    · cases base <;> rfl

/-- s[:0:0] -/
theorem XOp.slice00 {x lo hi : Operand} {t e : TypeId} {s n : Nat} {v : Value} {k1 k2 : IntKind}
    (hu : ∀ w, (underlying t).run P w = .ok (.slice e) w) (hs : ∀ w, (sizeOf e).run P w = .ok s w) (hx : evO ρ x = v) (hv : SlV F L v n) (hhi : evO ρ lo = .int k1 0) (hmx : evO ρ hi = .int k2 0)
    (k : ∀ v', (∃ b, v' = .slice b 0 0) → isNil v' = isNil v → K v' F L) : XOp P ⟨d, .slice t x none (some lo) (some hi), ty, pos, af, g⟩ ρ F L K := by
  intro w H
  obtain ⟨base, cap, rfl, hc, hb⟩ := hv w H
  have b1 := bound_run (P := P) (w := w) (k := k2) (l := 0) (y := cap) .slice3Acap (Nat.zero_le _)
  have b2 := bound_run (P := P) (w := w) (k := k1) (l := 0) (y := 0) .slice3B (Nat.le_refl _)
  refine .inl ⟨.slice base 0 0, w, F, L, ?_, FLe.refl F, H, k _ ⟨_, rfl⟩ (by cases base <;> rfl)⟩
  simp only [Int.natCast_zero] at b1 b2
  simp [execOp, hx, hhi, hmx, Instr.sliceAt, Instr.slice, hu, hs, Instr.sliceBounds, b1, b2]

theorem XOp.min2 {x y : Operand} {ts : Array TypeId} {k : IntKind} {a b : Int} (hx : evO ρ x = .int k a) (hy : evO ρ y = .int k b) (kk : K (.int k (if b < a then b else a)) F L) :
    XOp P ⟨d, .call { callee := .builtin .min, args := #[x, y], argTypes := ts }, ty, pos, af, g⟩ ρ F L K :=
  XOp.value (fun w H => by simp [execOp, resolve, invoke, builtin, hx, hy, Builtin.min_, Builtin.min2]) kk
theorem XOp.max2 {x y : Operand} {ts : Array TypeId} {k : IntKind} {a b : Int} (hx : evO ρ x = .int k a) (hy : evO ρ y = .int k b) (kk : K (.int k (if a < b then b else a)) F L) :
    XOp P ⟨d, .call { callee := .builtin .max, args := #[x, y], argTypes := ts }, ty, pos, af, g⟩ ρ F L K :=
  XOp.value (fun w H => by
    simp [execOp, resolve, invoke, builtin, hx, hy, Builtin.max_, Builtin.max2]) kk

theorem XOp.min2R {x y : Operand} {ts : Array TypeId} {k : IntKind} {a b : Int} (r : Int) (hx : evO ρ x = .int k a) (hy : evO ρ y = .int k b) (hr : (if b < a then b else a) = r) (kk : K (.int k r) F L) :
    XOp P ⟨d, .call { callee := .builtin .min, args := #[x, y], argTypes := ts }, ty, pos, af, g⟩ ρ F L K := by
  subst hr; exact XOp.min2 hx hy kk
theorem XOp.max2R {x y : Operand} {ts : Array TypeId} {k : IntKind} {a b : Int} (r : Int) (hx : evO ρ x = .int k a) (hy : evO ρ y = .int k b) (hr : (if a < b then b else a) = r) (kk : K (.int k r) F L) :
    XOp P ⟨d, .call { callee := .builtin .max, args := #[x, y], argTypes := ts }, ty, pos, af, g⟩ ρ F L K := by
  subst hr; exact XOp.max2 hx hy kk
theorem XOp.makeSlice {l c : Operand} {t E : TypeId} {i : TypeInfo} {z : Value} {s n bytes : Nat} (zs : List Value) (hu : ∀ w, (underlying t).run P w = .ok (.slice E) w) (hs : ∀ w, (sizeOf E).run P w = .ok s w) (hi : ∀ w, (typeInfo E).run P w = .ok i w) (hby : i.bytes = bytes)
    (hz : ∀ w, (zeroValue E).run P w = .ok z w) (hzs : z.cells = zs.toArray) (hzl : zs.length = s) (hl : evO ρ l = .int .i64 (n : Int)) (hc : evO ρ c = .int .i64 (n : Int)) (hn : n ≤ 1152921504606846976) (hb : bytes * n ≤ 281474976710656)
    (k : ∀ v, (∃ b, v = .slice (some ⟨b, 0, none⟩) n n) → K v F (slH E s v n ((List.range (n * s)).map fun i => zs.toArray[i % zs.toArray.size]!) :: L)) : XOp P ⟨d, .makeSlice t l c, ty, pos, af, g⟩ ρ F L K := by
  intro w H
  have hw : IntKind.i64.wrap (n : Int) = (n : Int) := IntWalk.i64_in _ (by omega)
  have htoo : (decide ((n : Int) < 0) || decide ((bytes : Int) * (n : Int) > 2 ^ 48)) = false := by
    simp only [Bool.or_eq_false_iff, decide_eq_false_iff_not]
    refine ⟨by omega, ?_⟩
    have : ((bytes * n : Nat) : Int) ≤ 281474976710656 := by omega
    rw [Int.natCast_mul] at this
    omega
  have hcs : ∀ q : Array Value, (n * s ≠ 0 → q = zs.toArray) → (Array.range (n * s)).map (fun j => q[j % q.size]!) = ((List.range (n * s)).map fun i => zs.toArray[i % zs.toArray.size]!).toArray := by
    intro q hq
    apply Array.ext'
    by_cases h0 : n * s = 0
    · simp [h0]
    · rw [hq h0]; simp
  have hrun : (Instr.makeSlice t (.int .i64 (n : Int)) (.int .i64 (n : Int))).run P w = .ok (.slice (some ⟨w.heap.size, 0, none⟩) n n) (w.alloc (.cells ((List.range (n * s)).map fun i => zs.toArray[i % zs.toArray.size]!).toArray E)) := by
    unfold Instr.makeSlice
    simp only [Sem.run_bind, hu, Result.andThen_ok, asInt, asIntOf, Sem.run_pure, hi, hby, hw]
    have h1 : (decide ((n : Int) < 0) || decide ((bytes : Int) * (n : Int) > 2 ^ 48) || decide ((n : Int) < 0) || decide ((n : Int) > (n : Int))) = false := by
      simp only [htoo, Bool.false_or, Bool.or_eq_false_iff, decide_eq_false_iff_not]; omega
    have tail : ∀ w1 : World, w1 = w → (do
        let m := (n : Int).toNat * (← sizeOf E)
        let zero ← if m = 0 then pure #[] else do pure (← zeroValue E).cells
        let a ← newRow E ((Array.range m).map (zero[· % zero.size]!))
        pure (Value.slice (some a) (n : Int).toNat (n : Int).toNat) : Sem Value).run P w1 = .ok (.slice (some ⟨w.heap.size, 0, none⟩) n n) (w.alloc (.cells ((List.range (n * s)).map fun i => zs.toArray[i % zs.toArray.size]!).toArray E)) := by
      intro w1 hw1
      subst hw1
      simp only [Sem.run_bind, hs, Result.andThen_ok, Int.toNat_natCast]
      by_cases h0 : n * s = 0
      · simp only [h0, if_true, Sem.run_bind, Sem.run_pure, Result.andThen_ok]
        have := hcs #[] (fun h => absurd h0 h)
        rw [h0] at this
        rw [this]
        simp [newRow, newObj, Sem.run]
      · simp only [h0, if_false, Sem.run_bind, hz, Result.andThen_ok, Sem.run_pure, hzs]
        rw [hcs zs.toArray (fun _ => rfl)]
        simp [newRow, newObj, Sem.run]
    simp only [h1, Bool.false_eq_true, if_false]
    unfold askRoom
    split
    · exact tail w rfl
    · exact tail w rfl
  refine .inl ⟨.slice (some ⟨w.heap.size, 0, none⟩) n n, w.alloc (.cells ((List.range (n * s)).map fun i => zs.toArray[i % zs.toArray.size]!).toArray E), F, _, ?_, FLe.refl F, ?_, k (.slice (some ⟨w.heap.size, 0, none⟩) n n) ⟨_, rfl⟩⟩
  · simp [execOp, hl, hc, hrun]
  · refine (Sub.mkSl (A := []) (spare := []) (by simp) (Nat.le_refl _) (by simp)).holds ?_
    rw [List.append_nil]
    exact H.new _
end

/-- The slice expression at numbers. -/
theorem XOp.sliceI {P : Program} {ρ : Env} {F : FH} {L : List HP} {K : Post} {d : Option Tmp} {ty : TypeId} {pos : String} {af : Array Edge} {g : Option (Nat × Bool)} {x : Operand} {lo hi : Option Operand} {t e : TypeId} {v : Value} {xs : List Int} (l h : Nat)
    (hu : ∀ w, (underlying t).run P w = .ok (.slice e) w) (hs : ∀ w, (sizeOf e).run P w = .ok 1 w) (hx : evO ρ x = v) (ha : IntsF F v xs) (hlo : OptIs ρ lo l 0) (hhi : OptIs ρ hi h xs.length) (hlh : l ≤ h) (hhn : h ≤ xs.length)
    (k : ∀ v', IntsF F v' ((xs.drop l).take (h - l)) → isNil v' = isNil v → K v' F L) : XOp P ⟨d, .slice t x lo hi none, ty, pos, af, g⟩ ρ F L K := by
  refine XOp.sliceF hu hs hx ha hlo hhi hlh hhn fun v' h1 h2 => k v' ?_ h2
  have e1 : ((xs.drop l).take (h - l)).length = h - l := by simp; omega
  unfold IntsF
  rw [e1]
  simpa [List.map_take, List.map_drop] using h1

theorem intsH_zeros (E : TypeId) (v : Value) (n : Nat) : slH E 1 v n ((List.range (n * 1)).map fun i => [Value.int .i64 0].toArray[i % [Value.int .i64 0].toArray.size]!) = intsH E v (List.replicate n 0) := by
  have e : ((List.range (n * 1)).map fun i => [Value.int .i64 0].toArray[i % [Value.int .i64 0].toArray.size]!) = (List.replicate n (0 : Int)).map (Value.int .i64) := by
    apply List.ext_getElem
    · simp
    · intro i h1 h2
      simp [Nat.mod_one]
  rw [e, intsH, List.length_replicate]

section
variable {P : Program} {ρ : Env} {F : FH} {L : List HP} {K : Post} {d : Option Tmp} {ty : TypeId} {pos : String} {af : Array Edge} {g : Option (Nat × Bool)}
theorem intsH.storeX {x y : Operand} {t : TypeId} {i : Nat} {u : Int} {v : Value} {E : TypeId} {xs : List Int} (A B : List HP) (xs' : List Int) (hs : ∀ w, (sizeOf t).run P w = .ok 1 w) (hx : evO ρ x = .pointer (some (elemA v i))) (hy : evO ρ y = .int .i64 u)
    (hL : L = A ++ intsH E v xs :: B) (ho : i < xs.length) (hxs : xs.set i u = xs') (k : K undef F (A ++ intsH E v xs' :: B)) : XOp P ⟨d, .store t x y, ty, pos, af, g⟩ ρ F L K := by
  subst hxs
  refine XOp.storeS A B hs hx hy rfl hL (by simpa using ho) ?_
  have e : (xs.map (Value.int .i64)).set i (.int .i64 u) = (xs.set i u).map (Value.int .i64) := by rw [List.map_set]
  rw [e]
  have e2 : xs.length = (xs.set i u).length := by simp
  unfold intsH at k
  rw [← e2] at k
  exact k

/-- append(out, x) at numbers: the literal slice that Go makes of x lies in another chunk. -/
theorem XOp.append1 {x y : Operand} {t E : TypeId} {i : TypeInfo} {v v2 : Value} {xs : List Int} {u : Int} (A B : List HP)
    (ht : ∀ w, (underlying t).run P w = .ok (.slice E) w) (hi : ∀ w, (typeInfo E).run P w = .ok i w) (hz : i.zero = some (.int .i64 0)) (hs : i.size = 1) (hby : i.bytes = 8)
    (hx : evO ρ x = v) (hy : evO ρ y = v2) (hL : L = A ++ intsH E v xs :: B) (hv2 : SlV F L v2 1) (hnews : Rd F L (elemA v2 0) (.int .i64 u)) (hb : xs.length + 1 ≤ 17592186044416)
    (k : ∀ v', IsSl v' → isNil v' = false → K v' F (A ++ intsH E v' (xs ++ [u]) :: B)) :
    XOp P ⟨d, .call { callee := .builtin .append, args := #[x, y], argTypes := #[t, t] }, ty, pos, af, g⟩ ρ F L K := by
  refine XOp.append A B [.int .i64 u] ht hi hz hs hby rfl hx hy hL hv2 rfl ?_ (ones_cons rfl ones_nil) (by omega) (by omega) fun v' h1 h2 _ => ?_
  · intro j q hq
    match j, hq with
    | 0, hq => simp at hq; subst hq; exact hnews
    | n + 1, hq => simp at hq
  · have := k v' h1 (h2 (by omega))
    unfold intsH at this
    rw [List.length_append, List.length_singleton, List.map_append, List.map_singleton] at this
    exact this
/-- append(out, xs...) at numbers. -/
theorem XOp.appendI {x y : Operand} {t E : TypeId} {i : TypeInfo} {v v2 : Value} {xs ys : List Int} (A B : List HP)
    (ht : ∀ w, (underlying t).run P w = .ok (.slice E) w) (hi : ∀ w, (typeInfo E).run P w = .ok i w) (hz : i.zero = some (.int .i64 0)) (hs : i.size = 1) (hby : i.bytes = 8)
    (hx : evO ρ x = v) (hy : evO ρ y = v2) (hL : L = A ++ intsH E v xs :: B) (hv2 : IntsF F v2 ys) (hb : xs.length + ys.length ≤ 17592186044416)
    (k : ∀ v', IsSl v' → (xs.length + ys.length ≠ 0 → isNil v' = false) → (ys.length = 0 → v' = v) → K v' F (A ++ intsH E v' (xs ++ ys) :: B)) :
    XOp P ⟨d, .call { callee := .builtin .append, args := #[x, y], argTypes := #[t, t] }, ty, pos, af, g⟩ ρ F L K := by
  refine XOp.append A B (ys.map (Value.int .i64)) ht hi hz hs hby rfl hx hy hL hv2.slv (by simp) ?_ ?_ (by omega) (by omega) fun v' h1 h2 h3 => ?_
  · intro j q hq
    exact Rd.arr hv2 hq
  · intro q hq
    obtain ⟨z, _, rfl⟩ := List.mem_map.1 hq
    rfl
  · have := k v' h1 h2 h3
    unfold intsH at this
    rw [List.length_append, List.map_append] at this
    exact this
end
theorem intsH.addNil (E : TypeId) (b : Option Addr) (L : List HP) : Sub L (intsH E (.slice b 0 0) [] :: L) := Sub.addNil E 1 b L
theorem intsH.ofLit {E : TypeId} {v : Value} (l : List HP) (xs : List Int) : Sub (slH E 1 v xs.length (xs.map (Value.int .i64)) :: l) (intsH E v xs :: l) := Sub.refl _

/- nil or not -/
theorem equal_nil_run {P : Program} {w : World} {t e : TypeId} (hu : ∀ w, (underlying t).run P w = .ok (.slice e) w) {v : Value} (hv : IsSl v) : (Op.equal t v (.slice none 0 0)).run P w = .ok (isNil v) w := by
  obtain ⟨b, n, c, rfl⟩ := hv
  unfold Op.equal Op.maxDepth
  rw [show (10000 : Nat) = 9999 + 1 from rfl]
  unfold Op.equalIn
  simp only [Sem.run_bind, hu, Result.andThen_ok]
  cases b <;> simp [isNil]
theorem equal_bool_run {P : Program} {w : World} {t : TypeId} (hu : ∀ w, (underlying t).run P w = .ok .bool w) {a b : Bool} : (Op.equal t (.bool a) (.bool b)).run P w = .ok (decide (a = b)) w := by
  unfold Op.equal Op.maxDepth
  rw [show (10000 : Nat) = 9999 + 1 from rfl]
  unfold Op.equalIn
  simp only [Sem.run_bind, hu, Result.andThen_ok]
  cases a <;> cases b <;> simp
section
variable {P : Program} {ρ : Env} {F : FH} {L : List HP} {K : Post} {d : Option Tmp} {ty : TypeId} {pos : String} {af : Array Edge} {g : Option (Nat × Bool)}
theorem XOp.eqB {x y : Operand} {t u : TypeId} {a b : Bool} (hu : ∀ w, (underlying t).run P w = .ok .bool w) (hx : evO ρ x = .bool a) (hy : evO ρ y = .bool b) (kk : K (.bool (decide (a = b))) F L) : XOp P ⟨d, .binOp .eql t x y u, ty, pos, af, g⟩ ρ F L K :=
  XOp.value (fun w _ => by
    have e := equal_bool_run (P := P) (w := w) (a := a) (b := b) hu
    simp [execOp, hx, hy, eqGuard, binOp, e]) kk
theorem XOp.neB {x y : Operand} {t u : TypeId} {a b : Bool} (hu : ∀ w, (underlying t).run P w = .ok .bool w) (hx : evO ρ x = .bool a) (hy : evO ρ y = .bool b) (kk : K (.bool (decide (a ≠ b))) F L) : XOp P ⟨d, .binOp .neq t x y u, ty, pos, af, g⟩ ρ F L K :=
  XOp.value (fun w _ => by
    have e := equal_bool_run (P := P) (w := w) (a := a) (b := b) hu
    simp [execOp, hx, hy, eqGuard, binOp, e]) kk
theorem XOp.eqNil {x y : Operand} {t u e : TypeId} {v : Value} (hu : ∀ w, (underlying t).run P w = .ok (.slice e) w) (hx : evO ρ x = v) (hy : evO ρ y = .slice none 0 0) (hv : IsSl v) (kk : K (.bool (isNil v)) F L) : XOp P ⟨d, .binOp .eql t x y u, ty, pos, af, g⟩ ρ F L K :=
  XOp.value (fun w _ => by
    have e := equal_nil_run (P := P) (w := w) hu hv
    obtain ⟨b, n, c, rfl⟩ := hv
    simp [execOp, hx, hy, eqGuard, binOp, e]) kk
theorem XOp.neNil {x y : Operand} {t u e : TypeId} {v : Value} (hu : ∀ w, (underlying t).run P w = .ok (.slice e) w) (hx : evO ρ x = v) (hy : evO ρ y = .slice none 0 0) (hv : IsSl v) (kk : K (.bool (!isNil v)) F L) : XOp P ⟨d, .binOp .neq t x y u, ty, pos, af, g⟩ ρ F L K :=
  XOp.value (fun w _ => by
    have e := equal_nil_run (P := P) (w := w) hu hv
    obtain ⟨b, n, c, rfl⟩ := hv
    simp [execOp, hx, hy, eqGuard, binOp, e]) kk
end
theorem nil_of_isNil {F : FH} {v : Value} {xs : List Int} (h : IntsF F v xs) (hn : isNil v = true) : xs = [] := by
  obtain ⟨hl, b, c, rfl, hc, hb, _⟩ := h
  cases b with
  | none => have := hb rfl; exact List.eq_nil_of_length_eq_zero (by omega)
  | some a => simp [isNil] at hn
theorem notNil_of_pos {F : FH} {v : Value} {xs : List Int} (h : IntsF F v xs) (hn : 1 ≤ xs.length) : isNil v = false := by
  obtain ⟨hl, b, c, rfl, hc, hb, _⟩ := h
  cases b with
  | none => have := hb rfl; omega
  | some a => rfl
end Go.Proofs.Ytiaanelimbmniaa.X
