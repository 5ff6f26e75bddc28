/-
  append of a make to nil, cap of nil, slices of nil.
-/
import Derived.Test.YtiaanelimbmniaaX8
import Derived.Lib.AppendZeros
set_option linter.unusedSimpArgs false
set_option linter.unusedVariables false
namespace Go.Proofs.Ytiaanelimbmniaa.X
open Go
section
variable {P : Program} {ρ : Env} {F : FH} {L : List HP} {K : Post} {d : Option Tmp} {ty : TypeId} {pos : String} {af : Array Edge} {g : Option (Nat × Bool)}

theorem XOp.appendZ {x y : Operand} {t tn E : TypeId} {i : TypeInfo} {z : Value} {s n bytes : Nat} {kn kq : IntKind} (zs : List Value)
    (ht : ∀ w, (underlying t).run P w = .ok (.slice E) w) (htn : ∀ w, (underlying tn).run P w = .ok (.int kn) w) (hi : ∀ w, (typeInfo E).run P w = .ok i w) (hz : i.zero = some z) (hs : i.size = s) (hby : i.bytes = bytes) (hzs : z.cells = zs.toArray) (hzl : zs.length = s) (hs0 : 0 < s)
    (hx : evO ρ x = .slice none 0 0) (hy : evO ρ y = .int kq (n : Int)) (h0 : 0 < n) (h63 : n ≤ 1152921504606846976) (hb : n * bytes ≤ 281474976710656)
    (k : ∀ v, (∃ b c, v = .slice (some ⟨b, 0, none⟩) n c) → K v F (slH E s v n ((List.range (n * s)).map fun i => zs.toArray[i % zs.toArray.size]!) :: L)) :
    XOp P ⟨d, .call { callee := .builtin .append, args := #[x, y], argTypes := #[t, tn] }, ty, pos, af, g⟩ ρ F L K := by
  subst hs hby
  intro w H
  have hr := Go.Lib.run_append_nil_zeros (P := P) w t tn ty E i z kq kn (underlying_of_run ht) (underlying_of_run htn) (info_of_run hi) hz n h0 hs0 (by omega) hb
  refine .inl ⟨.slice (some ⟨w.heap.size, 0, none⟩) n (grownCap w n 0 E), w.drew.alloc (.cells (Builtin.zeroCells z.cells n ++ Builtin.zeroCells z.cells (grownCap w n 0 E - n)) E), F, _, ?_, FLe.refl F, ?_, k (.slice (some ⟨w.heap.size, 0, none⟩) n (grownCap w n 0 E)) ⟨_, _, rfl⟩⟩
  · simp [execOp, resolve, invoke, builtin, hx, hy, hr]
  · have e : Builtin.zeroCells z.cells n ++ Builtin.zeroCells z.cells (grownCap w n 0 E - n) =
        (((List.range (n * i.size)).map fun j => zs.toArray[j % zs.toArray.size]!) ++ (Builtin.zeroCells z.cells (grownCap w n 0 E - n)).toList).toArray := by
      apply Array.ext'
      simp [Builtin.zeroCells, hzs, hzl]
    rw [e]
    have H1 := (show Holds F L w.drew from H.drew).new (.cells (((List.range (n * i.size)).map fun j => zs.toArray[j % zs.toArray.size]!) ++ (Builtin.zeroCells z.cells (grownCap w n 0 E - n)).toList).toArray E)
    exact (Sub.mkSl (A := []) (by simp) (grownCap_ge w n 0 E) (by simp [size_zeroCells, hzs, hzl])).holds H1

theorem XOp.makeSlice0 {l c : Operand} {t E : TypeId} {i : TypeInfo} {z : Value} {s n bytes : Nat} (zs : List Value) (hu : ∀ w, (underlying t).run P w = .ok (.slice E) w) (hs : ∀ w, (sizeOf E).run P w = .ok s w) (hi : ∀ w, (typeInfo E).run P w = .ok i w) (hby : i.bytes = bytes)
    (hz : ∀ w, (zeroValue E).run P w = .ok z w) (hzs : z.cells = zs.toArray) (hzl : zs.length = s) (hl : evO ρ l = .int .i64 0) (hc : evO ρ c = .int .i64 (n : Int)) (hn : n ≤ 1152921504606846976) (hb : bytes * n ≤ 281474976710656)
    (k : ∀ v, (∃ b, v = .slice (some ⟨b, 0, none⟩) 0 n) → K v F (slH E s v 0 [] :: L)) : XOp P ⟨d, .makeSlice t l c, ty, pos, af, g⟩ ρ F L K := by
  intro w H
  have hw : IntKind.i64.wrap (n : Int) = (n : Int) := IntWalk.i64_in _ (by omega)
  have hw0 : IntKind.i64.wrap 0 = 0 := by decide
  have htoo : (decide ((n : Int) < 0) || decide ((bytes : Int) * (n : Int) > 2 ^ 48)) = false := by
    simp only [Bool.or_eq_false_iff, decide_eq_false_iff_not]
    refine ⟨by omega, ?_⟩
    have : ((bytes * n : Nat) : Int) ≤ 281474976710656 := by omega
    rw [Int.natCast_mul] at this
    omega
  have hcs : ∀ q : Array Value, (n * s ≠ 0 → q = zs.toArray) → (Array.range (n * s)).map (fun j => q[j % q.size]!) = ((List.range (n * s)).map fun i => zs.toArray[i % zs.toArray.size]!).toArray := by
    intro q hq
    apply Array.ext'
    by_cases h0 : n * s = 0
    · simp [h0]
    · rw [hq h0]; simp
  have hrun : (Instr.makeSlice t (.int .i64 0) (.int .i64 (n : Int))).run P w = .ok (.slice (some ⟨w.heap.size, 0, none⟩) 0 n) (w.alloc (.cells ((List.range (n * s)).map fun i => zs.toArray[i % zs.toArray.size]!).toArray E)) := by
    unfold Instr.makeSlice
    simp only [Sem.run_bind, hu, Result.andThen_ok, asInt, asIntOf, Sem.run_pure, hi, hby, hw, hw0]
    have h1 : (decide ((n : Int) < 0) || decide ((bytes : Int) * (n : Int) > 2 ^ 48) || decide ((0 : Int) < 0) || decide ((0 : Int) > (n : Int))) = false := by
      simp only [htoo, Bool.false_or, Bool.or_eq_false_iff, decide_eq_false_iff_not]; omega
    have tail : ∀ w1 : World, w1 = w → (do
        let m := (n : Int).toNat * (← sizeOf E)
        let zero ← if m = 0 then pure #[] else do pure (← zeroValue E).cells
        let a ← newRow E ((Array.range m).map (zero[· % zero.size]!))
        pure (Value.slice (some a) (0 : Int).toNat (n : Int).toNat) : Sem Value).run P w1 = .ok (.slice (some ⟨w.heap.size, 0, none⟩) 0 n) (w.alloc (.cells ((List.range (n * s)).map fun i => zs.toArray[i % zs.toArray.size]!).toArray E)) := by
      intro w1 hw1
      subst hw1
      simp only [Sem.run_bind, hs, Result.andThen_ok, Int.toNat_natCast]
      by_cases h0 : n * s = 0
      · simp only [h0, if_true, Sem.run_bind, Sem.run_pure, Result.andThen_ok]
        have := hcs #[] (fun h => absurd h0 h)
        rw [h0] at this
        rw [this]
        simp [newRow, newObj, Sem.run]
      · simp only [h0, if_false, Sem.run_bind, hz, Result.andThen_ok, Sem.run_pure, hzs]
        rw [hcs zs.toArray (fun _ => rfl)]
        simp [newRow, newObj, Sem.run]
    simp only [h1, Bool.false_eq_true, if_false]
    unfold askRoom
    split
    · exact tail w rfl
    · exact tail w rfl
  refine .inl ⟨.slice (some ⟨w.heap.size, 0, none⟩) 0 n, w.alloc (.cells ((List.range (n * s)).map fun i => zs.toArray[i % zs.toArray.size]!).toArray E), F, _, ?_, FLe.refl F, ?_, k (.slice (some ⟨w.heap.size, 0, none⟩) 0 n) ⟨_, rfl⟩⟩
  · simp [execOp, hl, hc, hrun]
  · refine (Sub.mkSl (A := []) (cs := []) (spare := (List.range (n * s)).map fun i => zs.toArray[i % zs.toArray.size]!) (by simp) (Nat.zero_le _) (by simp)).holds ?_
    exact H.new _

theorem XOp.capNil {x : Operand} {t e : TypeId} (hu : ∀ w, (underlying t).run P w = .ok (.slice e) w) (hx : evO ρ x = .slice none 0 0) (k : K (.int .i64 0) F L) :
    XOp P ⟨d, .call { callee := .builtin .cap, args := #[x], argTypes := #[t] }, ty, pos, af, g⟩ ρ F L K :=
  XOp.value (fun w H => by
    simp [execOp, resolve, invoke, builtin, hx, Builtin.cap_, hu, goInt]) k
theorem XOp.sliceNil {x h : Operand} {t e : TypeId} {s : Nat} (hu : ∀ w, (underlying t).run P w = .ok (.slice e) w) (hs : ∀ w, (sizeOf e).run P w = .ok s w) (hx : evO ρ x = .slice none 0 0) (hh : OptIs ρ (some h) 0 0) (k : K (.slice none 0 0) F L) :
    XOp P ⟨d, .slice t x none (some h) none, ty, pos, af, g⟩ ρ F L K := by
  intro w H
  have hrun := slice_run (P := P) (w := w) (base := none) (n := 0) (cap := 0) (lo := none) (l := 0) hu hs rfl hh (Nat.le_refl _) (Nat.le_refl _)
  refine .inl ⟨.slice none 0 0, w, F, L, ?_, FLe.refl F, H, k⟩
  simp only [Option.map_none, Option.map_some] at hrun
  simp [execOp, hx, hrun]
end
end Go.Proofs.Ytiaanelimbmniaa.X
