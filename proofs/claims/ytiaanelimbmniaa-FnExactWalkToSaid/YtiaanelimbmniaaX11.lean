/-
  Stores of many cells into an owned slice.
-/
import Derived.Test.YtiaanelimbmniaaX10
set_option linter.unusedSimpArgs false
set_option linter.unusedVariables false
namespace Go.Proofs.Ytiaanelimbmniaa.X
open Go

theorem splice_get {α : Type} {cs es : List α} {a q : Nat} (ha : a + es.length ≤ cs.length) : (cs.take a ++ es ++ cs.drop (a + es.length))[q]? = if q < a then cs[q]? else if q < a + es.length then es[q - a]? else cs[q]? := by
  have hl : (cs.take a).length = a := by rw [List.length_take]; omega
  by_cases h1 : q < a
  · rw [if_pos h1, List.append_assoc, List.getElem?_append_left (by omega), List.getElem?_take, if_pos h1]
  · rw [if_neg h1, List.append_assoc, List.getElem?_append_right (by omega), hl]
    by_cases h2 : q < a + es.length
    · rw [if_pos h2, List.getElem?_append_left (by omega)]
    · rw [if_neg h2, List.getElem?_append_right (by omega), List.getElem?_drop]
      congr 1; omega
theorem CO.setN {α : Type} {s : Nat} {R : FH → List Value → α → Prop} {d : α} {F : FH} {cs es : List Value} {xs : List α} {x : α} (h : CO s R d F cs xs) {j : Nat} (hj : j < xs.length) (hl : es.length = s) (hR : R F es x) :
    CO s R d F (cs.take (j * s) ++ es ++ cs.drop (j * s + es.length)) (xs.set j x) := by
  have hb : j * s + s ≤ cs.length := by
    rw [h.1]
    have : (j + 1) * s ≤ xs.length * s := Nat.mul_le_mul_right s hj
    rwa [Nat.succ_mul] at this
  refine ⟨?_, fun i hi => ?_⟩
  · rw [List.length_set, ← h.1]; simp; omega
  · rw [List.length_set] at hi
    have key : ∀ q, q < s → (cs.take (j * s) ++ es ++ cs.drop (j * s + es.length))[i * s + q]? = if i = j then es[q]? else cs[i * s + q]? := by
      intro q hq
      rw [splice_get (by omega)]
      rcases Nat.lt_trichotomy i j with h1 | h1 | h1
      · have : (i + 1) * s ≤ j * s := Nat.mul_le_mul_right s h1
        rw [Nat.succ_mul] at this
        rw [if_pos (by omega), if_neg (by omega)]
      · subst h1
        rw [if_neg (by omega), if_pos (by omega), if_pos rfl]
        congr 1; omega
      · have : (j + 1) * s ≤ i * s := Nat.mul_le_mul_right s h1
        rw [Nat.succ_mul] at this
        rw [if_neg (by omega), if_neg (by omega), if_neg (by omega)]
    have ext : ∀ gs : List Value, gs.length = s → (∀ q, q < s → (cs.take (j * s) ++ es ++ cs.drop (j * s + es.length))[i * s + q]? = gs[q]?) → ((cs.take (j * s) ++ es ++ cs.drop (j * s + es.length)).drop (i * s)).take s = gs := by
      intro gs hg hq
      apply List.ext_getElem?
      intro q
      rw [List.getElem?_take]
      split
      · rename_i h1
        rw [List.getElem?_drop]; exact hq q h1
      · rw [List.getElem?_eq_none (by omega)]
    by_cases e : i = j
    · refine ⟨es, hl, ext es hl fun q hq => by rw [key q hq, if_pos e], ?_⟩
      subst e
      simpa [List.getD_eq_getElem?_getD, hi] using hR
    · obtain ⟨gs, g1, g2, g3⟩ := h.2 i hi
      refine ⟨gs, g1, ext gs g1 fun q hq => ?_, ?_⟩
      · rw [key q hq, if_neg e, ← g2, List.getElem?_take, if_pos hq, List.getElem?_drop]
      · rw [List.getD_eq_getElem?_getD, List.getElem?_set_ne (fun h => e h.symm), ← List.getD_eq_getElem?_getD]; exact g3
section
variable {P : Program} {ρ : Env} {F : FH} {L : List HP} {K : Post} {d : Option Tmp} {ty : TypeId} {pos : String} {af : Array Edge} {g : Option (Nat × Bool)}
theorem XOp.storeSN {x y : Operand} {t : TypeId} {s n i m : Nat} {vs : List Value} {v : Value} {E : TypeId} {cs : List Value} (A B : List HP) (hs : ∀ w, (sizeOf t).run P w = .ok m w) (hm : vs.length = m) (hx : evO ρ x = .pointer (some (elemA v i))) (hy : evO ρ y = .agg vs.toArray) (hu : ∀ u ∈ vs, u.oneCell' = true)
    (hL : L = A ++ slH E s v n cs :: B) (ho : i + vs.length ≤ cs.length) (h0 : 0 < vs.length) (k : K undef F (A ++ slH E s v n (cs.take i ++ vs ++ cs.drop (i + vs.length)) :: B)) : XOp P ⟨d, .store t x y, ty, pos, af, g⟩ ρ F L K := by
  subst hL hm
  intro w H
  rcases H.getSl with ⟨hlen, ⟨base, rfl, rfl, _⟩ | ⟨b, cap, spare, rfl, hc, hsp, H1⟩⟩
  · have : cs = [] := List.eq_nil_of_length_eq_zero (by simpa using hlen)
    subst this; simp only [List.length_nil] at ho; omega
  · obtain ⟨w', hrun, H'⟩ := storeCells_one (P := P) (vs := vs) (o := i) H1 (by simp; omega) hu
    refine .inr (.inl ⟨w', F, _, ?_, FLe.refl F, ?_, k⟩)
    · simp [execOp, hx, hy, elemA, add_lit, Instr.storeAt, Instr.sureAddr, storeVar, hs, Value.cells, hrun]
    · have e : (cs ++ spare).take i ++ vs ++ (cs ++ spare).drop (i + vs.length) = (cs.take i ++ vs ++ cs.drop (i + vs.length)) ++ spare := by
        rw [List.take_append_of_le_length (by omega), List.drop_append_of_le_length (by omega)]
        simp [List.append_assoc]
      rw [e] at H'
      exact (Sub.mkSl (by simp; omega) hc hsp).holds H'
end
theorem PairsC.nils {F : FH} (n : Nat) : PairsC F ((List.range (n * 2)).map fun i => [Value.slice none 0 0, Value.slice none 0 0].toArray[i % [Value.slice none 0 0, Value.slice none 0 0].toArray.size]!) (List.replicate n ([], [])) := by
  have e : ((List.range (n * 2)).map fun i => [Value.slice none 0 0, Value.slice none 0 0].toArray[i % [Value.slice none 0 0, Value.slice none 0 0].toArray.size]!) = List.replicate (n * 2) (Value.slice none 0 0) := by
    apply List.ext_getElem
    · simp
    · intro i h1 h2
      simp only [List.getElem_map, List.getElem_range, List.getElem_replicate]
      have : i % 2 = 0 ∨ i % 2 = 1 := by omega
      rcases this with h | h <;> simp [h]
  rw [e]
  refine ⟨by simp, fun i hi => ?_⟩
  rw [List.length_replicate] at hi
  refine ⟨[.slice none 0 0, .slice none 0 0], rfl, ?_, _, _, rfl, ?_, ?_⟩
  · rw [List.drop_replicate, List.take_replicate, Nat.min_eq_left (by omega)]; rfl
  · have : (List.replicate n (([], []) : List Int × List Int)).getD i ([], []) = ([], []) := by simp [List.getD_eq_getElem?_getD, List.getElem?_replicate, hi]
    rw [this]; exact IntsF.nilV
  · have : (List.replicate n (([], []) : List Int × List Int)).getD i ([], []) = ([], []) := by simp [List.getD_eq_getElem?_getD, List.getElem?_replicate, hi]
    rw [this]; exact IntsF.nilV
theorem PairsC.set {F : FH} {cs : List Value} {xs : List (List Int × List Int)} {a b : Value} {x y : List Int} (h : PairsC F cs xs) {j : Nat} (hj : j < xs.length) (ha : IntsF F a x) (hb : IntsF F b y) : PairsC F (cs.take (j * 2) ++ [a, b] ++ cs.drop (j * 2 + 2)) (xs.set j (x, y)) := CO.setN h hj rfl ⟨a, b, rfl, ha, hb⟩
end Go.Proofs.Ytiaanelimbmniaa.X
