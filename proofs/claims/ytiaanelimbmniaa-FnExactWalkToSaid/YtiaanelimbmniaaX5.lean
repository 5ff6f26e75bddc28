/-
  append and slice expressions.
-/
import Derived.Test.YtiaanelimbmniaaX4
set_option linter.unusedSimpArgs false
set_option linter.unusedVariables false
namespace Go.Proofs.Ytiaanelimbmniaa.X
open Go

theorem info_of_run {P : Program} {t : TypeId} {i : TypeInfo} (h : ∀ w, (typeInfo t).run P w = .ok i w) : P.info? t = some i := by
  have := h default
  unfold typeInfo at this
  simp only [Sem.run_bind, program, Sem.run, Result.andThen] at this
  cases hi : P.info? t with
  | none => rw [hi] at this; simp [stuck] at this
  | some j => rw [hi] at this; simp at this; rw [this]
theorem underlying_of_run {P : Program} {t : TypeId} {d : TypeDesc} (h : ∀ w, (underlying t).run P w = .ok d w) : P.underlying t = some d := by
  have := h default
  unfold underlying at this
  simp only [Sem.run_bind, program, Sem.run, Result.andThen] at this
  cases hi : P.underlying t with
  | none => rw [hi] at this; simp [stuck] at this
  | some j => rw [hi] at this; simp at this; rw [this]

theorem grownCap_le' (w : World) (need old : Nat) (e : TypeId) : need ≤ grownCap w need old e := grownCap_ge w need old e

/-- append's run, at an owned slice, from whatever can be read. -/
theorem append_own {P : Program} {w : World} {t ty E : TypeId} {i : TypeInfo} {z : Value} {F : FH} {A B : List HP} {s n m bytes : Nat} {v v2 : Value} {cs news : List Value}
    (ht : P.underlying t = some (.slice E)) (hi : P.info? E = some i) (hz : i.zero = some z) (hs : i.size = s) (hby : i.bytes = bytes) (hzs : z.cells.size = s)
    (H : Holds F (A ++ slH E s v n cs :: B) w) (hv2 : ∃ base cap, v2 = .slice base m cap ∧ m ≤ cap ∧ (base = none → cap = 0))
    (hl : news.length = m * s) (hnews : ∀ j u, news[j]? = some u → w.cell? (elemA v2 j) = some u) (h1 : ∀ u ∈ news, u.oneCell' = true) (h63 : n + m ≤ maxLen) (hbytes : (n + m) * bytes ≤ 140737488355328) :
    ∃ v' w', (Builtin.append_ #[t, t] ty #[v, v2]).run P w = .ok v' w' ∧ Holds F (A ++ slH E s v' (n + m) (cs ++ news) :: B) w' ∧ IsSl v' ∧ (n + m ≠ 0 → isNil v' = false) ∧ (m = 0 → v' = v) := by
  subst hs hby
  have hsmall : n + m ≤ 9223372036854775807 := by simp only [maxLen] at h63; omega
  obtain ⟨base, cap2, rfl, hc2, hn2⟩ := hv2
  -- a new block
  have fresh : ∀ (old : Nat), Holds F (A ++ B) w → cs.length = n * i.size →
      Holds F (A ++ slH E i.size (.slice (some ⟨w.heap.size, 0, none⟩) (n + m) (grownCap w (n + m) old E)) (n + m) (cs ++ news) :: B)
        (w.drew.alloc (.cells (cs.toArray ++ news.toArray ++ Builtin.zeroCells z.cells (grownCap w (n + m) old E - (n + m))) E)) := by
    intro old H0 hlen
    have hge := grownCap_ge w (n + m) old E
    have e : cs.toArray ++ news.toArray ++ Builtin.zeroCells z.cells (grownCap w (n + m) old E - (n + m)) =
        ((cs ++ news) ++ (Builtin.zeroCells z.cells (grownCap w (n + m) old E - (n + m))).toList).toArray := by
      apply Array.ext'; simp
    rw [e]
    have H1 := (show Holds F (A ++ B) w.drew from H0.drew).new (.cells ((cs ++ news) ++ (Builtin.zeroCells z.cells (grownCap w (n + m) old E - (n + m))).toList).toArray E)
    have hlen2 : (cs ++ news).length = (n + m) * i.size := by rw [List.length_append, hlen, hl, Nat.add_mul]
    exact (Sub.mkSl (spare := (Builtin.zeroCells z.cells (grownCap w (n + m) old E - (n + m))).toList) hlen2 hge (by simp [size_zeroCells, hzs])).holds (Sub.back.holds H1)
  by_cases hm : m = 0
  · subst hm
    have hn : news = [] := List.eq_nil_of_length_eq_zero (by simpa using hl)
    subst hn
    have hrun : ∀ (b : Option Addr) (k c : Nat), k ≤ c → (∀ a, b = some a → (storeCells (a.add (k * i.size)) []).run P w = .ok () w) → (Builtin.append_ #[t, t] ty #[.slice b k c, .slice base 0 cap2]).run P w = .ok (.slice b k c) w := by
      intro b k c hk _
      have hf : (Builtin.firstCells i.size 0 (.slice base 0 cap2)).run P w = .ok #[] w := by cases base <;> simp [Builtin.firstCells, loadCells, loadCellsFrom]
      cases b <;> simp [Builtin.append_, run_underlying ht, sizeOf, typeInfo, hi, Builtin.lenOf, hk, hf, storeCells]
    rcases H.getSl with ⟨hlen, ⟨b0, rfl, rfl, H0⟩ | ⟨b, cap, spare, rfl, hc, hsp, H1⟩⟩
    · exact ⟨_, w, hrun b0 0 0 (Nat.le_refl _) (fun _ _ => rfl), by simpa using H, ⟨_, _, _, rfl⟩, by simp, fun _ => rfl⟩
    · exact ⟨_, w, hrun _ n cap hc (fun _ _ => rfl), by simpa using H, ⟨_, _, _, rfl⟩, by simp [isNil], fun _ => rfl⟩
  · cases base with
    | none => have := hn2 rfl; omega
    | some a =>
      have hnews' : ∀ j u, news[j]? = some u → w.cell? (a.add j) = some u := hnews
      rcases H.getSl with ⟨hlen, ⟨b0, rfl, rfl, H0⟩ | ⟨b, cap, spare, rfl, hc, hsp, H1⟩⟩
      · have hcs : cs = [] := List.eq_nil_of_length_eq_zero (by simpa using hlen)
        subst hcs
        have hfr := fresh 0 H0 (by simp)
        simp only [Nat.zero_add, List.nil_append] at hfr ⊢
        have hr : (Builtin.append_ #[t, t] ty #[.slice b0 0 0, .slice (some a) m cap2]).run P w =
            .ok (.slice (some ⟨w.heap.size, 0, none⟩) m (grownCap w m 0 E)) (w.drew.alloc (.cells (#[] ++ news.toArray ++ Builtin.zeroCells z.cells (grownCap w m 0 E - m)) E)) := by
          have hm' : ¬ (m ≤ 0) := by omega
          have h63' : ¬ (9223372036854775807 < (m : Int)) := by omega
          have h48' : ¬ (281474976710656 < Builtin.nextslicecap m 0 * i.bytes) := by
            have := growslice_fits (need := m) (old := 0) (bytes := i.bytes) (by omega) (by simpa using hbytes); omega
          have hf := run_firstCells_some (P := P) w.drew i.size m a m cap2 news hl (by simpa using hnews')
          have hf0 : (Builtin.firstCells i.size 0 (.slice b0 0 0)).run P w.drew = .ok #[] w.drew := by cases b0 <;> simp [Builtin.firstCells, loadCells, loadCellsFrom]
          simp [Builtin.append_, run_underlying ht, sizeOf, typeInfo, zeroValue, hi, hz, Builtin.lenOf, hm, h63', h48', Question.forced, hf, hf0, newRow, grownCap]
        exact ⟨_, _, hr, by simpa using hfr, ⟨_, _, _, rfl⟩, by simp [isNil], fun h => absurd h hm⟩
      · by_cases hroom : n + m ≤ cap
        · have hg := H1.getCells
          have hfit : n * i.size + news.length ≤ (cs ++ spare).toArray.size := by
            simp only [List.size_toArray, List.length_append, hlen, hsp, hl]
            rw [← Nat.add_mul]
            have : m * i.size ≤ (cap - n) * i.size := Nat.mul_le_mul_right _ (by omega)
            rw [← Nat.add_mul] at *
            have h3 : (n + m) * i.size ≤ (n + (cap - n)) * i.size := Nat.mul_le_mul_right _ (by omega)
            exact h3
          have hr := run_append_room (P := P) w t ty E i ht hi b n cap (cs ++ spare).toArray hg a m cap2 news hl hnews' h1 hroom hfit
          have e : ((cs ++ spare).toArray.toList.take (n * i.size) ++ news ++ (cs ++ spare).toArray.toList.drop (n * i.size + news.length)) = (cs ++ news) ++ spare.drop news.length := by
            simp only [← hlen]
            rw [List.take_left, Nat.add_comm, ← List.drop_drop]
            rw [show (cs ++ spare).drop news.length = (cs ++ spare).drop news.length from rfl]
            rw [List.drop_drop, Nat.add_comm, ← List.drop_drop, List.drop_left]
          rw [e] at hr
          refine ⟨_, _, hr, ?_, ⟨_, _, _, rfl⟩, by simp [isNil], fun h => absurd h hm⟩
          have H2 : Holds F (A ++ cellsH b ((cs ++ news) ++ spare.drop news.length) E :: B) (w.setRow b ((cs ++ news) ++ spare.drop news.length).toArray) :=
            Holds.put (o := .cells (cs ++ spare).toArray E (0, 0)) (o' := .cells _ E (0, 0)) H1 rfl rfl rfl (setRow_heap w b _ _ E _ hg) fun k hk => setRow_other w b k _ hk
          refine (Sub.mkSl (by rw [List.length_append, hlen, hl, Nat.add_mul]) hroom ?_).holds H2
          rw [List.length_drop, hsp, hl, ← Nat.sub_mul]
          congr 1
          omega
        · have holds : ∀ j u, cs[j]? = some u → w.cell? ((⟨b, 0, none⟩ : Addr).add j) = some u := by
            intro j u hu
            rw [add_lit, Nat.zero_add]
            exact cell_of_heap H1.getCells (by rw [List.getElem?_toArray, List.getElem?_append_left (List.getElem?_eq_some_iff.1 hu).1]; exact hu)
          have hr := run_append_grow (P := P) w t ty E i z ht hi hz ⟨b, 0, none⟩ n cap cs hlen holds a m cap2 news hl hnews' (by omega) (by omega) (growslice_fits (by omega) hbytes)
          exact ⟨_, _, hr, fresh cap ((Sub.trans Sub.front (Sub.drop (Sub.refl _))).holds H1) hlen, ⟨_, _, _, rfl⟩, by simp [isNil], fun h => absurd h hm⟩

section
variable {P : Program} {ρ : Env} {F : FH} {L : List HP} {K : Post} {d : Option Tmp} {ty : TypeId} {pos : String} {af : Array Edge} {g : Option (Nat × Bool)}

theorem XOp.append {x y : Operand} {t E : TypeId} {i : TypeInfo} {z : Value} {s n m bytes : Nat} {v v2 : Value} {cs : List Value} (A B : List HP) (news : List Value)
    (ht : ∀ w, (underlying t).run P w = .ok (.slice E) w) (hi : ∀ w, (typeInfo E).run P w = .ok i w) (hz : i.zero = some z) (hs : i.size = s) (hby : i.bytes = bytes) (hzs : z.cells.size = s)
    (hx : evO ρ x = v) (hy : evO ρ y = v2) (hL : L = A ++ slH E s v n cs :: B) (hv2 : SlV F L v2 m) (hl : news.length = m * s) (hnews : ∀ j u, news[j]? = some u → Rd F L (elemA v2 j) u)
    (h1 : ∀ u ∈ news, u.oneCell' = true) (h63 : n + m ≤ 1152921504606846976) (hbytes : (n + m) * bytes ≤ 140737488355328)
    (k : ∀ v', IsSl v' → (n + m ≠ 0 → isNil v' = false) → (m = 0 → v' = v) → K v' F (A ++ slH E s v' (n + m) (cs ++ news) :: B)) :
    XOp P ⟨d, .call { callee := .builtin .append, args := #[x, y], argTypes := #[t, t] }, ty, pos, af, g⟩ ρ F L K := by
  intro w H
  have hr2 := hv2 w H
  have hnw : ∀ j u, news[j]? = some u → w.cell? (elemA v2 j) = some u := fun j u hu => hnews j u hu w H
  subst hL
  obtain ⟨v', w', hr, H', a, b, c⟩ := append_own (ty := ty) (underlying_of_run ht) (info_of_run hi) hz hs hby hzs H hr2 hl hnw h1 (by simp only [maxLen]; omega) hbytes
  refine .inl ⟨v', w', F, _, ?_, FLe.refl F, H', k v' a b c⟩
  simp [execOp, resolve, invoke, builtin, hx, hy, hr]
end

/-- What a literal slice's chunk gives to read. -/
theorem Rd.lit {F : FH} {L : List HP} {E s m : Nat} {v2 : Value} {news : List Value} (A : List HP) {B : List HP} (hL : L = A ++ slH E s v2 m news :: B) : ∀ j u, news[j]? = some u → Rd F L (elemA v2 j) u :=
  fun j u hu => Rd.sl A hL hu

end Go.Proofs.Ytiaanelimbmniaa.X
