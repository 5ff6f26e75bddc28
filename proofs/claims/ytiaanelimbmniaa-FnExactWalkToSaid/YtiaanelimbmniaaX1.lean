/-
  A small separation logic over the kit's 'Code.wp': a frozen part of the heap (FH), a list of owned chunks (HP), and rules for code.
  Nothing here speaks of one program: the program is a variable.
-/
import Derived.Orders
import Derived.Tactics
import Derived.Below
import Derived.Laws.CopyRow
import Derived.Laws.AppendOwn
set_option linter.unusedSimpArgs false
set_option linter.unusedVariables false
namespace Go.Proofs.Ytiaanelimbmniaa.X
open Go

/- 1. THE HEAP -/

structure FH where
  cells : Nat → Option Obj
  os : Os
  output : Array (Nat × ByteArray)
  tape : Nat → Question → Nat

structure FLe (F F' : FH) : Prop where
  cells : ∀ b o, F.cells b = some o → F'.cells b = some o
  os : F'.os = F.os
  output : F'.output = F.output
  tape : F'.tape = F.tape

instance : LE FH := ⟨FLe⟩

theorem FLe.refl (F : FH) : F ≤ F := ⟨fun _ _ h => h, rfl, rfl, rfl⟩
theorem FLe.trans {A B C : FH} (h : A ≤ B) (k : B ≤ C) : A ≤ C :=
  ⟨fun b o e => k.cells b o (h.cells b o e), k.os.trans h.os, k.output.trans h.output, k.tape.trans h.tape⟩

abbrev OH := List (Nat × Obj)
abbrev HP := OH → Prop

def star : List HP → OH → Prop
  | [], l => l = []
  | h :: L, l => ∃ a b, h a ∧ star L b ∧ l = a ++ b

theorem star_append {A B : List HP} : ∀ {l : OH}, star (A ++ B) l ↔ ∃ a b, star A a ∧ star B b ∧ l = a ++ b := by
  induction A with
  | nil => intro l; simp [star]
  | cons h A ih =>
    intro l
    simp only [List.cons_append, star]
    constructor
    · rintro ⟨a, b, ha, hb, rfl⟩
      obtain ⟨c, d, hc, hd, rfl⟩ := ih.1 hb
      exact ⟨a ++ c, d, ⟨a, c, ha, hc, rfl⟩, hd, by simp⟩
    · rintro ⟨_, d, ⟨a, c, ha, hc, rfl⟩, hd, rfl⟩
      exact ⟨a, c ++ d, ha, ih.2 ⟨c, d, hc, hd, rfl⟩, by simp⟩

theorem star_mid {A B : List HP} {h : HP} {l : OH} : star (A ++ h :: B) l ↔ ∃ a m b, star A a ∧ h m ∧ star B b ∧ l = a ++ (m ++ b) := by
  rw [star_append]
  constructor
  · rintro ⟨a, _, ha, ⟨m, b, hm, hb, rfl⟩, rfl⟩
    exact ⟨a, m, b, ha, hm, hb, rfl⟩
  · rintro ⟨a, m, b, ha, hm, hb, rfl⟩
    exact ⟨a, _, ha, ⟨m, b, hm, hb, rfl⟩, rfl⟩

structure Holds (F : FH) (L : List HP) (w : World) : Prop where
  os : w.os = F.os
  output : w.output = F.output
  tape : w.tape = F.tape
  cells : ∀ b o, F.cells b = some o → w.heap[b]? = some o
  own : ∃ l, star L l ∧ (l.map Prod.fst).Nodup ∧ ∀ p ∈ l, F.cells p.1 = none ∧ w.heap[p.1]? = some p.2

/-- What L owns, L' owns, but for what is dropped. -/
def Sub (L L' : List HP) : Prop := ∀ l, star L l → ∃ l' m, star L' l' ∧ (l' ++ m).Perm l

theorem Sub.refl (L : List HP) : Sub L L := fun l h => ⟨l, [], h, by simp⟩
theorem Sub.trans {A B C : List HP} (h : Sub A B) (k : Sub B C) : Sub A C := fun l hl => by
  obtain ⟨l1, m1, h1, p1⟩ := h l hl
  obtain ⟨l2, m2, h2, p2⟩ := k l1 h1
  exact ⟨l2, m2 ++ m1, h2, by rw [← List.append_assoc]; exact (p2.append_right m1).trans p1⟩
theorem Sub.drop {h : HP} {L L' : List HP} (k : Sub L L') : Sub (h :: L) L' := by
  rintro _ ⟨a, b, _, hb, rfl⟩
  obtain ⟨l', m, h1, p⟩ := k b hb
  exact ⟨l', m ++ a, h1, by rw [← List.append_assoc]; exact (p.append_right a).trans List.perm_append_comm⟩
theorem Sub.keep {h h' : HP} {L L' : List HP} (hh : ∀ l, h l → h' l) (k : Sub L L') : Sub (h :: L) (h' :: L') := by
  rintro _ ⟨a, b, ha, hb, rfl⟩
  obtain ⟨l', m, h1, p⟩ := k b hb
  exact ⟨a ++ l', m, ⟨a, l', hh a ha, h1, rfl⟩, by rw [List.append_assoc]; exact p.append_left a⟩
theorem Sub.cons {h : HP} {L L' : List HP} (k : Sub L L') : Sub (h :: L) (h :: L') := Sub.keep (fun _ h => h) k
theorem star_perm {L L' : List HP} (p : L.Perm L') : ∀ l, star L l → ∃ l', star L' l' ∧ l'.Perm l := by
  induction p with
  | nil => exact fun l h => ⟨l, h, .refl _⟩
  | cons x _ ih =>
    rintro _ ⟨a, b, ha, hb, rfl⟩
    obtain ⟨b', hb', p⟩ := ih b hb
    exact ⟨a ++ b', ⟨a, b', ha, hb', rfl⟩, p.append_left a⟩
  | swap x y L =>
    rintro _ ⟨a, _, ha, ⟨b, c, hb, hc, rfl⟩, rfl⟩
    exact ⟨b ++ (a ++ c), ⟨b, _, hb, ⟨a, c, ha, hc, rfl⟩, rfl⟩, by
      rw [← List.append_assoc, ← List.append_assoc]; exact List.perm_append_comm.append_right c⟩
  | trans _ _ h1 h2 =>
    intro l h
    obtain ⟨l1, k1, p1⟩ := h1 l h
    obtain ⟨l2, k2, p2⟩ := h2 l1 k1
    exact ⟨l2, k2, p2.trans p1⟩
theorem Sub.perm {L L' : List HP} (p : L.Perm L') : Sub L L' := fun l h => by
  obtain ⟨l', h', p'⟩ := star_perm p l h
  exact ⟨l', [], h', by simpa using p'⟩
/-- Bring what stands behind A to the front. -/
theorem Sub.front {A B : List HP} {h : HP} : Sub (A ++ h :: B) (h :: (A ++ B)) := Sub.perm List.perm_middle
theorem Sub.back {A B : List HP} {h : HP} : Sub (h :: (A ++ B)) (A ++ h :: B) := Sub.perm List.perm_middle.symm
theorem Sub.mid {A B : List HP} {h h' : HP} (hh : ∀ l, h l → h' l) : Sub (A ++ h :: B) (A ++ h' :: B) := by
  intro l hl
  obtain ⟨a, m, b, ha, hm, hb, rfl⟩ := star_mid.1 hl
  exact ⟨_, [], star_mid.2 ⟨a, m, b, ha, hh m hm, hb, rfl⟩, by simp⟩
theorem Sub.append {A A' B B' : List HP} (h : Sub A A') (k : Sub B B') : Sub (A ++ B) (A' ++ B') := by
  intro l hl
  obtain ⟨a, b, ha, hb, rfl⟩ := star_append.1 hl
  obtain ⟨a', m, h1, p1⟩ := h a ha
  obtain ⟨b', n, h2, p2⟩ := k b hb
  refine ⟨a' ++ b', m ++ n, star_append.2 ⟨a', b', h1, h2, rfl⟩, ?_⟩
  have e : (a' ++ b' ++ (m ++ n)).Perm ((a' ++ m) ++ (b' ++ n)) := by
    simp only [List.append_assoc]
    refine List.Perm.append_left a' ?_
    rw [← List.append_assoc, ← List.append_assoc]
    exact List.perm_append_comm.append_right n
  exact e.trans (p1.append p2)

theorem Sub.holds {F : FH} {L L' : List HP} {w : World} (s : Sub L L') (h : Holds F L w) : Holds F L' w := by
  obtain ⟨h1, h2, h3, h4, l, hl, nd, hp⟩ := h
  obtain ⟨l', m, hl', p⟩ := s l hl
  refine ⟨h1, h2, h3, h4, l', hl', ?_, fun q hq => hp q (p.mem_iff.1 (List.mem_append_left m hq))⟩
  have := (p.map Prod.fst).nodup_iff.2 nd
  rw [List.map_append] at this
  exact (List.nodup_append.1 this).1

theorem Holds.drew {F : FH} {L : List HP} {w : World} (h : Holds F L w) : Holds F L { w with drawn := w.drawn + 1 } :=
  ⟨h.os, h.output, h.tape, h.cells, h.own⟩

theorem Holds.new {F : FH} {L : List HP} {w : World} (h : Holds F L w) (o : Obj) : Holds F ((fun l => l = [(w.heap.size, o)]) :: L) (w.alloc o) := by
  obtain ⟨h1, h2, h3, h4, l, hl, nd, hp⟩ := h
  have old : ∀ (b : Nat) (x : Obj), w.heap[b]? = some x → (w.alloc o).heap[b]? = some x := fun b x hx => by
    rw [Go.RowKit.Below.heap_alloc _ _ _ (by rcases Nat.lt_or_ge b w.heap.size with h' | h'; exact h'; simp [Array.getElem?_eq_none h'] at hx)]; exact hx
  refine ⟨h1, h2, h3, fun b x hb => old b x (h4 b x hb), [(w.heap.size, o)] ++ l, ⟨_, l, rfl, hl, rfl⟩, ?_, ?_⟩
  · simp only [List.map_append, List.map_cons, List.map_nil, List.singleton_append, List.nodup_cons]
    refine ⟨fun hm => ?_, nd⟩
    obtain ⟨p, hpm, hpe⟩ := List.mem_map.1 hm
    have := (hp p hpm).2
    rw [hpe, Array.getElem?_eq_none (Nat.le_refl _)] at this
    cases this
  · intro p hpm
    rcases List.mem_append.1 hpm with h' | h'
    · obtain rfl := List.mem_singleton.1 h'
      refine ⟨?_, by show (w.heap.push o)[w.heap.size]? = some o; simp⟩
      cases hc : F.cells w.heap.size with
      | none => rfl
      | some x => have := h4 _ _ hc; rw [Array.getElem?_eq_none (Nat.le_refl _)] at this; cases this
    · exact ⟨(hp p h').1, old _ _ (hp p h').2⟩

/-- One owned block, as it lies. -/
def objH (b : Nat) (o : Obj) : HP := fun l => l = [(b, o)]

theorem Holds.get {F : FH} {A B : List HP} {b : Nat} {o : Obj} {w : World} (h : Holds F (A ++ objH b o :: B) w) : w.heap[b]? = some o := by
  obtain ⟨_, _, _, _, l, hl, _, hp⟩ := h
  obtain ⟨a, m, c, _, hm, _, rfl⟩ := star_mid.1 hl
  obtain rfl : m = [(b, o)] := hm
  exact (hp (b, o) (by simp)).2

/-- A world that differs from w in block b alone. -/
theorem Holds.put {F : FH} {A B : List HP} {b : Nat} {o o' : Obj} {w w' : World} (h : Holds F (A ++ objH b o :: B) w)
    (hos : w'.os = w.os) (hout : w'.output = w.output) (htape : w'.tape = w.tape)
    (hb : w'.heap[b]? = some o') (hne : ∀ k, k ≠ b → w'.heap[k]? = w.heap[k]?) : Holds F (A ++ objH b o' :: B) w' := by
  obtain ⟨h1, h2, h3, h4, l, hl, nd, hp⟩ := h
  obtain ⟨a, m, c, ha, hm, hc, rfl⟩ := star_mid.1 hl
  obtain rfl : m = [(b, o)] := hm
  have hF := (hp (b, o) (by simp)).1
  have nd' : ((a ++ ([(b, o)] ++ c)).map Prod.fst) = ((a ++ ([(b, o')] ++ c)).map Prod.fst) := by simp
  have hnb : ∀ p ∈ a ++ c, p.1 ≠ b := by
    intro p hpm e
    have n2 := nd
    simp only [List.map_append, List.map_cons, List.map_nil, List.singleton_append] at n2
    have n3 := (List.perm_middle.nodup_iff).1 n2
    rw [List.nodup_cons] at n3
    refine n3.1 ?_
    rw [← List.map_append]
    exact List.mem_map.2 ⟨p, hpm, e⟩
  refine ⟨hos.trans h1, hout.trans h2, htape.trans h3, fun k x hk => ?_, a ++ ([(b, o')] ++ c), star_mid.2 ⟨a, _, c, ha, rfl, hc, rfl⟩, nd' ▸ nd, ?_⟩
  · have hkb : k ≠ b := fun e => by rw [e, hF] at hk; cases hk
    rw [hne k hkb]
    exact h4 k x hk
  · intro p hpm
    rcases List.mem_append.1 hpm with h' | h'
    · have := hnb p (List.mem_append_left _ h')
      exact ⟨(hp p (List.mem_append_left _ h')).1, by rw [hne _ this]; exact (hp p (List.mem_append_left _ h')).2⟩
    · rcases List.mem_append.1 h' with h'' | h''
      · obtain rfl := List.mem_singleton.1 h''
        exact ⟨hF, hb⟩
      · have := hnb p (List.mem_append_right _ h'')
        have hq := hp p (List.mem_append_right _ (List.mem_append_right _ h''))
        exact ⟨hq.1, by rw [hne _ this]; exact hq.2⟩

/-- Of a greater frozen heap one may know less. -/
theorem Holds.forget {F F' : FH} {L : List HP} {w : World} (le : F ≤ F') (h : Holds F' L w) : Holds F L w := by
  obtain ⟨h1, h2, h3, h4, l, hl, nd, hp⟩ := h
  refine ⟨h1.trans le.os, h2.trans le.output, h3.trans le.tape, fun b o hb => h4 b o (le.cells b o hb), l, hl, nd, fun p hpm => ⟨?_, (hp p hpm).2⟩⟩
  cases hc : F.cells p.1 with
  | none => rfl
  | some o => have := le.cells _ _ hc; rw [(hp p hpm).1] at this; cases this

/-- h is part of what is frozen. -/
def Fz (h : HP) (F : FH) : Prop := ∃ l, h l ∧ ∀ p ∈ l, F.cells p.1 = some p.2
theorem Fz.mono {h : HP} {F F' : FH} (k : Fz h F) (le : F ≤ F') : Fz h F' := by
  obtain ⟨l, hl, hp⟩ := k
  exact ⟨l, hl, fun p hm => le.cells _ _ (hp p hm)⟩

def FH.with (F : FH) (l : OH) : FH := { F with cells := fun b => match l.find? (fun p => p.1 == b) with | some p => some p.2 | none => F.cells b }

theorem find_nodup : ∀ {l : OH}, (l.map Prod.fst).Nodup → ∀ p ∈ l, l.find? (fun q => q.1 == p.1) = some p
  | [], _, p, h => by cases h
  | q :: l, nd, p, h => by
    simp only [List.map_cons, List.nodup_cons] at nd
    rcases List.mem_cons.1 h with rfl | h
    · simp
    · have hne : (q.1 == p.1) = false := by
        simp only [beq_eq_false_iff_ne, ne_eq]
        intro e
        exact nd.1 (e ▸ List.mem_map.2 ⟨p, h, rfl⟩)
      simp only [List.find?_cons, hne]
      exact find_nodup nd.2 p h

theorem find_none {l : OH} {b : Nat} (h : ∀ p ∈ l, p.1 ≠ b) : l.find? (fun q => q.1 == b) = none := by
  rw [List.find?_eq_none]
  intro p hp
  simpa using h p hp

/-- An owned chunk is frozen, for good or for a while: what the caller gets back is 'back'. -/
theorem Holds.lend {F : FH} {A B : List HP} {h : HP} {w : World} (H : Holds F (A ++ h :: B) w) :
    ∃ F', F ≤ F' ∧ Fz h F' ∧ Holds F' (A ++ B) w ∧ ∀ F'' L' w', F' ≤ F'' → Holds F'' L' w' → Holds F (h :: L') w' := by
  obtain ⟨h1, h2, h3, h4, l, hl, nd, hp⟩ := H
  obtain ⟨a, m, c, ha, hm, hc, rfl⟩ := star_mid.1 hl
  have pm : (a ++ (m ++ c)).Perm (m ++ (a ++ c)) := by
    rw [← List.append_assoc, ← List.append_assoc]; exact List.perm_append_comm.append_right c
  have nd2 := (pm.map Prod.fst).nodup_iff.1 nd
  rw [List.map_append] at nd2
  obtain ⟨ndm, ndr, hdis⟩ := List.nodup_append.1 nd2
  have hin : ∀ p ∈ m, (F.with m).cells p.1 = some p.2 := fun p hpm => by simp [FH.with, find_nodup ndm p hpm]
  have hle : F ≤ F.with m := ⟨fun b o hb => by
    have : m.find? (fun q => q.1 == b) = none := find_none fun p hpm e => by
      have := (hp p (pm.mem_iff.2 (List.mem_append_left _ hpm))).1
      rw [e, hb] at this; cases this
    simp [FH.with, this, hb], rfl, rfl, rfl⟩
  refine ⟨F.with m, hle, ⟨m, hm, hin⟩, ⟨h1, h2, h3, fun b o hb => ?_, a ++ c, star_append.2 ⟨a, c, ha, hc, rfl⟩, ndr, fun p hpm => ?_⟩, ?_⟩
  · simp only [FH.with] at hb
    split at hb
    · rename_i p hf
      have e := List.find?_some hf
      have hpm := List.mem_of_find?_eq_some hf
      simp only [beq_iff_eq] at e
      cases hb
      rw [← e]
      exact (hp p (pm.mem_iff.2 (List.mem_append_left _ hpm))).2
    · exact h4 b o hb
  · have hq := hp p (pm.mem_iff.2 (List.mem_append_right _ hpm))
    refine ⟨?_, hq.2⟩
    have : m.find? (fun q => q.1 == p.1) = none := find_none fun q hqm e =>
      hdis q.1 (List.mem_map.2 ⟨q, hqm, rfl⟩) p.1 (List.mem_map.2 ⟨p, hpm, rfl⟩) e
    simp [FH.with, this, hq.1]
  · intro F'' L' w' hle' H'
    obtain ⟨k1, k2, k3, k4, l', hl', nd', hp'⟩ := H'
    refine ⟨k1.trans hle'.os, k2.trans hle'.output, k3.trans hle'.tape, fun b o hb => k4 b o (hle'.cells _ _ (hle.cells _ _ hb)), m ++ l', ⟨m, l', hm, hl', rfl⟩, ?_, ?_⟩
    · rw [List.map_append, List.nodup_append]
      refine ⟨ndm, nd', ?_⟩
      intro x hx y hy e
      obtain ⟨p, hpm, rfl⟩ := List.mem_map.1 hx
      obtain ⟨q, hqm, rfl⟩ := List.mem_map.1 hy
      have h5 := hle'.cells _ _ (hin p hpm)
      rw [e, (hp' q hqm).1] at h5
      cases h5
    · intro p hpm
      rcases List.mem_append.1 hpm with h' | h'
      · exact ⟨(hp p (pm.mem_iff.2 (List.mem_append_left _ h'))).1, k4 _ _ (hle'.cells _ _ (hin p h'))⟩
      · refine ⟨?_, (hp' p h').2⟩
        cases hc' : F.cells p.1 with
        | none => rfl
        | some o =>
          have := hle'.cells _ _ (hle.cells _ _ hc')
          rw [(hp' p h').1] at this
          cases this

theorem Holds.freeze {F : FH} {A B : List HP} {h : HP} {w : World} (H : Holds F (A ++ h :: B) w) : ∃ F', F ≤ F' ∧ Fz h F' ∧ Holds F' (A ++ B) w :=
  let ⟨F', h1, h2, h3, _⟩ := H.lend; ⟨F', h1, h2, h3⟩

/- 2. READING -/

def FH.cell? (F : FH) (a : Addr) : Option Value :=
  match F.cells a.block with
  | some (.cells c _ _) => if a.spot.isSome then none else c[a.off]?
  | _ => none
theorem FH.cell?_mono {F F' : FH} {a : Addr} {v : Value} (le : F ≤ F') (h : F.cell? a = some v) : F'.cell? a = some v := by
  unfold FH.cell? at *
  split at h
  · rename_i hc; rw [le.cells _ _ hc]; exact h
  · cases h
theorem Holds.cell {F : FH} {L : List HP} {w : World} {a : Addr} {v : Value} (H : Holds F L w) (h : F.cell? a = some v) : w.cell? a = some v := by
  unfold FH.cell? at h
  unfold World.cell?
  split at h
  · rename_i hc; rw [H.cells _ _ hc]; exact h
  · cases h

theorem add_add (a : Addr) (i j : Nat) : (a.add i).add j = a.add (i + j) := by
  unfold Addr.add
  by_cases hi : i = 0
  · subst hi; simp
  · by_cases hj : j = 0
    · subst hj; simp
    · have : i + j ≠ 0 := by omega
      simp [hi, hj, this, Nat.add_assoc]
theorem add_block (a : Addr) (i : Nat) : (a.add i).block = a.block := by unfold Addr.add; split <;> rfl
theorem add_lit (b o i : Nat) : (⟨b, o, none⟩ : Addr).add i = ⟨b, o + i, none⟩ := by
  unfold Addr.add; split
  · rename_i h; subst h; rfl
  · rfl

/-- v is a slice of n elements of s cells each, whose cells cs are frozen. -/
def ArrF (F : FH) (s : Nat) (v : Value) (n : Nat) (cs : List Value) : Prop :=
  cs.length = n * s ∧ ∃ base cap, v = .slice base n cap ∧ n ≤ cap ∧ (base = none → cap = 0) ∧ ∀ a, base = some a → ∀ i u, cs[i]? = some u → F.cell? (a.add i) = some u
theorem ArrF.mono {F F' : FH} {s : Nat} {v : Value} {n : Nat} {cs : List Value} (h : ArrF F s v n cs) (le : F ≤ F') : ArrF F' s v n cs := by
  obtain ⟨hl, base, cap, hv, hc, hn, hx⟩ := h
  exact ⟨hl, base, cap, hv, hc, hn, fun a ha i u hu => FH.cell?_mono le (hx a ha i u hu)⟩

/-- One owned block of cells, element type E. -/
def cellsH (b : Nat) (cs : List Value) (E : TypeId) : HP := fun l => l = [(b, .cells cs.toArray E (0, 0))]

/-- An owned slice: empty and without room, or the head of a block of its own. -/
def slH (E s : Nat) (v : Value) (n : Nat) (cs : List Value) : HP := fun l => cs.length = n * s ∧
  ((∃ base, v = .slice base 0 0 ∧ n = 0 ∧ l = []) ∨
   ∃ b cap spare, v = .slice (some ⟨b, 0, none⟩) n cap ∧ n ≤ cap ∧ spare.length = (cap - n) * s ∧ l = [(b, .cells (cs ++ spare).toArray E (0, 0))])

theorem slH_nil (E s : Nat) (base : Option Addr) : slH E s (.slice base 0 0) 0 [] [] := ⟨by simp, .inl ⟨base, rfl, rfl, rfl⟩⟩
theorem Sub.addNil (E s : Nat) (base : Option Addr) (L : List HP) : Sub L (slH E s (.slice base 0 0) 0 [] :: L) :=
  fun l h => ⟨l, [], ⟨[], l, slH_nil E s base, h, rfl⟩, by simp⟩

theorem Fz.cells {F : FH} {b : Nat} {cs : List Value} {E : TypeId} (h : Fz (cellsH b cs E) F) : ∀ i u, cs[i]? = some u → F.cell? ⟨b, i, none⟩ = some u := by
  obtain ⟨l, rfl, hp⟩ := h
  intro i u hu
  have := hp (b, .cells cs.toArray E (0, 0)) (by simp)
  simp [FH.cell?, this, hu]
theorem Fz.sl {F : FH} {E s : Nat} {v : Value} {n : Nat} {cs : List Value} (h : Fz (slH E s v n cs) F) : ArrF F s v n cs := by
  obtain ⟨l, ⟨hl, h⟩, hp⟩ := h
  rcases h with ⟨base, rfl, rfl, rfl⟩ | ⟨b, cap, spare, rfl, hc, hs, rfl⟩
  · have : cs = [] := List.eq_nil_of_length_eq_zero (by simpa using hl)
    subst this
    exact ⟨hl, base, 0, rfl, Nat.le_refl _, fun _ => rfl, fun a _ i u hu => by simp at hu⟩
  · refine ⟨hl, _, cap, rfl, hc, by simp, fun a ha i u hu => ?_⟩
    cases ha
    have := hp (b, .cells (cs ++ spare).toArray E (0, 0)) (by simp)
    rw [add_lit]
    simp only [FH.cell?, this]
    have hi := (List.getElem?_eq_some_iff.1 hu).1
    simp [List.getElem?_append, hi]
    exact (List.getElem?_eq_some_iff.1 hu).2

end Go.Proofs.Ytiaanelimbmniaa.X
