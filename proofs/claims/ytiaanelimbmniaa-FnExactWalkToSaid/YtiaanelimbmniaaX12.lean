/-
  Fresh data: chunks of a greater frozen heap that the smaller one does not hold; they can be owned again.
-/
import Derived.Test.YtiaanelimbmniaaX11
set_option linter.unusedSimpArgs false
set_option linter.unusedVariables false
namespace Go.Proofs.Ytiaanelimbmniaa.X
open Go

/-- Of F' and not of F: a chunk D. -/
def Fresh (F F' : FH) (D : HP) : Prop := ∃ m, D m ∧ (m.map Prod.fst).Nodup ∧ ∀ p ∈ m, F.cells p.1 = none ∧ F'.cells p.1 = some p.2

section
variable {F F' F'' G F1 F2 : FH} {D D' : HP} {L L' : List HP}
theorem cells_none_of_le (le : F ≤ F') {b : Nat} (h : F'.cells b = none) : F.cells b = none := by
  cases hc : F.cells b with
  | none => rfl
  | some o => have := le.cells _ _ hc; rw [h] at this; cases this
theorem Fresh.fz (h : Fresh F F' D) : Fz D F' := let ⟨m, h1, _, h3⟩ := h; ⟨m, h1, fun p hp => (h3 p hp).2⟩
theorem Fresh.mono (h : Fresh F F' D) (le : F' ≤ F'') : Fresh F F'' D := let ⟨m, h1, h2, h3⟩ := h; ⟨m, h1, h2, fun p hp => ⟨(h3 p hp).1, le.cells _ _ (h3 p hp).2⟩⟩
theorem Fresh.base (h : Fresh F F' D) (le : G ≤ F) : Fresh G F' D := let ⟨m, h1, h2, h3⟩ := h; ⟨m, h1, h2, fun p hp => ⟨cells_none_of_le le (h3 p hp).1, (h3 p hp).2⟩⟩
theorem Fresh.imp (h : Fresh F F' D) (hd : ∀ l, D l → D' l) : Fresh F F' D' := let ⟨m, h1, h2⟩ := h; ⟨m, hd m h1, h2⟩
theorem Fresh.empty (h : D []) : Fresh F F' D := ⟨[], h, List.nodup_nil, fun p hp => absurd hp (by simp)⟩
theorem Fresh.ofNil {E s : Nat} (base : Option Addr) : Fresh F F' (slH E s (.slice base 0 0) 0 []) := Fresh.empty (slH_nil E s base)
/-- D is as old as F1, the rest is newer. -/
theorem Fresh.and (h : Fresh F F1 D) (le0 : F ≤ F1) (k : Fresh F1 F2 D') (le : F1 ≤ F2) : Fresh F F2 (fun l => ∃ a b, D a ∧ D' b ∧ l = a ++ b) := by
  obtain ⟨m, h1, h2, h3⟩ := h
  obtain ⟨n, k1, k2, k3⟩ := k
  refine ⟨m ++ n, ⟨m, n, h1, k1, rfl⟩, ?_, fun p hp => ?_⟩
  · rw [List.map_append, List.nodup_append]
    refine ⟨h2, k2, fun x hx y hy e => ?_⟩
    obtain ⟨p, hp, rfl⟩ := List.mem_map.1 hx
    obtain ⟨q, hq, rfl⟩ := List.mem_map.1 hy
    have e1 := (h3 p hp).2
    have e2 := (k3 q hq).1
    rw [e] at e1
    rw [e1] at e2
    cases e2
  · rcases List.mem_append.1 hp with h' | h'
    · exact ⟨(h3 p h').1, le.cells _ _ (h3 p h').2⟩
    · exact ⟨cells_none_of_le le0 (k3 p h').1, (k3 p h').2⟩
/-- .. where it is not known which is older: their blocks differ. -/
theorem Fresh.snocL (h : Fresh F F1 (star L)) (le0 : F ≤ F1) (k : Fresh F1 F2 D) (le : F1 ≤ F2) : Fresh F F2 (star (L ++ [D])) :=
  (Fresh.and h le0 k le).imp fun l ⟨a, b, ha, hb, e⟩ => star_append.2 ⟨a, b, ha, ⟨b, [], hb, rfl, by simp⟩, e⟩
theorem Fresh.cons (h : Fresh F F1 (star L)) (le0 : F ≤ F1) (k : Fresh F1 F2 D) (le : F1 ≤ F2) : Fresh F F2 (star (D :: L)) := by
  obtain ⟨l, ⟨a, b, ha, hb, rfl⟩, nd, hp⟩ := Fresh.and h le0 k le
  refine ⟨b ++ a, ⟨b, a, hb, ha, rfl⟩, ?_, fun p h' => hp p ((List.perm_append_comm).mem_iff.1 h')⟩
  exact ((List.perm_append_comm (l₁ := a) (l₂ := b)).map Prod.fst).nodup_iff.1 nd
theorem Fresh.app {M N : List HP} (h : Fresh F F1 (star M)) (le0 : F ≤ F1) (k : Fresh F1 F2 (star N)) (le : F1 ≤ F2) : Fresh F F2 (star (M ++ N)) :=
  (Fresh.and h le0 k le).imp fun l ⟨a, b, ha, hb, e⟩ => star_append.2 ⟨a, b, ha, hb, e⟩
theorem Fresh.one (k : Fresh F F' D) : Fresh F F' (star [D]) := k.imp fun l h => ⟨l, [], h, rfl, by simp⟩
theorem Fresh.nilL : Fresh F F' (star []) := Fresh.empty rfl

theorem Holds.thaw {w : World} (H : Holds F' L w) (le : F ≤ F') (h : Fresh F F' D) : Holds F (D :: L) w := by
  obtain ⟨h1, h2, h3, h4, l, hl, nd, hp⟩ := H
  obtain ⟨m, hm, ndm, hmp⟩ := h
  refine ⟨h1.trans le.os, h2.trans le.output, h3.trans le.tape, fun b o hb => h4 b o (le.cells b o hb), m ++ l, ⟨m, l, hm, hl, rfl⟩, ?_, fun p hpm => ?_⟩
  · rw [List.map_append, List.nodup_append]
    refine ⟨ndm, nd, fun x hx y hy e => ?_⟩
    obtain ⟨p, hpm, rfl⟩ := List.mem_map.1 hx
    obtain ⟨q, hqm, rfl⟩ := List.mem_map.1 hy
    have e1 := (hmp p hpm).2
    have e2 := (hp q hqm).1
    rw [e, e2] at e1
    cases e1
  · rcases List.mem_append.1 hpm with h' | h'
    · exact ⟨(hmp p h').1, h4 _ _ (hmp p h').2⟩
    · exact ⟨cells_none_of_le le (hp p h').1, (hp p h').2⟩

/-- As 'Holds.lend', with the word that what was lent is fresh. -/
theorem Holds.lendF {A B : List HP} {h : HP} {w : World} (H : Holds F (A ++ h :: B) w) : ∃ F', F ≤ F' ∧ Fresh F F' h ∧ Holds F' (A ++ B) w ∧ ∀ F'' L' w', F' ≤ F'' → Holds F'' L' w' → Holds F (h :: L') w' := by
  obtain ⟨h1, h2, h3, h4, l, hl, nd, hp⟩ := H
  obtain ⟨a, m, c, ha, hm, hc, rfl⟩ := star_mid.1 hl
  have pm : (a ++ (m ++ c)).Perm (m ++ (a ++ c)) := by
    rw [← List.append_assoc, ← List.append_assoc]; exact List.perm_append_comm.append_right c
  have nd2 := (pm.map Prod.fst).nodup_iff.1 nd
  rw [List.map_append] at nd2
  obtain ⟨ndm, ndr, hdis⟩ := List.nodup_append.1 nd2
  have hin : ∀ p ∈ m, (F.with m).cells p.1 = some p.2 := fun p hpm => by simp [FH.with, find_nodup ndm p hpm]
  have hle : F ≤ F.with m := ⟨fun b o hb => by
    have : m.find? (fun q => q.1 == b) = none := find_none fun p hpm e => by
      have := (hp p (pm.mem_iff.2 (List.mem_append_left _ hpm))).1
      rw [e, hb] at this; cases this
    simp [FH.with, this, hb], rfl, rfl, rfl⟩
  have hfr : Fresh F (F.with m) h := ⟨m, hm, ndm, fun p hpm => ⟨(hp p (pm.mem_iff.2 (List.mem_append_left _ hpm))).1, hin p hpm⟩⟩
  refine ⟨F.with m, hle, hfr, ⟨h1, h2, h3, fun b o hb => ?_, a ++ c, star_append.2 ⟨a, c, ha, hc, rfl⟩, ndr, fun p hpm => ?_⟩, fun F'' L' w' le' H' => (H'.thaw (hle.trans le') (hfr.mono le'))⟩
  · simp only [FH.with] at hb
    split at hb
    · rename_i p hf
      have e := List.find?_some hf
      have hpm := List.mem_of_find?_eq_some hf
      simp only [beq_iff_eq] at e
      cases hb
      rw [← e]
      exact (hp p (pm.mem_iff.2 (List.mem_append_left _ hpm))).2
    · exact h4 b o hb
  · have hq := hp p (pm.mem_iff.2 (List.mem_append_right _ hpm))
    refine ⟨?_, hq.2⟩
    have : m.find? (fun q => q.1 == p.1) = none := find_none fun q hqm e =>
      hdis q.1 (List.mem_map.2 ⟨q, hqm, rfl⟩) p.1 (List.mem_map.2 ⟨p, hpm, rfl⟩) e
    simp [FH.with, this, hq.1]
end

section
variable {P : Program} {o : Oper} {ρ : Env} {F : FH} {L : List HP} {K : Post} {n : Nat} {Q : QX}
/-- What an operation leaves frozen and fresh is owned from then on; of all else that it froze nothing is said. -/
theorem XOp.thaw (H : XOp P o ρ F L fun v F' L' => ∃ D, Fresh F F' D ∧ K v F (D :: L')) : XOp P o ρ F L K := by
  intro w Hw
  rcases H w Hw with ⟨v, w', F', L', h1, h2, h3, D, h4, h5⟩ | ⟨w', F', L', h1, h2, h3, D, h4, h5⟩ | ⟨f, args, w', h1, h2⟩
  · exact .inl ⟨v, w', F, _, h1, FLe.refl F, h3.thaw h2 h4, h5⟩
  · exact .inr (.inl ⟨w', F, _, h1, FLe.refl F, h3.thaw h2 h4, h5⟩)
  · exact .inr (.inr ⟨f, args, w', h1, h2.mono fun e w'' ⟨v, F', L', a, b, c, D, d1, d2⟩ => ⟨v, F, _, a, FLe.refl F, c.thaw b d1, d2⟩⟩)
theorem XOp.frzF (h : XOp P o ρ F L (fun v F' L' => ∃ c L1, L' = c :: L1 ∧ ∀ F2, F' ≤ F2 → Fresh F' F2 c → K v F2 L1)) : XOp P o ρ F L K := by
  intro w H
  rcases h w H with ⟨v, w', F', L', h1, le, h3, c, L1, rfl, hk⟩ | ⟨w', F', L', h1, le, h3, c, L1, rfl, hk⟩ | ⟨f, args, w', h1, h2⟩
  · obtain ⟨F2, le2, hz, H2, _⟩ := Holds.lendF (A := []) (h := c) (B := L1) h3
    exact .inl ⟨v, w', F2, L1, h1, le.trans le2, H2, hk F2 le2 hz⟩
  · obtain ⟨F2, le2, hz, H2, _⟩ := Holds.lendF (A := []) (h := c) (B := L1) h3
    exact .inr (.inl ⟨w', F2, L1, h1, le.trans le2, H2, hk F2 le2 hz⟩)
  · refine .inr (.inr ⟨f, args, w', h1, h2.mono fun e w'' ⟨v, F', L', he, le, hH, c, L1, hL, hk⟩ => ?_⟩)
    subst hL
    obtain ⟨F2, le2, hz, H2, _⟩ := Holds.lendF (A := []) (h := c) (B := L1) hH
    exact ⟨v, F2, L1, he, le.trans le2, H2, hk F2 le2 hz⟩
theorem XOp.thawL (H : XOp P o ρ F L fun v F' L' => ∃ Ds, Fresh F F' (star Ds) ∧ K v F (Ds ++ L')) : XOp P o ρ F L K := by
  have key : ∀ {F' : FH} {L' Ds : List HP} {w' : World}, F ≤ F' → Holds F' L' w' → Fresh F F' (star Ds) → Holds F (Ds ++ L') w' := fun le h hz => Sub.holds (fun l hl => by
    obtain ⟨a, b, ha, hb, rfl⟩ := hl
    exact ⟨a ++ b, [], star_append.2 ⟨a, b, ha, hb, rfl⟩, by simp⟩) (h.thaw le hz)
  intro w Hw
  rcases H w Hw with ⟨v, w', F', L', h1, h2, h3, D, h4, h5⟩ | ⟨w', F', L', h1, h2, h3, D, h4, h5⟩ | ⟨f, args, w', h1, h2⟩
  · exact .inl ⟨v, w', F, _, h1, FLe.refl F, key h2 h3 h4, h5⟩
  · exact .inr (.inl ⟨w', F, _, h1, FLe.refl F, key h2 h3 h4, h5⟩)
  · exact .inr (.inr ⟨f, args, w', h1, h2.mono fun e w'' ⟨v, F', L', a, b, c, D, d1, d2⟩ => ⟨v, F, _, a, FLe.refl F, key b c d1, d2⟩⟩)
theorem XL.freezeF {ops : Array Oper} {l : List Oper} (A B : List HP) (h : HP) (hL : L = A ++ h :: B)
    (H : ∀ F', F ≤ F' → Fresh F F' h → XL P n ops l Q ρ F' (A ++ B)) : XL P n ops l Q ρ F L := by
  subst hL
  intro ok a w r Hw
  obtain ⟨F', le, fz, H', _⟩ := Hw.lendF
  exact wpList_mono (fun _ _ _ q => low_le le q) _ _ _ (H F' le fz ok a w r H')
theorem X.freezeF {c : Code} (A B : List HP) (h : HP) (hL : L = A ++ h :: B) (H : ∀ F', F ≤ F' → Fresh F F' h → X P n c Q ρ F' (A ++ B)) : X P n c Q ρ F L := by
  subst hL
  intro ok a w r Hw
  obtain ⟨F', le, fz, H', _⟩ := Hw.lendF
  exact Code.wp_mono (fun _ _ _ q => low_le le q) (H F' le fz ok a w r H')
/-- A function that owns fresh data of its own when it returns: frozen for the caller, or owned. -/
theorem Does.freeze {f : FuncId} {args : List Value} {Q : Post} (H : Does P f args F L fun v F' L' => ∃ D, L' = D :: L ∧ ∀ F2, F' ≤ F2 → Fresh F' F2 D → Q v F2 L) : Does P f args F L Q := by
  intro w Hw
  refine (H w Hw).mono fun e w' ⟨v, F', L', a, b, c, D, d1, d2⟩ => ?_
  subst d1
  obtain ⟨F2, le, fz, H2, _⟩ := Holds.lendF (A := []) (B := L) (h := D) c
  exact ⟨v, F2, L, a, b.trans le, H2, d2 F2 le fz⟩
end

/- DEEP DATA: an owned slice of elements of s cells, whose leaves are owned too -/
inductive DeepL {α : Type} (s : Nat) (R : List Value → α → List HP → Prop) : List Value → List α → List HP → Prop
  | nil : DeepL s R [] [] []
  | snoc {cs es : List Value} {xs : List α} {x : α} {L K : List HP} (h : DeepL s R cs xs L) (hl : es.length = s) (hr : R es x K) : DeepL s R (cs ++ es) (xs ++ [x]) (L ++ K)
def deepH {α : Type} (s : Nat) (R : List Value → α → List HP → Prop) (E : TypeId) (v : Value) (xs : List α) : HP := fun l => ∃ cs L, DeepL s R cs xs L ∧ star (slH E s v xs.length cs :: L) l

theorem DeepL.len {α : Type} {s : Nat} {R : List Value → α → List HP → Prop} {cs : List Value} {xs : List α} {L : List HP} (h : DeepL s R cs xs L) : cs.length = xs.length * s := by
  induction h with
  | nil => simp
  | snoc _ hl _ ih => rw [List.length_append, List.length_append, ih, hl, List.length_singleton, Nat.succ_mul]

/-- What is frozen with its leaves reads as it did. -/
theorem DeepL.co {α : Type} {s : Nat} {R : List Value → α → List HP → Prop} {RF : FH → List Value → α → Prop} {d : α} {F : FH} {cs : List Value} {xs : List α} {L : List HP} (h : DeepL s R cs xs L)
    (hR : ∀ es x K, R es x K → (∃ l, star K l ∧ ∀ p ∈ l, F.cells p.1 = some p.2) → RF F es x) (hz : ∃ l, star L l ∧ ∀ p ∈ l, F.cells p.1 = some p.2) : CO s RF d F cs xs := by
  induction h with
  | nil => exact CO.nil
  | snoc _ hl hr ih =>
    obtain ⟨l, hs, hp⟩ := hz
    obtain ⟨a, b, ha, hb, rfl⟩ := star_append.1 hs
    exact CO.snoc (ih ⟨a, ha, fun p h => hp p (List.mem_append_left _ h)⟩) hl (hR _ _ _ hr ⟨b, hb, fun p h => hp p (List.mem_append_right _ h)⟩)
end Go.Proofs.Ytiaanelimbmniaa.X
