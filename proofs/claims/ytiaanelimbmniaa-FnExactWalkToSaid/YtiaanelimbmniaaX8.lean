/-
  Owned slices whose elements lie in the frozen heap.
-/
import Derived.Test.YtiaanelimbmniaaX9
import Derived.Test.YtiaanelimbmniaaX7
set_option linter.unusedSimpArgs false
set_option linter.unusedVariables false
namespace Go.Proofs.Ytiaanelimbmniaa.X
open Go

/-- The cells cs read as xs, s cells for an element. -/
def CO {α : Type} (s : Nat) (R : FH → List Value → α → Prop) (d : α) (F : FH) (cs : List Value) (xs : List α) : Prop :=
  cs.length = xs.length * s ∧ ∀ i, i < xs.length → ∃ es, es.length = s ∧ (cs.drop (i * s)).take s = es ∧ R F es (xs.getD i d)
section
variable {α : Type} {s : Nat} {R : FH → List Value → α → Prop} {d : α} {F F' : FH} {cs ds es : List Value} {xs ys : List α} {x : α}
theorem CO.nil : CO s R d F [] ([] : List α) := ⟨by simp, fun i hi => absurd hi (by simp)⟩
theorem CO.mono (hR : ∀ es x, R F es x → R F' es x) (h : CO s R d F cs xs) : CO s R d F' cs xs := by
  refine ⟨h.1, fun i hi => ?_⟩
  obtain ⟨es, h1, h2, h3⟩ := h.2 i hi
  exact ⟨es, h1, h2, hR _ _ h3⟩
theorem CO.append (h : CO s R d F cs xs) (k : CO s R d F ds ys) : CO s R d F (cs ++ ds) (xs ++ ys) := by
  refine ⟨by rw [List.length_append, List.length_append, h.1, k.1, Nat.add_mul], fun i hi => ?_⟩
  rw [List.length_append] at hi
  rcases Nat.lt_or_ge i xs.length with hlt | hge
  · obtain ⟨es, h1, h2, h3⟩ := h.2 i hlt
    refine ⟨es, h1, ?_, ?_⟩
    · have hle : i * s + s ≤ cs.length := by
        rw [h.1]
        have : (i + 1) * s ≤ xs.length * s := Nat.mul_le_mul_right s hlt
        rw [Nat.succ_mul] at this
        exact this
      rw [List.drop_append_of_le_length (by omega), List.take_append_of_le_length (by rw [List.length_drop]; omega)]
      exact h2
    · have : (xs ++ ys).getD i d = xs.getD i d := by simp [List.getD_eq_getElem?_getD, List.getElem?_append_left hlt]
      rw [this]; exact h3
  · obtain ⟨es, h1, h2, h3⟩ := k.2 (i - xs.length) (by omega)
    refine ⟨es, h1, ?_, ?_⟩
    · have e : i * s = cs.length + (i - xs.length) * s := by
        rw [h.1, ← Nat.add_mul]; congr 1; omega
      rw [e, List.drop_length_add_append]
      exact h2
    · have : (xs ++ ys).getD i d = ys.getD (i - xs.length) d := by simp [List.getD_eq_getElem?_getD, List.getElem?_append_right hge]
      rw [this]; exact h3
theorem CO.one (hl : es.length = s) (h : R F es x) : CO s R d F es [x] := by
  refine ⟨by simp [hl], fun i hi => ?_⟩
  obtain rfl : i = 0 := by simp at hi; exact hi
  exact ⟨es, hl, by rw [Nat.zero_mul, List.drop_zero, ← hl, List.take_length], h⟩
theorem CO.snoc (h : CO s R d F cs xs) (hl : es.length = s) (k : R F es x) : CO s R d F (cs ++ es) (xs ++ [x]) := h.append (CO.one hl k)
theorem CO.get (h : CO s R d F cs xs) {i : Nat} (hi : i < xs.length) : ∃ es, es.length = s ∧ R F es (xs.getD i d) ∧ ∀ j u, es[j]? = some u → cs[i * s + j]? = some u := by
  obtain ⟨es, h1, h2, h3⟩ := h.2 i hi
  refine ⟨es, h1, h3, fun j u hu => ?_⟩
  rw [← h2, List.getElem?_take] at hu
  split at hu
  · rwa [List.getElem?_drop] at hu
  · cases hu
theorem CO.take (h : CO s R d F cs xs) {k : Nat} (hk : k ≤ xs.length) : CO s R d F (cs.take (k * s)) (xs.take k) := by
  have hle : k * s ≤ cs.length := by rw [h.1]; exact Nat.mul_le_mul_right s hk
  have hlen : (xs.take k).length = k := by rw [List.length_take]; omega
  refine ⟨by rw [hlen, List.length_take]; omega, fun i hi => ?_⟩
  rw [hlen] at hi
  obtain ⟨es, h1, h2, h3⟩ := h.2 i (by omega)
  refine ⟨es, h1, ?_, ?_⟩
  · have : i * s + s ≤ k * s := by
      have : (i + 1) * s ≤ k * s := Nat.mul_le_mul_right s hi
      rwa [Nat.succ_mul] at this
    rw [List.drop_take, List.take_take, Nat.min_eq_left (by omega)]
    exact h2
  · have : (xs.take k).getD i d = xs.getD i d := by simp [List.getD_eq_getElem?_getD, List.getElem?_take, hi]
    rw [this]; exact h3
theorem CO.fz {E : TypeId} {v : Value} {n : Nat} (h : CO s R d F cs xs) (hn : n = xs.length) (hf : Fz (slH E s v n cs) F) : SlOf s R d F v xs := by
  subst hn
  exact ⟨cs, hf.sl, h.2⟩
theorem CO.set1 {a : Value} (h : CO 1 R d F cs xs) {i : Nat} (hR : R F [a] x) : CO 1 R d F (cs.set i a) (xs.set i x) := by
  refine ⟨by simp [h.1], fun k hk => ?_⟩
  rw [List.length_set] at hk
  obtain ⟨es, h1, h2, h3⟩ := h.2 k hk
  have hck : k < cs.length := by have := h.1; omega
  by_cases e : i = k
  · subst e
    refine ⟨[a], rfl, ?_, ?_⟩
    · rw [Nat.mul_one, List.drop_eq_getElem_cons (by simpa using hck)]; simp
    · simpa [List.getD_eq_getElem?_getD, hk] using hR
  · refine ⟨es, h1, ?_, ?_⟩
    · rw [← h2, Nat.mul_one, List.drop_eq_getElem_cons (by simpa using hck), List.drop_eq_getElem_cons hck, List.take_succ_cons, List.take_zero, List.take_succ_cons, List.take_zero, List.getElem_set_ne e]
    · rw [List.getD_eq_getElem?_getD, List.getElem?_set_ne e, ← List.getD_eq_getElem?_getD]; exact h3
end
theorem SlOf.open {α : Type} {s : Nat} {R : FH → List Value → α → Prop} {d : α} {F : FH} {v : Value} {xs : List α} (h : SlOf s R d F v xs) : ∃ cs, ArrF F s v xs.length cs ∧ CO s R d F cs xs := by
  obtain ⟨cs, h1, h2⟩ := h
  exact ⟨cs, h1, h1.1, h2⟩

/-- An owned slice of such elements. -/
def coH {α : Type} (s : Nat) (R : FH → List Value → α → Prop) (d : α) (E : TypeId) (F : FH) (v : Value) (xs : List α) : HP := fun l => ∃ cs, CO s R d F cs xs ∧ slH E s v xs.length cs l

def RowsC (F : FH) (cs : List Value) (xs : List (List Int)) : Prop := CO 1 RowF [] F cs xs
theorem RowsC.mono {F F' : FH} {cs : List Value} {xs : List (List Int)} (h : RowsC F cs xs) (le : F ≤ F') : RowsC F' cs xs := CO.mono (RowF.mono le) h
def PairsC (F : FH) (cs : List Value) (xs : List (List Int × List Int)) : Prop := CO 2 PairF ([], []) F cs xs
theorem PairsC.mono {F F' : FH} {cs : List Value} {xs : List (List Int × List Int)} (h : PairsC F cs xs) (le : F ≤ F') : PairsC F' cs xs := CO.mono (PairF.mono le) h

abbrev StepT := Int × Int × List Int
def StepF (F : FH) (es : List Value) (x : StepT) : Prop := ∃ c, es = [.int .i64 x.1, .int .i64 x.2.1, c] ∧ IntsF F c x.2.2
theorem StepF.mono {F F' : FH} (le : F ≤ F') (es : List Value) (x : StepT) (h : StepF F es x) : StepF F' es x := by
  obtain ⟨c, h1, h2⟩ := h
  exact ⟨c, h1, h2.mono le⟩
/-- []Step -/
def StepsF : FH → Value → List StepT → Prop := SlOf 3 StepF (0, 0, [])
theorem StepsF.mono {F F' : FH} {v : Value} {xs : List StepT} (h : StepsF F v xs) (le : F ≤ F') : StepsF F' v xs := SlOf.mono (StepF.mono le) h le
theorem StepsF.slv {F : FH} {L : List HP} {v : Value} {xs : List StepT} (h : StepsF F v xs) : SlV F L v xs.length := SlOf.slv h
theorem StepsF.isSl {F : FH} {v : Value} {xs : List StepT} (h : StepsF F v xs) : IsSl v := by obtain ⟨_, h, _⟩ := h; exact h.isSl
theorem StepsF.rd {F : FH} {v : Value} {xs : List StepT} (h : StepsF F v xs) {i : Nat} (hi : i < xs.length) :
    ∃ c, IntsF F c (xs.getD i (0, 0, [])).2.2 ∧ (∀ L, Rd F L (elemA v (i * 3)) (.int .i64 (xs.getD i (0, 0, [])).1)) ∧ (∀ L, Rd F L (elemA v (i * 3 + 1)) (.int .i64 (xs.getD i (0, 0, [])).2.1)) ∧ (∀ L, Rd F L (elemA v (i * 3 + 2)) c) := by
  obtain ⟨es, hl, ⟨c, rfl, hc⟩, hr⟩ := SlOf.get h hi
  exact ⟨c, hc, fun L => by simpa using hr L 0 _ rfl, fun L => hr L 1 _ rfl, fun L => hr L 2 _ rfl⟩
def StepsC (F : FH) (cs : List Value) (xs : List StepT) : Prop := CO 3 StepF (0, 0, []) F cs xs
theorem StepsC.mono {F F' : FH} {cs : List Value} {xs : List StepT} (h : StepsC F cs xs) (le : F ≤ F') : StepsC F' cs xs := CO.mono (StepF.mono le) h

/-- bindings: [24][]int64, where nil and the empty list are the same -/
def BindF (F : FH) (es : List Value) (x : List Int) : Prop := ∃ a, es = [a] ∧ IntsF F a x ∧ isNil a = decide (x = [])
theorem BindF.mono {F F' : FH} (le : F ≤ F') (es : List Value) (x : List Int) (h : BindF F es x) : BindF F' es x := by
  obtain ⟨a, h1, h2, h3⟩ := h
  exact ⟨a, h1, h2.mono le, h3⟩
def BindC (F : FH) (cs : List Value) (xs : List (List Int)) : Prop := CO 1 BindF [] F cs xs
theorem BindC.mono {F F' : FH} {cs : List Value} {xs : List (List Int)} (h : BindC F cs xs) (le : F ≤ F') : BindC F' cs xs := CO.mono (BindF.mono le) h
theorem BindC.rows {F : FH} {cs : List Value} {xs : List (List Int)} (h : BindC F cs xs) : RowsC F cs xs := by
  refine ⟨h.1, fun i hi => ?_⟩
  obtain ⟨es, h1, h2, a, h3, h4, _⟩ := h.2 i hi
  exact ⟨es, h1, h2, a, h3, h4⟩

abbrev rowsH (E : TypeId) (F : FH) (v : Value) (xs : List (List Int)) : HP := coH 1 RowF [] E F v xs
abbrev pairsH (E : TypeId) (F : FH) (v : Value) (xs : List (List Int × List Int)) : HP := coH 2 PairF ([], []) E F v xs
abbrev stepsH (E : TypeId) (F : FH) (v : Value) (xs : List StepT) : HP := coH 3 StepF (0, 0, []) E F v xs

theorem coH.of {α : Type} {s : Nat} {R : FH → List Value → α → Prop} {d : α} {E : TypeId} {F : FH} {v : Value} {xs : List α} {cs : List Value} {n : Nat} (h : CO s R d F cs xs) (hn : n = xs.length) : ∀ l, slH E s v n cs l → coH s R d E F v xs l :=
  fun l hl => ⟨cs, h, hn ▸ hl⟩
theorem coH.close {α : Type} {s : Nat} {R : FH → List Value → α → Prop} {d : α} {E : TypeId} {F : FH} {v : Value} {xs : List α} {cs : List Value} {n : Nat} {L L' : List HP} (h : CO s R d F cs xs) (hn : n = xs.length) (k : Sub L L') :
    Sub (slH E s v n cs :: L) (coH s R d E F v xs :: L') := Sub.keep (coH.of h hn) k
theorem coH.le {α : Type} {s : Nat} {R : FH → List Value → α → Prop} {d : α} {E : TypeId} {F F' : FH} {v : Value} {xs : List α} {L L' : List HP} (hR : ∀ es x, R F es x → R F' es x) (k : Sub L L') :
    Sub (coH s R d E F v xs :: L) (coH s R d E F' v xs :: L') := Sub.keep (fun l ⟨cs, h1, h2⟩ => ⟨cs, h1.mono hR, h2⟩) k
theorem coH.addNil {α : Type} {s : Nat} {R : FH → List Value → α → Prop} {d : α} {E : TypeId} {F : FH} {L L' : List HP} (b : Option Addr) (k : Sub L L') : Sub L (coH s R d E F (.slice b 0 0) ([] : List α) :: L') :=
  Sub.trans (Sub.addNil E s b L) (coH.close CO.nil rfl k)

theorem Holds.unpack {α : Type} {s : Nat} {R : FH → List Value → α → Prop} {d : α} {E : TypeId} {F G : FH} {v : Value} {xs : List α} {A B : List HP} {w : World} (H : Holds F (A ++ coH s R d E G v xs :: B) w) :
    ∃ cs, CO s R d G cs xs ∧ Holds F (A ++ slH E s v xs.length cs :: B) w := by
  obtain ⟨h1, h2, h3, h4, l, hl, nd, hp⟩ := H
  obtain ⟨a, m, c, ha, ⟨cs, hco, hm⟩, hc, rfl⟩ := star_mid.1 hl
  exact ⟨cs, hco, h1, h2, h3, h4, _, star_mid.2 ⟨a, m, c, ha, hm, hc, rfl⟩, nd, hp⟩

section
variable {P : Program} {n : Nat} {Q : QX} {ρ : Env} {F : FH} {L : List HP}
theorem X.open {c : Code} {α : Type} {s : Nat} {R : FH → List Value → α → Prop} {d : α} {E : TypeId} {G : FH} {v : Value} {xs : List α} (A : List HP) {B : List HP} (hL : L = A ++ coH s R d E G v xs :: B)
    (h : ∀ cs, CO s R d G cs xs → X P n c Q ρ F (A ++ slH E s v xs.length cs :: B)) : X P n c Q ρ F L := by
  subst hL
  intro ok a w r H
  obtain ⟨cs, hc, H'⟩ := H.unpack
  exact h cs hc ok a w r H'
theorem XL.open {ops : Array Oper} {l : List Oper} {α : Type} {s : Nat} {R : FH → List Value → α → Prop} {d : α} {E : TypeId} {G : FH} {v : Value} {xs : List α} (A : List HP) {B : List HP} (hL : L = A ++ coH s R d E G v xs :: B)
    (h : ∀ cs, CO s R d G cs xs → XL P n ops l Q ρ F (A ++ slH E s v xs.length cs :: B)) : XL P n ops l Q ρ F L := by
  subst hL
  intro ok a w r H
  obtain ⟨cs, hc, H'⟩ := H.unpack
  exact h cs hc ok a w r H'
end

section
variable {P : Program} {ρ : Env} {F : FH} {L : List HP} {K : Post} {d : Option Tmp} {ty : TypeId} {pos : String} {af : Array Edge} {g : Option (Nat × Bool)}

/-- What an operation's freezing gave may be forgotten. -/
theorem XOp.forget {o : Oper} (h : XOp P o ρ F L (fun v F' L' => K v F L')) : XOp P o ρ F L K := by
  intro w H
  rcases h w H with ⟨v, w', F', L', h1, le, h3, hk⟩ | ⟨w', F', L', h1, le, h3, hk⟩ | ⟨f, args, w', h1, h2⟩
  · exact .inl ⟨v, w', F, L', h1, FLe.refl F, h3.forget le, hk⟩
  · exact .inr (.inl ⟨w', F, L', h1, FLe.refl F, h3.forget le, hk⟩)
  · exact .inr (.inr ⟨f, args, w', h1, h2.mono fun e w'' ⟨v, F', L', he, le, hH, hk⟩ => ⟨v, F, L', he, FLe.refl F, hH.forget le, hk⟩⟩)

/-- An owned slice is cut at its end. -/
theorem XOp.sliceOwn {x h : Operand} {t E : TypeId} {s n : Nat} {v : Value} {cs : List Value} (A B : List HP) (k : Nat)
    (hu : ∀ w, (underlying t).run P w = .ok (.slice E) w) (hs : ∀ w, (sizeOf E).run P w = .ok s w) (hx : evO ρ x = v) (hL : L = A ++ slH E s v n cs :: B) (hh : OptIs ρ (some h) k n) (hk : k ≤ n)
    (kk : ∀ v', IsSl v' → K v' F (A ++ slH E s v' k (cs.take (k * s)) :: B)) : XOp P ⟨d, .slice t x none (some h) none, ty, pos, af, g⟩ ρ F L K := by
  subst hL
  intro w H
  rcases H.getSl with ⟨hlen, ⟨base, rfl, rfl, H'⟩ | ⟨b, cap, spare, rfl, hc, hsp, H1⟩⟩
  · obtain rfl : k = 0 := by omega
    have hrun := slice_run (P := P) (w := w) (base := base) (n := 0) (cap := 0) (lo := none) (l := 0) hu hs rfl hh (Nat.le_refl _) (Nat.le_refl _)
    refine .inl ⟨.slice base 0 0, w, F, _, ?_, FLe.refl F, H, ?_⟩
    · simp only [Option.map_none, Option.map_some] at hrun
      simp [execOp, hx, hrun]
    · have e : cs = [] := List.eq_nil_of_length_eq_zero (by simpa using hlen)
      subst e
      simpa using kk (.slice base 0 0) ⟨_, _, _, rfl⟩
  · have hrun := slice_run (P := P) (w := w) (base := some ⟨b, 0, none⟩) (n := n) (cap := cap) (lo := none) (l := 0) hu hs rfl hh (Nat.zero_le _) (by omega)
    refine .inl ⟨.slice (some ⟨b, 0, none⟩) k cap, w, F, _, ?_, FLe.refl F, ?_, kk _ ⟨_, _, _, rfl⟩⟩
    · simp only [Option.map_none, Option.map_some] at hrun
      by_cases h0 : cap = 0
      · subst h0
        simp [execOp, hx, hrun]
      · simp [execOp, hx, hrun, h0, Addr.add]
    · have hle : k * s ≤ cs.length := by rw [hlen]; exact Nat.mul_le_mul_right s hk
      have e : cs ++ spare = cs.take (k * s) ++ (cs.drop (k * s) ++ spare) := by rw [← List.append_assoc, List.take_append_drop]
      rw [e] at H1
      refine (Sub.mkSl (by rw [List.length_take]; omega) (by omega) ?_).holds H1
      rw [List.length_append, List.length_drop, hlen, hsp, ← Nat.sub_mul, ← Nat.add_mul]
      congr 1; omega

theorem nils (n : Nat) : ((List.range (n * 1)).map fun i => [Value.slice none 0 0].toArray[i % [Value.slice none 0 0].toArray.size]!) = List.replicate n (.slice none 0 0) := by
  apply List.ext_getElem
  · simp
  · intro i h1 h2
    simp [Nat.mod_one]
theorem IntsF.nilV {F : FH} : IntsF F (.slice none 0 0) [] := ⟨by simp, none, 0, rfl, Nat.le_refl _, fun _ => rfl, fun a h => by cases h⟩
theorem SlOf.nilV {α : Type} {s : Nat} {R : FH → List Value → α → Prop} {d : α} {F : FH} : SlOf s R d F (.slice none 0 0) [] := ⟨[], ⟨by simp, none, 0, rfl, Nat.le_refl _, fun _ => rfl, fun a h => by cases h⟩, fun i hi => absurd hi (by simp)⟩
theorem RowsC.nils {F : FH} (n : Nat) : RowsC F (List.replicate n (.slice none 0 0)) (List.replicate n []) := by
  refine ⟨by simp, fun i hi => ?_⟩
  rw [List.length_replicate] at hi
  refine ⟨[.slice none 0 0], rfl, ?_, _, rfl, ?_⟩
  · rw [Nat.mul_one, List.drop_replicate, List.take_replicate, Nat.min_eq_left (by omega)]; rfl
  · have : (List.replicate n ([] : List Int)).getD i [] = [] := by simp [List.getD_eq_getElem?_getD, List.getElem?_replicate, hi]
    rw [this]; exact IntsF.nilV
theorem BindC.nils {F : FH} (n : Nat) : BindC F (List.replicate n (.slice none 0 0)) (List.replicate n []) := by
  refine ⟨by simp, fun i hi => ?_⟩
  rw [List.length_replicate] at hi
  refine ⟨[.slice none 0 0], rfl, ?_, _, rfl, ?_, ?_⟩
  · rw [Nat.mul_one, List.drop_replicate, List.take_replicate, Nat.min_eq_left (by omega)]; rfl
  · have : (List.replicate n ([] : List Int)).getD i [] = [] := by simp [List.getD_eq_getElem?_getD, List.getElem?_replicate, hi]
    rw [this]; exact IntsF.nilV
  · have : (List.replicate n ([] : List Int)).getD i [] = [] := by simp [List.getD_eq_getElem?_getD, List.getElem?_replicate, hi]
    rw [this]; rfl
end
theorem RowsC.get {F : FH} {cs : List Value} {xs : List (List Int)} (h : RowsC F cs xs) {i : Nat} (hi : i < xs.length) : ∃ a, IntsF F a (xs.getD i []) ∧ cs[i]? = some a := by
  obtain ⟨es, _, ⟨a, rfl, ha⟩, hg⟩ := CO.get h hi
  exact ⟨a, ha, by simpa using hg 0 a rfl⟩
theorem BindC.get {F : FH} {cs : List Value} {xs : List (List Int)} (h : BindC F cs xs) {i : Nat} (hi : i < xs.length) : ∃ a, IntsF F a (xs.getD i []) ∧ isNil a = decide (xs.getD i [] = []) ∧ cs[i]? = some a := by
  obtain ⟨es, _, ⟨a, rfl, ha, hn⟩, hg⟩ := CO.get h hi
  exact ⟨a, ha, hn, by simpa using hg 0 a rfl⟩
theorem RowsC.set {F : FH} {cs : List Value} {xs : List (List Int)} {a : Value} {x : List Int} (h : RowsC F cs xs) (i : Nat) (ha : IntsF F a x) : RowsC F (cs.set i a) (xs.set i x) := CO.set1 h ⟨a, rfl, ha⟩
theorem BindC.set {F : FH} {cs : List Value} {xs : List (List Int)} {a : Value} {x : List Int} (h : BindC F cs xs) (i : Nat) (ha : IntsF F a x) (hn : isNil a = decide (x = [])) : BindC F (cs.set i a) (xs.set i x) := CO.set1 h ⟨a, rfl, ha, hn⟩
theorem RowsC.snoc {F : FH} {cs : List Value} {xs : List (List Int)} {a : Value} {x : List Int} (h : RowsC F cs xs) (ha : IntsF F a x) : RowsC F (cs ++ [a]) (xs ++ [x]) := CO.snoc h rfl ⟨a, rfl, ha⟩
theorem PairsC.snoc {F : FH} {cs : List Value} {xs : List (List Int × List Int)} {a b : Value} {x y : List Int} (h : PairsC F cs xs) (ha : IntsF F a x) (hb : IntsF F b y) : PairsC F (cs ++ [a, b]) (xs ++ [(x, y)]) := CO.snoc h rfl ⟨a, b, rfl, ha, hb⟩
theorem StepsC.snoc {F : FH} {cs : List Value} {xs : List StepT} {i j : Int} {c : Value} {x : List Int} (h : StepsC F cs xs) (hc : IntsF F c x) : StepsC F (cs ++ [.int .i64 i, .int .i64 j, c]) (xs ++ [(i, j, x)]) := CO.snoc h rfl ⟨c, rfl, hc⟩
theorem CO.len {α : Type} {s : Nat} {R : FH → List Value → α → Prop} {d : α} {F : FH} {cs : List Value} {xs : List α} (h : CO s R d F cs xs) : cs.length = xs.length * s := h.1
theorem Rd.mono {F F' : FH} {L : List HP} {a : Addr} {v : Value} (h : Rd F L a v) (le : F ≤ F') : Rd F' L a v := fun w H => h w (H.forget le)
theorem Rd.monoA {F F' : FH} {a : Addr} {v : Value} (h : ∀ L, Rd F L a v) (le : F ≤ F') : ∀ L, Rd F' L a v := fun L => (h L).mono le
/-- the parts of a value -/
def tupAt (v : Value) (i : Nat) : Value := match v with | .tuple a => a.toList.getD i undef | _ => undef
def aggAt (v : Value) (i : Nat) : Value := match v with | .agg a => a.toList.getD i undef | _ => undef
/-- block b is frozen and holds cs -/
def FzC (F : FH) (b : Nat) (cs : List Value) : Prop := ∀ i u, cs[i]? = some u → F.cell? ⟨b, i, none⟩ = some u
theorem FzC.mono {F F' : FH} {b : Nat} {cs : List Value} (h : FzC F b cs) (le : F ≤ F') : FzC F' b cs := fun i u hu => FH.cell?_mono le (h i u hu)
theorem FzC.rd {F : FH} {L : List HP} {b : Nat} {cs vs : List Value} (h : FzC F b cs) (hv : cs = vs) : ∀ i u, vs[i]? = some u → Rd F L ((⟨b, 0, none⟩ : Addr).add i) u := by
  subst hv
  intro i u hu
  rw [add_lit, Nat.zero_add]
  exact Rd.fz (h i u hu)
theorem FzC.rd1 {F : FH} {L : List HP} {b : Nat} {cs : List Value} {v : Value} (h : FzC F b cs) {o : Nat} (hv : cs[o]? = some v) : Rd F L ⟨b, o, none⟩ v := Rd.fz (h o v hv)
theorem BindC.ones {F : FH} {cs : List Value} {xs : List (List Int)} (h : BindC F cs xs) : ∀ v ∈ cs, v.oneCell' = true := by
  intro v hv
  obtain ⟨i, hi, rfl⟩ := List.getElem_of_mem hv
  have hl := h.1
  obtain ⟨a, ha, _, hc⟩ := h.get (i := i) (by omega)
  rw [List.getElem?_eq_getElem hi] at hc
  cases hc
  exact one_sl ha.isSl
theorem blt_of {a b : Nat} (h : a < b) : Nat.blt a b = true := Nat.ble_eq_true_of_le h
theorem arr_over {cs vs : List Value} {s : Nat} (h : cs.length = s) : cs.take 0 ++ vs ++ cs.drop (0 + s) = vs := by simp [h]
theorem take_all {vs : List Value} : (vs.drop 0).take vs.length = vs := by simp
theorem Rd.three {F : FH} {L : List HP} {v : Value} {k : Nat} {a b c : Value} (h : Rd F L (elemA v k) a) (h1 : Rd F L (elemA v (k + 1)) b) (h2 : Rd F L (elemA v (k + 2)) c) : ∀ i u, [a, b, c][i]? = some u → Rd F L ((elemA v k).add i) u := by
  intro i u hu
  rw [elemA_add]
  match i, hu with
  | 0, hu => simp at hu; subst hu; exact h
  | 1, hu => simp at hu; subst hu; exact h1
  | 2, hu => simp at hu; subst hu; exact h2
  | n + 3, hu => simp at hu

section
variable {P : Program} {ρ : Env} {F : FH} {L : List HP} {K : Post} {d : Option Tmp} {ty : TypeId} {pos : String} {af : Array Edge} {g : Option (Nat × Bool)}
/-- What an operation gives is frozen at once. -/
theorem XOp.frz {o : Oper} (h : XOp P o ρ F L (fun v F' L' => ∃ c L1, L' = c :: L1 ∧ ∀ F2, F' ≤ F2 → Fz c F2 → K v F2 L1)) : XOp P o ρ F L K := by
  intro w H
  rcases h w H with ⟨v, w', F', L', h1, le, h3, c, L1, rfl, hk⟩ | ⟨w', F', L', h1, le, h3, c, L1, rfl, hk⟩ | ⟨f, args, w', h1, h2⟩
  · obtain ⟨F2, le2, hz, H2⟩ := Holds.freeze (A := []) h3
    exact .inl ⟨v, w', F2, L1, h1, le.trans le2, H2, hk F2 le2 hz⟩
  · obtain ⟨F2, le2, hz, H2⟩ := Holds.freeze (A := []) h3
    exact .inr (.inl ⟨w', F2, L1, h1, le.trans le2, H2, hk F2 le2 hz⟩)
  · refine .inr (.inr ⟨f, args, w', h1, h2.mono fun e w'' ⟨v, F', L', he, le, hH, c, L1, hL, hk⟩ => ?_⟩)
    subst hL
    obtain ⟨F2, le2, hz, H2⟩ := Holds.freeze (A := []) hH
    exact ⟨v, F2, L1, he, le.trans le2, H2, hk F2 le2 hz⟩
theorem XOp.makeFuncL {fn : Go.Fn} {first captured : List Operand} (fv cv : List Value) (hf : first.map (evO ρ) = fv) (hc : captured.map (evO ρ) = cv) (k : K (.func fn fv.toArray cv.toArray) F L) : XOp P ⟨d, .makeFunc fn first.toArray captured.toArray, ty, pos, af, g⟩ ρ F L K :=
  XOp.makeFunc _ (by subst hf hc; simp) k
/-- An array's block, told as a slice. -/
theorem XOp.sliceArr {x : Operand} {t e E : TypeId} {n b : Nat} {cs : List Value} (A B : List HP) (hu : ∀ w, (underlying t).run P w = .ok (.array n e) w) (hs : ∀ w, (sizeOf e).run P w = .ok 1 w) (hx : evO ρ x = ptr b 0) (hl : cs.length = n)
    (hL : L = A ++ cellsH b cs E :: B) (k : ∀ v, v = .slice (some ⟨b, 0, none⟩) n n → K v F (A ++ slH E 1 v n cs :: B)) : XOp P ⟨d, .slice t x none none none, ty, pos, af, g⟩ ρ F L K := by
  subst hL
  intro w H
  refine .inl ⟨.slice (some ⟨b, 0, none⟩) n n, w, F, _, ?_, FLe.refl F, ?_, k _ rfl⟩
  · have e1 : (Instr.sliceBounds false n n none none none).run P w = .ok (0, n, n) w := by
      unfold Instr.sliceBounds
      simp
    simp [execOp, hx, Instr.sliceAt, hu, hs, Instr.sureAddr, e1, Addr.add]
  · refine (Sub.mkSl (s := 1) (spare := []) (by omega) (Nat.le_refl _) (by simp)).holds ?_
    simpa using H
/-- The zero value of an array. -/
theorem XOp.build0 {t e : TypeId} {n : Nat} {z : Value} (zs : List Value) (hu : ∀ w, (underlying t).run P w = .ok (.array n e) w) (hs : ∃ s, ∀ w, (sizeOf e).run P w = .ok s w) (hz : ∀ w, (zeroValue t).run P w = .ok z w) (hzs : z.cells = zs.toArray)
    (k : K (.agg zs.toArray) F L) : XOp P ⟨d, .build t #[], ty, pos, af, g⟩ ρ F L K :=
  XOp.value (fun w _ => by
    obtain ⟨s, hs⟩ := hs
    have e : (Instr.build t #[]).run P w = .ok (.agg zs.toArray) w := by
      unfold Instr.build
      simp [Sem.run_bind, hz, hu, hs, hzs, Instr.fill]
    simp [execOp, e]) k
end
end Go.Proofs.Ytiaanelimbmniaa.X
