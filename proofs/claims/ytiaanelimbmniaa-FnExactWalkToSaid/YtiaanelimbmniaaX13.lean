/-
  Deep data: slices of structs, owned with all their leaves: making, marking, lending.
-/
import Derived.Test.YtiaanelimbmniaaX12
set_option linter.unusedSimpArgs false
set_option linter.unusedVariables false
namespace Go.Proofs.Ytiaanelimbmniaa.X
open Go

def RowO (e : TypeId) (es : List Value) (x : List Int) (K : List HP) : Prop := ∃ a, es = [a] ∧ K = [intsH e a x]
def PairO (e : TypeId) (es : List Value) (x : List Int × List Int) (K : List HP) : Prop := ∃ a b, es = [a, b] ∧ K = [intsH e a x.1, intsH e b x.2]
def StepO (e : TypeId) (es : List Value) (x : StepT) (K : List HP) : Prop := ∃ c, es = [.int .i64 x.1, .int .i64 x.2.1, c] ∧ K = [intsH e c x.2.2]
abbrev rowsD (e E : TypeId) (v : Value) (xs : List (List Int)) : HP := deepH 1 (RowO e) E v xs
abbrev pairsD (e E : TypeId) (v : Value) (xs : List (List Int × List Int)) : HP := deepH 2 (PairO e) E v xs
abbrev stepsD (e E : TypeId) (v : Value) (xs : List StepT) : HP := deepH 3 (StepO e) E v xs

section
variable {α : Type} {s : Nat} {R : List Value → α → List HP → Prop} {d : α} {F F' G : FH} {cs es : List Value} {xs : List α} {x : α} {L K A B : List HP} {e E : TypeId} {v : Value}

theorem frozen_star {K : List HP} {F : FH} (h : ∃ l, star K l ∧ ∀ p ∈ l, F.cells p.1 = some p.2) : ∀ k ∈ K, Fz k F := by
  induction K with
  | nil => intro k hk; cases hk
  | cons h0 K ih =>
    obtain ⟨_, ⟨a, b, ha, hb, rfl⟩, hp⟩ := h
    intro k hk
    rcases List.mem_cons.1 hk with rfl | hk
    · exact ⟨a, ha, fun p hpm => hp p (List.mem_append_left _ hpm)⟩
    · exact ih ⟨b, hb, fun p hpm => hp p (List.mem_append_right _ hpm)⟩ k hk
theorem RowO.fz (es : List Value) (x : List Int) (K : List HP) (h : RowO e es x K) (hz : ∃ l, star K l ∧ ∀ p ∈ l, F.cells p.1 = some p.2) : RowF F es x := by
  obtain ⟨a, rfl, rfl⟩ := h
  exact ⟨a, rfl, intsH.fz (E := e) (frozen_star hz _ (by simp))⟩
theorem PairO.fz (es : List Value) (x : List Int × List Int) (K : List HP) (h : PairO e es x K) (hz : ∃ l, star K l ∧ ∀ p ∈ l, F.cells p.1 = some p.2) : PairF F es x := by
  obtain ⟨a, b, rfl, rfl⟩ := h
  exact ⟨a, b, rfl, intsH.fz (E := e) (frozen_star hz _ (by simp)), intsH.fz (E := e) (frozen_star hz _ (by simp))⟩
theorem StepO.fz (es : List Value) (x : StepT) (K : List HP) (h : StepO e es x K) (hz : ∃ l, star K l ∧ ∀ p ∈ l, F.cells p.1 = some p.2) : StepF F es x := by
  obtain ⟨c, rfl, rfl⟩ := h
  exact ⟨c, rfl, intsH.fz (E := e) (frozen_star hz _ (by simp))⟩
theorem deepH.fz {RF : FH → List Value → α → Prop} (hR : ∀ es x K, R es x K → (∃ l, star K l ∧ ∀ p ∈ l, F.cells p.1 = some p.2) → RF F es x) (h : Fz (deepH s R E v xs) F) : SlOf s RF d F v xs := by
  obtain ⟨l, ⟨cs, L, hd, a, b, ha, hb, rfl⟩, hp⟩ := h
  exact CO.fz (hd.co hR ⟨b, hb, fun p h => hp p (List.mem_append_right _ h)⟩) rfl ⟨a, ha, fun p h => hp p (List.mem_append_left _ h)⟩
theorem rowsD.fz {xs : List (List Int)} (h : Fz (rowsD e E v xs) F) : RowsF F v xs := deepH.fz RowO.fz h
theorem pairsD.fz {xs : List (List Int × List Int)} (h : Fz (pairsD e E v xs) F) : PairsF F v xs := deepH.fz PairO.fz h
theorem stepsD.fz {xs : List StepT} (h : Fz (stepsD e E v xs) F) : StepsF F v xs := deepH.fz StepO.fz h

theorem DeepL.rows {cs : List Value} {xs : List (List Int)} {L : List HP} (h : DeepL 1 (RowO e) cs xs L) (hz : Fresh G F (star L)) : RowsC F cs xs := h.co RowO.fz (let ⟨m, h1, _, h3⟩ := hz; ⟨m, h1, fun p hp => (h3 p hp).2⟩)
theorem DeepL.pairs {cs : List Value} {xs : List (List Int × List Int)} {L : List HP} (h : DeepL 2 (PairO e) cs xs L) (hz : Fresh G F (star L)) : PairsC F cs xs := h.co PairO.fz (let ⟨m, h1, _, h3⟩ := hz; ⟨m, h1, fun p hp => (h3 p hp).2⟩)
theorem DeepL.steps {cs : List Value} {xs : List StepT} {L : List HP} (h : DeepL 3 (StepO e) cs xs L) (hz : Fresh G F (star L)) : StepsC F cs xs := h.co StepO.fz (let ⟨m, h1, _, h3⟩ := hz; ⟨m, h1, fun p hp => (h3 p hp).2⟩)

/-- The outer slice last of all: the whole is fresh. -/
theorem Fresh.deep {n : Nat} (hd : DeepL s R cs xs L) (h : Fresh F G (star L)) (le0 : F ≤ G) (k : Fresh G F' (slH E s v n cs)) (hn : n = xs.length) (le : G ≤ F') : Fresh F F' (deepH s R E v xs) := by
  subst hn
  exact (Fresh.cons h le0 k le).imp fun l hl => ⟨cs, L, hd, hl⟩

/-- One element of many, and what stands in its place instead. -/
theorem DeepL.at (h : DeepL s R cs xs L) {k : Nat} (hk : k < xs.length) : ∃ A K B es, L = A ++ (K ++ B) ∧ es.length = s ∧ R es (xs.getD k d) K ∧ (∀ j u, es[j]? = some u → cs[k * s + j]? = some u) ∧
    ∀ es' x' K', es'.length = s → R es' x' K' → DeepL s R (cs.take (k * s) ++ es' ++ cs.drop (k * s + s)) (xs.set k x') (A ++ (K' ++ B)) := by
  induction h with
  | nil => simp at hk
  | @snoc cs es xs x L K h hl hr ih =>
    have hlen := h.len
    rw [List.length_append, List.length_singleton] at hk
    rcases Nat.lt_or_ge k xs.length with hlt | hge
    · obtain ⟨A, K0, B, es0, rfl, hl0, hr0, hg0, hput⟩ := ih hlt
      have hb : k * s + s ≤ cs.length := by
        rw [hlen]
        have : (k + 1) * s ≤ xs.length * s := Nat.mul_le_mul_right s hlt
        rwa [Nat.succ_mul] at this
      refine ⟨A, K0, B ++ K, es0, by simp, hl0, ?_, fun j u hu => ?_, fun es' x' K' hl' hr' => ?_⟩
      · have : (xs ++ [x]).getD k d = xs.getD k d := by simp [List.getD_eq_getElem?_getD, List.getElem?_append_left hlt]
        rw [this]; exact hr0
      · have := hg0 j u hu
        rw [List.getElem?_append_left (List.getElem?_eq_some_iff.1 this).1]; exact this
      · have h1 := (hput es' x' K' hl' hr').snoc hl hr
        have e1 : (cs ++ es).take (k * s) ++ es' ++ (cs ++ es).drop (k * s + s) = cs.take (k * s) ++ es' ++ cs.drop (k * s + s) ++ es := by
          rw [List.take_append_of_le_length (by omega), List.drop_append_of_le_length (by omega)]; simp
        have e2 : (xs ++ [x]).set k x' = xs.set k x' ++ [x] := by rw [List.set_append_left _ _ hlt]
        have e3 : A ++ (K' ++ (B ++ K)) = A ++ (K' ++ B) ++ K := by simp
        rw [e1, e2, e3]; exact h1
    · obtain rfl : k = xs.length := by omega
      refine ⟨L, K, [], es, by simp, hl, ?_, fun j u hu => ?_, fun es' x' K' hl' hr' => ?_⟩
      · have : (xs ++ [x]).getD xs.length d = x := by simp [List.getD_eq_getElem?_getD]
        rw [this]; exact hr
      · rw [← hlen, List.getElem?_append_right (by omega)]
        rw [show cs.length + j - cs.length = j from by omega]; exact hu
      · have e1 : (cs ++ es).take (xs.length * s) ++ es' ++ (cs ++ es).drop (xs.length * s + s) = cs ++ es' := by
          rw [← hlen, List.take_left, List.drop_eq_nil_of_le (by simp; omega)]; simp
        have e2 : (xs ++ [x]).set xs.length x' = xs ++ [x'] := by simp
        rw [e1, e2, List.append_nil]; exact h.snoc hl' hr'

theorem splice_self {cs es : List Value} {k s : Nat} (hl : es.length = s) (h : ∀ (j : Nat) u, es[j]? = some u → cs[k * s + j]? = some u) (hb : k * s + s ≤ cs.length) : cs.take (k * s) ++ es ++ cs.drop (k * s + s) = cs := by
  have e : es = (cs.drop (k * s)).take s := by
    apply List.ext_getElem?
    intro j
    rcases Nat.lt_or_ge j s with hj | hj
    · rw [List.getElem?_take, if_pos hj, List.getElem?_drop, List.getElem?_eq_getElem (by omega), h j _ (List.getElem?_eq_getElem (by omega))]
    · rw [List.getElem?_eq_none (by omega), List.getElem?_eq_none (by simp; omega)]
  rw [e, List.append_assoc, ← List.drop_drop, List.take_append_drop, List.take_append_drop]
theorem DeepL.bound {cs : List Value} {xs : List α} {L : List HP} (h : DeepL s R cs xs L) {k : Nat} (hk : k < xs.length) : k * s + s ≤ cs.length := by
  rw [h.len]
  have : (k + 1) * s ≤ xs.length * s := Nat.mul_le_mul_right s hk
  rwa [Nat.succ_mul] at this

/-- Fresh leaves in the place of others. -/
theorem Fresh.swap {K' : List HP} {F1 F2 : FH} (h : Fresh F F1 (star (A ++ (K ++ B)))) (le0 : F ≤ F1) (k : Fresh F1 F2 (star K')) (le : F1 ≤ F2) : Fresh F F2 (star (A ++ (K' ++ B))) := by
  obtain ⟨m, hm, nd, hp⟩ := h
  obtain ⟨a, m2, ha, hm2, rfl⟩ := star_append.1 hm
  obtain ⟨c, b, hc, hb, rfl⟩ := star_append.1 hm2
  have hab : Fresh F F1 (star (A ++ B)) := by
    refine ⟨a ++ b, star_append.2 ⟨a, b, ha, hb, rfl⟩, ?_, fun p h' => hp p ?_⟩
    · refine List.Nodup.sublist ?_ nd
      exact (List.Sublist.append_left (List.sublist_append_right c b) a).map _
    · rcases List.mem_append.1 h' with h' | h'
      · exact List.mem_append_left _ h'
      · exact List.mem_append_right _ (List.mem_append_right _ h')
  obtain ⟨l, ⟨p1, q1, hp1, hq1, rfl⟩, nd2, hp2⟩ := Fresh.and hab le0 k le
  obtain ⟨a', b', ha', hb', rfl⟩ := star_append.1 hp1
  have pm : (a' ++ (q1 ++ b')).Perm ((a' ++ b') ++ q1) := by
    rw [List.append_assoc]
    exact List.Perm.append_left a' List.perm_append_comm
  exact ⟨a' ++ (q1 ++ b'), star_append.2 ⟨a', _, ha', star_append.2 ⟨q1, b', hq1, hb', rfl⟩, rfl⟩, (pm.map Prod.fst).nodup_iff.2 nd2, fun p h' => hp2 p (pm.mem_iff.1 h')⟩

/-- Many chunks as one, and back. -/
theorem Sub.gather {M N : List HP} : Sub (M ++ N) (star M :: N) := fun l h => by
  obtain ⟨a, b, ha, hb, rfl⟩ := star_append.1 h
  exact ⟨a ++ b, [], ⟨a, b, ha, hb, rfl⟩, by simp⟩
theorem Sub.scatter {M N : List HP} : Sub (star M :: N) (M ++ N) := fun l h => by
  obtain ⟨a, b, ha, hb, rfl⟩ := h
  exact ⟨a ++ b, [], star_append.2 ⟨a, b, ha, hb, rfl⟩, by simp⟩
theorem Sub.pull {A K B N : List HP} : Sub (star (A ++ (K ++ B)) :: N) (K ++ (star (A ++ B) :: N)) := fun l h => by
  obtain ⟨a, n, ha, hn, rfl⟩ := h
  obtain ⟨a1, m, h1, hm, rfl⟩ := star_append.1 ha
  obtain ⟨k, b, hk, hb, rfl⟩ := star_append.1 hm
  refine ⟨k ++ ((a1 ++ b) ++ n), [], star_append.2 ⟨k, _, hk, ⟨_, n, star_append.2 ⟨a1, b, h1, hb, rfl⟩, hn, rfl⟩, rfl⟩, ?_⟩
  rw [List.append_nil]
  have : (k ++ (a1 ++ b ++ n)).Perm (a1 ++ (k ++ (b ++ n))) := by
    have h2 : ((k ++ a1) ++ (b ++ n)).Perm ((a1 ++ k) ++ (b ++ n)) := List.perm_append_comm.append_right _
    simpa using h2
  exact this.trans (by simp)
theorem Sub.push {A K B N : List HP} : Sub (K ++ (star (A ++ B) :: N)) (star (A ++ (K ++ B)) :: N) := fun l h => by
  obtain ⟨k, m, hk, ⟨c, n, hc, hn, rfl⟩, rfl⟩ := star_append.1 h
  obtain ⟨a, b, ha, hb, rfl⟩ := star_append.1 hc
  refine ⟨(a ++ (k ++ b)) ++ n, [], ⟨_, n, star_append.2 ⟨a, _, ha, star_append.2 ⟨k, b, hk, hb, rfl⟩, rfl⟩, hn, rfl⟩, ?_⟩
  rw [List.append_nil]
  have : (a ++ (k ++ (b ++ n))).Perm (k ++ (a ++ b ++ n)) := by
    have h2 : ((a ++ k) ++ (b ++ n)).Perm ((k ++ a) ++ (b ++ n)) := List.perm_append_comm.append_right _
    simpa using h2
  exact (by simpa using this)
theorem Sub.openDeep {N : List HP} : ∀ l, star (deepH s R E v xs :: N) l → ∃ cs L, DeepL s R cs xs L ∧ star (slH E s v xs.length cs :: star L :: N) l := by
  rintro _ ⟨a, b, ⟨cs, L, hd, ha⟩, hb, rfl⟩
  obtain ⟨p, q, hp, hq, rfl⟩ := ha
  exact ⟨cs, L, hd, p, q ++ b, hp, ⟨q, b, hq, hb, rfl⟩, by simp⟩
theorem Sub.closeDeep {N : List HP} (hd : DeepL s R cs xs L) {n : Nat} (hn : n = xs.length) : Sub (slH E s v n cs :: star L :: N) (deepH s R E v xs :: N) := by
  subst hn
  rintro _ ⟨p, _, hp, ⟨q, b, hq, hb, rfl⟩, rfl⟩
  exact ⟨(p ++ q) ++ b, [], ⟨p ++ q, b, ⟨cs, L, hd, p, q, hp, hq, rfl⟩, hb, rfl⟩, by simp⟩
end
section
variable {P : Program} {n : Nat} {Q : QX} {ρ : Env} {F : FH} {N : List HP} {α : Type} {s : Nat} {R : List Value → α → List HP → Prop} {E : TypeId} {v : Value} {xs : List α}
theorem X.openDeep {c : Code} (h : ∀ cs L, DeepL s R cs xs L → X P n c Q ρ F (slH E s v xs.length cs :: star L :: N)) : X P n c Q ρ F (deepH s R E v xs :: N) := by
  intro ok a w r H
  obtain ⟨h1, h2, h3, h4, l, hl, nd, hp⟩ := H
  obtain ⟨cs, L, hd, hs⟩ := Sub.openDeep l hl
  exact h cs L hd ok a w r ⟨h1, h2, h3, h4, l, hs, nd, hp⟩
end
/- slices as 'make' gives them -/
theorem deepNilsR {e : TypeId} {β : Type} {s : Nat} {R : List Value → β → List HP → Prop} {d : β} {z : List Value} (hs : 0 < s) (hl : z.length = s) {K : List HP} (hR : R z d K) (hK : star K []) (n : Nat) :
    ∃ Ls, DeepL s R ((List.range (n * s)).map fun i => z.toArray[i % z.toArray.size]!) (List.replicate n d) Ls ∧ star Ls [] := by
  induction n with
  | zero => exact ⟨[], by simpa using DeepL.nil, rfl⟩
  | succ n ih =>
    obtain ⟨Ls, h1, h2⟩ := ih
    refine ⟨Ls ++ K, ?_, star_append.2 ⟨[], [], h2, hK, rfl⟩⟩
    have h3 := h1.snoc hl hR
    have e1 : (List.range ((n + 1) * s)).map (fun i => z.toArray[i % z.toArray.size]!) = (List.range (n * s)).map (fun i => z.toArray[i % z.toArray.size]!) ++ z := by
      rw [Nat.succ_mul, List.range_add, List.map_append, List.map_map]
      congr 1
      apply List.ext_getElem
      · simp [hl]
      · intro i h1 h2
        simp only [List.getElem_map, List.getElem_range, Function.comp]
        have hi : i < s := by simpa using h1
        have e2 : (n * s + i) % z.toArray.size = i := by
          have : z.toArray.size = s := by simp [hl]
          rw [this, Nat.mul_comm, Nat.mul_add_mod, Nat.mod_eq_of_lt hi]
        rw [e2, getElem!_pos _ _ (by simp; omega)]
        simp
    have e2 : List.replicate (n + 1) d = List.replicate n d ++ [d] := List.replicate_succ'
    rw [e1, e2]; exact h3
theorem nilLeaf {e : TypeId} : intsH e (.slice none 0 0) [] [] := slH_nil e 1 none
theorem nilWalk {e E : TypeId} : star [intsH e (.slice none 0 0) [], stepsD e E (.slice none 0 0) []] [] := ⟨[], [], nilLeaf, ⟨[], [], ⟨[], [], DeepL.nil, [], [], slH_nil E 3 none, rfl, rfl⟩, rfl, rfl⟩, rfl⟩
theorem deepNils1 (e : TypeId) (n : Nat) : ∃ Ls, DeepL 1 (RowO e) ((List.range (n * 1)).map fun i => [Value.slice none 0 0].toArray[i % [Value.slice none 0 0].toArray.size]!) (List.replicate n []) Ls ∧ star Ls [] :=
  deepNilsR (e := e) (s := 1) (R := RowO e) (d := ([] : List Int)) (z := [Value.slice none 0 0]) (K := [intsH e (.slice none 0 0) []]) (by decide) rfl ⟨_, rfl, rfl⟩ ⟨[], [], nilLeaf, rfl, rfl⟩ n
theorem deepNils2 (e : TypeId) (n : Nat) : ∃ Ls, DeepL 2 (PairO e) ((List.range (n * 2)).map fun i => [Value.slice none 0 0, Value.slice none 0 0].toArray[i % [Value.slice none 0 0, Value.slice none 0 0].toArray.size]!) (List.replicate n ([], [])) Ls ∧ star Ls [] :=
  deepNilsR (e := e) (s := 2) (R := PairO e) (d := (([], []) : List Int × List Int)) (z := [Value.slice none 0 0, Value.slice none 0 0]) (K := [intsH e (.slice none 0 0) [], intsH e (.slice none 0 0) []]) (by decide) rfl ⟨_, _, rfl, rfl⟩ ⟨[], [], nilLeaf, ⟨[], [], nilLeaf, rfl, rfl⟩, rfl⟩ n
theorem deepNils3 (e : TypeId) (n : Nat) : ∃ Ls, DeepL 3 (StepO e) ((List.range (n * 3)).map fun i => [Value.int .i64 0, Value.int .i64 0, Value.slice none 0 0].toArray[i % [Value.int .i64 0, Value.int .i64 0, Value.slice none 0 0].toArray.size]!) (List.replicate n (0, 0, [])) Ls ∧ star Ls [] :=
  deepNilsR (e := e) (s := 3) (R := StepO e) (d := ((0, 0, []) : StepT)) (z := [Value.int .i64 0, Value.int .i64 0, Value.slice none 0 0]) (K := [intsH e (.slice none 0 0) []]) (by decide) rfl ⟨_, rfl, rfl⟩ ⟨[], [], nilLeaf, rfl, rfl⟩ n
theorem DeepL.stepsNil {e : TypeId} {F : FH} {cs : List Value} {xs : List StepT} {L : List HP} (h : DeepL 3 (StepO e) cs xs L) (hz : star L []) : StepsC F cs xs := h.co StepO.fz ⟨[], hz, fun p hp => absurd hp (by simp)⟩
theorem DeepL.rowsNil {e : TypeId} {F : FH} {cs : List Value} {xs : List (List Int)} {L : List HP} (h : DeepL 1 (RowO e) cs xs L) (hz : star L []) : RowsC F cs xs := h.co RowO.fz ⟨[], hz, fun p hp => absurd hp (by simp)⟩
theorem StepsC.set {F : FH} {cs : List Value} {xs : List StepT} {a b : Int} {c : Value} {x : List Int} (h : StepsC F cs xs) {j : Nat} (hj : j < xs.length) (hc : IntsF F c x) : StepsC F (cs.take (j * 3) ++ [.int .i64 a, .int .i64 b, c] ++ cs.drop (j * 3 + 3)) (xs.set j (a, b, x)) := CO.setN h hj rfl ⟨c, rfl, hc⟩
section
variable {F : FH} {K A B : List HP}
/-- Cells written one at a time, and all at once. -/
theorem set_one {cs : List Value} {k : Nat} {a b : Value} (h : cs[k]? = some a) : cs.set k b = cs.take k ++ [b] ++ cs.drop (k + 1) := by
  have hk := (List.getElem?_eq_some_iff.1 h).1
  rw [List.set_eq_take_append_cons_drop, if_pos hk]; simp
theorem set_three {cs : List Value} {k : Nat} {a b c a' b' : Value} (h0 : cs[k * 3 + 0]? = some a) (h1 : cs[k * 3 + 1]? = some b) (h2 : cs[k * 3 + 2]? = some c) :
    (cs.set (k * 3) a').set (k * 3 + 1) b' = cs.take (k * 3) ++ [a', b', c] ++ cs.drop (k * 3 + 3) := by
  have hl2 := (List.getElem?_eq_some_iff.1 h2).1
  have e : cs.drop (k * 3) = [a, b, c] ++ cs.drop (k * 3 + 3) := by
    rw [List.drop_eq_getElem_cons (by omega), List.drop_eq_getElem_cons (i := k * 3 + 1) (by omega), List.drop_eq_getElem_cons (i := k * 3 + 1 + 1) (by omega)]
    have g0 : cs[k * 3] = a := (List.getElem?_eq_some_iff.1 h0).2
    have g1 : cs[k * 3 + 1] = b := (List.getElem?_eq_some_iff.1 h1).2
    have g2 : cs[k * 3 + 1 + 1] = c := (List.getElem?_eq_some_iff.1 h2).2
    rw [g0, g1, g2]
    rfl
  have hA : (cs.take (k * 3)).length = k * 3 := by rw [List.length_take]; omega
  have e2 : cs = cs.take (k * 3) ++ ([a, b, c] ++ cs.drop (k * 3 + 3)) := by rw [← e, List.take_append_drop]
  generalize cs.drop (k * 3 + 3) = B at *
  generalize cs.take (k * 3) = A at *
  subst e2
  rw [← hA, List.set_append_right _ _ (Nat.le_refl _), List.set_append_right _ _ (by omega), show A.length + 1 - A.length = 1 from by omega, Nat.sub_self]
  simp
end
end Go.Proofs.Ytiaanelimbmniaa.X
