/-
  Plain: matching, plain substitutions, filling, putting, steps.
-/
import Derived.Test.YtiaanelimbmniaaP2
set_option linter.unusedSimpArgs false
set_option linter.unusedVariables false
namespace Go.Proofs.Ytiaanelimbmniaa.M

abbrev RowL := List (List Int)
def varIx (n : Int) : Nat := (-1 - n).toNat
def mGo (ar t : List Int) : List Int → Nat → RowL → Option RowL
  | [], _, b => some b
  | n :: p, i, b =>
    if t.length ≤ i then none
    else if 0 ≤ n then (if t.getD i 0 = n then mGo ar t p (i + 1) b else none)
    else if b.getD (varIx n) [] = [] then mGo ar t p (i + (sub ar t i).length) (b.set (varIx n) (sub ar t i))
    else if b.getD (varIx n) [] = sub ar t i then mGo ar t p (i + (sub ar t i).length) b else none
def matchB (ar p t : List Int) : Option RowL := mGo ar t p 0 (List.replicate 24 [])

section
variable {ar t p : List Int} {k i : Nat} {b : RowL}
theorem drop_get {α : Type} {l : List α} {k : Nat} (d : α) (h : k < l.length) : l.drop k = l.getD k d :: l.drop (k + 1) := by
  rw [List.drop_eq_getElem_cons h]; simp [List.getD_eq_getElem?_getD, h]
theorem mGo_done (h : p.length ≤ k) : mGo ar t (p.drop k) i b = some b := by rw [List.drop_eq_nil_of_le h]; rfl
theorem mGo_short (hk : k < p.length) (h : t.length ≤ i) : mGo ar t (p.drop k) i b = none := by rw [drop_get 0 hk, mGo, if_pos h]
theorem mGo_sym (hk : k < p.length) (h : i < t.length) (h0 : 0 ≤ p.getD k 0) (he : t.getD i 0 = p.getD k 0) : mGo ar t (p.drop k) i b = mGo ar t (p.drop (k + 1)) (i + 1) b := by
  rw [drop_get 0 hk, mGo, if_neg (by omega), if_pos h0, if_pos he]
theorem mGo_ne (hk : k < p.length) (h : i < t.length) (h0 : 0 ≤ p.getD k 0) (he : t.getD i 0 ≠ p.getD k 0) : mGo ar t (p.drop k) i b = none := by
  rw [drop_get 0 hk, mGo, if_neg (by omega), if_pos h0, if_neg he]
theorem mGo_new (hk : k < p.length) (h : i < t.length) (h0 : p.getD k 0 < 0) (he : b.getD (varIx (p.getD k 0)) [] = []) :
    mGo ar t (p.drop k) i b = mGo ar t (p.drop (k + 1)) (i + (sub ar t i).length) (b.set (varIx (p.getD k 0)) (sub ar t i)) := by
  rw [drop_get 0 hk, mGo, if_neg (by omega), if_neg (by omega), if_pos he]
theorem mGo_same (hk : k < p.length) (h : i < t.length) (h0 : p.getD k 0 < 0) (hn : b.getD (varIx (p.getD k 0)) [] ≠ []) (he : b.getD (varIx (p.getD k 0)) [] = sub ar t i) :
    mGo ar t (p.drop k) i b = mGo ar t (p.drop (k + 1)) (i + (sub ar t i).length) b := by
  rw [drop_get 0 hk, mGo, if_neg (by omega), if_neg (by omega), if_neg hn, if_pos he]
theorem mGo_clash (hk : k < p.length) (h : i < t.length) (h0 : p.getD k 0 < 0) (hn : b.getD (varIx (p.getD k 0)) [] ≠ []) (he : b.getD (varIx (p.getD k 0)) [] ≠ sub ar t i) :
    mGo ar t (p.drop k) i b = none := by
  rw [drop_get 0 hk, mGo, if_neg (by omega), if_neg (by omega), if_neg hn, if_neg he]
end

theorem sub_ne {ar t : List Int} (h : termOk ar t = true) {p : Nat} (hp : p < t.length) : sub ar t p ≠ [] := by
  intro e
  have h1 := sub_length h hp
  have h2 := endN_spec h hp
  rw [e] at h1
  simp at h1
  omega

theorem mGo_len {ar t : List Int} {N : Nat} (hN : t.length ≤ N) : ∀ (p : List Int) (i : Nat) (b r : RowL), mGo ar t p i b = some r → (∀ k, (b.getD k []).length ≤ N) → r.length = b.length ∧ ∀ k, (r.getD k []).length ≤ N
  | [], i, b, r, h, hb => by simp [mGo] at h; subst h; exact ⟨rfl, hb⟩
  | n :: p, i, b, r, h, hb => by
    rw [mGo] at h
    split at h
    · cases h
    · split at h
      · split at h
        · exact mGo_len hN p _ _ _ h hb
        · cases h
      · split at h
        · have := mGo_len hN p _ _ _ h (fun k => by
            by_cases e : varIx n = k
            · subst e
              rcases Nat.lt_or_ge (varIx n) b.length with hl | hl
              · have : (b.set (varIx n) (sub ar t i)).getD (varIx n) [] = sub ar t i := by simp [List.getD_eq_getElem?_getD, hl]
                rw [this]
                have h1 : (sub ar t i).length ≤ (t.drop i).length := by unfold sub; rw [List.length_take]; omega
                rw [List.length_drop] at h1
                omega
              · rw [List.set_eq_of_length_le hl]; exact hb _
            · rw [List.getD_eq_getElem?_getD, List.getElem?_set_ne e, ← List.getD_eq_getElem?_getD]; exact hb k)
          rw [List.length_set] at this
          exact this
        · split at h
          · exact mGo_len hN p _ _ _ h hb
          · cases h
theorem matchB_len {ar t p : List Int} {r : RowL} (h : matchB ar p t = some r) : r.length = 24 ∧ ∀ k, (r.getD k []).length ≤ t.length := by
  have := mGo_len (Nat.le_refl _) p 0 _ r h (fun k => by
    rw [List.getD_eq_getElem?_getD, List.getElem?_replicate]
    split <;> simp)
  rwa [List.length_replicate] at this

theorem m4_next {ar t p : List Int} {k i : Nat} {b : RowL} (hk : k < p.length) (h : i < t.length) (h0 : p.getD k 0 < 0) (he : b.getD (varIx (p.getD k 0)) [] = [] ∨ b.getD (varIx (p.getD k 0)) [] = sub ar t i) :
    mGo ar t (p.drop k) i b = mGo ar t (p.drop (k + 1)) (i + (sub ar t i).length) (b.set (varIx (p.getD k 0)) (sub ar t i)) := by
  by_cases hn : b.getD (varIx (p.getD k 0)) [] = []
  · exact mGo_new hk h h0 hn
  · have e := he.resolve_left hn
    have hs : b.set (varIx (p.getD k 0)) (sub ar t i) = b := by
      apply List.ext_getElem?
      intro j
      rcases Nat.lt_or_ge j b.length with hj | hj
      · by_cases ej : varIx (p.getD k 0) = j
        · rw [ej] at e ⊢
          rw [List.getElem?_set_self hj, ← e, List.getD_eq_getElem?_getD, List.getElem?_eq_getElem hj]; rfl
        · rw [List.getElem?_set_ne ej]
      · rw [List.getElem?_eq_none (by simpa using hj), List.getElem?_eq_none hj]
    rw [hs]
    exact mGo_same hk h h0 hn e

/-- without the empty ones at the end -/
def trim : RowL → RowL
  | [] => []
  | x :: l => if trim l = [] then (if x = [] then [] else [x]) else x :: trim l
theorem trim_snoc (x : List Int) : ∀ l : RowL, trim (l ++ [x]) = if x = [] then trim l else l ++ [x]
  | [] => by simp [trim]
  | y :: l => by
    rw [List.cons_append, trim, trim_snoc x l]
    by_cases h : x = []
    · simp [h, trim]
    · simp [h]
theorem trim_le : ∀ l : RowL, (trim l).length ≤ l.length
  | [] => by simp [trim]
  | x :: l => by
    have := trim_le l
    rw [trim]
    split
    · split <;> simp
    · simp; omega
theorem trim_pad : ∀ l : RowL, trim l ++ List.replicate (l.length - (trim l).length) [] = l
  | [] => by simp [trim]
  | x :: l => by
    have ih := trim_pad l
    rw [trim]
    split
    · rename_i h
      rw [h] at ih
      have ih' : List.replicate l.length [] = l := by simpa using ih
      split
      · rename_i hx
        subst hx
        show List.replicate (l.length + 1) [] = [] :: l
        rw [List.replicate_succ, ih']
      · show x :: List.replicate (l.length + 1 - 1) [] = x :: l
        rw [Nat.add_sub_cancel, ih']
    · simp only [List.cons_append, List.length_cons, Nat.add_sub_add_right, ih]
theorem trim_get (l : RowL) (i : Nat) : (trim l).getD i [] = l.getD i [] := by
  have h := trim_pad l
  have : (trim l ++ List.replicate (l.length - (trim l).length) []).getD i [] = l.getD i [] := by rw [h]
  rw [← this]
  rcases Nat.lt_or_ge i (trim l).length with h1 | h1
  · simp [List.getD_eq_getElem?_getD, List.getElem?_append_left h1]
  · rw [List.getD_eq_getElem?_getD, List.getD_eq_getElem?_getD, List.getElem?_append_right h1, List.getElem?_eq_none (by omega), List.getElem?_replicate]
    split <;> rfl
theorem trim_last {l : RowL} (h : 0 < l.length → l.getD (l.length - 1) [] ≠ []) : trim l = l := by
  rcases List.eq_nil_or_concat l with rfl | ⟨m, x, rfl⟩
  · rfl
  · have := h (by simp)
    simp [List.getD_eq_getElem?_getD] at this
    rw [List.concat_eq_append, trim_snoc, if_neg this]
theorem trim_cut {l : RowL} (h0 : 0 < l.length) (h : l.getD (l.length - 1) [] = []) : trim (l.take (l.length - 1)) = trim l := by
  rcases List.eq_nil_or_concat l with rfl | ⟨m, x, rfl⟩
  · simp at h0
  · simp [List.getD_eq_getElem?_getD] at h
    subst h
    rw [List.concat_eq_append, trim_snoc, if_pos rfl]
    simp

def plainGo : Nat → RowL → RowL
  | _, [] => []
  | i, u :: l => (if u = [-1 - (i : Int)] then [] else u) :: plainGo (i + 1) l
theorem plainGo_length : ∀ (l : RowL) (i : Nat), (plainGo i l).length = l.length
  | [], _ => rfl
  | u :: l, i => by simp [plainGo, plainGo_length l]
theorem plainGo_get : ∀ (l : RowL) (i k : Nat), (plainGo i l).getD k [] = if l.getD k [] = [-1 - ((i + k : Nat) : Int)] then [] else l.getD k []
  | [], i, k => by simp [plainGo]
  | u :: l, i, 0 => by simp [plainGo]
  | u :: l, i, k + 1 => by
    have := plainGo_get l (i + 1) k
    rw [plainGo]
    simp only [List.getD_cons_succ]
    rw [this]
    have e : ((i + 1 + k : Nat) : Int) = ((i + (k + 1) : Nat) : Int) := by omega
    rw [e]
def plainL (b : RowL) : RowL := trim (plainGo 0 b)
theorem plainL_get (b : RowL) (k : Nat) : (plainL b).getD k [] = if b.getD k [] = [-1 - (k : Int)] then [] else b.getD k [] := by
  rw [plainL, trim_get, plainGo_get]; simp
theorem plainL_le (b : RowL) : (plainL b).length ≤ b.length := by
  have := trim_le (plainGo 0 b)
  rwa [plainGo_length] at this
theorem take_succ_getD {α : Type} {l : List α} {k : Nat} (d : α) (h : k < l.length) : l.take (k + 1) = l.take k ++ [l.getD k d] := by
  rw [List.take_succ_eq_append_getElem h]; simp [List.getD_eq_getElem?_getD, h]
theorem plain_skip {b : RowL} {k : Nat} (hk : k < b.length) (h : b.getD k [] = [] ∨ b.getD k [] = [-1 - (k : Int)]) : trim ((plainGo 0 b).take (k + 1)) = trim ((plainGo 0 b).take k) := by
  rw [take_succ_getD [] (by rw [plainGo_length]; exact hk), trim_snoc, if_pos]
  rw [plainGo_get]
  simp only [Nat.zero_add]
  rcases h with h | h
  · rw [h]; simp
  · rw [if_pos h]
theorem plain_put {b : RowL} {k : Nat} (hk : k < b.length) (h0 : b.getD k [] ≠ []) (h : b.getD k [] ≠ [-1 - (k : Int)]) {m : RowL} (hm : m = (plainGo 0 b).take k) : m ++ [b.getD k []] = trim ((plainGo 0 b).take (k + 1)) := by
  have e : (plainGo 0 b).getD k [] = b.getD k [] := by
    rw [plainGo_get]; simp only [Nat.zero_add]; rw [if_neg h]
  rw [take_succ_getD [] (by rw [plainGo_length]; exact hk), e, trim_snoc, if_neg h0, hm]
theorem plain_all (b : RowL) : trim ((plainGo 0 b).take b.length) = plainL b := by
  rw [plainL, List.take_of_length_le (by rw [plainGo_length]; exact Nat.le_refl _)]
/-- the impl's loop that pads -/
theorem plain_padded {l : RowL} {j : Nat} (h : (trim l ++ List.replicate j []).length = l.length) : trim l ++ List.replicate j [] = l := by
  have h1 := trim_pad l
  have h2 : j = l.length - (trim l).length := by simp at h; omega
  rw [h2]; exact h1

/-- what a substitution gives for a number of a term -/
def lk (s : RowL) (n : Int) : List Int := if 0 ≤ n then [n] else if s.getD (varIx n) [] = [] then [n] else s.getD (varIx n) []
theorem lk_plain (b : RowL) (n : Int) : lk (plainL b) n = lk b n := by
  unfold lk
  by_cases h : 0 ≤ n
  · simp [h]
  · simp only [h, if_false]
    rw [plainL_get]
    have e : -1 - (varIx n : Int) = n := by unfold varIx; omega
    rw [e]
    generalize b.getD (varIx n) [] = y
    by_cases h2 : y = [n]
    · simp [h2]
    · simp [h2]
/-- the same, [] for itself -/
def lkN (s : RowL) (n : Int) : List Int := if 0 ≤ n then [] else s.getD (varIx n) []
theorem lkN_pos {s : RowL} {n : Int} (h : 0 ≤ n) : lkN s n = [] := by rw [lkN, if_pos h]
theorem lkN_neg {s : RowL} {n : Int} (h : n < 0) : lkN s n = s.getD (varIx n) [] := by rw [lkN, if_neg (by omega)]
theorem lkN_bound {s : RowL} {n : Int} {N : Nat} (h : ∀ i, (s.getD i []).length ≤ N) : (lkN s n).length ≤ N := by
  unfold lkN
  split
  · simp
  · exact h _
theorem lk_of_nil {s : RowL} {n : Int} (h : lkN s n = []) : lk s n = [n] := by
  unfold lkN at h
  unfold lk
  by_cases h0 : 0 ≤ n
  · rw [if_pos h0]
  · rw [if_neg h0] at h ⊢
    rw [if_pos h]
theorem lk_of_ne {s : RowL} {n : Int} (h : lkN s n ≠ []) : lk s n = lkN s n := by
  unfold lkN at h ⊢
  unfold lk
  by_cases h0 : 0 ≤ n
  · rw [if_pos h0] at h; exact absurd rfl h
  · rw [if_neg h0] at h ⊢
    rw [if_neg h, if_neg h0]
def fillGo (s : RowL) : List Int → List Int → Option (List Int)
  | [], acc => some acc
  | n :: t, acc => if 60 < (acc ++ lk s n).length then none else fillGo s t (acc ++ lk s n)
def fillL (s : RowL) (t : List Int) : Option (List Int) := fillGo s t []
theorem fillGo_congr {s s' : RowL} (h : ∀ n, lk s n = lk s' n) : ∀ (t acc : List Int), fillGo s t acc = fillGo s' t acc
  | [], _ => rfl
  | n :: t, acc => by rw [fillGo, fillGo, h n, fillGo_congr h t]
theorem fillL_plain (b : RowL) (t : List Int) : fillL (plainL b) t = fillL b t := fillGo_congr (lk_plain b) t []
section
variable {s : RowL} {t acc : List Int} {k : Nat}
theorem fillGo_done (h : t.length ≤ k) : fillGo s (t.drop k) acc = some acc := by rw [List.drop_eq_nil_of_le h]; rfl
theorem fillGo_next (hk : k < t.length) {a : List Int} (ha : a = acc ++ lk s (t.getD k 0)) (h : a.length ≤ 60) : fillGo s (t.drop k) acc = fillGo s (t.drop (k + 1)) a := by
  subst ha
  rw [drop_get 0 hk, fillGo, if_neg (by omega)]
theorem fillGo_long (hk : k < t.length) {a : List Int} (ha : a = acc ++ lk s (t.getD k 0)) (h : 60 < a.length) : fillGo s (t.drop k) acc = none := by
  subst ha
  rw [drop_get 0 hk, fillGo, if_pos h]
theorem lk_sym {n : Int} (h : 0 ≤ n) : lk s n = [n] := by simp [lk, h]
theorem lk_none {n : Int} (h : n < 0) (h2 : s.getD (varIx n) [] = []) : lk s n = [n] := by rw [lk, if_neg (by omega), if_pos h2]
theorem lk_some {n : Int} (h : n < 0) (h2 : s.getD (varIx n) [] ≠ []) : lk s n = s.getD (varIx n) [] := by rw [lk, if_neg (by omega), if_neg h2]
end
def putL (ar t : List Int) (p : Nat) (u : List Int) : Option (List Int) :=
  if 60 < (t.take p ++ u ++ t.drop (endN ar t p)).length then none else some (t.take p ++ u ++ t.drop (endN ar t p))

theorem flatten_take {xs : RowL} {k : Nat} (h : k < xs.length) : (xs.take (k + 1)).flatten = (xs.take k).flatten ++ xs.getD k [] := by
  rw [take_succ_getD [] h]; simp
theorem flatten_bound {xs : RowL} {N : Nat} (hb : ∀ i, i < xs.length → (xs.getD i []).length ≤ N) : ∀ k, k ≤ xs.length → ((xs.take k).flatten).length ≤ k * N
  | 0, _ => by simp
  | k + 1, h => by
    have ih := flatten_bound hb k (by omega)
    have := hb k (by omega)
    rw [flatten_take (by omega), List.length_append, Nat.add_mul]
    omega
theorem put_flat {t u : List Int} {p e : Nat} : ([((t.drop 0).take (p - 0)), u, (t.drop e).take (t.length - e)] : RowL).flatten = t.take p ++ u ++ t.drop e := by
  have h : (t.drop e).take (t.length - e) = t.drop e := List.take_of_length_le (by rw [List.length_drop]; exact Nat.le_refl _)
  rw [h]
  simp
theorem putL_none {ar t u : List Int} {p : Nat} {o : List Int} (ho : o = t.take p ++ u ++ t.drop (endN ar t p)) (h : 60 < o.length) : putL ar t p u = none := by subst ho; rw [putL, if_pos h]
theorem putL_some {ar t u : List Int} {p : Nat} {o : List Int} (ho : o = t.take p ++ u ++ t.drop (endN ar t p)) (h : ¬ 60 < o.length) : putL ar t p u = some o := by subst ho; rw [putL, if_neg h]
abbrev Rules := List (List Int × List Int)
def isRedex (ar : List Int) (rs : Rules) (t : List Int) (p r : Nat) : Bool := (matchB ar (rs.getD r ([], [])).1 (sub ar t p)).isSome
def stepL (ar : List Int) (rs : Rules) (t : List Int) (p r : Nat) : Option (List Int) :=
  match matchB ar (rs.getD r ([], [])).1 (sub ar t p) with
  | none => none
  | some b => match fillL b (rs.getD r ([], [])).2 with
    | none => none
    | some u => putL ar t p u
theorem varIx_neg (k : Nat) : varIx (-1 - (k : Int)) = k := by unfold varIx; omega
theorem lk_var {s : RowL} {k : Nat} : lk s (-1 - (k : Int)) = if s.getD k [] = [] then [-1 - (k : Int)] else s.getD k [] := by
  rw [lk, if_neg (by omega), varIx_neg]
theorem lk_copy {s : RowL} {k : Nat} (h : 0 < (s.getD k []).length) : lk s (-1 - (k : Int)) = s.getD k [] := by
  rw [lk_var, if_neg (List.length_pos_iff.1 h)]
theorem lk_self {s : RowL} {k : Nat} (h : ¬ 0 < (s.getD k []).length) : lk s (-1 - (k : Int)) = [-1 - (k : Int)] := by
  rw [lk_var, if_pos (List.eq_nil_of_length_eq_zero (by omega))]
theorem getD_out {s : RowL} {k : Nat} (h : s.length ≤ k) : s.getD k [] = [] := by rw [List.getD_eq_getElem?_getD, List.getElem?_eq_none h]; rfl
theorem plainGo_self {s : RowL} {k : Nat} (h : lk s (-1 - (k : Int)) = [-1 - (k : Int)]) : (plainGo 0 s).getD k [] = [] := by
  rw [plainGo_get]
  simp only [Nat.zero_add]
  rw [lk_var] at h
  split at h
  · rename_i e; rw [e]; simp
  · rw [if_pos h]
theorem plainGo_other {s : RowL} {k : Nat} (h : lk s (-1 - (k : Int)) ≠ [-1 - (k : Int)]) : (plainGo 0 s).getD k [] = lk s (-1 - (k : Int)) := by
  rw [plainGo_get]
  simp only [Nat.zero_add]
  rw [lk_var] at h ⊢
  split at h
  · exact absurd rfl h
  · rename_i e
    rw [if_neg h, if_neg e]
theorem one_eq {l : List Int} {n : Int} (h1 : l.length = 1) (h2 : l.getD 0 0 = n) : l = [n] := by
  match l, h1 with
  | [a], _ => simp at h2; rw [h2]
theorem plainGo_take {s : RowL} {k : Nat} (hk : k < s.length) : (plainGo 0 s).take (k + 1) = (plainGo 0 s).take k ++ [(plainGo 0 s).getD k []] := take_succ_getD [] (by rw [plainGo_length]; exact hk)
/-- what match gives -/
def matchP (ar p t : List Int) : RowL := ((matchB ar p t).map plainL).getD []
theorem matchP_len {ar p t : List Int} : (matchP ar p t).length ≤ 24 ∧ ∀ i, ((matchP ar p t).getD i []).length ≤ t.length := by
  unfold matchP
  cases h : matchB ar p t with
  | none => simp
  | some b =>
    obtain ⟨h1, h2⟩ := matchB_len h
    simp only [Option.map_some, Option.getD_some]
    refine ⟨by have := plainL_le b; omega, fun i => ?_⟩
    rw [plainL_get]
    split
    · simp
    · exact h2 i
theorem lk_pos {s : RowL} {n : Int} : 1 ≤ (lk s n).length := by
  unfold lk
  split
  · simp
  · split
    · simp
    · rename_i h; exact List.length_pos_iff.2 h
theorem fillGo_len {s : RowL} : ∀ (t acc u : List Int), fillGo s t acc = some u → acc.length ≤ 60 → u.length ≤ 60 ∧ acc.length + t.length ≤ u.length
  | [], acc, u, h, ha => by simp [fillGo] at h; subst h; simp; exact ha
  | n :: t, acc, u, h, ha => by
    rw [fillGo] at h
    split at h
    · cases h
    · have := fillGo_len t _ u h (by omega)
      have h2 := lk_pos (s := s) (n := n)
      rw [List.length_append] at this
      simp only [List.length_cons]
      omega
theorem fillL_len {s : RowL} {t u : List Int} (h : fillL s t = some u) : u.length ≤ 60 ∧ t.length ≤ u.length := by
  have := fillGo_len t [] u h (by simp)
  simpa using this
section
variable {ar : List Int} {rs : Rules} {t : List Int} {p r : Nat}
theorem stepL_nomatch (h : (matchB ar (rs.getD r ([], [])).1 (sub ar t p)).isSome = false) : stepL ar rs t p r = none := by
  unfold stepL
  cases hm : matchB ar (rs.getD r ([], [])).1 (sub ar t p) with
  | none => rfl
  | some b => rw [hm] at h; cases h
theorem stepL_nofill (h : (matchB ar (rs.getD r ([], [])).1 (sub ar t p)).isSome = true) (h2 : (fillL (matchP ar (rs.getD r ([], [])).1 (sub ar t p)) (rs.getD r ([], [])).2).isSome = false) : stepL ar rs t p r = none := by
  unfold stepL
  unfold matchP at h2
  cases hm : matchB ar (rs.getD r ([], [])).1 (sub ar t p) with
  | none => rfl
  | some b =>
    rw [hm] at h2
    simp only [Option.map_some, Option.getD_some, fillL_plain] at h2
    cases hf : fillL b (rs.getD r ([], [])).2 with
    | none => simp only [hf]
    | some u => rw [hf] at h2; cases h2
theorem stepL_put (h : (matchB ar (rs.getD r ([], [])).1 (sub ar t p)).isSome = true) (h2 : (fillL (matchP ar (rs.getD r ([], [])).1 (sub ar t p)) (rs.getD r ([], [])).2).isSome = true) :
    stepL ar rs t p r = putL ar t p ((fillL (matchP ar (rs.getD r ([], [])).1 (sub ar t p)) (rs.getD r ([], [])).2).getD []) := by
  unfold stepL
  unfold matchP at h2 ⊢
  cases hm : matchB ar (rs.getD r ([], [])).1 (sub ar t p) with
  | none => rw [hm] at h; cases h
  | some b =>
    rw [hm] at h2
    simp only [Option.map_some, Option.getD_some, fillL_plain] at h2 ⊢
    cases hf : fillL b (rs.getD r ([], [])).2 with
    | none => rw [hf] at h2; cases h2
    | some u => simp only [hf, Option.getD_some]
theorem fill_getD_len {s : RowL} {t : List Int} (h : (fillL s t).isSome = true) (ht : 1 ≤ t.length) : 1 ≤ ((fillL s t).getD []).length ∧ ((fillL s t).getD []).length ≤ 60 := by
  obtain ⟨u, hu⟩ := Option.isSome_iff_exists.1 h
  have := fillL_len hu
  rw [hu]
  simp only [Option.getD_some]
  omega
end
/-- the smallest rule of a redex, or -1 -/
def ruleAtGo (ar : List Int) (rs : Rules) (t : List Int) (p : Nat) : Nat → Nat → Int
  | 0, _ => -1
  | n + 1, r => if isRedex ar rs t p r then (r : Int) else ruleAtGo ar rs t p n (r + 1)
def ruleAtL (ar : List Int) (rs : Rules) (t : List Int) (p : Nat) : Int := ruleAtGo ar rs t p rs.length 0
section
variable {ar : List Int} {rs : Rules} {t : List Int} {p r : Nat}
theorem ruleAt_hit (hr : r < rs.length) (h : isRedex ar rs t p r = true) : ruleAtGo ar rs t p (rs.length - r) r = r := by
  rw [show rs.length - r = (rs.length - (r + 1)) + 1 from by omega, ruleAtGo, if_pos h]
theorem ruleAt_miss (hr : r < rs.length) (h : isRedex ar rs t p r = false) : ruleAtGo ar rs t p (rs.length - r) r = ruleAtGo ar rs t p (rs.length - (r + 1)) (r + 1) := by
  rw [show rs.length - r = (rs.length - (r + 1)) + 1 from by omega, ruleAtGo, if_neg (by rw [h]; simp)]
theorem ruleAt_end (hr : rs.length ≤ r) : ruleAtGo ar rs t p (rs.length - r) r = -1 := by rw [show rs.length - r = 0 from by omega]; rfl
theorem ruleAtGo_spec : ∀ (n r : Nat), ruleAtGo ar rs t p n r = -1 ∨ ∃ k : Nat, ruleAtGo ar rs t p n r = k ∧ r ≤ k ∧ k < r + n ∧ isRedex ar rs t p k = true
  | 0, r => .inl rfl
  | n + 1, r => by
    rw [ruleAtGo]
    split
    · rename_i h; exact .inr ⟨r, rfl, Nat.le_refl _, by omega, h⟩
    · rcases ruleAtGo_spec n (r + 1) with h | ⟨k, h1, h2, h3, h4⟩
      · exact .inl h
      · exact .inr ⟨k, h1, by omega, by omega, h4⟩
theorem ruleAt_spec : ruleAtL ar rs t p = -1 ∨ ∃ k : Nat, ruleAtL ar rs t p = k ∧ k < rs.length ∧ isRedex ar rs t p k = true := by
  rcases ruleAtGo_spec (ar := ar) (rs := rs) (t := t) (p := p) rs.length 0 with h | ⟨k, h1, _, h3, h4⟩
  · exact .inl h
  · exact .inr ⟨k, h1, by omega, h4⟩
end
end Go.Proofs.Ytiaanelimbmniaa.M
