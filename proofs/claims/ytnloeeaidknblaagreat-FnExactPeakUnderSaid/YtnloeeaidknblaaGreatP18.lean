/-
  Plain: the places of arguments, paths, critical peaks.
-/
import Derived.Test.YtnloeeaidknblaaGreatP11
set_option linter.unusedSimpArgs false
set_option linter.unusedVariables false
namespace Go.Proofs.YtnloeeaidknblaaGreat.M

def argsGo (ar t : List Int) : Nat → Nat → List Int
  | 0, _ => []
  | n + 1, q => (q : Int) :: argsGo ar t n (endN ar t q)
/-- the places of the arguments of the symbol at a place -/
def argsL (ar t : List Int) (p : Nat) : List Int := argsGo ar t (arity ar (t.getD p 0)).toNat (p + 1)

/-- n terms stand from q on, up to e -/
def Stand (ar t : List Int) (n q e : Nat) : Prop := endGo ar (t.drop q) n = some (e - q) ∧ q ≤ e ∧ e ≤ t.length
theorem stand_start {ar t : List Int} (h : termOk ar t = true) {p : Nat} (hp : p < t.length) : Stand ar t (arity ar (t.getD p 0)).toNat (p + 1) (endN ar t p) := by
  have he := endN_spec h hp
  obtain ⟨e, h1, h2, h3⟩ := endAt_some h hp
  have hN : endN ar t p = e := by simp [endN, h1]
  unfold endAt at h1
  rw [endGo_step (by omega) hp (termOk_lt h hp)] at h1
  rw [Nat.sub_self, Nat.zero_add] at h1
  refine ⟨?_, by omega, by omega⟩
  cases hg : endGo ar (t.drop (p + 1)) (arity ar (t.getD p 0)).toNat with
  | none => rw [hg] at h1; cases h1
  | some q => rw [hg] at h1; simp only [Option.map_some, Option.some.injEq] at h1; rw [Option.some.injEq]; omega
theorem stand_step {ar t : List Int} (h : termOk ar t = true) {n q e : Nat} (hs : Stand ar t (n + 1) q e) : q < t.length ∧ Stand ar t n (endN ar t q) e ∧ q < endN ar t q ∧ endN ar t q ≤ e := by
  obtain ⟨h1, h2, h3⟩ := hs
  have hpos := endGo_pos h1
  have hq : q < t.length := by omega
  have h1' := h1
  rw [Nat.add_comm] at h1
  obtain ⟨e1, e2, g1, g2, g3⟩ := endGo_split h1
  have hN : endN ar t q = q + e1 := by simp [endN, endAt, g1]
  have hE := endN_spec h hq
  rw [List.drop_drop] at g2
  refine ⟨hq, ⟨?_, by omega, h3⟩, by omega, by omega⟩
  rw [hN, g2]; congr 1; omega
theorem argsGo_len (ar t : List Int) : ∀ n q, (argsGo ar t n q).length = n
  | 0, _ => rfl
  | n + 1, q => by simp [argsGo, argsGo_len ar t n]
theorem argsGo_in {ar t : List Int} (h : termOk ar t = true) : ∀ {n q e : Nat}, Stand ar t n q e → ∀ k, k < n → (q : Int) ≤ (argsGo ar t n q).getD k 0 ∧ (argsGo ar t n q).getD k 0 < (e : Int)
  | 0, _, _, _, k, hk => absurd hk (by omega)
  | n + 1, q, e, hs, k, hk => by
    obtain ⟨h1, h2, h3, h4⟩ := stand_step h hs
    cases k with
    | zero => simp only [argsGo, List.getD_cons_zero]; omega
    | succ k =>
      have := argsGo_in h h2 k (by omega)
      simp only [argsGo, List.getD_cons_succ]; omega
theorem argsGo_cover {ar t : List Int} (h : termOk ar t = true) : ∀ {n q e : Nat}, Stand ar t n q e → ∀ x : Nat, q ≤ x → x < e → ∃ k, k < n ∧ (argsGo ar t n q).getD k 0 ≤ (x : Int) ∧ (x : Int) < (endN ar t ((argsGo ar t n q).getD k 0).toNat : Int)
  | 0, q, e, hs, x, hx, hxe => by
    have := hs.1; simp [endGo] at this; have := hs.2.1; omega
  | n + 1, q, e, hs, x, hx, hxe => by
    obtain ⟨h1, h2, h3, h4⟩ := stand_step h hs
    rcases Nat.lt_or_ge x (endN ar t q) with hlt | hge
    · exact ⟨0, by omega, by simp only [argsGo, List.getD_cons_zero]; omega, by simp only [argsGo, List.getD_cons_zero, Int.toNat_natCast]; omega⟩
    · obtain ⟨k, hk, ha, hb⟩ := argsGo_cover h h2 x hge hxe
      exact ⟨k + 1, by omega, by simp only [argsGo, List.getD_cons_succ]; exact ha, by simp only [argsGo, List.getD_cons_succ]; exact hb⟩
theorem argsL_len {ar t : List Int} {p : Nat} : (argsL ar t p).length = (arity ar (t.getD p 0)).toNat := argsGo_len ..
theorem argsL_le {ar t : List Int} (h : termOk ar t = true) {p : Nat} (hp : p < t.length) : (argsL ar t p).length ≤ 3 := by
  have := arity_le (termOk_sig h) (termOk_lt h hp)
  rw [argsL_len]; omega
theorem argsL_in {ar t : List Int} (h : termOk ar t = true) {p : Nat} (hp : p < t.length) {k : Nat} (hk : k < (argsL ar t p).length) : (p : Int) < (argsL ar t p).getD k 0 ∧ (argsL ar t p).getD k 0 < (endN ar t p : Int) ∧ (argsL ar t p).getD k 0 < (t.length : Int) := by
  rw [argsL_len] at hk
  have h1 := stand_start h hp
  have := argsGo_in h h1 k hk
  have := endN_spec h hp
  unfold argsL; omega
/-- one round of the loop that gathers them -/
theorem args_next {ar t : List Int} (h : termOk ar t = true) {p n q : Nat} {os : List Int} (hn : 1 ≤ n) (he : argsL ar t p = os ++ argsGo ar t n q) : argsL ar t p = (os ++ [(q : Int)]) ++ argsGo ar t (n - 1) (endN ar t q) := by
  obtain ⟨m, rfl⟩ : ∃ m, n = m + 1 := ⟨n - 1, by omega⟩
  rw [he, argsGo, Nat.add_sub_cancel, List.append_assoc]; rfl

/-- is a place inside the subterm at another one? -/
def inAt (ar t : List Int) (x : Nat) (q : Int) : Bool := decide (q ≤ (x : Int) ∧ (x : Int) < (endN ar t q.toNat : Int))
def nextK (ar t : List Int) (x p : Nat) : Nat := (argsL ar t p).findIdx (inAt ar t x)
def pathGo (ar t : List Int) (x : Nat) : Nat → Nat → List Int
  | 0, _ => []
  | f + 1, p => if p = x then [] else (nextK ar t x p : Int) :: pathGo ar t x f ((argsL ar t p).getD (nextK ar t x p) 0).toNat
/-- the path to a place -/
def pathL (ar t : List Int) (x : Nat) : List Int := pathGo ar t x t.length 0
theorem nextK_is {ar t : List Int} {x p k : Nat} (hk : k < (argsL ar t p).length) (hi : inAt ar t x ((argsL ar t p).getD k 0) = true) (hall : ∀ i, i < k → inAt ar t x ((argsL ar t p).getD i 0) = false) : nextK ar t x p = k := by
  unfold nextK
  rw [List.findIdx_eq hk]
  refine ⟨by simpa [List.getD, hk] using hi, fun j hj => ?_⟩
  have := hall j hj
  simpa [List.getD, show j < (argsL ar t p).length by omega] using this
theorem args_some {ar t : List Int} (h : termOk ar t = true) {x p : Nat} (hp : p < x) (hx : x < endN ar t p) (hl : x < t.length) (hall : ∀ i, i < (argsL ar t p).length → inAt ar t x ((argsL ar t p).getD i 0) = false) : False := by
  have h1 := stand_start h (show p < t.length by omega)
  obtain ⟨k, hk, ha, hb⟩ := argsGo_cover h h1 x (by omega) hx
  have h2 := hall k (by rw [argsL_len]; exact hk)
  unfold inAt argsL at h2
  simp only [decide_eq_false_iff_not] at h2
  exact h2 ⟨ha, hb⟩
theorem endN_zero {ar t : List Int} (h : termOk ar t = true) : endN ar t 0 = t.length := by
  have hw := (termOk_iff.1 h).whole
  simp [endN, endAt, hw]
theorem inAt_iff {ar t : List Int} {x : Nat} {q : Int} : inAt ar t x q = true ↔ (q ≤ (x : Int) ∧ (x : Int) < (endN ar t q.toNat : Int)) := by unfold inAt; rw [decide_eq_true_eq]
theorem path_next {ar t : List Int} {x p f k : Nat} {ps : List Int} (he : pathL ar t x = ps ++ pathGo ar t x f p) (hf : x - p ≤ f) (hp : p < x) (hk : k < (argsL ar t p).length) (hi : inAt ar t x ((argsL ar t p).getD k 0) = true) (hall : ∀ i, i < k → inAt ar t x ((argsL ar t p).getD i 0) = false) :
    pathL ar t x = (ps ++ [(k : Int)]) ++ pathGo ar t x (f - 1) ((argsL ar t p).getD k 0).toNat := by
  obtain ⟨g, rfl⟩ : ∃ g, f = g + 1 := ⟨f - 1, by omega⟩
  have hn := nextK_is hk hi hall
  rw [he, pathGo, if_neg (by omega), hn, Nat.add_sub_cancel, List.append_assoc]; rfl
theorem path_end {ar t : List Int} {x f : Nat} {ps : List Int} (he : pathL ar t x = ps ++ pathGo ar t x f x) : pathL ar t x = ps := by
  rw [he]; cases f <;> simp [pathGo]
theorem pathGo_len (ar t : List Int) (x : Nat) : ∀ f p, (pathGo ar t x f p).length ≤ f
  | 0, p => by simp [pathGo]
  | f + 1, p => by
    rw [pathGo]; split
    · simp
    · have := pathGo_len ar t x f ((argsL ar t p).getD (nextK ar t x p) 0).toNat
      simp; exact this
theorem pathL_len (ar t : List Int) (x : Nat) : (pathL ar t x).length ≤ t.length := pathGo_len ..

/-- the place at the end of a path -/
def placeGo (ar t : List Int) : List Int → Nat → Int
  | [], p => p
  | i :: r, p => if 0 ≤ i ∧ i < ((argsL ar t p).length : Int) then placeGo ar t r ((argsL ar t p).getD i.toNat 0).toNat else -1
def placeL (ar t path : List Int) : Int := if termOk ar t = true then placeGo ar t path 0 else -1
theorem place_next {ar t path : List Int} {k p : Nat} (hk : k < path.length) (h : 0 ≤ path.getD k 0 ∧ path.getD k 0 < ((argsL ar t p).length : Int)) : placeGo ar t (path.drop k) p = placeGo ar t (path.drop (k + 1)) ((argsL ar t p).getD (path.getD k 0).toNat 0).toNat := by
  rw [drop_get 0 hk, placeGo, if_pos h]
theorem place_out {ar t path : List Int} {k p : Nat} (hk : k < path.length) (h : ¬ (0 ≤ path.getD k 0 ∧ path.getD k 0 < ((argsL ar t p).length : Int))) : placeGo ar t (path.drop k) p = -1 := by
  rw [drop_get 0 hk, placeGo, if_neg h]
theorem place_end {ar t path : List Int} {k p : Nat} (hk : path.length ≤ k) : placeGo ar t (path.drop k) p = (p : Int) := by
  rw [List.drop_eq_nil_of_le hk]; rfl
theorem placeGo_le {ar t : List Int} (h : termOk ar t = true) : ∀ (r : List Int) (p : Nat), p < t.length → -1 ≤ placeGo ar t r p ∧ placeGo ar t r p < (t.length : Int)
  | [], p, hp => by simp only [placeGo]; omega
  | i :: r, p, hp => by
    rw [placeGo]; split
    · rename_i hi
      have := argsL_in h hp (k := i.toNat) (by omega)
      exact placeGo_le h r _ (by omega)
    · omega
theorem placeL_le {ar t path : List Int} : -1 ≤ placeL ar t path ∧ placeL ar t path < (60 : Int) := by
  unfold placeL; split
  · rename_i h
    have h1 := termOk_len h
    have := placeGo_le h path 0 (by omega); omega
  · omega

/-- critical peaks that are right -/
def peakArgs (ar : List Int) (rs : Rules) (at' under over : Int) : Bool :=
  decide (0 ≤ over ∧ over < (rs.length : Int)) && decide (0 ≤ under ∧ under < (rs.length : Int)) && decide (¬ (at' = 0 ∧ over = under)) && decide (0 ≤ at' ∧ at' < ((rs.getD over.toNat ([], [])).1.length : Int)) && decide (0 ≤ (rs.getD over.toNat ([], [])).1.getD at'.toNat 0)
abbrev peakAtL (ar : List Int) (rs : Rules) (top : List Int) (at' over : Int) : Int := placeL ar top (pathL ar (rs.getD over.toNat ([], [])).1 at'.toNat)
def peakL (ar : List Int) (rs : Rules) (top left right : List Int) (at' under over : Int) : Bool :=
  sysOk ar rs && peakArgs ar rs at' under over && decide (stepAtL ar rs top 0 over = some right) && decide (stepAtL ar rs top (peakAtL ar rs top at' over) under = some left)
theorem peakArgs_iff {ar : List Int} {rs : Rules} {a u o : Int} : peakArgs ar rs a u o = true ↔ (0 ≤ o ∧ o < (rs.length : Int)) ∧ (0 ≤ u ∧ u < (rs.length : Int)) ∧ ¬ (a = 0 ∧ o = u) ∧ (0 ≤ a ∧ a < ((rs.getD o.toNat ([], [])).1.length : Int)) ∧ 0 ≤ (rs.getD o.toNat ([], [])).1.getD a.toNat 0 := by
  unfold peakArgs; simp only [Bool.and_eq_true, decide_eq_true_eq]; constructor
  · rintro ⟨⟨⟨⟨h1, h2⟩, h3⟩, h4⟩, h5⟩; exact ⟨h1, h2, h3, h4, h5⟩
  · rintro ⟨h1, h2, h3, h4, h5⟩; exact ⟨⟨⟨⟨h1, h2⟩, h3⟩, h4⟩, h5⟩
theorem peakL_iff {ar : List Int} {rs : Rules} {top left right : List Int} {a u o : Int} : peakL ar rs top left right a u o = true ↔ sysOk ar rs = true ∧ peakArgs ar rs a u o = true ∧ stepAtL ar rs top 0 o = some right ∧ stepAtL ar rs top (peakAtL ar rs top a o) u = some left := by
  unfold peakL; simp only [Bool.and_eq_true, decide_eq_true_eq]; constructor
  · rintro ⟨⟨⟨h1, h2⟩, h3⟩, h4⟩; exact ⟨h1, h2, h3, h4⟩
  · rintro ⟨h1, h2, h3, h4⟩; exact ⟨⟨⟨h1, h2⟩, h3⟩, h4⟩
theorem peakL_no {ar : List Int} {rs : Rules} {top left right : List Int} {a u o : Int} (h : ¬ (sysOk ar rs = true ∧ peakArgs ar rs a u o = true ∧ stepAtL ar rs top 0 o = some right ∧ stepAtL ar rs top (peakAtL ar rs top a o) u = some left)) : peakL ar rs top left right a u o = false := by
  cases h' : peakL ar rs top left right a u o with
  | false => rfl
  | true => exact absurd (peakL_iff.1 h') h
theorem getD_some {o : Option (List Int)} {x : List Int} (h : o.isSome = true) : o = some x ↔ o.getD [] = x := by
  cases o with
  | none => cases h
  | some y => simp
theorem opt_no1 {o : Option (List Int)} {v : List Int} (h : o.isSome = false) : o ≠ some v := fun e => by rw [e] at h; cases h
theorem opt_no2 {o : Option (List Int)} {v : List Int} (h : o.getD [] ≠ v) : o ≠ some v := fun e => by rw [e] at h; exact h rfl
theorem stepAt_ok {ar : List Int} {rs : Rules} {t u : List Int} {p r : Int} (h : stepAtL ar rs t p r = some u) : termOk ar t = true ∧ termOk ar u = true := by
  unfold stepAtL at h
  split at h
  · rename_i hk
    unfold stepAtOk rightB at hk
    simp only [Bool.and_eq_true, decide_eq_true_eq] at hk
    obtain ⟨⟨⟨hsys, ho⟩, hp1⟩, hr1⟩ := hk
    exact ⟨ho, stepL_ok hsys ho (by omega) (by omega) h⟩
  · cases h

/-- a peak under a substitution -/
def peakUL (ar : List Int) (rs : Rules) (top left right : List Int) (a u o : Int) (s : RowL) : List Int × List Int × List Int × (Int × Int × Int) × Bool :=
  if peakL ar rs top left right a u o = true ∧ substOk ar s = true ∧ (fillL s top).isSome = true ∧ (fillL s left).isSome = true ∧ (fillL s right).isSome = true
  then ((fillL s top).getD [], (fillL s left).getD [], (fillL s right).getD [], (a, u, o), true) else ([], [], [], (0, 0, 0), false)
theorem peakUL_no {ar : List Int} {rs : Rules} {top left right : List Int} {a u o : Int} {s : RowL} (h : ¬ (peakL ar rs top left right a u o = true ∧ substOk ar s = true ∧ (fillL s top).isSome = true ∧ (fillL s left).isSome = true ∧ (fillL s right).isSome = true)) : peakUL ar rs top left right a u o s = ([], [], [], (0, 0, 0), false) := if_neg h
theorem peakUL_yes {ar : List Int} {rs : Rules} {top left right : List Int} {a u o : Int} {s : RowL} (h : peakL ar rs top left right a u o = true ∧ substOk ar s = true ∧ (fillL s top).isSome = true ∧ (fillL s left).isSome = true ∧ (fillL s right).isSome = true) : peakUL ar rs top left right a u o s = ((fillL s top).getD [], (fillL s left).getD [], (fillL s right).getD [], (a, u, o), true) := if_pos h
theorem fill_le {s : RowL} {t : List Int} (h : (fillL s t).isSome = true) : ((fillL s t).getD []).length ≤ 60 := by
  obtain ⟨u, hu⟩ := Option.isSome_iff_exists.1 h
  rw [hu]; exact (fillL_len hu).1
theorem peakUL_bounds {ar : List Int} {rs : Rules} {top left right : List Int} {a u o : Int} {s : RowL} : (peakUL ar rs top left right a u o s).1.length ≤ 60 ∧ (peakUL ar rs top left right a u o s).2.1.length ≤ 60 ∧ (peakUL ar rs top left right a u o s).2.2.1.length ≤ 60 := by
  unfold peakUL; split
  · rename_i h
    exact ⟨fill_le h.2.2.1, fill_le h.2.2.2.1, fill_le h.2.2.2.2⟩
  · simp
end Go.Proofs.YtnloeeaidknblaaGreat.M
