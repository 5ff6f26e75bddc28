/-
  The plain meaning of terms, rules and systems.
-/
import Derived.Test.YtiaanelimbmniaaP1
set_option linter.unusedSimpArgs false
set_option linter.unusedVariables false
namespace Go.Proofs.Ytiaanelimbmniaa.M

/- the reference's way to the end of a term: a number below -24 has none -/
def sArity (ar : List Int) (n : Int) : Int := if -24 ≤ n ∧ n ≤ -1 then 0 else if 0 ≤ n ∧ n ≤ (ar.length : Int) - 1 then ar.getD n.toNat 0 else -1
def sEndGo (ar : List Int) : List Int → Nat → Option Nat
  | _, 0 => some 0
  | [], _ + 1 => none
  | x :: r, n + 1 => if -24 ≤ x ∧ x < ar.length then (sEndGo ar r (n + (arity ar x).toNat)).map (· + 1) else none
def sEndZ (ar t : List Int) (p : Nat) : Int := match sEndGo ar (t.drop p) 1 with | some e => ((p + e : Nat) : Int) | none => -1

theorem sArity_neg {ar : List Int} (h : sigOk ar = true) {n : Int} : sArity ar n < 0 ↔ ¬ (-24 ≤ n ∧ n < ar.length) := by
  unfold sArity
  split
  · have := (sigOk_spec h).1; omega
  · split
    · have := (sigOk_spec h).2.2 n.toNat (by omega); omega
    · omega
theorem sArity_eq {ar : List Int} {n : Int} (h : -24 ≤ n ∧ n < ar.length) : sArity ar n = arity ar n := by
  unfold sArity arity
  split
  · rw [if_pos (by omega)]
  · rw [if_pos (by omega), if_neg (by omega)]
theorem sEndGo_step {ar t : List Int} {p k : Nat} (hk : 0 < k) (hp : p < t.length) (hx : -24 ≤ t.getD p 0 ∧ t.getD p 0 < ar.length) :
    sEndGo ar (t.drop p) k = (sEndGo ar (t.drop (p + 1)) (k - 1 + (arity ar (t.getD p 0)).toNat)).map (· + 1) := by
  obtain ⟨k', rfl⟩ : ∃ k', k = k' + 1 := ⟨k - 1, by omega⟩
  rw [drop_cons hp]
  simp only [sEndGo]
  rw [if_pos hx, Nat.add_sub_cancel]
theorem sEndGo_none {ar t : List Int} {p k : Nat} (hk : 0 < k) (h : ¬ (p < t.length ∧ -24 ≤ t.getD p 0 ∧ t.getD p 0 < ar.length)) : sEndGo ar (t.drop p) k = none := by
  obtain ⟨k', rfl⟩ : ∃ k', k = k' + 1 := ⟨k - 1, by omega⟩
  by_cases hp : p < t.length
  · rw [drop_cons hp]
    simp only [sEndGo]
    rw [if_neg (fun hx => h ⟨hp, hx⟩)]
  · rw [List.drop_eq_nil_of_le (by omega)]
    rfl
theorem sEndGo_eq {ar : List Int} : ∀ {r : List Int} {n : Nat}, (∀ x ∈ r, -24 ≤ x) → sEndGo ar r n = endGo ar r n
  | r, 0, _ => by cases r <;> rfl
  | [], n + 1, _ => rfl
  | x :: r, n + 1, h => by
    have hx := h x (by simp)
    simp only [sEndGo, endGo]
    rw [sEndGo_eq (fun y hy => h y (List.mem_cons_of_mem _ hy))]
    simp [hx]
theorem sEndGo_ge {ar : List Int} : ∀ {r : List Int} {n e : Nat}, sEndGo ar r n = some e → ∀ x ∈ r.take e, -24 ≤ x
  | r, 0, e, h => by
    simp [sEndGo] at h; subst h; simp
  | [], n + 1, e, h => by simp [sEndGo] at h
  | x :: r, n + 1, e, h => by
    simp only [sEndGo] at h
    split at h
    · rename_i hx
      cases hr : sEndGo ar r (n + (arity ar x).toNat) with
      | none => rw [hr] at h; simp at h
      | some q =>
        rw [hr] at h; simp at h; subst h
        intro y hy
        simp at hy
        rcases hy with rfl | hy
        · exact hx.1
        · exact sEndGo_ge hr y hy
    · cases h
theorem sEndGo_endGo {ar : List Int} : ∀ {r : List Int} {n e : Nat}, sEndGo ar r n = some e → endGo ar r n = some e
  | r, 0, e, h => by simp [sEndGo] at h; subst h; simp [endGo]
  | [], n + 1, e, h => by simp [sEndGo] at h
  | x :: r, n + 1, e, h => by
    simp only [sEndGo] at h
    split at h
    · rename_i hx
      cases hr : sEndGo ar r (n + (arity ar x).toNat) with
      | none => rw [hr] at h; simp at h
      | some q =>
        rw [hr] at h
        simp only [endGo, hx.2, if_true, sEndGo_endGo hr]
        exact h
    · cases h

def termOk (ar t : List Int) : Bool := sigOk ar && decide (1 ≤ t.length ∧ t.length ≤ 60) && t.all (fun x => decide (-24 ≤ x)) && decide (endGo ar t 1 = some t.length)

structure TermOk (ar t : List Int) : Prop where
  sig : sigOk ar = true
  pos : 1 ≤ t.length
  len : t.length ≤ 60
  ge : ∀ x ∈ t, -24 ≤ x
  whole : endGo ar t 1 = some t.length
theorem termOk_iff {ar t : List Int} : termOk ar t = true ↔ TermOk ar t := by
  simp only [termOk, Bool.and_eq_true, decide_eq_true_eq, List.all_eq_true]
  exact ⟨fun h => ⟨h.1.1.1, h.1.1.2.1, h.1.1.2.2, h.1.2, h.2⟩, fun h => ⟨⟨⟨h.sig, h.pos, h.len⟩, h.ge⟩, h.whole⟩⟩
theorem termOk_sig {ar t : List Int} (h : termOk ar t = true) : sigOk ar = true := (termOk_iff.1 h).sig
theorem termOk_len {ar t : List Int} (h : termOk ar t = true) : 1 ≤ t.length ∧ t.length ≤ 60 := ⟨(termOk_iff.1 h).pos, (termOk_iff.1 h).len⟩

/-- what the checks of the two programs come to -/
theorem termOk_of {ar t : List Int} (h1 : sigOk ar = true) (h2 : 1 ≤ t.length) (h3 : t.length ≤ 60) (h4 : -24 ≤ minL t) : termOk ar t = decide (endZ ar t 0 = (t.length : Int)) := by
  have h4' := (minL_ge h2 (-24)).1 h4
  simp only [termOk, h1, Bool.true_and]
  have e1 : decide (1 ≤ t.length ∧ t.length ≤ 60) = true := decide_eq_true ⟨h2, h3⟩
  have e2 : t.all (fun x => decide (-24 ≤ x)) = true := by simp only [List.all_eq_true, decide_eq_true_eq]; exact h4'
  rw [e1, e2, Bool.true_and, Bool.true_and]
  refine decide_eq_decide.2 ?_
  unfold endZ endAt
  rw [List.drop_zero]
  cases h : endGo ar t 1 with
  | none => simp
  | some e => simp; omega
theorem termOk_min {ar t : List Int} (h2 : 1 ≤ t.length) (h4 : ¬ -24 ≤ minL t) : termOk ar t = false := by
  cases h : termOk ar t with
  | false => rfl
  | true => exact absurd ((minL_ge h2 (-24)).2 (termOk_iff.1 h).ge) h4
theorem termOk_short {ar t : List Int} (h : ¬ (1 ≤ t.length ∧ t.length ≤ 60)) : termOk ar t = false := by
  cases h' : termOk ar t with
  | false => rfl
  | true => exact absurd (termOk_len h') h
theorem termOk_nosig {ar t : List Int} (h : sigOk ar = false) : termOk ar t = false := by
  cases h' : termOk ar t with
  | false => rfl
  | true => rw [termOk_sig h'] at h; cases h
theorem termOk_s {ar t : List Int} (h1 : sigOk ar = true) (h2 : 1 ≤ t.length ∧ t.length ≤ 60) : termOk ar t = decide (sEndZ ar t 0 = (t.length : Int)) := by
  have e : (sEndZ ar t 0 = (t.length : Int)) ↔ sEndGo ar t 1 = some t.length := by
    unfold sEndZ
    rw [List.drop_zero]
    cases h : sEndGo ar t 1 with
    | none => simp
    | some e => simp; omega
  cases h : termOk ar t with
  | true =>
    refine (decide_eq_true (e.2 ?_)).symm
    rw [sEndGo_eq (termOk_iff.1 h).ge]
    exact (termOk_iff.1 h).whole
  | false =>
    refine (decide_eq_false fun h' => ?_).symm
    have hs := e.1 h'
    have hge := sEndGo_ge hs
    rw [List.take_length] at hge
    have : termOk ar t = true := termOk_iff.2 ⟨h1, h2.1, h2.2, hge, sEndGo_endGo hs⟩
    rw [this] at h; cases h

def posOk (ar t : List Int) (n : Int) : Bool := termOk ar t && decide (0 ≤ n ∧ n < (t.length : Int))

/- prefixes: n terms, one behind the other, are one term and n - 1 terms -/
theorem endGo_split {ar : List Int} : ∀ {r : List Int} {n m e : Nat}, endGo ar r (n + m) = some e → ∃ e1 e2, endGo ar r n = some e1 ∧ endGo ar (r.drop e1) m = some e2 ∧ e = e1 + e2
  | r, 0, m, e, h => ⟨0, e, by simp [endGo], by simpa using h, by omega⟩
  | [], n + 1, m, e, h => by rw [show n + 1 + m = (n + m) + 1 from by omega] at h; simp [endGo] at h
  | x :: r, n + 1, m, e, h => by
    rw [show n + 1 + m = (n + m) + 1 from by omega] at h
    simp only [endGo] at h
    split at h
    · rename_i hx
      rw [show n + m + (arity ar x).toNat = (n + (arity ar x).toNat) + m from by omega] at h
      cases hr : endGo ar r (n + (arity ar x).toNat + m) with
      | none => rw [hr] at h; simp at h
      | some q =>
        rw [hr] at h; simp at h; subst h
        obtain ⟨e1, e2, h1, h2, h3⟩ := endGo_split hr
        refine ⟨e1 + 1, e2, by simp [endGo, hx, h1], by simpa using h2, by omega⟩
    · cases h
theorem endGo_join {ar : List Int} : ∀ {r : List Int} {n m e1 e2 : Nat}, endGo ar r n = some e1 → endGo ar (r.drop e1) m = some e2 → endGo ar r (n + m) = some (e1 + e2)
  | r, 0, m, e1, e2, h, k => by simp [endGo] at h; subst h; simpa using k
  | [], n + 1, m, e1, e2, h, k => by simp [endGo] at h
  | x :: r, n + 1, m, e1, e2, h, k => by
    simp only [endGo] at h
    split at h
    · rename_i hx
      cases hr : endGo ar r (n + (arity ar x).toNat) with
      | none => rw [hr] at h; simp at h
      | some q =>
        rw [hr] at h; simp at h; subst h
        have := endGo_join (m := m) (e2 := e2) hr (by simpa using k)
        rw [show n + 1 + m = (n + m) + 1 from by omega]
        simp only [endGo, hx, if_true]
        rw [show n + m + (arity ar x).toNat = n + (arity ar x).toNat + m from by omega, this]
        simp; omega
    · cases h
theorem endGo_pos {ar : List Int} {r : List Int} {n e : Nat} (h : endGo ar r (n + 1) = some e) : 1 ≤ e := by
  cases r with
  | nil => simp [endGo] at h
  | cons x r =>
    simp only [endGo] at h
    split at h
    · cases hr : endGo ar r (n + (arity ar x).toNat) with
      | none => rw [hr] at h; simp at h
      | some q => rw [hr] at h; simp at h; omega
    · cases h
/-- at every place of n terms a term begins, and ends in them; so many terms stand behind the place -/
theorem endGo_at {ar : List Int} : ∀ {r : List Int} {n e : Nat}, endGo ar r n = some e → ∀ p, p < e → ∃ k, endGo ar (r.drop p) (k + 1) = some (e - p)
  | r, 0, e, h, p, hp => by simp [endGo] at h; omega
  | [], n + 1, e, h, p, hp => by simp [endGo] at h
  | x :: r, n + 1, e, h, 0, hp => ⟨n, by simpa using h⟩
  | x :: r, n + 1, e, h, p + 1, hp => by
    simp only [endGo] at h
    split at h
    · cases hr : endGo ar r (n + (arity ar x).toNat) with
      | none => rw [hr] at h; simp at h
      | some q =>
        rw [hr] at h; simp at h; subst h
        obtain ⟨k, hk⟩ := endGo_at hr p (by omega)
        exact ⟨k, by simpa using hk⟩
    · cases h
theorem endAt_some {ar t : List Int} (h : termOk ar t = true) {p : Nat} (hp : p < t.length) : ∃ e, endAt ar t p = some e ∧ p < e ∧ e ≤ t.length := by
  obtain ⟨k, hk⟩ := endGo_at (termOk_iff.1 h).whole p hp
  rw [show k + 1 = 1 + k from by omega] at hk
  obtain ⟨e1, e2, h1, _, h3⟩ := endGo_split hk
  have := endGo_pos (n := 0) h1
  exact ⟨p + e1, by simp [endAt, h1], by omega, by omega⟩
/-- where a term ends, as a number -/
def endN (ar t : List Int) (p : Nat) : Nat := (endAt ar t p).getD 0
theorem endZ_endN {ar t : List Int} (h : termOk ar t = true) {p : Nat} (hp : p < t.length) : endZ ar t p = (endN ar t p : Int) := by
  obtain ⟨e, he, _⟩ := endAt_some h hp
  simp [endZ, endN, he]
theorem endN_spec {ar t : List Int} (h : termOk ar t = true) {p : Nat} (hp : p < t.length) : p < endN ar t p ∧ endN ar t p ≤ t.length := by
  obtain ⟨e, he, h1, h2⟩ := endAt_some h hp
  simp [endN, he, h1, h2]
theorem sEndZ_endN {ar t : List Int} (h : termOk ar t = true) {p : Nat} (hp : p < t.length) : sEndZ ar t p = (endN ar t p : Int) := by
  have e : sEndGo ar (t.drop p) 1 = endGo ar (t.drop p) 1 := sEndGo_eq (fun x hx => (termOk_iff.1 h).ge x (List.mem_of_mem_drop hx))
  rw [← endZ_endN h hp]
  unfold sEndZ endZ endAt
  rw [e]
  cases endGo ar (t.drop p) 1 <;> simp
theorem termOk_lt {ar t : List Int} (h : termOk ar t = true) {p : Nat} (hp : p < t.length) : t.getD p 0 < ar.length := by
  obtain ⟨k, hk⟩ := endGo_at (termOk_iff.1 h).whole p hp
  rw [drop_cons hp] at hk
  simp only [endGo] at hk
  split at hk
  · assumption
  · cases hk
theorem termOk_ge {ar t : List Int} (h : termOk ar t = true) {p : Nat} (hp : p < t.length) : -24 ≤ t.getD p 0 := getD_all (termOk_iff.1 h).ge hp

/-- the subterm at a place -/
def sub (ar t : List Int) (p : Nat) : List Int := (t.drop p).take (endN ar t p - p)
theorem sub_length {ar t : List Int} (h : termOk ar t = true) {p : Nat} (hp : p < t.length) : (sub ar t p).length = endN ar t p - p := by
  have := endN_spec h hp
  simp [sub]; omega
theorem endGo_take {ar : List Int} : ∀ {r : List Int} {n e : Nat}, endGo ar r n = some e → endGo ar (r.take e) n = some e
  | r, 0, e, h => by simp [endGo] at h; subst h; simp [endGo]
  | [], n + 1, e, h => by simp [endGo] at h
  | x :: r, n + 1, e, h => by
    simp only [endGo] at h
    split at h
    · rename_i hx
      cases hr : endGo ar r (n + (arity ar x).toNat) with
      | none => rw [hr] at h; simp at h
      | some q =>
        rw [hr] at h; simp at h; subst h
        simp [endGo, hx, endGo_take hr]
    · cases h
theorem sub_ok {ar t : List Int} (h : termOk ar t = true) {p : Nat} (hp : p < t.length) : termOk ar (sub ar t p) = true := by
  have hl := sub_length h hp
  have he := endN_spec h hp
  have ht := termOk_iff.1 h
  obtain ⟨e, h1, h2, h3⟩ := endAt_some h hp
  have hN : endN ar t p = e := by simp [endN, h1]
  unfold endAt at h1
  cases hg : endGo ar (t.drop p) 1 with
  | none => rw [hg] at h1; simp at h1
  | some q =>
    rw [hg] at h1; simp at h1
    have hq := endGo_take hg
    refine termOk_iff.2 ⟨ht.sig, by omega, by have := ht.len; omega, fun x hx => ht.ge x (List.mem_of_mem_drop (List.mem_of_mem_take hx)), ?_⟩
    rw [hl]
    unfold sub
    rw [hN, show e - p = q from by omega]
    exact hq

/- rules, systems -/
abbrev Rule := List Int × List Int
def ruleOk (ar : List Int) (l r : List Int) : Bool := termOk ar l && termOk ar r && decide (0 ≤ l.getD 0 0) && r.all (fun n => decide (0 ≤ n ∨ n ∈ l))
def sysOk (ar : List Int) (rs : List Rule) : Bool := sigOk ar && decide (rs.length ≤ 12) && rs.all (fun r => ruleOk ar r.1 r.2)
structure RuleOk (ar l r : List Int) : Prop where
  left : termOk ar l = true
  right : termOk ar r = true
  head : 0 ≤ l.getD 0 0
  vars : ∀ n ∈ r, n < 0 → n ∈ l
theorem ruleOk_iff {ar l r : List Int} : ruleOk ar l r = true ↔ RuleOk ar l r := by
  simp only [ruleOk, Bool.and_eq_true, decide_eq_true_eq, List.all_eq_true]
  constructor
  · rintro ⟨⟨⟨h1, h2⟩, h3⟩, h4⟩
    exact ⟨h1, h2, h3, fun n hn h0 => (h4 n hn).resolve_left (by omega)⟩
  · rintro ⟨h1, h2, h3, h4⟩
    exact ⟨⟨⟨h1, h2⟩, h3⟩, fun n hn => by
      by_cases h0 : 0 ≤ n
      · exact .inl h0
      · exact .inr (h4 n hn (by omega))⟩
theorem sysOk_iff {ar : List Int} {rs : List Rule} : sysOk ar rs = true ↔ sigOk ar = true ∧ rs.length ≤ 12 ∧ ∀ i, i < rs.length → ruleOk ar (rs.getD i ([], [])).1 (rs.getD i ([], [])).2 = true := by
  simp only [sysOk, Bool.and_eq_true, decide_eq_true_eq, List.all_eq_true]
  constructor
  · rintro ⟨⟨h1, h2⟩, h3⟩
    exact ⟨h1, h2, fun i hi => h3 _ (by simp [List.getD, hi])⟩
  · rintro ⟨h1, h2, h3⟩
    refine ⟨⟨h1, h2⟩, fun x hx => ?_⟩
    obtain ⟨i, hi, rfl⟩ := List.getElem_of_mem hx
    have := h3 i hi
    simpa [List.getD, hi] using this
theorem ruleOk_false {ar l r : List Int} (h : ¬ RuleOk ar l r) : ruleOk ar l r = false := by
  cases h' : ruleOk ar l r with
  | false => rfl
  | true => exact absurd (ruleOk_iff.1 h') h
theorem sysOk_false {ar : List Int} {rs : List Rule} (h : ¬ (sigOk ar = true ∧ rs.length ≤ 12 ∧ ∀ i, i < rs.length → ruleOk ar (rs.getD i ([], [])).1 (rs.getD i ([], [])).2 = true)) : sysOk ar rs = false := by
  cases h' : sysOk ar rs with
  | false => rfl
  | true => exact absurd (sysOk_iff.1 h') h
end Go.Proofs.Ytiaanelimbmniaa.M
