/-
  Plain mathematics: the words that solve an equation.
-/
import Derived.Test.YtbooflphoaaoeaaGreatP13
set_option linter.unusedSimpArgs false
set_option linter.unusedVariables false
namespace Go.Proofs.YtbooflphoaaoeaaGreat.M
section
variable {ar : List Int} {rs : Rules} {a b t : List Int} {ts : RowL} {n : Int} {k : Nat}
def sol1 (ar : List Int) (rs : Rules) (a b t : List Int) (n : Int) : Bool := (fillL [t] a).isSome && (fillL [t] b).isSome && decide (eqN ar rs ((fillL [t] a).getD []) ((fillL [t] b).getD []) n.toNat = 1)
def solTo (ar : List Int) (rs : Rules) (a b : List Int) (ts : RowL) (n : Int) (k : Nat) : List Int := ((List.range k).filter fun i => sol1 ar rs a b (ts.getD i []) n).map fun i : Nat => (i : Int)
def solOk (ar : List Int) (rs : Rules) (a b : List Int) (ts : RowL) (n : Int) : Bool := sysOk ar rs && decide (0 ≤ n ∧ n ≤ 60) && termOk ar a && termOk ar b && ts.all (termOk ar) && decide (ts.length ≤ 16)
def solL (ar : List Int) (rs : Rules) (a b : List Int) (ts : RowL) (n : Int) : List Int := if solOk ar rs a b ts n = true then solTo ar rs a b ts n ts.length else []
theorem solTo_yes (h : sol1 ar rs a b (ts.getD k []) n = true) : solTo ar rs a b ts n (k + 1) = solTo ar rs a b ts n k ++ [(k : Int)] := by
  unfold solTo; rw [List.range_succ, List.filter_append, List.map_append, List.filter_cons, if_pos h]; rfl
theorem solTo_no (h : sol1 ar rs a b (ts.getD k []) n = false) : solTo ar rs a b ts n (k + 1) = solTo ar rs a b ts n k := by
  unfold solTo; rw [List.range_succ, List.filter_append, List.map_append, List.filter_cons, if_neg (by rw [h]; simp)]; simp
theorem solTo_len : (solTo ar rs a b ts n k).length ≤ k := by
  unfold solTo; rw [List.length_map]
  exact Nat.le_trans (List.length_filter_le _ _) (by simp)
theorem solL_len : (solL ar rs a b ts n).length ≤ 16 := by
  unfold solL; split
  · rename_i h
    have := solTo_len (ar := ar) (rs := rs) (a := a) (b := b) (ts := ts) (n := n) (k := ts.length)
    simp [solOk] at h
    omega
  · simp
theorem solOk_iff : solOk ar rs a b ts n = true ↔ sysOk ar rs = true ∧ (0 ≤ n ∧ n ≤ 60) ∧ termOk ar a = true ∧ termOk ar b = true ∧ ts.all (termOk ar) = true ∧ ts.length ≤ 16 := by simp [solOk, and_assoc]
def allOk (ar : List Int) (rs : Rules) (ts : RowL) (n : Int) : Bool := sysOk ar rs && decide (0 ≤ n ∧ n ≤ 60) && decide (ts.length ≤ 16) && ts.all (termOk ar)
theorem allOk_iff : allOk ar rs ts n = true ↔ sysOk ar rs = true ∧ (0 ≤ n ∧ n ≤ 60) ∧ ts.all (termOk ar) = true ∧ ts.length ≤ 16 := by
  simp only [allOk, Bool.and_eq_true, decide_eq_true_eq]
  exact ⟨fun h => ⟨h.1.1.1, h.1.1.2, h.2, h.1.2⟩, fun h => ⟨⟨⟨h.1, h.2.1⟩, h.2.2.2⟩, h.2.2.1⟩⟩
theorem solL_no (h : ¬ solOk ar rs a b ts n = true) : solL ar rs a b ts n = [] := by unfold solL; rw [if_neg h]
theorem solL_no1 (h : ¬ ts.length ≤ 16) : solL ar rs a b ts n = [] := solL_no (fun e => h (solOk_iff.1 e).2.2.2.2.2)
theorem solL_no2 (h : wordOkL ar rs n [a, b] = false) : solL ar rs a b ts n = [] := solL_no (fun e => by
  obtain ⟨h1, h2, h3, h4, _⟩ := solOk_iff.1 e
  simp [wordOkL, h1, h2, h3, h4] at h)
theorem solL_no3 (h : wordOkL ar rs n ts = false) : solL ar rs a b ts n = [] := solL_no (fun e => by
  obtain ⟨h1, h2, h3, h4, h5, _⟩ := solOk_iff.1 e
  rw [wordOkL, h1, h5, decide_eq_true h2] at h; cases h)
theorem solL_no4 (h : allOk ar rs ts n = false) : solL ar rs a b ts n = [] := solL_no (fun e => by
  obtain ⟨h1, h2, h3, h4, h5, h6⟩ := solOk_iff.1 e
  rw [allOk, h1, h5, decide_eq_true h2, decide_eq_true h6] at h; cases h)
theorem solL_no5 (h : termOk ar a = false) : solL ar rs a b ts n = [] := solL_no (fun e => by
  rw [(solOk_iff.1 e).2.2.1] at h; cases h)
theorem solL_no6 (h : termOk ar b = false) : solL ar rs a b ts n = [] := solL_no (fun e => by
  rw [(solOk_iff.1 e).2.2.2.1] at h; cases h)
theorem rows1 (h : termOk ar t = true) : RowsOk ar [t] := by
  intro i
  cases i with
  | zero => exact .inr h
  | succ i => exact .inl rfl
theorem fill1 (h : termOk ar t = true) (ha : termOk ar a = true) (hs : (fillL [t] a).isSome = true) : termOk ar ((fillL [t] a).getD []) = true := by
  obtain ⟨u, hu⟩ := Option.isSome_iff_exists.1 hs
  rw [hu]; exact fill_ok (rows1 h) ha hu
theorem rows1_len (h : termOk ar t = true) (i : Nat) : ([t].getD i ([] : List Int)).length ≤ 60 := by
  cases i with
  | zero => exact (termOk_len h).2
  | succ i => simp
theorem all_at (h : ts.all (termOk ar) = true) (hk : k < ts.length) : termOk ar (ts.getD k []) = true := (all_getD_iff []).1 h k hk
end
end Go.Proofs.YtbooflphoaaoeaaGreat.M
