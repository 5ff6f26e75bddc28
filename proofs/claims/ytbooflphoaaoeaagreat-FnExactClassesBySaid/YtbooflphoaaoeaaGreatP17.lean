/-
  Plain mathematics: the classes of words.
-/
import Derived.Test.YtbooflphoaaoeaaGreatP16
set_option linter.unusedSimpArgs false
set_option linter.unusedVariables false
namespace Go.Proofs.YtbooflphoaaoeaaGreat.M
section
variable {ar : List Int} {rs : Rules} {t x : List Int} {ts : RowL} {n : Int} {k : Nat}
def nfE (ar : List Int) (rs : Rules) (n : Int) (t : List Int) : List Int := endL t (walkGo ar rs 1 n.toNat t).1
def nfF (ar : List Int) (rs : Rules) (n : Int) (t : List Int) : Bool := (walkGo ar rs 1 n.toNat t).2
def nfR (ar : List Int) (rs : Rules) (ts : RowL) (n : Int) (k : Nat) : RowL := (List.range k).map fun i => nfE ar rs n (ts.getD i [])
def clsTo (ar : List Int) (rs : Rules) (ts : RowL) (n : Int) (k : Nat) : List Int := (List.range k).map fun i => badG (fun y => !decide (y = nfE ar rs n (ts.getD i []))) (nfR ar rs ts n (i + 1))
def clsL (ar : List Int) (rs : Rules) (ts : RowL) (n : Int) : List Int := if allOk ar rs ts n = true ∧ ts.all (nfF ar rs n) = true then clsTo ar rs ts n ts.length else []
theorem nfR_len : (nfR ar rs ts n k).length = k := by simp [nfR]
theorem clsTo_len : (clsTo ar rs ts n k).length = k := by simp [clsTo]
theorem nfR_next : nfR ar rs ts n k ++ [nfE ar rs n (ts.getD k [])] = nfR ar rs ts n (k + 1) := by
  unfold nfR; rw [List.range_succ, List.map_append]; rfl
theorem clsTo_next : clsTo ar rs ts n k ++ [badG (fun y => !decide (y = nfE ar rs n (ts.getD k []))) (nfR ar rs ts n k ++ [nfE ar rs n (ts.getD k [])])] = clsTo ar rs ts n (k + 1) := by
  rw [nfR_next]; unfold clsTo; rw [List.range_succ, List.map_append]; rfl
theorem clsL_no (h : allOk ar rs ts n = false) : clsL ar rs ts n = [] := by unfold clsL; rw [if_neg (by rw [h]; simp)]
theorem clsL_no1 (h : ¬ ts.length ≤ 16) : clsL ar rs ts n = [] := by unfold clsL; rw [if_neg (fun e => h (allOk_iff.1 e.1).2.2.2)]
theorem clsL_no2 (h : wordOkL ar rs n ts = false) : clsL ar rs ts n = [] := by
  unfold clsL; rw [if_neg]
  intro e
  obtain ⟨h1, h2, h3, h4⟩ := allOk_iff.1 e.1
  rw [wordOkL, h1, h3, decide_eq_true h2] at h; cases h
theorem clsL_no3 (hk : k < ts.length) (h : nfF ar rs n (ts.getD k []) = false) : clsL ar rs ts n = [] := by
  unfold clsL; rw [if_neg]
  intro e
  have := (all_getD_iff []).1 e.2 k hk
  rw [h] at this; cases this
theorem clsL_yes (h : allOk ar rs ts n = true) (hf : ∀ i, i < ts.length → nfF ar rs n (ts.getD i []) = true) : clsL ar rs ts n = clsTo ar rs ts n ts.length := by
  unfold clsL; rw [if_pos ⟨h, (all_getD_iff []).2 hf⟩]
theorem clsL_len : (clsL ar rs ts n).length ≤ 16 := by
  unfold clsL; split
  · rename_i h; rw [clsTo_len]; exact (allOk_iff.1 h.1).2.2.2
  · simp
theorem nfE_len (hs : sysOk ar rs = true) (ho : termOk ar t = true) : (endL t (walkGo ar rs 1 n.toNat t).1).length ≤ 60 :=
  (termOk_len (right_iff.1 (walkGo_ok (ar := ar) (rs := rs) (st := 1) n.toNat t (right_iff.2 ⟨hs, ho⟩)).2.1).2).2
theorem normB_nf (hs : sysOk ar rs = true) (ho : termOk ar t = true) (hn : 0 ≤ n ∧ n ≤ 60) : (normB ar rs t 1 n).2 = nfF ar rs n t ∧ (nfF ar rs n t = true → (normB ar rs t 1 n).1 = nfE ar rs n t) := by
  rw [normB_right (right_iff.2 ⟨hs, ho⟩) hn]; unfold nfF nfE; split <;> simp_all
theorem nfR_bound (hs : sysOk ar rs = true) (hall : ts.all (termOk ar) = true) (hk : k ≤ ts.length) (i : Nat) (hi : i < (nfR ar rs ts n k).length) : ((nfR ar rs ts n k).getD i []).length ≤ 60 := by
  have hik : i < k := by rw [nfR_len] at hi; exact hi
  have e : (nfR ar rs ts n k).getD i [] = nfE ar rs n (ts.getD i []) := by
    unfold nfR; simp [List.getD_eq_getElem?_getD, List.getElem?_map, List.getElem?_range hik]
  rw [e]; exact nfE_len hs (all_at hall (by omega))
end
end Go.Proofs.YtbooflphoaaoeaaGreat.M
