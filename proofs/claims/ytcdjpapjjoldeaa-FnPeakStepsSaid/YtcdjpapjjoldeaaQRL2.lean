/-
  What the walks rest on (part 3).
-/
import Derived.Orders
import Derived.Tactics
import Derived.Below
import Derived.Laws.CopyRow
import Derived.Laws.AppendOwn
import Derived.IntWalk
import Derived.Lib.AppendZeros
import Derived.Scope
import Derived.OrdersIn
import Derived.TacticsIn
import Derived.RangeFuncSeq
import Derived.RangeFuncRecord
import Derived.RangeFuncLeaves
import Derived.Laws.Append
import Derived.WalkKit
import Derived.ProofKit
import Derived.OpenShut
import Derived.JoinedCond
import Derived.Carry
import Derived.Deep.Slices
import Derived.Test.YtcdjpapjjoldeaaQRL1
set_option linter.unusedSimpArgs false
set_option linter.unusedVariables false
namespace Go.Proofs.Ytcdjpapjjoldeaa.M
section
variable {ar : List Int} {rs : RulesT} {o p u k n : Nat} {f g : Nat → Nat}
def sumTo (f : Nat → Nat) : Nat → Nat
 | 0 => 0
 | n + 1 => sumTo f n + f n
theorem sumTo_congr : ∀ n, (∀ i, i < n → f i = g i) → sumTo f n = sumTo g n
 | 0, _ => rfl
 | n + 1, h => by rw [sumTo, sumTo, sumTo_congr n (fun i hi => h i (by omega)), h n (by omega)]
theorem sumTo_add : ∀ n, sumTo (fun i => f i + g i) n = sumTo f n + sumTo g n
 | 0 => rfl
 | n + 1 => by rw [sumTo, sumTo, sumTo, sumTo_add n]; omega
theorem sumTo_zero : ∀ n, sumTo (fun _ => 0) n = 0
 | 0 => rfl
 | n + 1 => by rw [sumTo, sumTo_zero n]
theorem sumTo_swap (h : Nat → Nat → Nat) (m : Nat) : ∀ n, sumTo (fun a => sumTo (h a) m) n = sumTo (fun b => sumTo (fun a => h a b) n) m
 | 0 => by simp only [sumTo]; rw [sumTo_zero]
 | n + 1 => by
  rw [sumTo, sumTo_swap h m n]
  rw [show (fun b => sumTo (fun a => h a b) (n + 1)) = fun b => sumTo (fun a => h a b) n + h n b from rfl, sumTo_add]
noncomputable def ovB (ar : List Int) (rs : RulesT) (o u p : Nat) : Bool := decide (0 ≤ (Lr rs o).getD p 0) && meetB ar rs o p u
noncomputable def ovTo (ar : List Int) (rs : RulesT) (o u k : Nat) : List Int := ((List.range k).filter (ovB ar rs o u)).map Int.ofNat
noncomputable def ovL (ar : List Int) (rs : RulesT) (o u : Nat) : List Int := ovTo ar rs o u (Lr rs o).length
theorem ov_yes (h0 : 0 ≤ (Lr rs o).getD k 0) (h : meetB ar rs o k u = true) : ovTo ar rs o u (k + 1) = ovTo ar rs o u k ++ [(k : Int)] := by
 have : ovB ar rs o u k = true := by unfold ovB; rw [h, decide_eq_true h0]; rfl
 simp [ovTo, List.range_succ, List.filter_append, this]
theorem ov_no (h : ¬ (0 ≤ (Lr rs o).getD k 0 ∧ meetB ar rs o k u = true)) : ovTo ar rs o u (k + 1) = ovTo ar rs o u k := by
 have : ovB ar rs o u k = false := by
  rw [Bool.eq_false_iff]; intro h2; unfold ovB at h2; rw [Bool.and_eq_true, decide_eq_true_eq] at h2; exact h h2
 simp [ovTo, List.range_succ, List.filter_append, this]
theorem ovTo_le : (ovTo ar rs o u k).length ≤ k := by
 unfold ovTo
 rw [List.length_map]
 exact Nat.le_trans (List.length_filter_le _ _) (by simp)
theorem ovTo_len : ∀ k, (ovTo ar rs o u k).length = sumTo (fun p => if ovB ar rs o u p = true then 1 else 0) k
 | 0 => rfl
 | k + 1 => by
  rw [sumTo, ← ovTo_len k]
  by_cases h : ovB ar rs o u k = true
  ·have h2 := h
   unfold ovB at h2; rw [Bool.and_eq_true, decide_eq_true_eq] at h2
   rw [ov_yes h2.1 h2.2, if_pos h]; simp
  ·rw [ov_no (fun h2 => h (by unfold ovB; rw [h2.2, decide_eq_true h2.1]; rfl)), if_neg h]; rfl
theorem mU_len : ∀ n, (mU ar rs o p n).length = sumTo (fun u => if ovB ar rs o u p = true then 1 else 0) n
 | 0 => rfl
 | n + 1 => by
  rw [mU, List.length_append, mU_len n, sumTo]
  congr 1
  by_cases h : ovB ar rs o n p = true
  ·have h2 := h
   unfold ovB at h2; rw [Bool.and_eq_true, decide_eq_true_eq] at h2
   rw [if_pos h2, if_pos h]; rfl
  ·rw [if_neg (fun h2 => h (by unfold ovB; rw [h2.2, decide_eq_true h2.1]; rfl)), if_neg h]; rfl
theorem mP_len : ∀ k, (mP ar rs o k).length = sumTo (fun p => sumTo (fun u => if ovB ar rs o u p = true then 1 else 0) rs.length) k
 | 0 => rfl
 | k + 1 => by rw [mP, List.length_append, mP_len k, mU_len, sumTo]
theorem mO_len : ∀ n, (mO ar rs n).length = sumTo (fun o => sumTo (fun u => (ovL ar rs o u).length) rs.length) n
 | 0 => rfl
 | n + 1 => by
  rw [mO, List.length_append, mO_len n, mP_len, sumTo]
  congr 1
  rw [sumTo_swap]
  exact sumTo_congr _ fun u _ => by unfold ovL; rw [ovTo_len]
noncomputable def ovS (ar : List Int) (rs : RulesT) (o u : Int) : List Int := if sysOk ar rs = true ∧ (0 ≤ o ∧ o < (rs.length : Int)) ∧ 0 ≤ u ∧ u < (rs.length : Int) then ovL ar rs o.toNat u.toNat else []
theorem ovS_yes {o u : Int} (h : sysOk ar rs = true ∧ (0 ≤ o ∧ o < (rs.length : Int)) ∧ 0 ≤ u ∧ u < (rs.length : Int)) : ovS ar rs o u = ovL ar rs o.toNat u.toNat := if_pos h
theorem ovS_no {o u : Int} (h : ¬ (sysOk ar rs = true ∧ (0 ≤ o ∧ o < (rs.length : Int)) ∧ 0 ≤ u ∧ u < (rs.length : Int))) : ovS ar rs o u = [] := if_neg h
theorem ovL_len (hs : sysOk ar rs = true) (ho : o < rs.length) : (ovL ar rs o u).length ≤ 60 := Nat.le_trans ovTo_le (termOk_len (rule_L hs ho)).2
theorem mem_mU {m : Tr} : ∀ n, m ∈ mU ar rs o p n → m.1 = o ∧ m.2.1 = p ∧ m.2.2 < n
 | 0, h => by cases h
 | n + 1, h => by
  rw [mU, List.mem_append] at h
  rcases h with h | h
  ·have := mem_mU n h; exact ⟨this.1, this.2.1, by omega⟩
  ·split at h
   ·rw [List.mem_singleton.1 h]; exact ⟨rfl, rfl, by simp⟩
   ·cases h
theorem mem_mP {m : Tr} : ∀ n, m ∈ mP ar rs o n → m.1 = o ∧ m.2.1 < n
 | 0, h => by cases h
 | n + 1, h => by
  rw [mP, List.mem_append] at h
  rcases h with h | h
  ·have := mem_mP n h; exact ⟨this.1, by omega⟩
  ·have := mem_mU _ h; exact ⟨this.1, by omega⟩
theorem mem_mO {m : Tr} : ∀ n, m ∈ mO ar rs n → m.1 < n
 | 0, h => by cases h
 | n + 1, h => by
  rw [mO, List.mem_append] at h
  rcases h with h | h
  ·have := mem_mO n h; omega
  ·have := mem_mP _ h; omega
theorem nodup_mU : ∀ n, (mU ar rs o p n).Nodup
 | 0 => List.nodup_nil
 | n + 1 => by
  rw [mU]
  refine List.nodup_append.2 ⟨nodup_mU n, by split <;> simp, fun a ha b hb e => ?_⟩
  have h1 := mem_mU n ha
  split at hb
  ·rw [List.mem_singleton.1 hb] at e; rw [e] at h1; simp at h1
  ·cases hb
theorem nodup_mP : ∀ n, (mP ar rs o n).Nodup
 | 0 => List.nodup_nil
 | n + 1 => by
  rw [mP]
  refine List.nodup_append.2 ⟨nodup_mP n, nodup_mU _, fun a ha b hb e => ?_⟩
  have h1 := mem_mP n ha
  have h2 := mem_mU _ hb
  rw [e] at h1; omega
theorem nodup_mO : ∀ n, (mO ar rs n).Nodup
 | 0 => List.nodup_nil
 | n + 1 => by
  rw [mO]
  refine List.nodup_append.2 ⟨nodup_mO n, nodup_mP _, fun a ha b hb e => ?_⟩
  have h1 := mem_mO n ha
  have h2 := mem_mP _ hb
  rw [e] at h1; omega
theorem psO_eq (h : (psO ar rs).isSome = true) : sysOk ar rs = true ∧ (psO ar rs).getD [] = (meetsL ar rs).map (pkD ar rs) ∧ ∀ m ∈ meetsL ar rs, (pkF ar rs m.1 m.2.1 m.2.2).isSome = true := by
 unfold psO at *
 split at h
 ·rename_i hs
  rw [if_pos hs]
  unfold peaksF at *
  split at h
  ·rename_i hc
   rw [if_pos hc]
   exact ⟨hs, rfl, hc.1⟩
  ·cases h
 ·cases h
abbrev DK6 : PkT := ([], [], [], 0, 0, 0)
noncomputable abbrev kP (rs : RulesT) (i : Nat) : PkT := ((psO [2, 1, 0] rs).getD []).getD i DK6
theorem psO_at2 {i : Nat} (h : (psO ar rs).isSome = true) (hi : i < ((psO ar rs).getD []).length) : ∃ o p u τ, (∃ hm : i < (meetsL ar rs).length, (meetsL ar rs)[i] = (o, p, u)) ∧ (o < rs.length ∧ u < rs.length ∧ p < (Lr rs o).length ∧ 0 ≤ (Lr rs o).getD p 0 ∧ ¬ (o = u ∧ p = 0)) ∧ PkS ar rs o p u (((psO ar rs).getD []).getD i DK6) τ := by
 obtain ⟨hs, he, hf⟩ := psO_eq h
 rw [he] at hi ⊢
 rw [List.length_map] at hi
 have hm := List.getElem_mem hi
 obtain ⟨h1, h2, h3, h4, h5⟩ := meets_mem hm
 obtain ⟨x, hx⟩ := Option.isSome_iff_exists.1 (hf _ hm)
 obtain ⟨τ, hτ⟩ := pkF_spec hs h1 h3 h2 hx
 have hg : ((meetsL ar rs).map (pkD ar rs)).getD i DK6 = x := by
  rw [List.getD_eq_getElem?_getD, List.getElem?_map, List.getElem?_eq_getElem hi]
  simp [pkD, hx]
 refine ⟨_, _, _, τ, ⟨hi, rfl⟩, ⟨h1, h3, h2, h4, fun hc => ?_⟩, by rw [hg]; exact hτ⟩
 have h9 := meet_self (ar := ar) (rs := rs) hc
 have e9 : true = false := h5.symm.trans h9
 cases e9
theorem psO_two {i : Nat} (h : (psO ar rs).isSome = true) (hi : i < ((psO ar rs).getD []).length) :
  peakL ar rs (((psO ar rs).getD []).getD i DK6).1 (((psO ar rs).getD []).getD i DK6).2.1 (((psO ar rs).getD []).getD i DK6).2.2.1 (((psO ar rs).getD []).getD i DK6).2.2.2.1 (((psO ar rs).getD []).getD i DK6).2.2.2.2.1 (((psO ar rs).getD []).getD i DK6).2.2.2.2.2 = true := by
 obtain ⟨hs, _⟩ := psO_eq h
 obtain ⟨o, p, u, τ, _, ⟨h1, h2, h3, h4, h5⟩, hτ⟩ := psO_at2 h hi
 exact hτ.ok hs h1 h2 h3 h4 h5
theorem psO_right {i : Nat} (h : (psO ar rs).isSome = true) (hi : i < ((psO ar rs).getD []).length) : stepAtL ar rs (((psO ar rs).getD []).getD i DK6).1 0 (((psO ar rs).getD []).getD i DK6).2.2.2.2.2 = some (((psO ar rs).getD []).getD i DK6).2.2.1 :=
 (peakL_iff.1 (psO_two h hi)).2.2.1
theorem psO_apart {i j : Nat} (h : (psO ar rs).isSome = true) (hi : i < ((psO ar rs).getD []).length) (hj : j < i) : ((psO ar rs).getD []).getD j DK6 ≠ ((psO ar rs).getD []).getD i DK6 := by
 intro e
 obtain ⟨o, p, u, τ, ⟨hm, e1⟩, _, hτ⟩ := psO_at2 h hi
 obtain ⟨o2, p2, u2, τ2, ⟨hm2, e2⟩, _, hτ2⟩ := psO_at2 h (show j < _ by omega)
 have n1 := hτ.nums
 have n2 := hτ2.nums
 rw [e, n1] at n2
 simp only [Prod.mk.injEq] at n2
 have hn := (List.nodup_iff_pairwise_ne.1 (nodup_mO (ar := ar) (rs := rs) rs.length))
 have := List.pairwise_iff_getElem.1 hn j i (by exact hm2) (by exact hm) hj
 refine this ?_
 show (meetsL ar rs)[j] = (meetsL ar rs)[i]
 rw [e1, e2]
 simp only [Prod.mk.injEq]
 omega
theorem psO_many (h : (psO ar rs).isSome = true) : ((psO ar rs).getD []).length = sumTo (fun o => sumTo (fun u => (ovL ar rs o u).length) rs.length) rs.length := by
 obtain ⟨_, he, _⟩ := psO_eq h
 rw [he, List.length_map]
 exact mO_len _
end
end Go.Proofs.Ytcdjpapjjoldeaa.M
namespace Go.Proofs.Ytcdjpapjjoldeaa.X
open Go Go.WideShapes Go.ChangeShapes Go.RowKit
def fhOf (w : World) : FH := ⟨fun b => w.heap[b]?, w.os, w.output, w.tape⟩
theorem holds_fhOf (w : World) : Holds (fhOf w) [] w := ⟨rfl, rfl, rfl, fun _ _ h => h, [], rfl, List.nodup_nil, fun p hp => absurd hp (by simp)⟩
theorem cell_fhOf (w : World) (a : Addr) : (fhOf w).cell? a = w.cell? a := by
 unfold FH.cell? World.cell? fhOf
 rfl
theorem below_of_holds {w w' : World} {F' : FH} {L' : List HP} (le : fhOf w ≤ F') (h : Holds F' L' w') : Below w.heap.size w w' := by
 have key : ∀ k o, w.heap[k]? = some o → w'.heap[k]? = some o := fun k o hk => h.cells k o (le.cells k o hk)
 refine ⟨h.os.trans le.os, h.tape.trans le.tape, h.output.trans le.output, ?_, fun k hk => ?_⟩
 ·rcases Nat.eq_zero_or_pos w.heap.size with h0 | h0
  ·omega
  ·have h1 : w.heap[w.heap.size - 1]? = some (w.heap[w.heap.size - 1]'(by omega)) := Array.getElem?_eq_getElem (by omega)
   have h2 := (Array.getElem?_eq_some_iff.1 (key _ _ h1)).1
   omega
 ·have h1 : w.heap[k]? = some (w.heap[k]'hk) := Array.getElem?_eq_getElem hk
  rw [h1]
  exact key _ _ h1
def Opens (P : Program) (t : TypeId) {α : Type} (R : FH → List Value → α → Prop) (B : α → Prop) : Prop :=
 ∀ (H : Type) (enc : TypeId × Value → H) (w : World) (base : Nat) (spare : Nat → Bool) (held : Bool) (fuel : Nat) (cs : List Value) (x : DataW H × List MemPlace),
  DataW.trod enc P w base spare held fuel t cs = some x → ∃ a, R (fhOf w) cs a ∧ B a
section
variable {P : Program} {t e : TypeId}
theorem opens_slice {α : Type} {R : FH → List Value → α → Prop} {B : α → Prop} {s : Nat} (d : α) (ht : P.underlying t = some (.slice e)) (hc : P.cellsOf e = s) (ho : Opens P e R B) :
  Opens P t (fun F cs (xs : List α) => ∃ v, cs = [v] ∧ SlOf s R d F v xs) (fun xs => xs.length ≤ 9223372036854775807 ∧ ∀ i, i < xs.length → B (xs.getD i d)) := by
 intro H enc w base spare held fuel cs x h
 rcases Go.Deep.open_slice ht h with ⟨rfl, _⟩ | ⟨a, len, cap, m, n, D, Pl, rfl, hb, hl, hm, hmm, _, hx⟩
 ·exact ⟨[], ⟨_, rfl, [], ⟨by simp, none, 0, rfl, by simp, fun _ => rfl, fun a h => by cases h⟩, fun i hi => by simp at hi⟩, by simp, fun i hi => by simp at hi⟩
 ·have hlm : len ≤ m := by rw [hmm]; split <;> omega
  rw [hc] at hx
  have each : ∀ i, i < len → ∃ q : α, ∃ cs' : List Value, cs'.length = s ∧ (∀ r, r < s → w.cell? (a.add (i * s + r)) = cs'[r]?) ∧ R (fhOf w) cs' q ∧ B q := by
   intro i hi
   obtain ⟨cs', h1, h2⟩ := hx i (by omega)
   obtain ⟨_, hlen, hcell⟩ := World.cells?_some h1
   obtain ⟨q, hq, hbq⟩ := ho H enc w base spare held n cs' _ h2
   exact ⟨q, cs', hlen, fun r hr => by rw [← hcell r hr, add_add], hq, hbq⟩
  have ⟨q, hq⟩ : ∃ q : Nat → α, ∀ i, i < len → ∃ cs' : List Value, cs'.length = s ∧ (∀ r, r < s → w.cell? (a.add (i * s + r)) = cs'[r]?) ∧ R (fhOf w) cs' (q i) ∧ B (q i) := by
   haveI : Inhabited α := ⟨d⟩
   exact Go.Deep.choose_lt each
  let V : Nat → Value := fun j => (w.cell? (a.add j)).getD undef
  have hV : ∀ j, j < len * s → w.cell? (a.add j) = some (V j) := by
   intro j hj
   have hs : 0 < s := by rcases Nat.eq_zero_or_pos s with h0 | h0; subst h0; simp at hj; exact h0
   have hdiv : j / s < len := (Nat.div_lt_iff_lt_mul hs).2 hj
   obtain ⟨cs', hl', hcell, _⟩ := hq (j / s) hdiv
   have hr := hcell (j % s) (Nat.mod_lt _ hs)
   have e1 : j / s * s + j % s = j := by rw [Nat.mul_comm]; exact Nat.div_add_mod j s
   rw [e1] at hr
   have hlt : j % s < cs'.length := by rw [hl']; exact Nat.mod_lt _ hs
   rw [List.getElem?_eq_getElem hlt] at hr
   show w.cell? (a.add j) = some ((w.cell? (a.add j)).getD undef)
   rw [hr]; rfl
  have hxl : ((List.range len).map q).length = len := by simp
  have hgd : ∀ i, i < len → ((List.range len).map q).getD i d = q i := fun i hi => by simp [List.getD, hi]
  refine ⟨(List.range len).map q, ⟨_, rfl, (List.range (len * s)).map V, ⟨by simp, some a, cap, by rw [hxl], by omega, (fun h => by cases h), ?_⟩, ?_⟩, by rw [hxl]; unfold maxLen at hm; omega, fun i hi => ?_⟩
  ·intro a' ha i u hu
   obtain rfl := Option.some.inj ha
   have hi : i < len * s := by have := (List.getElem?_eq_some_iff.1 hu).1; simpa using this
   rw [cell_fhOf, hV i hi]
   rw [List.getElem?_map, List.getElem?_range hi] at hu
   exact hu
  ·intro i hi
   rw [hxl] at hi
   obtain ⟨cs', hl', hcell, hR, _⟩ := hq i hi
   refine ⟨cs', hl', ?_, by rw [hgd i hi]; exact hR⟩
   have hle : i * s + s ≤ len * s := by
    have : (i + 1) * s ≤ len * s := Nat.mul_le_mul_right s hi
    rwa [Nat.succ_mul] at this
   apply List.ext_getElem?
   intro r
   rcases Nat.lt_or_ge r s with hr | hr
   ·rw [List.getElem?_take, if_pos hr, List.getElem?_drop, List.getElem?_map, List.getElem?_range (by omega), ← hcell r hr, hV _ (by omega)]; rfl
   ·rw [List.getElem?_eq_none (by simp; omega), List.getElem?_eq_none (by omega)]
  ·rw [hxl] at hi
   obtain ⟨_, _, _, _, hB⟩ := hq i hi
   rw [hgd i hi]
   exact hB
theorem Opens.mono {α : Type} {R R' : FH → List Value → α → Prop} {B B' : α → Prop} (h : Opens P t R B) (hR : ∀ F cs a, R F cs a → R' F cs a) (hB : ∀ a, B a → B' a) : Opens P t R' B' := fun H enc w base spare held fuel cs x hx =>
 let ⟨a, h1, h2⟩ := h H enc w base spare held fuel cs x hx
 ⟨a, hR _ _ _ h1, hB _ h2⟩
theorem Opens.slv {α : Type} {R : FH → List Value → α → Prop} {B : α → Prop} (h : Opens P t R B) (ht : P.underlying t = some (.slice e)) {H : Type} {enc : TypeId × Value → H} {w : World} {r : Reach} {base b0 : Nat} {spare : Nat → Bool} {held : Bool} {v : Value} {d : DataW H} {ps : List MemPlace}
  (hv : Value.okWide P w r b0 t v) (ht' : DataW.Trod enc P w base spare held t v d ps) : ∃ a, R (fhOf w) [v] a ∧ B a := by
 obtain ⟨a, l, c, rfl⟩ := okWide_slice ht hv
 obtain ⟨n, hn⟩ := ht'
 exact h H enc w base spare held n _ _ hn
theorem Opens.agg {α : Type} {R : FH → List Value → α → Prop} {B : α → Prop} (h : Opens P t R B) {fs : Array Field} (ht : P.underlying t = some (.struct fs)) {H : Type} {enc : TypeId × Value → H} {w : World} {r : Reach} {base b0 : Nat} {spare : Nat → Bool} {held : Bool} {v : Value} {d : DataW H} {ps : List MemPlace}
  (hv : Value.okWide P w r b0 t v) (ht' : DataW.Trod enc P w base spare held t v d ps) : ∃ cs : List Value, v = .agg cs.toArray ∧ ∃ a, R (fhOf w) cs a ∧ B a := by
 obtain ⟨cs, rfl, _⟩ := okWide_struct ht hv
 obtain ⟨n, hn⟩ := ht'
 exact ⟨cs.toList, by simp, h H enc w base spare held n _ _ hn⟩
theorem Opens.int {k : IntKind} (ht : P.underlying t = some (.int k)) {H : Type} {enc : TypeId × Value → H} {w : World} {r : Reach} {base b0 : Nat} {spare : Nat → Bool} {held : Bool} {v : Value} {d : DataW H} {ps : List MemPlace}
  (hv : Value.okWide P w r b0 t v) (ht' : DataW.Trod enc P w base spare held t v d ps) : ∃ n, v = .int k n ∧ (Lit.int k n).wf = true := by
 obtain ⟨n, rfl, _, _, hw⟩ := open_int ht hv ht'
 exact ⟨n, rfl, hw⟩
theorem trodAll_below {H : Type} {enc : TypeId × Value → H} (hl : laidOutB P = true) {W W' : World} (hb : Below W.heap.size W W') {sp : Nat → Bool} :
  ∀ {ts : List TypeId} {vs : List Value} {ds : List (DataW H)} {ps : List MemPlace}, (ts.all fun t => P.readableRec t && decide (t < P.types.size)) = true → DataW.TrodAll enc P W 0 (fun _ => true) true ts vs ds ps →
   (∀ x ∈ ps, x.block < W.heap.size) → (∀ p ∈ ps, sp p.block = true) → DataW.TrodAll enc P W' 0 sp true ts vs ds ps
 | [], [], [], _, _, h, _, _ => h
 | [], _ :: _, _, _, _, h, _, _ => by cases h
 | [], [], _ :: _, _, _, h, _, _ => by cases h
 | _ :: _, [], _, _, _, h, _, _ => by cases h
 | _ :: _, _ :: _, [], _, _, h, _, _ => by cases h
 | t :: ts, v :: vs, d :: ds, ps, hr, h, hlt, hsp => by
  obtain ⟨p, q, h1, h2, rfl⟩ := h
  simp only [List.all_cons, Bool.and_eq_true, decide_eq_true_eq] at hr
  exact ⟨p, q, Go.WideElems.Trod_stays hl hr.1.1 hr.1.2 h1 (fun x hx => hb.same (hlt x (List.mem_append_left _ hx))) (fun x hx => hsp x (List.mem_append_left _ hx)),
   trodAll_below hl hb hr.2 h2 (fun x hx => hlt x (List.mem_append_right _ hx)) (fun x hx => hsp x (List.mem_append_right _ hx)), rfl⟩
theorem post_of_law {H : Type} {enc : TypeId × Value → H} {f : Func} {s : ChangeSpec} {apart fresh handsOn : Bool} {W W' : World} {args : Array Value} {ds gs : List (DataW H)} {before : List MemPlace} {tb : TypeId}
  (hs : s.vars = []) (hfn : s.fn H (ds ++ gs) = { results := [.lit (.bool true)], args := ds }) (hl : laidOutB P = true) (hr : (f.params.toList.all fun t => P.readableRec t && decide (t < P.types.size)) = true)
  (hres : f.resultTypes = #[tb]) (htb : P.underlying tb = some .bool) (hW : DataW.Whole enc P f.params.toList s.vars apart W args.toList ds gs before) (hb : Below W.heap.size W W') : s.post enc P f apart fresh handsOn false W args (.bool true) W' := by
 have hlt := hW.lt
 have hW' := hW
 obtain ⟨p, q, hA, hV, rfl, _, _⟩ := hW
 rw [hs] at hV
 obtain ⟨rfl, rfl⟩ := trodVars_none hV
 refine ⟨ds, [], p ++ [], [], p, [], hW', ?_, ?_, ?_, ?_, fun h => by cases h⟩
 ·rw [hfn, hres]
  exact trodAll_cons_mk (shut_bool htb _) trodAll_mk0
 ·rw [hfn]
  exact trodAll_below hl hb hr hA (fun x hx => hlt x (by simpa using hx)) (fun x hx => by simpa using hlt x (by simpa using hx))
 ·rw [hfn, hs]; rfl
 ·exact World.keptBut_mono (fun x hx => ⟨hx, .inr (.inl (by simpa using hx))⟩) (hb.frame (· ∈ p ++ []))
theorem Does.atTop {f : FuncId} {args : List Value} {W : World} (h : Does P f args (fhOf W) [] fun v _ _ => v = .bool true) : Calls P f args.toArray W fun e W' => e = .returned (.bool true) ∧ Below W.heap.size W W' :=
 (h W (holds_fhOf W)).mono fun _ _ ⟨_, _, _, he, le, H, hv⟩ => ⟨by rw [he, hv], below_of_holds le H⟩
end
section
variable {P : Program} {t e : TypeId}
end
open Go Go.ChangeShapes Go.WideShapes Go.ChangeAt
section
variable {P : Program} {t e : TypeId}
theorem opens_byte (ht : P.underlying e = some (.int .u8)) : Opens P e ByteE (fun _ => True) := by
 intro H enc w base spare held fuel cs x h
 obtain ⟨n, rfl, _, hw⟩ := DataW.trod_int ht h
 refine ⟨n, ⟨rfl, ?_⟩, trivial⟩
 simp [Lit.wf, IntKind.min, IntKind.max, IntKind.signed, IntKind.bits] at hw
 omega
theorem opens_bytes (ht : P.underlying t = some (.slice e)) (he : P.underlying e = some (.int .u8)) (hc : P.cellsOf e = 1) :
  Opens P t (fun F cs (xs : List Int) => ∃ v, cs = [v] ∧ BytesF F v xs) (fun xs => xs.length ≤ 9223372036854775807) :=
 (opens_slice 0 ht hc (opens_byte he)).mono (fun _ _ _ h => h) (fun _ h => h.1)
end
end Go.Proofs.Ytcdjpapjjoldeaa.X
