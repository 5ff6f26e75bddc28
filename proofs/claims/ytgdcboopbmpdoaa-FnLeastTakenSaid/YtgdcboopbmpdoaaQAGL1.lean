/-
  What the walks rest on (part 2).
-/
import Derived.Orders
import Derived.Tactics
import Derived.Below
import Derived.Laws.CopyRow
import Derived.Laws.AppendOwn
import Derived.IntWalk
import Derived.Lib.AppendZeros
import Derived.Scope
import Derived.OrdersIn
import Derived.TacticsIn
import Derived.RangeFuncSeq
import Derived.RangeFuncRecord
import Derived.RangeFuncLeaves
import Derived.Laws.Append
import Derived.MapKept
import Derived.WideKeyArr
import Derived.WalkKit
import Derived.ProofKit
import Derived.OpenShut
import Derived.JoinedCond
import Derived.Carry
import Derived.Deep.Slices
import Derived.Test.YtgdcboopbmpdoaaQAGL0
set_option linter.unusedSimpArgs false
set_option linter.unusedVariables false
namespace Go.Proofs.Ytgdcboopbmpdoaa.X
open Go
theorem RowsC.ones {F : FH} {cs : List Value} {xs : List (List Int)} (h : RowsC F cs xs) : ∀ u ∈ cs, u.oneCell' = true := by
 intro u hu
 obtain ⟨q, hq, rfl⟩ := List.getElem_of_mem hu
 have hl := h.1
 obtain ⟨es, h1, ⟨c, rfl, hc⟩, hg⟩ := CO.get h (i := q) (by omega)
 have h9 := hg 0 c rfl
 rw [show q * 1 + 0 = q from by omega, List.getElem?_eq_getElem hq] at h9
 obtain ⟨b, n, k, rfl⟩ := IntsF.isSl hc
 rw [Option.some.inj h9]; rfl
theorem XOp.appendRows {P : Program} {ρ : Env} {F : FH} {L : List HP} {K : Post} {d : Option Tmp} {ty : TypeId} {pos : String} {af : Array Edge} {g : Option (Nat × Bool)} {x y : Operand} {t E : TypeId} {i : TypeInfo} {z : Value} {n bytes : Nat} {v v2 : Value} {cs : List Value} {xs ys : List (List Int)} (A B : List HP)
  (ht : ∀ w, (underlying t).run P w = .ok (.slice E) w) (hi : ∀ w, (typeInfo E).run P w = .ok i w) (hz : i.zero = some z) (hs : i.size = 1) (hby : i.bytes = bytes) (hzs : z.cells.size = 1)
  (hx : evO ρ x = v) (hy : evO ρ y = v2) (hL : L = A ++ slH E 1 v n cs :: B) (hC : RowsC F cs xs) (hv2 : RowsF F v2 ys) (h63 : n + ys.length ≤ 1152921504606846976) (hbytes : (n + ys.length) * bytes ≤ 140737488355328)
  (k : ∀ v' ds, IsSl v' → RowsC F (cs ++ ds) (xs ++ ys) → K v' F (A ++ slH E 1 v' (n + ys.length) (cs ++ ds) :: B)) :
  XOp P ⟨d, .call { callee := .builtin .append, args := #[x, y], argTypes := #[t, t] }, ty, pos, af, g⟩ ρ F L K := by
 obtain ⟨ds, hA, hc2⟩ := SlOf.open hv2
 exact XOp.append A B ds ht hi hz hs hby hzs hx hy hL (SlV.arr hA) hc2.1 (fun j u hu => Rd.arr hA hu) (RowsC.ones hc2) h63 hbytes fun v' h1 _ _ => k v' ds h1 (CO.append hC hc2)
end Go.Proofs.Ytgdcboopbmpdoaa.X
namespace Go.Proofs.Ytgdcboopbmpdoaa.M
section
variable {ar : List Int} {rs : Rules} {a b t : List Int} {ts : RowL} {n : Int} {m k : Nat}
end
section
variable {ar : List Int} {rs : Rules} {a b t : List Int} {n : Int}
end
section
variable {o t : List Int} {k j : Nat} {n x : Int}
end
section
variable {ar : List Int} {rs : RulesT} {o p u : Nat} {b : RowL} {σ : Sbs}
end
end Go.Proofs.Ytgdcboopbmpdoaa.M
namespace Go.Proofs.Ytgdcboopbmpdoaa.X
open Go
section
variable {P : Program} {ρ : Env} {F : FH} {L : List HP} {K : Post} {d : Option Tmp} {ty : TypeId} {pos : String} {af : Array Edge} {g : Option (Nat × Bool)}
end
end Go.Proofs.Ytgdcboopbmpdoaa.X
namespace Go.Proofs.Ytgdcboopbmpdoaa.M
section
variable {ar : List Int} {rs : RulesT} {o p u : Nat} {x : PkT}
end
section
variable {t : List Int} {rs : RulesT} {ar : List Int} {k : Nat}
def LinT (t : List Int) : Prop := ∀ i, i < t.length → t.getD i 0 < 0 → t.getD i 0 ∉ t.take i
instance : Decidable (LinT t) := by unfold LinT; infer_instance
def LinS (rs : RulesT) : Prop := ∀ i, i < rs.length → LinT (rs.getD i ([], [])).1
instance : Decidable (LinS rs) := by unfold LinS; infer_instance
end
section
variable {α : Type} {q : α → Bool} {l : List α} {d : α} {k : Nat}
def badG (q : α → Bool) (l : List α) : Int := match l.findIdx? (fun t => !q t) with | some i => i | none => -1
theorem badG_at (d : α) (hk : k < l.length) (h : q (l.getD k d) = false) (hall : ∀ i, i < k → q (l.getD i d) = true) : badG q l = k := by
 unfold badG
 have : l.findIdx? (fun t => !q t) = some k := by
  rw [List.findIdx?_eq_some_iff_getElem]
  refine ⟨hk, by simpa [List.getD, hk] using h, fun j hj => ?_⟩
  have := hall j hj
  simpa [List.getD, Nat.lt_trans hj hk] using this
 rw [this]
theorem badG_none (d : α) (hall : ∀ i, i < l.length → q (l.getD i d) = true) : badG q l = -1 := by
 unfold badG
 have : l.findIdx? (fun t => !q t) = none := by
  rw [List.findIdx?_eq_none_iff]
  intro x hx
  obtain ⟨i, hi, rfl⟩ := List.getElem_of_mem hx
  simpa [List.getD, hi] using hall i hi
 rw [this]
theorem badG_iff : (badG q l ≥ 0) ↔ l.all q = false := by
 unfold badG
 cases h : l.findIdx? (fun t => !q t) with
 | none =>
  rw [List.findIdx?_eq_none_iff] at h
  have : l.all q = true := List.all_eq_true.2 fun x hx => by simpa using h x hx
  simp [this]
 | some i =>
  rw [List.findIdx?_eq_some_iff_getElem] at h
  obtain ⟨hi, h1, _⟩ := h
  have : l.all q = false := by
   rw [List.all_eq_false]
   exact ⟨_, List.getElem_mem hi, by simpa using h1⟩
  simp [this]
theorem all_getD_iff (d : α) : l.all q = true ↔ ∀ i, i < l.length → q (l.getD i d) = true := by
 rw [List.all_eq_true]
 refine ⟨fun h i hi => h _ (by simp [List.getD, hi]), fun h x hx => ?_⟩
 obtain ⟨i, hi, rfl⟩ := List.getElem_of_mem hx
 simpa [List.getD, hi] using h i hi
end
section
variable {ar : List Int} {rs es : Rules} {a b : List Int} {n : Int} {m k : Nat}
def eqOkL (ar : List Int) (e : List Int × List Int) : Bool := termOk ar e.1 && termOk ar e.2
end
abbrev StepV := Int × Int × List Int
section
variable {ar t : List Int} {rs : Rules} {p r k : Nat} {u : List Int}
end
abbrev FoundV := List Int × Int × StepV × Int
def terms (all : List FoundV) : RowL := all.map (·.1)
section
variable {ar t : List Int} {rs : Rules} {n d : Int} {k f : Nat} {all : List FoundV} {ss : List StepV}
end
section
variable {all : List FoundV} {x : FoundV} {i : Nat}
end
section
variable {ar t : List Int} {rs : Rules} {n : Int} {all : List FoundV}
end
def WalkB (f : List Int) (ss : List StepV) : Prop := f.length ≤ 60 ∧ ss.length ≤ 60 ∧ (∀ i, i < ss.length → (ss.getD i (0, 0, [])).2.2.length ≤ 60) ∧ (ss.flatMap flatStep).length ≤ 4000
theorem WalkB.mk {f : List Int} {ss : List StepV} (hf : f.length ≤ 60) (hs : ss.length ≤ 60) (h : ∀ s ∈ ss, s.2.2.length ≤ 60) : WalkB f ss := by
 have h0 : ∀ i, i < ss.length → (ss.getD i (0, 0, [])).2.2.length ≤ 60 := fun i hi => h _ (by simp [List.getD, hi])
 refine ⟨hf, hs, h0, ?_⟩
 have h1 := flatStep_len ss
 have h2 := gTo_bound h0 _ (Nat.le_refl _)
 have h4 : ss.length * 60 ≤ 60 * 60 := Nat.mul_le_mul_right 60 hs
 omega
section
variable {ar t u a b : List Int} {rs : Rules} {n : Int} {all : List FoundV} {k : Nat}
end
abbrev LnT := Int × List (List Int) × List Int
open Classical in
def setB (fs : List Int) (n : Int) : Bool := (List.range fs.length).all fun i => decide ((0 ≤ fs.getD i 0 ∧ fs.getD i 0 < n) ∧ (0 < i → fs.getD ((i : Int) - 1).toNat 0 < fs.getD i 0))
def groundB (ar t : List Int) : Bool := termOk ar t && t.all fun n => decide (0 ≤ n)
section
variable {ar fs t : List Int} {ls : List LnT} {x : LnT} {k : Nat} {n : Int}
theorem set_iff : setB fs n = true ↔ ∀ i, i < fs.length → (0 ≤ fs.getD i 0 ∧ fs.getD i 0 < n) ∧ (0 < i → fs.getD ((i : Int) - 1).toNat 0 < fs.getD i 0) := by
 unfold setB; rw [List.all_eq_true]
 exact ⟨fun h i hi => of_decide_eq_true (h i (List.mem_range.2 hi)), fun h i hi => decide_eq_true (h i (List.mem_range.1 hi))⟩
theorem set_no (hk : k < fs.length) (h : ¬ ((0 ≤ fs.getD k 0 ∧ fs.getD k 0 < n) ∧ (0 < k → fs.getD ((k : Int) - 1).toNat 0 < fs.getD k 0))) : setB fs n = false := by
 cases hs : setB fs n with
 | false => rfl
 | true => exact absurd (set_iff.1 hs k hk) h
theorem ground_iff : groundB ar t = true ↔ termOk ar t = true ∧ ∀ n ∈ t, 0 ≤ n := by
 unfold groundB
 rw [Bool.and_eq_true, List.all_eq_true]
 exact ⟨fun h => ⟨h.1, fun n hn => of_decide_eq_true (h.2 n hn)⟩, fun h => ⟨h.1, fun n hn => decide_eq_true (h.2 n hn)⟩⟩
theorem ground_of (ho : termOk ar t = true) (h : ∀ i : Nat, i < 24 → (-1 - (i : Int)) ∉ t) : groundB ar t = true := by
 refine ground_iff.2 ⟨ho, fun n hn => ?_⟩
 rcases Int.lt_or_le n 0 with h0 | h0
 ·exfalso
  have := (termOk_iff.1 ho).ge n hn
  exact h (-1 - n).toNat (by omega) (by rw [show -1 - (((-1 - n).toNat : Nat) : Int) = n from by omega]; exact hn)
 ·exact h0
theorem ground_not {i : Nat} (h : (-1 - (i : Int)) ∈ t) : groundB ar t = false := by
 cases hs : groundB ar t with
 | false => rfl
 | true => have := (ground_iff.1 hs).2 _ h; omega
theorem ground_no (h : termOk ar t = false) : groundB ar t = false := by unfold groundB; rw [h]; rfl
theorem ground_dec {os : List Int} (ho : termOk ar t = true) (h1 : os = [] → ∀ i, i < t.length → 0 ≤ t.getD i 0) (h2 : os ≠ [] → ∃ i, i < t.length ∧ t.getD i 0 < 0) : groundB ar t = decide ((os.length : Int) = 0) := by
 by_cases h : os = []
 ·rw [decide_eq_true (show (os.length : Int) = 0 by rw [h]; rfl)]
  refine ground_iff.2 ⟨ho, fun n hn => ?_⟩
  obtain ⟨i, hi, rfl⟩ := List.getElem_of_mem hn
  have := h1 h i hi
  simpa [List.getD, hi] using this
 ·have hl : 0 < os.length := List.length_pos_iff.2 h
  rw [decide_eq_false (show ¬ (os.length : Int) = 0 by omega)]
  obtain ⟨i, hi, hneg⟩ := h2 h
  cases hs : groundB ar t with
  | false => rfl
  | true =>
   have := (ground_iff.1 hs).2 (t.getD i 0) (by rw [List.getD_eq_getElem?_getD, List.getElem?_eq_getElem hi]; exact List.getElem_mem hi)
   omega
end
section
variable {ar fs t u : List Int} {ls : List LnT} {n k : Nat} {m : Int}
end
section
variable {ar : List Int} {rs : Rules} {t f now : List Int} {ss acc : List StepL} {s : RowL} {k : Nat}
end
section
variable {ar f g : List Int} {rs : Rules} {xs ys : List StepV}
end
section
variable {ar t u f : List Int} {rs : Rules} {ss : List StepL} {st n : Int}
end
section
variable {ar t : List Int} {rs : Rules} {p r : Int} {k : Nat}
end
section
variable {ar t f u v w g A R : List Int} {rs : Rules} {p q r : Nat} {ss xs : List StepL}
theorem endN_of {e : Nat} (h : endGo ar (t.drop p) 1 = some e) : endN ar t p = p + e := by simp [endN, endAt, h]
theorem sub_zero' (hg : termOk ar g = true) : sub ar g 0 = g := by
 have h : endGo ar (g.drop 0) 1 = some g.length := (termOk_iff.1 hg).whole
 unfold sub
 rw [endN_of h]
 simp
end
section
variable {ar t f u v w g : List Int} {rs : Rules} {p q r k n : Nat} {ss xs : List StepL} {s b b' : RowL}
end
section
variable {ar t f : List Int} {rs : Rules} {ss xs : List StepL} {k : Nat}
end
section
variable {f : List Int} {ss : List StepL} {s : StepL} {k : Nat}
end
section
variable {ar t od : List Int} {σ τ : Sbs} {n : Nat}
end
section
variable {ar : List Int} {rs : RulesT} {o p u : Nat} {b : RowL} {σ : Sbs} {x : PkT}
structure PkS (ar : List Int) (rs : RulesT) (o p u : Nat) (x : PkT) (τ : Sbs) : Prop where
 good : GoodS ar τ
 top : x.1 = ap τ (Lr rs o)
 left : x.2.1 = ap τ (leftT ar rs o p u)
 right : x.2.2.1 = ap τ (Rr rs o)
 nums : x.2.2.2 = ((p : Int), (u : Int), (o : Int))
 met : ap τ (sub ar (Lr rs o) p) = ap τ (awayL (Lr rs u))
 topOk : termOk ar x.1 = true
 leftOk : termOk ar x.2.1 = true
 rightOk : termOk ar x.2.2.1 = true
end
section
variable {ar : List Int} {rs : RulesT} {a b : List Int}
theorem part_len (ha : TermW ar a) {i : Nat} (hi : i < (partsL ar a).length) : ((partsL ar a).getD i []).length < a.length := by
 have := part_lt (GoodS.id (ar := ar)) ha hi
 rwa [ap_id, ap_id] at this
end
section
variable {ar t : List Int} {τ : Sbs} {b : RowL} {n : Int}
end
section
variable {ar t : List Int} {rs : RulesT} {τ : Sbs} {p q r : Nat}
def mv (τ : Sbs) (t : List Int) (q : Nat) : Nat := (ap τ (t.take q)).length
variable {o u : Nat} {x : PkT}
end
section
variable {ar A C t s : List Int} {σ τ θ σ1 σ2 : Sbs} {n m : Int} {b : RowL}
structure MguS (ar A C : List Int) (σ : Sbs) : Prop where
 good : GoodS ar σ
 eq : ap σ A = ap σ C
 most : ∀ θ, GoodS ar θ → ap θ A = ap θ C → ∀ t, ap θ (ap σ t) = ap θ t
end
section
variable {ar A C x y u v : List Int} {σ θ : Sbs} {n : Int} {k : Nat}
structure SolS (ar A C : List Int) (σ : Sbs) : Prop where
 good : GoodS ar σ
 idem : ∀ n, ap σ (σ n) = σ n
 most : ∀ θ, GoodS ar θ → ap θ A = ap θ C → ∀ n, ap θ (σ n) = θ n
end
section
variable {ar A C x y u t : List Int} {s : RowL} {σ : Sbs} {n : Int} {k i : Nat}
open Classical in
structure UniI (ar A C : List Int) (s : RowL) : Prop where
 sol : SolS ar A C (lk s)
 len : s.length ≤ 24
 rows : RowsOk ar s
structure Dif (ar A C : List Int) (s : RowL) (n : Int) (u : List Int) : Prop where
 neg : n < 0
 ge : -24 ≤ n
 free : lk s n = [n]
 ok : termOk ar u = true
 fix : ap (lk s) u = u
 ne : u ≠ [n]
 all : ∀ θ, GoodS ar θ → ap θ A = ap θ C → θ n = ap θ u
end
section
variable {ar A C t a b : List Int} {s l : RowL} {σ : Sbs} {n c : Int} {k i : Nat}
structure UniR (ar A C : List Int) (s : RowL) : Prop where
 mgu : MguS ar A C (lk s)
 len : s.length ≤ 24
 rows : RowsOk ar s
end
section
variable {ar t u : List Int} {rs : Rules} {n : Int} {all : List FoundV} {k : Nat} {ss : List StepV}
end
section
variable {ar t u a b : List Int} {rs : Rules} {n : Int} {all : List FoundV} {ss xs : List StepV} {s : StepV} {k m : Nat}
end
section
variable {ar t p : List Int} {g g' b : RowL}
end
section
variable {ar t f : List Int} {rs : Rules} {n : Int} {all : List FoundV} {ss ys : List StepV} {p many : Int} {s : RowL}
def againOk (ar : List Int) (rs : Rules) (f : List Int) (ss : List StepV) (p : Int) (s : RowL) (many : Int) : Prop := (sysOk ar rs && loopOkL ar rs f ss p s) = true ∧ 1 ≤ many ∧ many ≤ 60 ∧ many * (ss.length : Int) ≤ 60
instance : Decidable (againOk ar rs f ss p s many) := by unfold againOk; infer_instance
section
variable {m : Nat}
end
end
section
variable {ar : List Int} {rs : Rules} {a b t : List Int} {ts : RowL} {n : Int} {k : Nat}
end
section
variable {ar t u : List Int} {n : Nat} {f : Int}
theorem sigOk_snoc {x : Int} (h : sigOk ar = true) (hl : ar.length ≤ 7) (hx : 0 ≤ x ∧ x ≤ 3) : sigOk (ar ++ [x]) = true := by
 have h1 := sigOk_spec h
 refine sigOk_of (by simp) (by simp; omega) (fun i hi => ?_)
 rcases Nat.lt_or_ge i ar.length with h' | h'
 ·have := h1.2.2 i h'
  simpa [List.getD, List.getElem?_append_left h'] using this
 ·have e : i = ar.length := by simp at hi; omega
  subst e
  simpa [List.getD] using hx
variable {rs : Rules} {a b : List Int} {ts : RowL} {m : Int} {i k : Nat}
end
section
variable {ar : List Int} {rs : RulesT} {o p u : Nat} {b : RowL} {σ τ : Sbs} {x : PkT} {t l r od X : List Int}
end
section
variable {f : Int} {os t t' : List Int} {n : Nat}
def L9 (u : List Int) : Prop := termOk [2, 1, 0] u = true ∧ u.length ≤ 5 ∧ 0 ≤ u.getD 0 0
end
section
variable {ar A C s : List Int}
end
section
variable {ar : List Int} {rs : Rules} {t x : List Int} {ts : RowL} {n : Int} {k : Nat}
end
section
variable {α : Type} {q : α → Bool} {l : List α} {k : Nat} {ar : List Int} {rs : RulesT}
end
inductive LeS : List Nat → List Nat → Prop
 | nil : LeS [] []
 | cons {a b : Nat} {r s : List Nat} : a ≤ b → LeS r s → LeS (a :: r) (b :: s)
inductive LtS : List Nat → List Nat → Prop
 | here {a b : Nat} {r s : List Nat} : a < b → LeS r s → LtS (a :: r) (b :: s)
 | there {a b : Nat} {r s : List Nat} : a ≤ b → LtS r s → LtS (a :: r) (b :: s)
section
variable {c d : Nat} {n : Int} {r s : List Nat} {t u : List Int}
variable {rs : Rules} {p k : Nat}
end
section
variable {ar : List Int} {rs : Rules} {ts : RowL} {i k : Nat} {a b : List Int}
end
theorem WF_flat {ar : List Int} : ∀ {xs : RowL}, (∀ x ∈ xs, WF ar x 1) → WF ar xs.flatten xs.length
 | [], _ => WF_nil
 | x :: xs, h => by
  rw [List.flatten_cons, List.length_cons, Nat.add_comm]
  exact WF_app (h x (by simp)) (WF_flat fun y hy => h y (List.mem_cons_of_mem _ hy))
section
variable (ar fs : List Int) (ls : List LnT)
end
section
variable {ar fs t a b r v w x : List Int} {ls : List LnT} {E E' : List Int → List Int → Prop} {s s' s1 : RowL} {h : Int} {n m k : Nat}
end
section
variable {ar t : List Int} {rs : Rules} {all os : List Int} {e x : Int} {c p k i : Nat}
end
section
variable {ar fs t u x : List Int} {ls : List LnT} {p k n : Nat} {m : Int}
end
inductive Lp (ar rk : List Int) : List Int → List Int → Prop
 | eq {u v : List Int} (i : Nat) : 0 ≤ u.getD 0 0 → i < (partsL ar u).length → (partsL ar u).getD i [] = v → Lp ar rk u v
 | sub {u v : List Int} (i : Nat) : 0 ≤ u.getD 0 0 → i < (partsL ar u).length → Lp ar rk ((partsL ar u).getD i []) v → Lp ar rk u v
 | prec {u v : List Int} : 0 ≤ u.getD 0 0 → 0 ≤ v.getD 0 0 → u.getD 0 0 ≠ v.getD 0 0 → rk.getD (v.getD 0 0).toNat 0 < rk.getD (u.getD 0 0).toNat 0 → (∀ j, j < (partsL ar v).length → Lp ar rk u ((partsL ar v).getD j [])) → Lp ar rk u v
 | lex {u v : List Int} (i : Nat) : 0 ≤ u.getD 0 0 → u.getD 0 0 = v.getD 0 0 → i < (partsL ar u).length → (∀ j, j < i → (partsL ar u).getD j [] = (partsL ar v).getD j []) → Lp ar rk ((partsL ar u).getD i []) ((partsL ar v).getD i []) → (∀ j, j < (partsL ar v).length → Lp ar rk u ((partsL ar v).getD j [])) → Lp ar rk u v
section
variable {ar rk u v w t a b : List Int} {n i j : Nat} {x : Int}
theorem part_W (h : TermW ar u) (hi : i < (partsL ar u).length) : TermW ar ((partsL ar u).getD i []) := parts_wf h _ (by rw [List.getD_eq_getElem?_getD, List.getElem?_eq_getElem hi]; exact List.getElem_mem hi)
theorem parts_of {as : RowL} (h : TermW ar (x :: as.flatten)) (ha : ∀ a ∈ as, WF ar a 1) (hl : as.length = (arity ar x).toNat) : partsL ar (x :: as.flatten) = as := by
 have e := parts_flat h
 have e2 : as.flatten = (partsL ar (x :: as.flatten)).flatten := by simpa using e
 exact (flat_same (ar := ar) (by rw [parts_len, hl]; simp) ha (fun s hs => (parts_wf h s hs).wf) e2).symm
end
section
variable {ar rk t u l r : List Int} {rs : Rules} {k p n : Nat}
end
section
variable (ar rk : List Int)
open Classical in
abbrev WSt := Rules × Rules
def rankB : Bool := sigOk ar && (decide (rk.length = ar.length) && (List.range rk.length).all fun i => decide ((i : Int) ∈ rk))
end
section
variable {ar rk t u l r : List Int} {rs td : Rules} {k p n a b c : Nat} {s : WSt} {st : Int}
open Classical in
structure WorkOk (ar rk : List Int) (s : WSt) : Prop where
 rank : rankB ar rk = true
 few : s.1.length ≤ 120
 sys : sysOk ar s.2 = true
 eqs : ∀ e ∈ s.1, eqOkL ar e = true
 down : ∀ x ∈ s.2, Lp ar rk x.1 x.2
end
section
variable {ar rk t s u v : List Int} {p q i j k : Nat} {us vs : RowL}
theorem parts_sub (h : TermW ar t) (hp : p < t.length) : partsL ar (sub ar t p) = (argsL ar t p).map fun q => sub ar t q.toNat := by
 have hs := h.sub hp
 have hst := h.stand0 hp
 have hg := parts_go h hst
 have he := h.endN hp
 have e : sub ar t p = t.getD p 0 :: ((argsL ar t p).map fun q => sub ar t q.toNat).flatten := by
  show (t.drop p).take (endN ar t p - p) = _
  unfold argsL
  rw [hg]
  have e2 : t.drop p = t.getD p 0 :: t.drop (p + 1) := by
   rw [List.drop_eq_getElem_cons hp]; simp [List.getD, hp]
  rw [e2, show endN ar t p - p = (endN ar t p - (p + 1)) + 1 from by omega, List.take_succ_cons]
 rw [e] at hs ⊢
 refine parts_of hs (fun a ha => ?_) (by rw [List.length_map, argsL_len])
 obtain ⟨y, hy, rfl⟩ := List.mem_map.1 ha
 obtain ⟨k, hk, rfl⟩ := List.getElem_of_mem hy
 have := h.args_in hp hk
 have e3 : (argsL ar t p)[k] = (argsL ar t p).getD k 0 := by simp [List.getD, hk]
 rw [e3]
 exact (h.sub (by omega)).wf
theorem parts_subN (h : TermW ar t) (hp : p < t.length) : (partsL ar (sub ar t p)).length = (argsL ar t p).length := by rw [parts_sub h hp, List.length_map]
theorem part_at (h : TermW ar t) (hp : p < t.length) (hi : i < (argsL ar t p).length) : (partsL ar (sub ar t p)).getD i [] = sub ar t ((argsL ar t p).getD i 0).toNat := by
 rw [parts_sub h hp]; simp [List.getD, hi]
theorem argsT_at (h : TermW ar t) (hp : p < t.length) (hi : i < (argsL ar t p).length) : ((argsL ar t p).getD i 0).toNat < t.length ∧ 0 ≤ (argsL ar t p).getD i 0 ∧ (sub ar t ((argsL ar t p).getD i 0).toNat).length < (sub ar t p).length := by
 have := h.args_in hp hi
 have h2 := h.endN hp
 have h3 := part_len (h.sub hp) (i := i) (by rw [parts_subN h hp]; exact hi)
 rw [part_at h hp hi] at h3
 exact ⟨by omega, by omega, h3⟩
open Classical in
open Classical in
section
variable {td rs : Rules} {l r : List Int}
end
end
end Go.Proofs.Ytgdcboopbmpdoaa.M
namespace Go.Proofs.Ytgdcboopbmpdoaa.X
open Go
abbrev TranT := Int × List Int × Int
def TranF (F : FH) (es : List Value) (x : TranT) : Prop := ∃ a1, es = [.int .i64 x.1, a1, .int .i64 x.2.2] ∧ IntsF F a1 x.2.1
theorem TranF.mono {F F' : FH} (le : F ≤ F') (es : List Value) (x : TranT) (h : TranF F es x) : TranF F' es x := by
 obtain ⟨a1, e, h1⟩ := h
 exact ⟨a1, e, h1.mono le⟩
def TransF : FH → Value → List TranT → Prop := SlOf 3 TranF (0, [], 0)
theorem TransF.mono {F F' : FH} {v : Value} {xs : List TranT} (h : TransF F v xs) (le : F ≤ F') : TransF F' v xs := SlOf.mono (TranF.mono le) h le
theorem TransF.slv {F : FH} {L : List HP} {v : Value} {xs : List TranT} (h : TransF F v xs) : SlV F L v xs.length := SlOf.slv h
theorem TransF.isSl {F : FH} {v : Value} {xs : List TranT} (h : TransF F v xs) : IsSl v := by obtain ⟨_, h, _⟩ := h; exact h.isSl
theorem TransF.rd {F : FH} {v : Value} {xs : List TranT} (h : TransF F v xs) {i : Nat} (hi : i < xs.length) : ∃ a1, IntsF F a1 (xs.getD i (0, [], 0)).2.1 ∧ (∀ L j u, ([.int .i64 (xs.getD i (0, [], 0)).1, a1, .int .i64 (xs.getD i (0, [], 0)).2.2] : List Value)[j]? = some u → Rd F L (elemA v (i * 3 + j)) u) ∧ True := by
 obtain ⟨es, hl, ⟨a1, rfl, h1⟩, hr⟩ := SlOf.get h hi
 exact ⟨a1, h1, hr, trivial⟩
def TransC (F : FH) (cs : List Value) (xs : List TranT) : Prop := CO 3 TranF (0, [], 0) F cs xs
theorem TransC.mono {F F' : FH} {cs : List Value} {xs : List TranT} (h : TransC F cs xs) (le : F ≤ F') : TransC F' cs xs := CO.mono (TranF.mono le) h
theorem TransC.snoc {F : FH} {cs : List Value} {xs : List TranT} {a1 : Value} {y0 : Int} {y1 : List Int} {y2 : Int} (h : TransC F cs xs) (h1 : IntsF F a1 y1) : TransC F (cs ++ [.int .i64 y0, a1, .int .i64 y2]) (xs ++ [(y0, y1, y2)]) := CO.snoc h rfl ⟨a1, rfl, h1⟩
theorem TransC.get {F : FH} {cs : List Value} {xs : List TranT} (h : TransC F cs xs) {i : Nat} (hi : i < xs.length) : ∃ a1, IntsF F a1 (xs.getD i (0, [], 0)).2.1 ∧ (∀ j u, ([.int .i64 (xs.getD i (0, [], 0)).1, a1, .int .i64 (xs.getD i (0, [], 0)).2.2] : List Value)[j]? = some u → cs[i * 3 + j]? = some u) := by
 obtain ⟨es, hl, ⟨a1, rfl, h1⟩, hr⟩ := CO.get h hi
 exact ⟨a1, h1, hr⟩
abbrev transH (E : TypeId) (F : FH) (v : Value) (xs : List TranT) : HP := coH 3 TranF (0, [], 0) E F v xs
def LevelF (F : FH) (es : List Value) (x : List (List Int)) : Prop := ∃ a, es = [a] ∧ RowsF F a x
theorem LevelF.mono {F F' : FH} (le : F ≤ F') (es : List Value) (x : List (List Int)) (h : LevelF F es x) : LevelF F' es x := let ⟨a, e, h1⟩ := h; ⟨a, e, h1.mono le⟩
section
variable {F F' : FH} {L : List HP} {v a : Value} {cs : List Value} {xs : List (List (List Int))} {x : List (List Int)} {i : Nat}
def LevelsC (F : FH) (cs : List Value) (xs : List (List (List Int))) : Prop := CO 1 LevelF [] F cs xs
theorem LevelsC.mono (h : LevelsC F cs xs) (le : F ≤ F') : LevelsC F' cs xs := CO.mono (LevelF.mono le) h
theorem LevelsC.snoc (h : LevelsC F cs xs) (ha : RowsF F a x) : LevelsC F (cs ++ [a]) (xs ++ [x]) := CO.snoc h rfl ⟨a, rfl, ha⟩
theorem LevelsC.get (h : LevelsC F cs xs) (hi : i < xs.length) : ∃ a, RowsF F a (xs.getD i []) ∧ cs[i]? = some a := by
 obtain ⟨es, hl, ⟨a, rfl, h1⟩, hr⟩ := CO.get h hi
 exact ⟨a, h1, by have := hr 0 a rfl; rwa [Nat.mul_one] at this⟩
end
def Set1F (F : FH) (es : List Value) (x : Nat) : Prop := es = [.int .u32 (x : Int)]
def SetsF : FH → Value → List Nat → Prop := SlOf 1 Set1F 0
section
variable {F F' : FH} {L : List HP} {v : Value} {cs : List Value} {xs : List Nat} {y : Nat} {i : Nat}
theorem Set1F.mono (es : List Value) (x : Nat) (h : Set1F F es x) : Set1F F' es x := h
theorem SetsF.slv (h : SetsF F v xs) : SlV F L v xs.length := SlOf.slv h
theorem SetsF.rd (h : SetsF F v xs) (hi : i < xs.length) : Rd F L (elemA v i) (.int .u32 ((xs.getD i 0 : Nat) : Int)) := by
 obtain ⟨es, hl, h1, hr⟩ := SlOf.get h hi
 have e : es = [.int .u32 ((xs.getD i 0 : Nat) : Int)] := h1
 subst e
 have := hr L 0 _ rfl; rwa [Nat.mul_one] at this
def SetsC (F : FH) (cs : List Value) (xs : List Nat) : Prop := CO 1 Set1F 0 F cs xs
theorem SetsC.mono (h : SetsC F cs xs) (le : F ≤ F') : SetsC F' cs xs := CO.mono Set1F.mono h
theorem SetsC.snoc (h : SetsC F cs xs) : SetsC F (cs ++ [.int .u32 (y : Int)]) (xs ++ [y]) := CO.snoc h rfl rfl
end
theorem u32_in {n : Nat} (h : n < 4294967296) : IntKind.u32.wrap (n : Int) = (n : Int) := by
 have e : (n : Int) % 2 ^ 32 = n := Int.emod_eq_of_lt (by omega) (by omega)
 simp only [IntKind.wrap, IntKind.bits, IntKind.signed, e]
 simp
theorem u64_in' {n : Nat} (h : n < 4294967296) : IntKind.u64.wrap (n : Int) = (n : Int) := by
 have e : (n : Int) % 2 ^ 64 = n := Int.emod_eq_of_lt (by omega) (by omega)
 simp only [IntKind.wrap, IntKind.bits, IntKind.signed, e]
 simp
theorem conv64 {a : Int} (h0 : 0 ≤ a) (h1 : a < 4294967296) : IntKind.u64.wrap a = ((a.toNat : Nat) : Int) := by
 obtain ⟨n, rfl⟩ := Int.eq_ofNat_of_zero_le h0
 rw [Int.toNat_natCast]; exact u64_in' (by omega)
theorem bv32 {n : Nat} (h : n < 4294967296) : (BitVec.ofInt 32 (n : Int)).toNat = n := by
 rw [BitVec.toNat_ofInt]
 have e : (n : Int) % ((2 ^ 32 : Nat) : Int) = n := Int.emod_eq_of_lt (by omega) (by omega)
 rw [e]; rfl
theorem or_lt {m n : Nat} (hm : m < 4294967296) (hn : n < 4294967296) : m ||| n < 4294967296 := Nat.or_lt_two_pow (n := 32) hm hn
theorem and_lt {m n : Nat} (hm : m < 4294967296) : m &&& n < 4294967296 := Nat.lt_of_le_of_lt Nat.and_le_left hm
section
variable {P : Program} {ρ : Env} {F : FH} {L : List HP} {K : Post} {d : Option Tmp} {ty : TypeId} {pos : String} {af : Array Edge} {g : Option (Nat × Bool)}
theorem XOp.or32 {x y : Operand} {t u : TypeId} {m n : Nat} (hx : evO ρ x = .int .u32 (m : Int)) (hy : evO ρ y = .int .u32 (n : Int)) (hm : m < 4294967296) (hn : n < 4294967296) (kk : K (.int .u32 ((m ||| n : Nat) : Int)) F L) : XOp P ⟨d, .binOp .or t x y u, ty, pos, af, g⟩ ρ F L K :=
 XOp.value (v := .int .u32 ((m ||| n : Nat) : Int)) (fun w _ => by
  have e : IntKind.u32.wrap ((BitVec.ofInt 32 (m : Int) ||| BitVec.ofInt 32 (n : Int)).toNat : Int) = ((m ||| n : Nat) : Int) := by
   rw [BitVec.toNat_or, bv32 hm, bv32 hn]; exact u32_in (or_lt hm hn)
  simp [execOp, hx, hy, eqGuard, binOp, Op.intBits]
  exact e) kk
theorem XOp.and32 {x y : Operand} {t u : TypeId} {m n : Nat} (hx : evO ρ x = .int .u32 (m : Int)) (hy : evO ρ y = .int .u32 (n : Int)) (hm : m < 4294967296) (hn : n < 4294967296) (kk : K (.int .u32 ((m &&& n : Nat) : Int)) F L) : XOp P ⟨d, .binOp .and t x y u, ty, pos, af, g⟩ ρ F L K :=
 XOp.value (v := .int .u32 ((m &&& n : Nat) : Int)) (fun w _ => by
  have e : IntKind.u32.wrap ((BitVec.ofInt 32 (m : Int) &&& BitVec.ofInt 32 (n : Int)).toNat : Int) = ((m &&& n : Nat) : Int) := by
   rw [BitVec.toNat_and, bv32 hm, bv32 hn]; exact u32_in (and_lt hm)
  simp [execOp, hx, hy, eqGuard, binOp, Op.intBits]
  exact e) kk
theorem XOp.and32Z {x y : Operand} {t u : TypeId} {a b : Int} (hx : evO ρ x = .int .u32 a) (hy : evO ρ y = .int .u32 b) (ha : 0 ≤ a ∧ a.toNat < 4294967296) (hb : 0 ≤ b ∧ b.toNat < 4294967296) (kk : K (.int .u32 ((a.toNat &&& b.toNat : Nat) : Int)) F L) : XOp P ⟨d, .binOp .and t x y u, ty, pos, af, g⟩ ρ F L K := by
 refine XOp.and32 (m := a.toNat) (n := b.toNat) ?_ ?_ ha.2 hb.2 kk
 ·rw [hx, show ((a.toNat : Nat) : Int) = a from by omega]
 ·rw [hy, show ((b.toNat : Nat) : Int) = b from by omega]
theorem XOp.andNot32 {x y : Operand} {t u : TypeId} {m n : Nat} (hx : evO ρ x = .int .u32 (m : Int)) (hy : evO ρ y = .int .u32 (n : Int)) (hm : m < 4294967296) (hn : n < 4294967296) (kk : K (.int .u32 ((m &&& (4294967295 - n) : Nat) : Int)) F L) : XOp P ⟨d, .binOp .andNot t x y u, ty, pos, af, g⟩ ρ F L K :=
 XOp.value (v := .int .u32 ((m &&& (4294967295 - n) : Nat) : Int)) (fun w _ => by
  have h1 : m % 2 ^ IntKind.u32.bits = m := Nat.mod_eq_of_lt hm
  have h2 : n % 2 ^ IntKind.u32.bits = n := Nat.mod_eq_of_lt hn
  simp [execOp, hx, hy, eqGuard, binOp, Op.intBits]
  rw [h1, h2]
  exact u32_in (and_lt hm)) kk
theorem XOp.shl32 {x y : Operand} {t u : TypeId} {k' : IntKind} {q : Nat} (hx : evO ρ x = .int .u32 1) (hy : evO ρ y = .int k' (q : Int)) (hq : q < 32) (kk : K (.int .u32 ((2 ^ q : Nat) : Int)) F L) : XOp P ⟨d, .binOp .shl t x y u, ty, pos, af, g⟩ ρ F L K :=
 XOp.value (v := .int .u32 ((2 ^ q : Nat) : Int)) (fun w _ => by
  have e : IntKind.u32.wrap (1 * 2 ^ min (q : Int).toNat IntKind.u32.bits) = ((2 ^ q : Nat) : Int) := by
   have e1 : min (q : Int).toNat IntKind.u32.bits = q := by show min _ 32 = q; omega
   have e2 : (1 : Int) * 2 ^ q = ((2 ^ q : Nat) : Int) := by rw [Int.one_mul]; norm_cast
   rw [e1, e2]
   exact u32_in (Nat.lt_of_lt_of_le (Nat.pow_lt_pow_right (by decide) hq) (by decide))
  have e' : IntKind.u32.wrap (1 * 2 ^ q) = ((2 ^ q : Nat) : Int) := by
   have e1 : min (q : Int).toNat IntKind.u32.bits = q := by show min _ 32 = q; omega
   rw [e1] at e; exact e
  simp [execOp, hx, hy, eqGuard, binOp, Op.shift, show ¬ (q : Int) < 0 by omega]
  first | (simpa using e; done) | simpa using e') kk
theorem XOp.shr32 {x y : Operand} {t u : TypeId} {k' : IntKind} {m q : Nat} (hx : evO ρ x = .int .u32 (m : Int)) (hy : evO ρ y = .int k' (q : Int)) (hq : q < 32) (kk : K (.int .u32 ((m >>> q : Nat) : Int)) F L) : XOp P ⟨d, .binOp .shr t x y u, ty, pos, af, g⟩ ρ F L K :=
 XOp.value (v := .int .u32 ((m >>> q : Nat) : Int)) (fun w _ => by
  have e : (m : Int).fdiv (2 ^ min (q : Int).toNat IntKind.u32.bits) = ((m >>> q : Nat) : Int) := by
   have e1 : min (q : Int).toNat IntKind.u32.bits = q := by show min _ 32 = q; omega
   have e2 : (2 : Int) ^ q = ((2 ^ q : Nat) : Int) := by norm_cast
   rw [e1, e2, Nat.shiftRight_eq_div_pow, Int.fdiv_eq_ediv_of_nonneg _ (Int.natCast_nonneg _)]; norm_cast
  have e' : (m : Int) / 2 ^ q = ((m >>> q : Nat) : Int) := by
   have e1 : min (q : Int).toNat IntKind.u32.bits = q := by show min _ 32 = q; omega
   have e2 : (2 : Int) ^ q = ((2 ^ q : Nat) : Int) := by norm_cast
   rw [e1, e2, Int.fdiv_eq_ediv_of_nonneg _ (Int.natCast_nonneg _), ← e2] at e; exact e
  simp [execOp, hx, hy, eqGuard, binOp, Op.shift, show ¬ (q : Int) < 0 by omega]
  first | (simpa using e; done) | simpa using e') kk
end
end Go.Proofs.Ytgdcboopbmpdoaa.X
namespace Go.Proofs.Ytgdcboopbmpdoaa.M
open X
section
variable {ar fi xs ys zs t u : List Int} {n : Int} {rs : List TranT} {i j k : Nat} {a b : TranT}
def ltL : List Int → List Int → Prop
 | [], [] => False
 | [], _ :: _ => True
 | _ :: _, [] => False
 | x :: xs, y :: ys => x < y ∨ x = y ∧ ltL xs ys
theorem ltL.irrefl : ∀ xs, ¬ ltL xs xs
 | [] => id
 | x :: xs => fun h => h.elim (fun h => absurd h (by omega)) (fun h => ltL.irrefl xs h.2)
theorem ltL.trans : ∀ {xs ys zs : List Int}, ltL xs ys → ltL ys zs → ltL xs zs
 | [], _ :: _, _ :: _, _, _ => trivial
 | [], [], _, h, _ => h.elim
 | _ :: _, [], _, h, _ => h.elim
 | _, _ :: _, [], _, h => h.elim
 | x :: xs, y :: ys, z :: zs, h1, h2 => by
  rcases h1 with h1 | ⟨h1, h1'⟩ <;> rcases h2 with h2 | ⟨h2, h2'⟩
  ·exact .inl (by omega)
  ·exact .inl (by omega)
  ·exact .inl (by omega)
  ·exact .inr ⟨by omega, h1'.trans h2'⟩
theorem ltL.total : ∀ (xs ys : List Int), ltL xs ys ∨ xs = ys ∨ ltL ys xs
 | [], [] => .inr (.inl rfl)
 | [], _ :: _ => .inl trivial
 | _ :: _, [] => .inr (.inr trivial)
 | x :: xs, y :: ys => by
  rcases Int.lt_trichotomy x y with h | h | h
  ·exact .inl (.inl h)
  ·subst h
   rcases ltL.total xs ys with h | h | h
   ·exact .inl (.inr ⟨rfl, h⟩)
   ·exact .inr (.inl (by rw [h]))
   ·exact .inr (.inr (.inr ⟨rfl, h⟩))
  ·exact .inr (.inr (.inl h))
theorem ltL_at : ∀ {xs ys : List Int} {k : Nat}, k < xs.length → k < ys.length → (∀ i, i < k → xs.getD i 0 = ys.getD i 0) → xs.getD k 0 < ys.getD k 0 → ltL xs ys
 | x :: xs, y :: ys, 0, _, _, _, h => .inl (by simpa using h)
 | x :: xs, y :: ys, k + 1, h1, h2, he, h => .inr ⟨by simpa using he 0 (by omega), ltL_at (k := k) (by simpa using h1) (by simpa using h2) (fun i hi => by simpa using he (i + 1) (by omega)) (by simpa using h)⟩
theorem ltL_pre : ∀ {xs ys : List Int}, xs.length < ys.length → (∀ i, i < xs.length → xs.getD i 0 = ys.getD i 0) → ltL xs ys
 | [], _ :: _, _, _ => trivial
 | [], [], h, _ => absurd h (by simp)
 | x :: xs, [], h, _ => absurd h (by simp)
 | x :: xs, y :: ys, h, he => .inr ⟨by simpa using he 0 (by simp), ltL_pre (by simpa using h) (fun i hi => by simpa using he (i + 1) (by simpa using hi))⟩
theorem eq_of_getD (hl : xs.length = ys.length) (he : ∀ i, i < xs.length → xs.getD i 0 = ys.getD i 0) : xs = ys := by
 refine List.ext_getElem hl fun i h1 h2 => ?_
 have := he i h1
 simpa [List.getD, h1, h2] using this
theorem ltL_app : ∀ {a x y : List Int}, ltL (a ++ x) (a ++ y) ↔ ltL x y
 | [], _, _ => Iff.rfl
 | c :: a, x, y => ⟨fun h => h.elim (fun h => absurd h (by omega)) (fun h => ltL_app.1 h.2), fun h => .inr ⟨rfl, ltL_app.2 h⟩⟩
theorem ltL_front : ∀ {a b x y : List Int}, a.length = b.length → ltL a b → ltL (a ++ x) (b ++ y)
 | [], [], _, _, _, h => h.elim
 | _ :: _, [], _, _, h, _ => by simp at h
 | [], _ :: _, _, _, h, _ => by simp at h
 | c :: a, d :: b, x, y, hl, h => h.elim (fun h => .inl h) (fun h => .inr ⟨h.1, ltL_front (by simpa using hl) h.2⟩)
def ltT (t u : List Int) : Prop := t.length < u.length ∨ t.length = u.length ∧ ltL t u
theorem ltT.irrefl : ¬ ltT t t := fun h => h.elim (fun h => absurd h (by omega)) (fun h => ltL.irrefl t h.2)
theorem ltT.trans {v : List Int} (h1 : ltT t u) (h2 : ltT u v) : ltT t v := by
 rcases h1 with h1 | ⟨h1, h1'⟩ <;> rcases h2 with h2 | ⟨h2, h2'⟩
 ·exact .inl (by omega)
 ·exact .inl (by omega)
 ·exact .inl (by omega)
 ·exact .inr ⟨by omega, h1'.trans h2'⟩
theorem ltT.total (t u : List Int) : ltT t u ∨ t = u ∨ ltT u t := by
 rcases Nat.lt_trichotomy t.length u.length with h | h | h
 ·exact .inl (.inl h)
 ·rcases ltL.total t u with h2 | h2 | h2
  ·exact .inl (.inr ⟨h, h2⟩)
  ·exact .inr (.inl h2)
  ·exact .inr (.inr (.inr ⟨h.symm, h2⟩))
 ·exact .inr (.inr (.inl h))
open Classical in
noncomputable def lessB (t u : List Int) : Bool := decide (ltT t u)
open Classical in
theorem less_iff : lessB t u = true ↔ ltT t u := by unfold lessB; exact decide_eq_true_iff
theorem less_len (h : t.length ≠ u.length) : lessB t u = decide ((t.length : Int) < (u.length : Int)) := by
 rw [Bool.eq_iff_iff, less_iff, decide_eq_true_iff]
 exact ⟨fun k => k.elim (fun k => by omega) (fun k => absurd k.1 h), fun k => .inl (by omega)⟩
theorem less_at (hl : t.length = u.length) (hk : k < t.length) (he : ∀ i, i < k → t.getD i 0 = u.getD i 0) (hn : t.getD k 0 ≠ u.getD k 0) : lessB t u = decide (t.getD k 0 < u.getD k 0) := by
 rw [Bool.eq_iff_iff, less_iff, decide_eq_true_iff]
 refine ⟨fun h => ?_, fun h => .inr ⟨hl, ltL_at hk (by omega) he h⟩⟩
 rcases Int.lt_or_lt_of_ne hn with h2 | h2
 ·exact h2
 ·exfalso
  exact ltT.irrefl (h.trans (.inr ⟨hl.symm, ltL_at (by omega) hk (fun i hi => (he i hi).symm) h2⟩))
theorem less_same (hl : t.length = u.length) (he : ∀ i, i < t.length → t.getD i 0 = u.getD i 0) : lessB t u = false := by
 rw [Bool.eq_false_iff, Ne, less_iff, eq_of_getD hl he]; exact ltT.irrefl
def CmpI (xs ys : List Int) (c : Int) : Prop := (c = 0 ↔ xs = ys) ∧ (c < 0 ↔ ltL xs ys)
theorem CmpI.less (h : ltL xs ys) : CmpI xs ys (-1) := ⟨⟨fun h => absurd h (by decide), fun e => by subst e; exact (ltL.irrefl _ h).elim⟩, fun _ => h, fun _ => by decide⟩
theorem CmpI.more (h : ltL ys xs) : CmpI xs ys 1 := ⟨⟨fun h => absurd h (by decide), fun e => by subst e; exact (ltL.irrefl _ h).elim⟩, fun h => absurd h (by decide), fun k => (ltL.irrefl _ (k.trans h)).elim⟩
theorem CmpI.same (h : xs = ys) : CmpI xs ys 0 := ⟨⟨fun _ => h, fun _ => rfl⟩, fun h => absurd h (by decide), fun k => by subst h; exact (ltL.irrefl _ k).elim⟩
theorem CmpI.at {c : Int} (hk : k < xs.length) (hk2 : k < ys.length) (he : ∀ i, i < k → xs.getD i 0 = ys.getD i 0) (hn : xs.getD k 0 ≠ ys.getD k 0) (hc : c = if xs.getD k 0 < ys.getD k 0 then -1 else 1) : CmpI xs ys c := by
 subst hc
 split
 ·rename_i h; exact .less (ltL_at hk hk2 he h)
 ·rename_i h; exact .more (ltL_at hk2 hk (fun i hi => (he i hi).symm) (by omega))
structure TransOk (ar : List Int) (n : Int) (r : TranT) : Prop where
 sym : 0 ≤ r.1 ∧ r.1 < (ar.length : Int)
 args : (r.2.1.length : Int) = ar.getD r.1.toNat 0
 arg : ∀ i, i < r.2.1.length → 0 ≤ r.2.1.getD i 0 ∧ r.2.1.getD i 0 < n
 to : 0 ≤ r.2.2 ∧ r.2.2 < n
structure AutoOk (ar : List Int) (n : Int) (rs : List TranT) (fi : List Int) : Prop where
 sig : sigOk ar = true
 n1 : 1 ≤ n
 n16 : n ≤ 16
 few : rs.length ≤ 300
 rule : ∀ i, i < rs.length → TransOk ar n (rs.getD i (0, [], 0))
 diff : ∀ i j, i < rs.length → j < i → (rs.getD i (0, [], 0)) ≠ rs.getD j (0, [], 0)
 asc : ∀ i, i < fi.length → 0 < i → fi.getD ((i : Int) - 1).toNat 0 < fi.getD i 0
 fin : ∀ i, i < fi.length → 0 ≤ fi.getD i 0 ∧ fi.getD i 0 < n
open Classical in
noncomputable def autoB (ar : List Int) (n : Int) (rs : List TranT) (fi : List Int) : Bool := decide (AutoOk ar n rs fi)
open Classical in
theorem auto_iff : autoB ar n rs fi = true ↔ AutoOk ar n rs fi := by unfold autoB; exact decide_eq_true_iff
theorem auto_yes (h : AutoOk ar n rs fi) : autoB ar n rs fi = true := auto_iff.2 h
theorem auto_no (h : AutoOk ar n rs fi → False) : autoB ar n rs fi = false := by rw [Bool.eq_false_iff, Ne, auto_iff]; exact h
def SureP (rs : List TranT) : Prop := ∀ i j, i < rs.length → j < i → ¬ ((rs.getD i (0, [], 0)).1 = (rs.getD j (0, [], 0)).1 ∧ (rs.getD i (0, [], 0)).2.1 = (rs.getD j (0, [], 0)).2.1)
open Classical in
noncomputable def surB (rs : List TranT) : Bool := decide (SureP rs)
open Classical in
theorem sur_iff : surB rs = true ↔ SureP rs := by unfold surB; exact decide_eq_true_iff
theorem sur_no (h : SureP rs → False) : surB rs = false := by rw [Bool.eq_false_iff, Ne, sur_iff]; exact h
open Classical in
noncomputable def tokB (ar : List Int) (n : Int) (r : TranT) : Bool := decide (TransOk ar n r)
open Classical in
theorem tok_iff {r : TranT} : tokB ar n r = true ↔ TransOk ar n r := by unfold tokB; exact decide_eq_true_iff
theorem tok_no {r : TranT} (h : TransOk ar n r → False) : tokB ar n r = false := by rw [Bool.eq_false_iff, Ne, tok_iff]; exact h
def statesB (n : Int) (l : List Int) : Bool := l.all fun q => decide (0 ≤ q ∧ q < n)
theorem states_iff {l : List Int} : statesB n l = true ↔ ∀ i, i < l.length → 0 ≤ l.getD i 0 ∧ l.getD i 0 < n := by
 unfold statesB
 rw [all_getD_iff 0]
 simp only [decide_eq_true_eq]
theorem AutoOk.finl (h : AutoOk ar n rs fi) : (fi.length : Int) ≤ n := by
 have hm : ∀ k, k < fi.length → (k : Int) ≤ fi.getD k 0 := by
  intro k
  induction k with
  | zero => intro hk; exact (h.fin 0 hk).1
  | succ k ih =>
   intro hk
   have h1 := ih (by omega)
   have h2 := h.asc (k + 1) hk (by omega)
   rw [show (((k + 1 : Nat) : Int) - 1).toNat = k from by omega] at h2
   omega
 have h0 := h.n1
 rcases Nat.eq_zero_or_pos fi.length with h0 | h0
 ·omega
 ·have h1 := hm (fi.length - 1) (by omega)
  have h2 := h.fin (fi.length - 1) (by omega)
  omega
theorem AutoOk.sizes (h : AutoOk ar n rs fi) : fi.length ≤ 16 := by
 have := h.finl
 have := h.n16
 omega
theorem AutoOk.set (h : AutoOk ar n rs fi) : setB fi n = true := set_iff.2 fun i hi => ⟨h.fin i hi, h.asc i hi⟩
theorem AutoOk.argl (h : AutoOk ar n rs fi) (hi : i < rs.length) : (rs.getD i (0, [], 0)).2.1.length ≤ 3 := by
 have h1 := h.rule i hi
 have h2 := (sigOk_spec h.sig).2.2 (rs.getD i (0, [], 0)).1.toNat (by have := h1.sym; omega)
 have := h1.args
 omega
theorem dup_iff {r : TranT} (hk : k ≤ rs.length) : badG (fun s => !decide (r = s)) (rs.take k) ≥ 0 ↔ ∃ j, j < k ∧ r = rs.getD j (0, [], 0) := by
 rw [badG_iff, List.all_eq_false]
 constructor
 ·rintro ⟨x, hx, h⟩
  obtain ⟨j, hj, rfl⟩ := List.getElem_of_mem hx
  rw [List.length_take] at hj
  exact ⟨j, by omega, by simpa [List.getD, show j < rs.length by omega] using h⟩
 ·rintro ⟨j, hj, h⟩
  refine ⟨rs.getD j (0, [], 0), ?_, by simpa using h⟩
  have e : rs.getD j (0, [], 0) = rs[j]'(by omega) := by simp [List.getD, show j < rs.length by omega]
  rw [e, List.mem_take_iff_getElem]
  exact ⟨j, by omega, rfl⟩
theorem dupA_iff {r : TranT} (hk : k ≤ rs.length) : badG (fun s : TranT => !(decide (s.1 = r.1) && decide (s.2.1 = r.2.1))) (rs.take k) ≥ 0 ↔ ∃ j, j < k ∧ ((rs.getD j (0, [], 0)).1 = r.1 ∧ (rs.getD j (0, [], 0)).2.1 = r.2.1) := by
 rw [badG_iff, List.all_eq_false]
 constructor
 ·rintro ⟨x, hx, h⟩
  obtain ⟨j, hj, rfl⟩ := List.getElem_of_mem hx
  rw [List.length_take] at hj
  exact ⟨j, by omega, by simpa [List.getD, show j < rs.length by omega] using h⟩
 ·rintro ⟨j, hj, h⟩
  refine ⟨rs.getD j (0, [], 0), ?_, by simpa using h⟩
  have e : rs.getD j (0, [], 0) = rs[j]'(by omega) := by simp [List.getD, show j < rs.length by omega]
  rw [e, List.mem_take_iff_getElem]
  exact ⟨j, by omega, rfl⟩
theorem TransOk.len {r : TranT} (h : TransOk ar n r) (hs : sigOk ar = true) : r.2.1.length ≤ 3 := by
 have h2 := (sigOk_spec hs).2.2 r.1.toNat (by have := h.sym; omega)
 have := h.args
 omega
theorem take_tr (hi : i < k) (hk : k ≤ rs.length) : (rs.take k).getD i (0, [], 0) = rs.getD i (0, [], 0) := by
 have h1 : i < (rs.take k).length := by rw [List.length_take]; omega
 simp [List.getD, hi, show i < rs.length by omega]
theorem auto_last (h1 : sigOk ar = true) (h2 : 1 ≤ n) (h3 : n ≤ 16) (h4 : rs.length ≤ 300) (h5 : ∀ i, i < rs.length → TransOk ar n (rs.getD i (0, [], 0)) ∧ ∀ j, j < i → (rs.getD i (0, [], 0)) ≠ rs.getD j (0, [], 0)) (h6 : ∀ i, i < fi.length → 0 < i → fi.getD ((i : Int) - 1).toNat 0 < fi.getD i 0) : autoB ar n rs fi = statesB n fi := by
 rw [Bool.eq_iff_iff, auto_iff, states_iff]
 exact ⟨fun A => A.fin, fun h => ⟨h1, h2, h3, h4, fun i hi => (h5 i hi).1, fun i j hi hj => (h5 i hi).2 j hj, h6, h⟩⟩
end
section
variable {ar fi t u : List Int} {n : Int} {rs : List TranT} {i j k p : Nat} {q : Int}
inductive Run (ar : List Int) (rs : List TranT) : Int → List Int → Prop
 | mk (u : List Int) (i : Nat) : i < rs.length → u.getD 0 0 = (rs.getD i (0, [], 0)).1 → (partsL ar u).length = (rs.getD i (0, [], 0)).2.1.length → (∀ j, j < (rs.getD i (0, [], 0)).2.1.length → Run ar rs ((rs.getD i (0, [], 0)).2.1.getD j 0) ((partsL ar u).getD j [])) → Run ar rs (rs.getD i (0, [], 0)).2.2 u
def Leads (rs : List TranT) (f : Int) (P : Nat → Int → Prop) (q : Int) : Prop := ∃ i, i < rs.length ∧ (rs.getD i (0, [], 0)).1 = f ∧ (rs.getD i (0, [], 0)).2.2 = q ∧ ∀ j, j < (rs.getD i (0, [], 0)).2.1.length → P j ((rs.getD i (0, [], 0)).2.1.getD j 0)
theorem run_leads (A : AutoOk ar n rs fi) (hu : TermW ar u) : Run ar rs q u ↔ Leads rs (u.getD 0 0) (fun j s => Run ar rs s ((partsL ar u).getD j [])) q := by
 constructor
 ·intro h
  cases h with
  | mk _ i hi hh hl ha => exact ⟨i, hi, hh.symm, rfl, ha⟩
 ·rintro ⟨i, hi, hh, rfl, ha⟩
  refine .mk u i hi hh.symm ?_ ha
  have hT := A.rule i hi
  rw [parts_len, ← hh, arity, if_neg (by have := hT.sym; omega)]
  have := hT.args
  omega
theorem run_sub (A : AutoOk ar n rs fi) (ht : termOk ar t = true) (hp : p < t.length) : Run ar rs q (sub ar t p) ↔ Leads rs (t.getD p 0) (fun j s => Run ar rs s (sub ar t ((argsL ar t p).getD j 0).toNat)) q := by
 have hW := termW_of ht
 rw [run_leads A (hW.sub hp), sub_head ht hp]
 constructor
 ·rintro ⟨i, hi, hh, e, ha⟩
  refine ⟨i, hi, hh, e, fun j hj => ?_⟩
  have hj2 : j < (argsL ar t p).length := by
   have hT := A.rule i hi
   rw [argsL_len, ← hh, arity, if_neg (by have := hT.sym; omega)]
   have := hT.args
   omega
  show Run ar rs _ (sub ar t ((argsL ar t p).getD j 0).toNat)
  rw [← part_at hW hp hj2]; exact ha j hj
 ·rintro ⟨i, hi, hh, e, ha⟩
  refine ⟨i, hi, hh, e, fun j hj => ?_⟩
  have hj2 : j < (argsL ar t p).length := by
   have hT := A.rule i hi
   rw [argsL_len, ← hh, arity, if_neg (by have := hT.sym; omega)]
   have := hT.args
   omega
  show Run ar rs _ ((partsL ar (sub ar t p)).getD j [])
  rw [part_at hW hp hj2]; exact ha j hj
theorem Leads.mono {P Q : Nat → Int → Prop} {f : Int} (h : ∀ i, i < rs.length → (rs.getD i (0, [], 0)).1 = f → ∀ j, j < (rs.getD i (0, [], 0)).2.1.length → (P j ((rs.getD i (0, [], 0)).2.1.getD j 0) ↔ Q j ((rs.getD i (0, [], 0)).2.1.getD j 0))) : Leads rs f P q ↔ Leads rs f Q q :=
 ⟨fun ⟨i, hi, h1, h2, h3⟩ => ⟨i, hi, h1, h2, fun j hj => (h i hi h1 j hj).1 (h3 j hj)⟩, fun ⟨i, hi, h1, h2, h3⟩ => ⟨i, hi, h1, h2, fun j hj => (h i hi h1 j hj).2 (h3 j hj)⟩⟩
def BitOf (m : Nat) (S : Int → Prop) : Prop := m < 65536 ∧ ∀ q : Nat, m.testBit q = true ↔ S (q : Int)
theorem BitOf.zero : BitOf 0 fun _ => False := ⟨by decide, fun q => by simp⟩
theorem BitOf.put {m : Nat} {S : Int → Prop} (h : BitOf m S) (h0 : 0 ≤ q) (h1 : q < 16) : BitOf (m ||| 2 ^ q.toNat) fun x => S x ∨ x = q := by
 obtain ⟨k, rfl⟩ := Int.eq_ofNat_of_zero_le h0
 rw [Int.toNat_natCast]
 refine ⟨Nat.or_lt_two_pow (n := 16) h.1 (Nat.lt_of_lt_of_le (Nat.pow_lt_pow_right (by decide) (show k < 16 by omega)) (by decide)), fun x => ?_⟩
 rw [Nat.testBit_or, Bool.or_eq_true, h.2, Nat.testBit_two_pow, decide_eq_true_iff]
 constructor
 ·rintro (h | h)
  ·exact .inl h
  ·exact .inr (by omega)
 ·rintro (h | h)
  ·exact .inl h
  ·exact .inr (by omega)
theorem BitOf.iff {m : Nat} {S S' : Int → Prop} (h : BitOf m S) (k : ∀ x : Nat, S (x : Int) ↔ S' x) : BitOf m S' := ⟨h.1, fun q => (h.2 q).trans (k q)⟩
theorem BitOf.has {m : Nat} {S : Int → Prop} (h : BitOf m S) (h0 : 0 ≤ q) : m.testBit q.toNat = true ↔ S q := by rw [h.2, show ((q.toNat : Nat) : Int) = q from by omega]
theorem BitOf.small {m : Nat} {S : Int → Prop} (h : BitOf m S) : m < 4294967296 := Nat.lt_trans h.1 (by decide)
theorem bit_has {m k : Nat} : decide ((((m >>> k) &&& 1 : Nat) : Int) = 1) = m.testBit k := by
 rw [Nat.testBit, Nat.and_comm]
 have h : (m >>> k) &&& 1 = 0 ∨ (m >>> k) &&& 1 = 1 := by rw [Nat.and_one_is_mod]; omega
 rw [Nat.and_comm] at h
 rcases h with h | h <;> rw [h] <;> decide
theorem meet_zero {m k : Nat} {S S' : Int → Prop} (h : BitOf m S) (h' : BitOf k S') : (((m &&& k : Nat) : Int) = 0) ↔ ¬ ∃ x : Nat, S (x : Int) ∧ S' (x : Int) := by
 constructor
 ·rintro e ⟨x, h1, h2⟩
  have e2 : m &&& k = 0 := by omega
  have h3 : (m &&& k).testBit x = true := by rw [Nat.testBit_and, (h.2 x).2 h1, (h'.2 x).2 h2]; rfl
  rw [e2] at h3; simp at h3
 ·intro hn
  have : m &&& k = 0 := Nat.eq_of_testBit_eq fun x => by
   rw [Nat.testBit_and, Nat.zero_testBit]
   cases h1 : m.testBit x with
   | false => rfl
   | true =>
    cases h2 : k.testBit x with
    | false => rfl
    | true => exact (hn ⟨x, (h.2 x).1 h1, (h'.2 x).1 h2⟩).elim
  rw [this]; rfl
def fitB (P : Nat → Int → Bool) (qs : List Int) (k : Nat) : Bool := (List.range k).all fun j => P j (qs.getD j 0)
theorem fitB_next {P : Nat → Int → Bool} {qs : List Int} : fitB P qs (k + 1) = (fitB P qs k && P k (qs.getD k 0)) := by unfold fitB; rw [List.range_succ, List.all_append]; simp
theorem fitB_iff {P : Nat → Int → Bool} {qs : List Int} : fitB P qs k = true ↔ ∀ j, j < k → P j (qs.getD j 0) = true := by unfold fitB; rw [List.all_eq_true]; simp only [List.mem_range]
def LeadsTo (rs : List TranT) (f : Int) (P : Nat → Int → Prop) (k : Nat) (q : Int) : Prop := ∃ i, i < k ∧ (rs.getD i (0, [], 0)).1 = f ∧ (rs.getD i (0, [], 0)).2.2 = q ∧ ∀ j, j < (rs.getD i (0, [], 0)).2.1.length → P j ((rs.getD i (0, [], 0)).2.1.getD j 0)
theorem LeadsTo.skip {P : Nat → Int → Prop} {f : Int} (h : ¬ ((rs.getD k (0, [], 0)).1 = f ∧ ∀ j, j < (rs.getD k (0, [], 0)).2.1.length → P j ((rs.getD k (0, [], 0)).2.1.getD j 0))) : LeadsTo rs f P k q ↔ LeadsTo rs f P (k + 1) q := by
 constructor
 ·rintro ⟨i, hi, h1⟩; exact ⟨i, by omega, h1⟩
 ·rintro ⟨i, hi, h1, h2, h3⟩
  rcases Nat.lt_or_ge i k with h9 | h9
  ·exact ⟨i, h9, h1, h2, h3⟩
  ·obtain rfl : i = k := by omega
   exact (h ⟨h1, h3⟩).elim
theorem LeadsTo.put {P : Nat → Int → Prop} {f : Int} (h1 : (rs.getD k (0, [], 0)).1 = f) (h3 : ∀ j, j < (rs.getD k (0, [], 0)).2.1.length → P j ((rs.getD k (0, [], 0)).2.1.getD j 0)) : (LeadsTo rs f P k q ∨ q = (rs.getD k (0, [], 0)).2.2) ↔ LeadsTo rs f P (k + 1) q := by
 constructor
 ·rintro (⟨i, hi, h⟩ | e)
  ·exact ⟨i, by omega, h⟩
  ·exact ⟨k, by omega, h1, e.symm, h3⟩
 ·rintro ⟨i, hi, g1, g2, g3⟩
  rcases Nat.lt_or_ge i k with h9 | h9
  ·exact .inl ⟨i, h9, g1, g2, g3⟩
  ·obtain rfl : i = k := by omega
   exact .inr g2.symm
theorem getD_appL {α : Type} {d : α} {x y : List α} (h : i < x.length) : (x ++ y).getD i d = x.getD i d := by simp [List.getD, List.getElem?_append_left h]
theorem getD_appR {α : Type} {d a : α} {x : List α} (h : x.length = i) : (x ++ [a]).getD i d = a := by subst h; simp [List.getD]
def Acc (ar : List Int) (rs : List TranT) (fi t : List Int) : Prop := ∃ i, i < fi.length ∧ Run ar rs (fi.getD i 0) t
open Classical in
noncomputable def accT (ar : List Int) (rs : List TranT) (fi t : List Int) : Bool := decide (Acc ar rs fi t)
open Classical in
theorem accT_iff : accT ar rs fi t = true ↔ Acc ar rs fi t := by unfold accT; exact decide_eq_true_iff
theorem countP_lt {α : Type} {p p' : α → Bool} : ∀ {l : List α}, (∀ x, p x = true → p' x = true) → (∃ x, x ∈ l ∧ p' x = true ∧ p x = false) → l.countP p < l.countP p'
 | [], _, ⟨x, h, _⟩ => absurd h (by simp)
 | y :: l, hp, ⟨x, hx, h1, h2⟩ => by
  have hle : l.countP p ≤ l.countP p' := List.countP_mono_left (fun z _ hz => hp z hz)
  rw [List.countP_cons, List.countP_cons]
  rcases List.mem_cons.1 hx with e | hx
  ·subst e; rw [h1, h2]; simp; omega
  ·have := countP_lt (l := l) hp ⟨x, hx, h1, h2⟩
   by_cases hy : p y = true
   ·rw [hy, hp y hy]; simp; omega
   ·split <;> split <;> simp_all <;> omega
def unB (m : Nat) : Nat := (List.range 16).countP fun q => !m.testBit q
theorem unB_put {m : Nat} (h : m.testBit k = false) (hk : k < 16) : unB (m ||| 2 ^ k) < unB m := by
 unfold unB
 refine countP_lt (fun x hx => ?_) ⟨k, List.mem_range.2 hk, by rw [h]; rfl, by rw [Nat.testBit_or, Nat.testBit_two_pow_self, Bool.or_true]; rfl⟩
 rw [Nat.testBit_or] at hx
 cases hm : m.testBit x with
 | false => rfl
 | true => rw [hm] at hx; simp at hx
theorem sub_zero {m a : Nat} {S : Int → Prop} (h : BitOf a S) (hm : m < 4294967296) : (((a &&& (4294967295 - m) : Nat) : Int) = 0) ↔ ∀ x : Nat, S (x : Int) → m.testBit x = true := by
 have hb : ∀ x, (4294967295 - m).testBit x = (decide (x < 32) && !m.testBit x) := fun x => by
  have := Nat.testBit_two_pow_sub_succ (n := 32) hm x
  rwa [show 2 ^ 32 - (m + 1) = 4294967295 - m from by omega] at this
 have h16 : ∀ x, a.testBit x = true → x < 32 := fun x hx => by
  rcases Nat.lt_or_ge x 32 with h9 | h9
  ·exact h9
  ·rw [Nat.testBit_lt_two_pow (Nat.lt_of_lt_of_le h.small (Nat.pow_le_pow_right (by decide) h9 : 2 ^ 32 ≤ 2 ^ x))] at hx; cases hx
 constructor
 ·intro e x hx
  have e2 : a &&& (4294967295 - m) = 0 := by omega
  have ha := (h.2 x).2 hx
  have h3 : (a &&& (4294967295 - m)).testBit x = false := by rw [e2, Nat.zero_testBit]
  rw [Nat.testBit_and, ha, hb, decide_eq_true (h16 x ha)] at h3
  simpa using h3
 ·intro hn
  have : a &&& (4294967295 - m) = 0 := Nat.eq_of_testBit_eq fun x => by
   rw [Nat.testBit_and, Nat.zero_testBit, hb]
   cases h1 : a.testBit x with
   | false => rfl
   | true => rw [hn x ((h.2 x).1 h1)]; simp
  rw [this]; rfl
def ClosedB (rs : List TranT) (m : Nat) (k : Nat) : Prop := ∀ i, i < k → (∀ j, j < (rs.getD i (0, [], 0)).2.1.length → m.testBit ((rs.getD i (0, [], 0)).2.1.getD j 0).toNat = true) → m.testBit (rs.getD i (0, [], 0)).2.2.toNat = true
theorem Run.closed {m : Nat} (hc : ClosedB rs m rs.length) (h : Run ar rs q u) : m.testBit q.toNat = true := by
 induction h with
 | mk u i hi hh hl ha ih => exact hc i hi ih
theorem args_all {m : Nat} {l : List Int} (h0 : ∀ i, i < l.length → 0 ≤ l.getD i 0) : (∀ x : Nat, (x : Int) ∈ l → m.testBit x = true) ↔ ∀ j, j < l.length → m.testBit (l.getD j 0).toNat = true := by
 constructor
 ·intro h j hj
  refine h _ ?_
  have e : l.getD j 0 = l[j] := by simp [List.getD, hj]
  have := h0 j hj
  rw [show (((l.getD j 0).toNat : Nat) : Int) = l.getD j 0 from by omega, e]
  exact List.getElem_mem hj
 ·intro h x hx
  obtain ⟨j, hj, e⟩ := List.getElem_of_mem hx
  have := h j hj
  have e2 : l.getD j 0 = x := by simp [List.getD, hj, e]
  rw [e2, Int.toNat_natCast] at this
  exact this
theorem acc_iff (A : AutoOk ar n rs fi) {m k : Nat} (h : BitOf m fun q => Run ar rs q t) (h' : BitOf k fun q => q ∈ fi) : (((m &&& k : Nat) : Int) = 0) ↔ ¬ Acc ar rs fi t := by
 rw [meet_zero h h', not_congr]
 constructor
 ·rintro ⟨x, h1, h2⟩
  obtain ⟨j, hj, e⟩ := List.getElem_of_mem h2
  exact ⟨j, hj, by rw [show fi.getD j 0 = (x : Int) from by simp [List.getD, hj, e]]; exact h1⟩
 ·rintro ⟨j, hj, hr⟩
  have e : fi.getD j 0 = fi[j] := by simp [List.getD, hj]
  have h0 := (A.fin j hj).1
  refine ⟨(fi.getD j 0).toNat, ?_, ?_⟩
  ·rw [show (((fi.getD j 0).toNat : Nat) : Int) = fi.getD j 0 from by omega]; exact hr
  ·rw [show (((fi.getD j 0).toNat : Nat) : Int) = fi.getD j 0 from by omega, e]; exact List.getElem_mem hj
theorem none_acc (A : AutoOk ar n rs fi) {m k : Nat} (hm : m < 65536) (hc : ClosedB rs m rs.length) (h' : BitOf k fun q => q ∈ fi) (h : ((m &&& k : Nat) : Int) = 0) : ¬ Acc ar rs fi t := by
 rintro ⟨j, hj, hr⟩
 have e : fi.getD j 0 = fi[j] := by simp [List.getD, hj]
 have h0 := (A.fin j hj).1
 have h1 := hr.closed hc
 have h2 : k.testBit (fi.getD j 0).toNat = true := (h'.2 _).2 (by rw [show (((fi.getD j 0).toNat : Nat) : Int) = fi.getD j 0 from by omega, e]; exact List.getElem_mem hj)
 have h3 : (m &&& k).testBit (fi.getD j 0).toNat = true := by rw [Nat.testBit_and, h1, h2]; rfl
 rw [show m &&& k = 0 from by omega, Nat.zero_testBit] at h3
 cases h3
def BitZ (x : Int) (S : Int → Prop) : Prop := 0 ≤ x ∧ BitOf x.toNat S
theorem BitOf.z {m : Nat} {S : Int → Prop} (h : BitOf m S) : BitZ ((m : Nat) : Int) S := ⟨Int.natCast_nonneg _, by rw [Int.toNat_natCast]; exact h⟩
theorem BitZ.lt {x : Int} {S : Int → Prop} (h : BitZ x S) : 0 ≤ x ∧ x.toNat < 4294967296 := ⟨h.1, h.2.small⟩
def RchZ (rs : List TranT) (x : Int) : Prop := 0 ≤ x ∧ x.toNat < 65536 ∧ ClosedB rs x.toNat rs.length
theorem RchZ.lt {x : Int} (h : RchZ rs x) : 0 ≤ x ∧ x.toNat < 4294967296 := ⟨h.1, by have := h.2.1; omega⟩
theorem RchZ.of {m : Nat} (h : m < 65536 ∧ ClosedB rs m rs.length) : RchZ rs ((m : Nat) : Int) := ⟨Int.natCast_nonneg _, by rw [Int.toNat_natCast]; exact h⟩
theorem into_mem {n x : Int} {xs : List Int} : x ∈ xs.take k ++ [n] ++ xs.drop k ↔ x ∈ xs ∨ x = n := by
 have h : x ∈ xs ↔ x ∈ xs.take k ∨ x ∈ xs.drop k := by rw [← List.mem_append, List.take_append_drop]
 rw [h, List.mem_append, List.mem_append, List.mem_singleton]
 constructor
 ·rintro ((h | h) | h)
  ·exact .inl (.inl h)
  ·exact .inr h
  ·exact .inl (.inr h)
 ·rintro ((h | h) | h)
  ·exact .inl (.inl h)
  ·exact .inr h
  ·exact .inl (.inr h)
def meetsB (xs ys : List Int) : Bool := xs.any fun x => decide (x ∈ ys)
theorem meets_at {xs ys : List Int} (hk : k < xs.length) (h : xs.getD k 0 ∈ ys) : meetsB xs ys = true := List.any_eq_true.2 ⟨xs.getD k 0, by rw [List.getD_eq_getElem?_getD, List.getElem?_eq_getElem hk]; exact List.getElem_mem hk, decide_eq_true h⟩
theorem meets_no {xs ys : List Int} (h : ∀ i, i < xs.length → xs.getD i 0 ∉ ys) : meetsB xs ys = false := by
 rw [Bool.eq_false_iff]
 intro k
 obtain ⟨x, hx, h2⟩ := List.any_eq_true.1 k
 obtain ⟨i, hi, rfl⟩ := List.getElem_of_mem hx
 refine h i hi ?_
 rw [List.getD_eq_getElem?_getD, List.getElem?_eq_getElem hi]
 exact of_decide_eq_true h2
theorem acc_meets {os : List Int} {b : Bool} (h : ∀ x, x ∈ os ↔ b = true ∧ Run ar rs x t) : meetsB os fi = (b && accT ar rs fi t) := by
 rw [Bool.eq_iff_iff, Bool.and_eq_true, accT_iff]
 unfold meetsB
 rw [List.any_eq_true]
 constructor
 ·rintro ⟨x, hx, h2⟩
  have h3 := (h x).1 hx
  obtain ⟨i, hi, rfl⟩ := List.getElem_of_mem (of_decide_eq_true h2)
  refine ⟨h3.1, i, hi, ?_⟩
  rw [List.getD_eq_getElem?_getD, List.getElem?_eq_getElem hi]; exact h3.2
 ·rintro ⟨hb, i, hi, hr⟩
  exact ⟨fi.getD i 0, (h _).2 ⟨hb, hr⟩, decide_eq_true (by rw [List.getD_eq_getElem?_getD, List.getElem?_eq_getElem hi]; exact List.getElem_mem hi)⟩
end
section
variable {ar fi qs : List Int} {n i j k : Nat} {rs : List TranT} {q s x y : Int} {c c' : Nat → Int → Int} {w w' : Nat → Int}
def waysGo (c : Nat → Int → Int) (w : Nat → Int) (q : Int) (n : Nat) : Nat → Int
 | 0 => 0
 | i + 1 => if 0 < c (i + 1) q then min (waysGo c w q n i + c (i + 1) q * w (n - (i + 1))) 1000000000 else waysGo c w q n i
def waysF (c : Nat → Int → Int) : List Int → Nat → Int
 | [], n => if n = 0 then 1 else 0
 | q :: qs, n => waysGo c (waysF c qs) q n n
def BndC (c : Nat → Int → Int) : Prop := ∀ j q, 0 ≤ c j q ∧ c j q ≤ 1000000000
theorem mul_bnd (hx : 0 ≤ x ∧ x ≤ 1000000000) (hy : 0 ≤ y ∧ y ≤ 1000000000) : 0 ≤ x * y ∧ x * y ≤ 1000000000000000000 := by
 refine ⟨Int.mul_nonneg hx.1 hy.1, ?_⟩
 have := Int.mul_le_mul hx.2 hy.2 hy.1 (by decide : (0 : Int) ≤ 1000000000)
 omega
theorem waysGo_bnd (hc : BndC c) (hw : ∀ m, 0 ≤ w m ∧ w m ≤ 1000000000) : ∀ i, 0 ≤ waysGo c w q n i ∧ waysGo c w q n i ≤ 1000000000
 | 0 => by rw [waysGo]; decide
 | i + 1 => by
  have h := waysGo_bnd hc hw i
  rw [waysGo]
  split
  ·have := mul_bnd (hc (i + 1) q) (hw (n - (i + 1)))
   omega
  ·exact h
theorem waysF_bnd (hc : BndC c) : ∀ (qs : List Int) (n : Nat), 0 ≤ waysF c qs n ∧ waysF c qs n ≤ 1000000000
 | [], n => by rw [waysF]; split <;> decide
 | q :: qs, n => waysGo_bnd hc (waysF_bnd hc qs) n
theorem waysGo_congr (hc : ∀ j, 1 ≤ j → j ≤ i → c j q = c' j q) (hw : ∀ m, m < n → w m = w' m) (hn : i ≤ n) : waysGo c w q n i = waysGo c' w' q n i := by
 induction i with
 | zero => rfl
 | succ i ih =>
  rw [waysGo, waysGo, ih (fun j h1 h2 => hc j h1 (by omega)) (by omega), hc (i + 1) (by omega) (Nat.le_refl _), hw (n - (i + 1)) (by omega)]
theorem waysF_congr : ∀ (qs : List Int) (n : Nat), (∀ j q, 1 ≤ j → j ≤ n → q ∈ qs → c j q = c' j q) → waysF c qs n = waysF c' qs n
 | [], n, _ => rfl
 | q :: qs, n, h => by
  rw [waysF, waysF]
  exact waysGo_congr (fun j h1 h2 => h j q h1 h2 (by simp)) (fun m hm => waysF_congr qs m fun j x h1 h2 h3 => h j x h1 (by omega) (by simp [h3])) (Nat.le_refl _)
theorem waysF_at (hl : qs ≠ []) : waysF c qs n = waysGo c (waysF c (qs.drop 1)) (qs.getD 0 0) n n := by
 cases qs with
 | nil => exact absurd rfl hl
 | cons q qs => rfl
def cntS (rs : List TranT) (c : Nat → Int → Int) (k : Nat) : Nat → Int → Int
 | 0, _ => 0
 | i + 1, q => if (rs.getD i (0, [], 0)).2.2 = q then min (cntS rs c k i q + waysF c (rs.getD i (0, [], 0)).2.1 (k - 1)) 1000000000 else cntS rs c k i q
theorem cntS_bnd (hc : BndC c) : ∀ i, 0 ≤ cntS rs c k i q ∧ cntS rs c k i q ≤ 1000000000
 | 0 => by rw [cntS]; decide
 | i + 1 => by
  have h := cntS_bnd hc i
  rw [cntS]
  split
  ·have := waysF_bnd hc (rs.getD i (0, [], 0)).2.1 (k - 1)
   omega
  ·exact h
def cntT (rs : List TranT) : Nat → Nat → Int → Int
 | 0 => fun _ _ => 0
 | k + 1 => fun j q => if j = k + 1 then cntS rs (cntT rs k) (k + 1) rs.length q else cntT rs k j q
theorem cntT_bnd : ∀ k, BndC (cntT rs k)
 | 0 => fun _ _ => by show (0 : Int) ≤ 0 ∧ (0 : Int) ≤ 1000000000; decide
 | k + 1 => fun j q => by
  rw [cntT]
  dsimp only
  split
  ·exact cntS_bnd (cntT_bnd k) _
  ·exact cntT_bnd k j q
theorem cntT_low : ∀ {k j : Nat}, j ≤ k → cntT rs k j q = cntT rs j j q
 | 0, j, h => by rw [show j = 0 from by omega]
 | k + 1, j, h => by
  rcases Nat.lt_or_ge j (k + 1) with h9 | h9
  ·show (if j = k + 1 then _ else cntT rs k j q) = _
   rw [if_neg (by omega)]
   exact cntT_low (by omega)
  ·rw [show j = k + 1 from by omega]
theorem cntT_high : ∀ {k j : Nat}, k < j → cntT rs k j q = 0
 | 0, j, _ => rfl
 | k + 1, j, h => by
  show (if j = k + 1 then _ else cntT rs k j q) = _
  rw [if_neg (by omega)]
  exact cntT_high (by omega)
theorem cntT_new : cntT rs (k + 1) (k + 1) q = cntS rs (cntT rs k) (k + 1) rs.length q := if_pos rfl
def sumGo (rs : List TranT) (fi : List Int) (n : Nat) : Nat → Int
 | 0 => 0
 | i + 1 => min (sumGo rs fi n i + cntT rs n n (fi.getD i 0)) 1000000000
theorem sumGo_bnd : ∀ i, 0 ≤ sumGo rs fi n i ∧ sumGo rs fi n i ≤ 1000000000
 | 0 => by rw [sumGo]; decide
 | i + 1 => by
  have h := sumGo_bnd i
  have := cntT_bnd (rs := rs) n n (fi.getD i 0)
  rw [sumGo]; omega
open Classical in
noncomputable def cntZ (ar : List Int) (m : Int) (rs : List TranT) (fi : List Int) (n : Int) : Int := if (autoB ar m rs fi && surB rs) = true ∧ 1 ≤ n ∧ n ≤ 60 then sumGo rs fi n.toNat fi.length else -1
def cM (mm : List (List Int)) (j : Nat) (q : Int) : Int := (mm.getD j []).getD q.toNat 0
structure TabOk (rs : List TranT) (n : Int) (k : Nat) (mm : List (List Int)) : Prop where
 len : mm.length = k + 1
 row : ∀ j, j < mm.length → (mm.getD j []).length = n.toNat
 val : ∀ j q, 0 ≤ q → q < n → cM mm j q = cntT rs k j q
variable {m : Int} {mm : List (List Int)} {xs : List Int}
theorem TabOk.bnd (h : TabOk rs m k mm) (hm : 1 ≤ m) : BndC (cM mm) := fun j q => by
 rcases Int.lt_or_le q 0 with h0 | h0
 ·have e : cM mm j q = cM mm j 0 := by unfold cM; rw [show q.toNat = (0 : Int).toNat from by omega]
  rw [e, h.val j 0 (by omega) (by omega)]; exact cntT_bnd k j 0
 ·rcases Int.lt_or_le q m with h1 | h1
  ·rw [h.val j q h0 h1]; exact cntT_bnd k j q
  ·have e : cM mm j q = 0 := by
    unfold cM
    rcases Nat.lt_or_ge j mm.length with h2 | h2
    ·have := h.row j h2
     rw [List.getD_eq_getElem?_getD, List.getElem?_eq_none (by omega)]; rfl
    ·rw [show mm.getD j [] = [] from by rw [List.getD_eq_getElem?_getD, List.getElem?_eq_none h2]; rfl]; rfl
   rw [e]; decide
theorem TabOk.start (hm : 1 ≤ m) : TabOk rs m 0 [List.replicate m.toNat 0] := by
 refine ⟨rfl, fun j hj => ?_, fun j q h0 h1 => ?_⟩
 ·match j, hj with
  | 0, _ => show (List.replicate m.toNat (0 : Int)).length = _; rw [List.length_replicate]
 ·show ([List.replicate m.toNat (0 : Int)].getD j []).getD q.toNat 0 = 0
  match j with
  | 0 => show (List.replicate m.toNat (0 : Int)).getD q.toNat 0 = 0; rw [List.getD_eq_getElem?_getD, List.getElem?_replicate]; split <;> rfl
  | j + 1 => rfl
def RowOk (rs : List TranT) (m : Int) (k i : Nat) (xs : List Int) : Prop := xs.length = m.toNat ∧ ∀ q, 0 ≤ q → q < m → xs.getD q.toNat 0 = cntS rs (cntT rs k) (k + 1) i q
theorem RowOk.start : RowOk rs m k 0 (List.replicate m.toNat 0) := ⟨List.length_replicate, fun q h0 h1 => by rw [List.getD_eq_getElem?_getD, List.getElem?_replicate]; split <;> rfl⟩
theorem RowOk.bnd (h : RowOk rs m k i xs) (h0 : 0 ≤ q) (h1 : q < m) : 0 ≤ xs.getD q.toNat 0 ∧ xs.getD q.toNat 0 ≤ 1000000000 := by rw [h.2 q h0 h1]; exact cntS_bnd (cntT_bnd k) i
theorem TabOk.ways {ar fi : List Int} (A : AutoOk ar m rs fi) (h : TabOk rs m k mm) (hi : i < rs.length) : waysF (cM mm) (rs.getD i (0, [], 0)).2.1 k = waysF (cntT rs k) (rs.getD i (0, [], 0)).2.1 k :=
 waysF_congr _ _ fun j q _ _ hq => by
  obtain ⟨y, hy, e⟩ := List.getElem_of_mem hq
  have := (A.rule i hi).arg y hy
  rw [show (rs.getD i (0, [], 0)).2.1.getD y 0 = q from by rw [List.getD_eq_getElem?_getD, List.getElem?_eq_getElem hy]; exact e] at this
  exact h.val j q this.1 this.2
theorem RowOk.next {ar fi : List Int} (A : AutoOk ar m rs fi) (ht : TabOk rs m k mm) (h : RowOk rs m k i xs) (hi : i < rs.length) :
  RowOk rs m k (i + 1) (xs.set (rs.getD i (0, [], 0)).2.2.toNat (min (xs.getD (rs.getD i (0, [], 0)).2.2.toNat 0 + waysF (cM mm) (rs.getD i (0, [], 0)).2.1 k) 1000000000)) := by
 have hto := (A.rule i hi).to
 refine ⟨by rw [List.length_set]; exact h.1, fun q h0 h1 => ?_⟩
 rw [cntS, Nat.add_sub_cancel, ht.ways A hi]
 by_cases e : (rs.getD i (0, [], 0)).2.2 = q
 ·rw [if_pos e, ← e, List.getD_eq_getElem?_getD, List.getElem?_set_self (by have := h.1; omega), Option.getD_some, h.2 _ (by omega) (by omega)]
 ·rw [if_neg e, List.getD_eq_getElem?_getD, List.getElem?_set_ne (by omega), ← List.getD_eq_getElem?_getD]
  exact h.2 q h0 h1
theorem TabOk.next (ht : TabOk rs m k mm) (h : RowOk rs m k rs.length xs) : TabOk rs m (k + 1) (mm ++ [xs]) := by
 refine ⟨by rw [List.length_append, ht.len]; rfl, fun j hj => ?_, fun j q h0 h1 => ?_⟩
 ·rcases Nat.lt_or_ge j mm.length with h9 | h9
  ·rw [getD_appL h9]; exact ht.row j h9
  ·rw [show j = mm.length from by rw [List.length_append] at hj; simp only [List.length_singleton] at hj; omega, getD_appR rfl]; exact h.1
 ·show ((mm ++ [xs]).getD j []).getD q.toNat 0 = if j = k + 1 then _ else cntT rs k j q
  rcases Nat.lt_or_ge j mm.length with h9 | h9
  ·rw [if_neg (by have := ht.len; omega), getD_appL h9]; exact ht.val j q h0 h1
  ·by_cases e : j = k + 1
   ·rw [if_pos e, getD_appR (by have := ht.len; omega)]; exact h.2 q h0 h1
   ·rw [if_neg e, ← ht.val j q h0 h1]
    have e1 : (mm ++ [xs]).getD j [] = [] := by rw [List.getD_eq_getElem?_getD, List.getElem?_eq_none (by rw [List.length_append]; simp only [List.length_singleton]; have := ht.len; omega)]; rfl
    have e2 : mm.getD j [] = [] := by rw [List.getD_eq_getElem?_getD, List.getElem?_eq_none h9]; rfl
    unfold cM
    rw [e1, e2]
theorem TabOk.at (ht : TabOk rs m k mm) (h0 : 0 ≤ q) (h1 : q < m) : (mm.getD k []).getD q.toNat 0 = cntT rs k k q := ht.val k q h0 h1
theorem cntZ_no {z : Int} (h : ¬ ((autoB ar m rs fi && surB rs) = true ∧ 1 ≤ z ∧ z ≤ 60)) : cntZ ar m rs fi z = -1 := by unfold cntZ; rw [if_neg h]
theorem cntZ_yes {z : Int} (h : (autoB ar m rs fi && surB rs) = true ∧ 1 ≤ z ∧ z ≤ 60) : cntZ ar m rs fi z = sumGo rs fi z.toNat fi.length := by unfold cntZ; rw [if_pos h]
end
end Go.Proofs.Ytgdcboopbmpdoaa.M
namespace Go.Proofs.Ytgdcboopbmpdoaa.X
open Go M
def i64s (zs : List Int) : List Value := zs.map (.int .i64 ·)
theorem i64s_get {zs : List Int} {i : Nat} (hi : i < zs.length) : (i64s zs)[i]? = some (.int .i64 (zs.getD i 0)) := by simp [i64s, List.getD, hi]
theorem i64s_set {zs : List Int} {i : Nat} {r : Int} : (i64s zs).set i (.int .i64 r) = i64s (zs.set i r) := by simp [i64s, List.map_set]
theorem i64s_blt {zs : List Int} {i : Nat} (hi : i < zs.length) : Nat.blt i (i64s zs).length = true := by
 have e : (i64s zs).length = zs.length := by simp [i64s]
 rw [e]; exact Nat.ble_eq_true_of_le (by omega)
end Go.Proofs.Ytgdcboopbmpdoaa.X
namespace Go.Proofs.Ytgdcboopbmpdoaa.M
open X
section
variable {ar fi zs : List Int} {n i j k : Nat} {rs : List TranT} {q : Int} {m : Int}
def cA (zs : List Int) (j : Nat) (q : Int) : Int := zs.getD (q.toNat * 61 + j) 0
structure TabA (rs : List TranT) (k i : Nat) (zs : List Int) : Prop where
 len : zs.length = 976
 bnd : ∀ i, 0 ≤ zs.getD i 0 ∧ zs.getD i 0 ≤ 1000000000
 val : ∀ j q, j ≤ 60 → 0 ≤ q → q < 16 → cA zs j q = if j = k + 1 then cntS rs (cntT rs k) (k + 1) i q else cntT rs k j q
theorem TabA.start : TabA rs 0 0 (List.replicate 976 0) := by
 have h0 : ∀ i, (List.replicate 976 (0 : Int)).getD i 0 = 0 := fun i => by rw [List.getD_eq_getElem?_getD, List.getElem?_replicate]; split <;> rfl
 refine ⟨List.length_replicate, fun i => by rw [h0]; decide, fun j q _ _ _ => ?_⟩
 unfold cA
 rw [h0]
 split <;> rfl
theorem TabA.bc (h : TabA rs k i zs) : BndC (cA zs) := fun j q => h.bnd _
theorem TabA.ways (A : AutoOk ar m rs fi) (h : TabA rs k i zs) (hk : k ≤ 60) (hj : j < rs.length) : waysF (cA zs) (rs.getD j (0, [], 0)).2.1 k = waysF (cntT rs k) (rs.getD j (0, [], 0)).2.1 k :=
 waysF_congr _ _ fun j2 q h1 h2 hq => by
  obtain ⟨y, hy, e⟩ := List.getElem_of_mem hq
  have := (A.rule j hj).arg y hy
  rw [show (rs.getD j (0, [], 0)).2.1.getD y 0 = q from by rw [List.getD_eq_getElem?_getD, List.getElem?_eq_getElem hy]; exact e] at this
  have := A.n16
  rw [h.val j2 q (by omega) (by omega) (by omega), if_neg (by omega)]
theorem TabA.next (A : AutoOk ar m rs fi) (h : TabA rs k i zs) (hk : k < 60) (hi : i < rs.length) {v : Int} (hv : v = min (zs.getD ((rs.getD i (0, [], 0)).2.2.toNat * 61 + (k + 1)) 0 + waysF (cA zs) (rs.getD i (0, [], 0)).2.1 k) 1000000000) :
  TabA rs k (i + 1) (zs.set ((rs.getD i (0, [], 0)).2.2.toNat * 61 + (k + 1)) v) := by
 have hto := (A.rule i hi).to
 have h16 := A.n16
 have hlen := h.len
 have hw := waysF_bnd h.bc (rs.getD i (0, [], 0)).2.1 k
 have hb := h.bnd ((rs.getD i (0, [], 0)).2.2.toNat * 61 + (k + 1))
 refine ⟨by rw [List.length_set]; exact hlen, fun x => ?_, fun j q hj h0 h1 => ?_⟩
 ·rw [List.getD_eq_getElem?_getD, List.getElem?_set]
  split
  ·split
   ·rw [Option.getD_some]; omega
   ·rw [Option.getD_none]; decide
  ·rw [← List.getD_eq_getElem?_getD]; exact h.bnd x
 ·by_cases e : q = (rs.getD i (0, [], 0)).2.2 ∧ j = k + 1
  ·obtain ⟨e1, e2⟩ := e
   subst e2
   unfold cA
   rw [if_pos rfl, e1, List.getD_eq_getElem?_getD, List.getElem?_set_self (by omega), Option.getD_some, hv, cntS, if_pos rfl, Nat.add_sub_cancel, h.ways A (by omega) hi]
   have := h.val (k + 1) (rs.getD i (0, [], 0)).2.2 (by omega) (by omega) (by omega)
   rw [if_pos rfl] at this
   rw [← this]; rfl
  ·have e3 : cA (zs.set ((rs.getD i (0, [], 0)).2.2.toNat * 61 + (k + 1)) v) j q = cA zs j q := by
    unfold cA
    rw [List.getD_eq_getElem?_getD, List.getElem?_set_ne (by omega), ← List.getD_eq_getElem?_getD]
   rw [e3, h.val j q hj h0 h1]
   by_cases e2 : j = k + 1
   ·rw [if_pos e2, if_pos e2, cntS, if_neg (fun e4 => e ⟨e4.symm, e2⟩)]
   ·rw [if_neg e2, if_neg e2]
theorem TabA.turn (h : TabA rs k rs.length zs) : TabA rs (k + 1) 0 zs := by
 refine ⟨h.len, h.bnd, fun j q hj h0 h1 => ?_⟩
 rw [h.val j q hj h0 h1]
 by_cases e : j = k + 1
 ·rw [if_pos e, if_neg (by omega), e, cntT_new]
 ·rw [if_neg e]
  by_cases e2 : j = k + 2
  ·rw [if_pos e2, cntT_high (by omega)]; rfl
  ·rw [if_neg e2]
   show cntT rs k j q = if j = k + 1 then _ else cntT rs k j q
   rw [if_neg e]
theorem TabA.at (h : TabA rs k 0 zs) (hk : k ≤ 60) (h0 : 0 ≤ q) (h1 : q < 16) : zs.getD (q.toNat * 61 + k) 0 = cntT rs k k q := by
 have := h.val k q hk h0 h1
 rw [if_neg (by omega)] at this
 exact this
end
section
variable {ar fi qs t u v : List Int} {n q : Int} {rs : List TranT} {i j k : Nat} {mm : List (List Int)} {a b c d : List Int} {r : TranT}
def leT (a b : List Int) : Prop := a.length < b.length ∨ a.length = b.length ∧ (a = b ∨ ltL a b)
theorem leT_iff : leT a b ↔ ¬ ltT b a := by
 constructor
 ·rintro (h | ⟨h, h2⟩) k
  ·rcases k with k | k <;> omega
  ·rcases h2 with e | h2
   ·subst e; exact ltT.irrefl k
   ·exact ltT.irrefl (k.trans (.inr ⟨h, h2⟩))
 ·intro h
  rcases ltT.total a b with k | k | k
  ·rcases k with k | k
   ·exact .inl k
   ·exact .inr ⟨k.1, .inr k.2⟩
  ·exact .inr ⟨by rw [k], .inl k⟩
  ·exact absurd k h
theorem leT.refl : leT a a := .inr ⟨rfl, .inl rfl⟩
theorem leT.app (h : leT a b) (k : leT c d) : leT (a ++ c) (b ++ d) := by
 rcases h with h | ⟨h, h2⟩
 ·left
  rw [List.length_append, List.length_append]
  rcases k with k | k <;> omega
 ·rcases k with k | ⟨k, k2⟩
  ·left; rw [List.length_append, List.length_append]; omega
  ·right
   refine ⟨by rw [List.length_append, List.length_append]; omega, ?_⟩
   rcases h2 with e | h2
   ·subst e
    rcases k2 with e | k2
    ·exact .inl (by rw [e])
    ·exact .inr (ltL_app.2 k2)
   ·exact .inr (ltL_front h h2)
theorem leT.flat : ∀ {as bs : RowL}, as.length = bs.length → (∀ i, i < as.length → leT (as.getD i []) (bs.getD i [])) → leT as.flatten bs.flatten
 | [], [], _, _ => .refl
 | [], _ :: _, h, _ => by simp at h
 | _ :: _, [], h, _ => by simp at h
 | x :: as, y :: bs, h, k => by
  rw [List.flatten_cons, List.flatten_cons]
  exact (k 0 (by simp)).app (leT.flat (by simpa using h) fun i hi => by simpa using k (i + 1) (by simpa using hi))
theorem leT.len (h : leT a b) : a.length ≤ b.length := by rcases h with h | h <;> omega
theorem leT.trans (h : leT a b) (k : leT b c) : leT a c := leT_iff.2 fun l => by
 have h1 := leT_iff.1 h
 have k1 := leT_iff.1 k
 rcases ltT.total b c with e | e | e
 ·exact h1 (e.trans l)
 ·subst e; exact h1 l
 ·exact k1 e
theorem map_getD {l : List Int} {f : Int → List Int} (hj : j < l.length) : (l.map f).getD j [] = f (l.getD j 0) := by simp [List.getD, hj]
def GT (ar t : List Int) : Prop := TermW ar t ∧ ∀ x ∈ t, 0 ≤ x
def catB (mm : List (List Int)) (qs : List Int) (k : Nat) : List Int := ((qs.take k).map fun q => mm.getD q.toNat []).flatten
theorem catB_next (hk : k < qs.length) : catB mm qs (k + 1) = catB mm qs k ++ mm.getD (qs.getD k 0).toNat [] := by
 unfold catB
 rw [take_succ_getD 0 hk, List.map_append, List.flatten_append]
 simp
def tmB (mm : List (List Int)) (r : TranT) : List Int := r.1 :: catB mm r.2.1 r.2.1.length
structure BestOk (ar : List Int) (rs : List TranT) (n : Int) (mm : List (List Int)) : Prop where
 len : mm.length = n.toNat
 row : ∀ q, 0 ≤ q → q < n → mm.getD q.toNat [] ≠ [] → GT ar (mm.getD q.toNat []) ∧ Run ar rs q (mm.getD q.toNat [])
theorem BestOk.start : BestOk ar rs n (List.replicate n.toNat []) := ⟨List.length_replicate, fun q _ _ h => absurd (by rw [List.getD_eq_getElem?_getD, List.getElem?_replicate]; split <;> rfl) h⟩
theorem BestOk.lens (h : BestOk ar rs n mm) (h0 : 0 ≤ q) (h1 : q < n) : (mm.getD q.toNat []).length ≤ 60 := by
 by_cases e : mm.getD q.toNat [] = []
 ·rw [e]; decide
 ·exact (h.row q h0 h1 e).1.1.len.2
theorem best_term (A : AutoOk ar n rs fi) (h : BestOk ar rs n mm) (hi : i < rs.length) (hne : ∀ j, j < (rs.getD i (0, [], 0)).2.1.length → mm.getD ((rs.getD i (0, [], 0)).2.1.getD j 0).toNat [] ≠ []) (hl : (tmB mm (rs.getD i (0, [], 0))).length ≤ 60) :
  GT ar (tmB mm (rs.getD i (0, [], 0))) ∧ Run ar rs (rs.getD i (0, [], 0)).2.2 (tmB mm (rs.getD i (0, [], 0))) := by
 have hT := A.rule i hi
 generalize hr : rs.getD i (0, [], 0) = r at *
 obtain ⟨as, has⟩ : ∃ as : RowL, as = r.2.1.map fun q => mm.getD q.toNat [] := ⟨_, rfl⟩
 have hcat : catB mm r.2.1 r.2.1.length = as.flatten := by unfold catB; rw [List.take_length, has]
 have hlen : as.length = r.2.1.length := by rw [has, List.length_map]
 have hat : ∀ j, j < r.2.1.length → as.getD j [] = mm.getD (r.2.1.getD j 0).toNat [] := fun j hj => by
  rw [has]; simp [List.getD, hj]
 have hg : ∀ a ∈ as, GT ar a := fun a ha => by
  obtain ⟨j, hj, rfl⟩ := List.getElem_of_mem ha
  have e : as[j] = as.getD j [] := by simp [List.getD, hj]
  have hj2 : j < r.2.1.length := by omega
  rw [e, hat j hj2]
  have := hT.arg j hj2
  exact (h.row _ this.1 this.2 (hne j hj2)).1
 have hW : ∀ a ∈ as, WF ar a 1 := fun a ha => (hg a ha).1.wf
 have hary : (arity ar r.1).toNat = r.2.1.length := by
  rw [arity, if_neg (by have := hT.sym; omega)]
  have := hT.args
  omega
 have htm : tmB mm r = r.1 :: as.flatten := by unfold tmB; rw [hcat]
 have hwf : WF ar (r.1 :: as.flatten) (0 + 1) := WF_cons.2 ⟨hT.sym.2, by rw [Nat.zero_add, hary, ← hlen]; exact WF_flat hW⟩
 have hge : ∀ x ∈ r.1 :: as.flatten, 0 ≤ x := fun x hx => by
  rcases List.mem_cons.1 hx with e | hx
  ·rw [e]; exact hT.sym.1
  ·obtain ⟨a, ha, hxa⟩ := List.mem_flatten.1 hx
   exact (hg a ha).2 x hxa
 have hTW : TermW ar (r.1 :: as.flatten) := ⟨A.sig, ⟨by simp, by rw [← htm]; exact hl⟩, hwf, fun x hx => by have := hge x hx; omega⟩
 have hp : partsL ar (r.1 :: as.flatten) = as := parts_of hTW hW (by rw [hlen, hary])
 rw [htm]
 refine ⟨⟨hTW, hge⟩, ?_⟩
 have := Run.mk (ar := ar) (rs := rs) (r.1 :: as.flatten) i hi (by rw [hr]; rfl) (by rw [hp, hlen, hr]) (fun j hj => by
  rw [hr] at hj ⊢
  rw [hp, hat j hj]
  have h9 := hT.arg j hj
  exact (h.row _ h9.1 h9.2 (hne j hj)).2)
 rw [hr] at this
 exact this
theorem BestOk.put (h : BestOk ar rs n mm) (h0 : 0 ≤ q) (h1 : q < n) (hg : GT ar t) (hr : Run ar rs q t) : BestOk ar rs n (mm.set q.toNat t) := by
 refine ⟨by rw [List.length_set]; exact h.len, fun x hx0 hx1 hne => ?_⟩
 have hl := h.len
 by_cases e : x = q
 ·subst e
  have e2 : (mm.set x.toNat t).getD x.toNat [] = t := by rw [List.getD_eq_getElem?_getD, List.getElem?_set_self (by omega)]; rfl
  rw [e2]; exact ⟨hg, hr⟩
 ·have e2 : (mm.set q.toNat t).getD x.toNat [] = mm.getD x.toNat [] := by rw [List.getD_eq_getElem?_getD, List.getElem?_set_ne (by omega), ← List.getD_eq_getElem?_getD]
  rw [e2] at hne ⊢
  exact h.row x hx0 hx1 hne
def ClosedT (rs : List TranT) (mm : List (List Int)) (k : Nat) : Prop := ∀ i, i < k → (∀ j, j < (rs.getD i (0, [], 0)).2.1.length → mm.getD ((rs.getD i (0, [], 0)).2.1.getD j 0).toNat [] ≠ []) → (tmB mm (rs.getD i (0, [], 0))).length ≤ 60 →
 mm.getD (rs.getD i (0, [], 0)).2.2.toNat [] ≠ [] ∧ ¬ ltT (tmB mm (rs.getD i (0, [], 0))) (mm.getD (rs.getD i (0, [], 0)).2.2.toNat [])
theorem best_least (A : AutoOk ar n rs fi) (h : BestOk ar rs n mm) (hc : ClosedT rs mm rs.length) (hr : Run ar rs q u) : TermW ar u → mm.getD q.toNat [] ≠ [] ∧ leT (mm.getD q.toNat []) u := by
 induction hr with
 | mk u i hi hh hl ha ih =>
  intro hu
  have hT := A.rule i hi
  have hw : ∀ j, j < (rs.getD i (0, [], 0)).2.1.length → TermW ar ((partsL ar u).getD j []) := fun j hj => part_W hu (by omega)
  have hne : ∀ j, j < (rs.getD i (0, [], 0)).2.1.length → mm.getD ((rs.getD i (0, [], 0)).2.1.getD j 0).toNat [] ≠ [] := fun j hj => (ih j hj (hw j hj)).1
  obtain ⟨as, has⟩ : ∃ as : RowL, as = (rs.getD i (0, [], 0)).2.1.map fun q => mm.getD q.toNat [] := ⟨_, rfl⟩
  have hcat : catB mm (rs.getD i (0, [], 0)).2.1 (rs.getD i (0, [], 0)).2.1.length = as.flatten := by unfold catB; rw [List.take_length, has]
  have hlen : as.length = (rs.getD i (0, [], 0)).2.1.length := by rw [has, List.length_map]
  have hat : ∀ j, j < (rs.getD i (0, [], 0)).2.1.length → as.getD j [] = mm.getD ((rs.getD i (0, [], 0)).2.1.getD j 0).toNat [] := fun j hj => by
   rw [has]; exact map_getD hj
  have hle : leT (tmB mm (rs.getD i (0, [], 0))) u := by
   rw [parts_flat hu, hh]
   unfold tmB
   rw [hcat]
   refine leT.app (a := [_]) (b := [_]) .refl (leT.flat (by omega) fun j hj => ?_)
   rw [hat j (by omega)]
   exact (ih j (by omega) (hw j (by omega))).2
  have := hc i hi hne (Nat.le_trans hle.len hu.len.2)
  exact ⟨this.1, (leT_iff.2 this.2).trans hle⟩
def rk8 : List Int → Nat
 | [] => 0
 | x :: xs => x.toNat * 8 ^ xs.length + rk8 xs
theorem rk8_lt : ∀ {t : List Int}, (∀ x ∈ t, 0 ≤ x ∧ x < 8) → rk8 t < 8 ^ t.length
 | [], _ => by decide
 | x :: xs, h => by
  have h1 := rk8_lt (t := xs) fun y hy => h y (by simp [hy])
  have h2 := h x (by simp)
  rw [rk8, List.length_cons, Nat.pow_succ]
  have h3 : x.toNat * 8 ^ xs.length ≤ 7 * 8 ^ xs.length := Nat.mul_le_mul_right _ (by omega)
  omega
theorem rk8_less : ∀ {t u : List Int}, t.length = u.length → (∀ x ∈ t, 0 ≤ x ∧ x < 8) → (∀ x ∈ u, 0 ≤ x ∧ x < 8) → ltL t u → rk8 t < rk8 u
 | [], [], _, _, _, h => h.elim
 | [], _ :: _, h, _, _, _ => by simp at h
 | _ :: _, [], h, _, _, _ => by simp at h
 | x :: xs, y :: ys, hl, h1, h2, h => by
  have hl2 : xs.length = ys.length := by simpa using hl
  rw [rk8, rk8, hl2]
  rcases h with h | ⟨h, h'⟩
  ·have h3 := rk8_lt (t := xs) fun z hz => h1 z (by simp [hz])
   rw [hl2] at h3
   have h4 := h1 x (by simp)
   have h5 : (x.toNat + 1) * 8 ^ ys.length ≤ y.toNat * 8 ^ ys.length := Nat.mul_le_mul_right _ (by omega)
   rw [Nat.succ_mul] at h5
   omega
  ·subst h
   have := rk8_less hl2 (fun z hz => h1 z (by simp [hz])) (fun z hz => h2 z (by simp [hz])) h'
   omega
def rankT (t : List Int) : Nat := if t = [] then 64 * 8 ^ 60 else t.length * 8 ^ 60 + rk8 t
theorem GT.dig (h : GT ar t) : ∀ x ∈ t, 0 ≤ x ∧ x < 8 := fun x hx => by
 refine ⟨h.2 x hx, ?_⟩
 obtain ⟨i, hi, rfl⟩ := List.getElem_of_mem hx
 have h1 := h.1.lt hi
 have h2 := (sigOk_spec h.1.sig).2.1
 have e : t.getD i 0 = t[i] := by simp [List.getD, hi]
 omega
theorem rank_top (h : GT ar t) : rankT t < 64 * 8 ^ 60 := by
 have h1 := rk8_lt h.dig
 have h2 := h.1.len
 have hne : t ≠ [] := fun e => by rw [e] at h2; simp at h2
 have h3 : 8 ^ t.length ≤ 8 ^ 60 := Nat.pow_le_pow_right (by decide) h2.2
 have h4 : t.length * 8 ^ 60 ≤ 60 * 8 ^ 60 := Nat.mul_le_mul_right _ h2.2
 unfold rankT
 rw [if_neg hne]
 generalize 8 ^ 60 = B at *
 omega
theorem rank_less (h : GT ar t) (k : GT ar u) (hl : ltT t u) : rankT t < rankT u := by
 have h1 := rk8_lt h.dig
 have h2 := h.1.len
 have h2' := k.1.len
 have hne : t ≠ [] := fun e => by rw [e] at h2; simp at h2
 have hne' : u ≠ [] := fun e => by rw [e] at h2'; simp at h2'
 have h3 : 8 ^ t.length ≤ 8 ^ 60 := Nat.pow_le_pow_right (by decide) h2.2
 unfold rankT
 rw [if_neg hne, if_neg hne']
 rcases hl with hl | ⟨hl, hl2⟩
 ·have h4 : (t.length + 1) * 8 ^ 60 ≤ u.length * 8 ^ 60 := Nat.mul_le_mul_right _ hl
  rw [Nat.succ_mul] at h4
  generalize 8 ^ 60 = B at *
  omega
 ·have := rk8_less hl h.dig k.dig hl2
  rw [hl]; omega
def muB (mm : List (List Int)) : Nat := (mm.map rankT).sum
theorem mu_set : ∀ {mm : List (List Int)} {i : Nat}, i < mm.length → rankT t < rankT (mm.getD i []) → muB (mm.set i t) < muB mm
 | [], _, h, _ => absurd h (by simp)
 | x :: mm, 0, _, h => by
  show ((t :: mm).map rankT).sum < ((x :: mm).map rankT).sum
  simp only [List.map_cons, List.sum_cons]
  have : rankT t < rankT x := h
  omega
 | x :: mm, i + 1, hi, h => by
  show ((x :: mm.set i t).map rankT).sum < ((x :: mm).map rankT).sum
  simp only [List.map_cons, List.sum_cons]
  have := mu_set (mm := mm) (i := i) (by simpa using hi) h
  unfold muB at this
  omega
theorem best_better (h : BestOk ar rs n mm) (h0 : 0 ≤ q) (h1 : q < n) (hg : GT ar t) (hb : mm.getD q.toNat [] = [] ∨ ltT t (mm.getD q.toNat [])) : muB (mm.set q.toNat t) < muB mm := by
 have hl := h.len
 refine mu_set (by omega) ?_
 by_cases e : mm.getD q.toNat [] = []
 ·rw [e]
  show rankT t < 64 * 8 ^ 60
  exact rank_top hg
 ·exact rank_less hg (h.row q h0 h1 e).1 (hb.resolve_left e)
def LeastR (ar : List Int) (n : Int) (rs : List TranT) (fi os : List Int) (ok : Bool) : Prop := (autoB ar n rs fi = false → ok = false ∧ os = []) ∧ (autoB ar n rs fi = true → (ok = true → GT ar os ∧ Acc ar rs fi os ∧ ∀ u, TermW ar u → Acc ar rs fi u → leT os u) ∧ (ok = false → os = [] ∧ ∀ u, TermW ar u → ¬ Acc ar rs fi u))
theorem leT.anti (h : leT a b) (k : leT b a) : a = b := by
 rcases h with h | ⟨h, h2⟩ <;> rcases k with k | ⟨k, k2⟩
 ·omega
 ·omega
 ·omega
 ·rcases h2 with h2 | h2
  ·exact h2
  ·rcases k2 with k2 | k2
   ·exact k2.symm
   ·exact (ltL.irrefl _ (h2.trans k2)).elim
theorem LeastR.one {os os' : List Int} {ok ok' : Bool} (h : LeastR ar n rs fi os ok) (k : LeastR ar n rs fi os' ok') : os = os' ∧ ok = ok' := by
 cases hA : autoB ar n rs fi with
 | false => have h1 := h.1 hA; have k1 := k.1 hA; exact ⟨by rw [h1.2, k1.2], by rw [h1.1, k1.1]⟩
 | true =>
  have h1 := h.2 hA
  have k1 := k.2 hA
  cases ok with
  | true =>
   have h2 := h1.1 rfl
   cases ok' with
   | true =>
    have k2 := k1.1 rfl
    exact ⟨(h2.2.2 _ k2.1.1 k2.2.1).anti (k2.2.2 _ h2.1.1 h2.2.1), rfl⟩
   | false => exact absurd h2.2.1 ((k1.2 rfl).2 _ h2.1.1)
  | false =>
   have h2 := h1.2 rfl
   cases ok' with
   | true => have k2 := k1.1 rfl; exact absurd k2.2.1 (h2.2 _ k2.1.1)
   | false => exact ⟨by rw [h2.1, (k1.2 rfl).1], rfl⟩
theorem catB_le : ∀ {k : Nat}, j ≤ k → k ≤ qs.length → (catB mm qs j).length ≤ (catB mm qs k).length
 | 0, h, _ => by rw [show j = 0 from by omega]; exact Nat.le_refl _
 | k + 1, h, hk => by
  rcases Nat.lt_or_ge j (k + 1) with h9 | h9
  ·have := catB_le (show j ≤ k by omega) (show k ≤ qs.length by omega)
   rw [catB_next (by omega), List.length_append]; omega
  ·rw [show j = k + 1 from by omega]; exact Nat.le_refl _
theorem bad_len (hj : j < r.2.1.length) (h : 60 < 1 + (catB mm r.2.1 j).length + (mm.getD (r.2.1.getD j 0).toNat []).length) : ¬ (tmB mm r).length ≤ 60 := by
 have := catB_le (mm := mm) (j := j + 1) (qs := r.2.1) (k := r.2.1.length) hj (Nat.le_refl _)
 rw [catB_next hj, List.length_append] at this
 unfold tmB
 rw [List.length_cons]; omega
def OutOk (mm : List (List Int)) (fi : List Int) (i : Nat) (os : List Int) : Prop := (os = [] ∧ ∀ j, j < i → mm.getD (fi.getD j 0).toNat [] = []) ∨ (os ≠ [] ∧ (∃ j, j < i ∧ os = mm.getD (fi.getD j 0).toNat []) ∧ ∀ j, j < i → mm.getD (fi.getD j 0).toNat [] ≠ [] → leT os (mm.getD (fi.getD j 0).toNat []))
theorem OutOk.start : OutOk mm fi 0 [] := .inl ⟨rfl, fun j hj => absurd hj (by omega)⟩
theorem OutOk.put {os : List Int} (h : OutOk mm fi i os) (hne : mm.getD (fi.getD i 0).toNat [] ≠ []) (hb : os = [] ∨ ltT (mm.getD (fi.getD i 0).toNat []) os) : OutOk mm fi (i + 1) (mm.getD (fi.getD i 0).toNat []) := by
 refine .inr ⟨hne, ⟨i, by omega, rfl⟩, fun j hj hn => ?_⟩
 rcases Nat.lt_or_ge j i with h9 | h9
 ·rcases h with ⟨h1, h2⟩ | ⟨h1, h2, h3⟩
  ·exact absurd (h2 j h9) hn
  ·have h4 := hb.resolve_left h1
   exact (leT_iff.2 fun k => ltT.irrefl (k.trans h4) : leT _ os).trans (h3 j h9 hn)
 ·rw [show j = i from by omega]; exact .refl
theorem OutOk.skip {os : List Int} (h : OutOk mm fi i os) (hb : mm.getD (fi.getD i 0).toNat [] = [] ∨ os ≠ [] ∧ ¬ ltT (mm.getD (fi.getD i 0).toNat []) os) : OutOk mm fi (i + 1) os := by
 rcases h with ⟨h1, h2⟩ | ⟨h1, ⟨x, hx, e⟩, h3⟩
 ·refine .inl ⟨h1, fun j hj => ?_⟩
  rcases Nat.lt_or_ge j i with h9 | h9
  ·exact h2 j h9
  ·rw [show j = i from by omega]; exact hb.resolve_right fun k => k.1 h1
 ·refine .inr ⟨h1, ⟨x, by omega, e⟩, fun j hj hn => ?_⟩
  rcases Nat.lt_or_ge j i with h9 | h9
  ·exact h3 j h9 hn
  ·rw [show j = i from by omega] at hn ⊢
   exact leT_iff.2 (hb.resolve_left hn).2
theorem OutOk.least {os : List Int} (A : AutoOk ar n rs fi) (hA : autoB ar n rs fi = true) (hB : BestOk ar rs n mm) (hC : ClosedT rs mm rs.length) (h : OutOk mm fi fi.length os) {ok : Bool} (hok : ok = true ↔ os ≠ []) : LeastR ar n rs fi os ok := by
 refine ⟨fun e => (by rw [hA] at e; cases e), fun _ => ⟨fun e => ?_, fun e => ?_⟩⟩
 ·have hne := hok.1 e
  rcases h with ⟨h1, _⟩ | ⟨_, ⟨x, hx, e2⟩, h3⟩
  ·exact absurd h1 hne
  ·have hf := A.fin x hx
   have hr := hB.row _ hf.1 hf.2 (by rw [← e2]; exact hne)
   rw [← e2] at hr
   refine ⟨hr.1, ⟨x, hx, hr.2⟩, ?_⟩
   rintro u hu ⟨y, hy, hru⟩
   have := best_least A hB hC hru hu
   exact (h3 y hy this.1).trans this.2
 ·have hne : os = [] := Classical.byContradiction fun k => by rw [hok.2 k] at e; cases e
  rcases h with ⟨h1, h2⟩ | ⟨h1, _⟩
  ·refine ⟨h1, ?_⟩
   rintro u hu ⟨y, hy, hru⟩
   exact (best_least A hB hC hru hu).1 (h2 y hy)
  ·exact absurd hne h1
theorem LeastR.no (hA : autoB ar n rs fi = false) : LeastR ar n rs fi [] false := ⟨fun _ => ⟨rfl, rfl⟩, fun e => by rw [hA] at e; cases e⟩
end
section
variable {ar fi qs t u v : List Int} {q : Int} {rs : List TranT} {i j k a m n x : Nat} {lv lv' : Nat → List (List Int)} {os bs r : List (List Int)}
def RowsA (lv : Nat → List (List Int)) : Nat → Nat → List (List Int)
 | 0, n => if n = 0 then [[]] else []
 | a + 1, n => (List.range n).flatMap fun k => (lv (k + 1)).flatMap fun t => (RowsA lv a (n - (k + 1))).map (t ++ ·)
def RowsU (lv : Nat → List (List Int)) (a n k : Nat) : List (List Int) := (List.range k).flatMap fun k => (lv (k + 1)).flatMap fun t => (RowsA lv a (n - (k + 1))).map (t ++ ·)
theorem RowsU.next : RowsU lv a n (k + 1) = RowsU lv a n k ++ (lv (k + 1)).flatMap fun t => (RowsA lv a (n - (k + 1))).map (t ++ ·) := by
 unfold RowsU
 rw [List.range_succ, List.flatMap_append]; simp
def RowsT (lv : Nat → List (List Int)) (a n : Nat) (os : List (List Int)) : Prop := os.length ≤ 201 ∧ (os.length ≤ 200 → os = RowsA lv a n) ∧ ∀ u ∈ os, u.length = n
def SizedL (lv : Nat → List (List Int)) : Prop := ∀ k, ∀ t ∈ lv k, t.length = k
theorem SizedL.at (hs : SizedL lv) (h : i < (lv k).length) : ((lv k).getD i []).length = k := hs k _ (by rw [List.getD_eq_getElem?_getD, List.getElem?_eq_getElem h]; exact List.getElem_mem h)
theorem rows_zero : RowsT lv 0 0 [[]] := ⟨by decide, fun _ => rfl, fun u hu => by rw [List.mem_singleton.1 hu]; rfl⟩
theorem rows_nil (h : m ≠ 0) : RowsT lv 0 m [] := ⟨by decide, fun _ => by rw [RowsA, if_neg h], fun u hu => absurd hu (by simp)⟩
def RowsK (lv : Nat → List (List Int)) (a n k : Nat) (os : List (List Int)) : Prop := os.length ≤ 201 ∧ (os.length ≤ 200 → os = RowsU lv a n k) ∧ ∀ u ∈ os, u.length = n
theorem RowsK.start : RowsK lv a m 0 [] := ⟨by decide, fun _ => rfl, fun u hu => absurd hu (by simp)⟩
def RowsI (lv : Nat → List (List Int)) (a n k i : Nat) (r os : List (List Int)) : Prop := os.length ≤ 201 ∧ (os.length ≤ 200 → os = RowsU lv a n k ++ ((lv (k + 1)).take i).flatMap fun t => r.map (t ++ ·)) ∧ ∀ u ∈ os, u.length = n
theorem RowsK.open (h : RowsK lv a m k os) : RowsI lv a m k 0 r os := ⟨h.1, fun h9 => by rw [h.2.1 h9]; simp, h.2.2⟩
theorem RowsK.skip (h : RowsK lv a m k os) (he : (lv (k + 1)).length = 0) : RowsK lv a m (k + 1) os := ⟨h.1, fun h9 => by rw [RowsU.next, List.length_eq_zero_iff.1 he, h.2.1 h9]; simp, h.2.2⟩
def RowsX (lv : Nat → List (List Int)) (a n k i x : Nat) (r os : List (List Int)) : Prop := os.length ≤ 201 ∧ (os.length ≤ 200 → os = (RowsU lv a n k ++ ((lv (k + 1)).take i).flatMap fun t => r.map (t ++ ·)) ++ (r.take x).map ((lv (k + 1)).getD i [] ++ ·)) ∧ ∀ u ∈ os, u.length = n
theorem RowsI.open (h : RowsI lv a m k i r os) : RowsX lv a m k i 0 r os := ⟨h.1, fun h9 => by rw [h.2.1 h9]; simp, h.2.2⟩
theorem RowsX.next (h : RowsX lv a m k i x r os) (hs : SizedL lv) (hr : ∀ u ∈ r, u.length = m - (k + 1)) (hk : k < m) (hi : i < (lv (k + 1)).length) (hx : x < r.length) (ho : os.length ≤ 200) : RowsX lv a m k i (x + 1) r (os ++ [(lv (k + 1)).getD i [] ++ r.getD x []]) := by
 refine ⟨by rw [List.length_append]; simp only [List.length_singleton]; omega, fun h9 => ?_, fun u hu => ?_⟩
 ·rw [List.length_append] at h9
  simp only [List.length_singleton] at h9
  rw [take_succ_getD [] hx, List.map_append, ← List.append_assoc, ← h.2.1 (by omega)]
  rfl
 ·rcases List.mem_append.1 hu with hu | hu
  ·exact h.2.2 u hu
  ·rw [List.mem_singleton.1 hu, List.length_append]
   have h1 : ((lv (k + 1)).getD i []).length = k + 1 := hs (k + 1) _ (by rw [List.getD_eq_getElem?_getD, List.getElem?_eq_getElem hi]; exact List.getElem_mem hi)
   have h2 : (r.getD x []).length = m - (k + 1) := hr _ (by rw [List.getD_eq_getElem?_getD, List.getElem?_eq_getElem hx]; exact List.getElem_mem hx)
   omega
theorem RowsX.close (h : RowsX lv a m k i x r os) (hi : i < (lv (k + 1)).length) (hx : r.length ≤ x ∨ 200 < os.length) : RowsI lv a m k (i + 1) r os := by
 refine ⟨h.1, fun h9 => ?_, h.2.2⟩
 have hx := hx.resolve_right (by omega)
 rw [take_succ_getD [] hi, List.flatMap_append, ← List.append_assoc, h.2.1 h9, List.take_of_length_le hx]
 simp
theorem RowsI.close (h : RowsI lv a m k i r os) (hr : RowsT lv a (m - (k + 1)) r) (hn : (lv (k + 1)).length ≠ 0) (hi : (lv (k + 1)).length ≤ i ∨ 200 < os.length) : RowsK lv a m (k + 1) os := by
 refine ⟨h.1, fun h9 => ?_, h.2.2⟩
 have hi := hi.resolve_right (by omega)
 have e := h.2.1 h9
 rw [List.take_of_length_le hi] at e
 have hrl : r.length ≤ 200 := by
  have hl := congrArg List.length e
  rw [List.length_append] at hl
  cases hv : lv (k + 1) with
  | nil => rw [hv] at hn; exact absurd rfl hn
  | cons y ys =>
   rw [hv, List.flatMap_cons, List.length_append, List.length_map] at hl
   omega
 rw [RowsU.next, ← hr.2.1 hrl]
 exact e
theorem RowsK.all (h : RowsK lv a m m os) : RowsT lv (a + 1) m os := ⟨h.1, fun h9 => by rw [h.2.1 h9]; rfl, h.2.2⟩
theorem ins_perm {xs : List (List Int)} (hk : k ≤ xs.length) : (xs.take k ++ [t] ++ xs.drop k).Perm (t :: xs) := by
 have h : (xs.take k ++ [t] ++ xs.drop k).Perm ([t] ++ xs.take k ++ xs.drop k) := (List.perm_append_comm).append_right _
 refine h.trans ?_
 rw [List.append_assoc, List.take_append_drop]
 exact List.Perm.refl _
end
section
variable {ar fi qs t u v : List Int} {q z : Int} {rs : List TranT} {f i j k a m n x : Nat} {lv lv' : Nat → List (List Int)} {os bs r L L' : List (List Int)} {mm : List (List (List Int))} {ok : Bool}
theorem fmCongr {α β : Type} {f g : α → List β} {l : List α} (h : ∀ x ∈ l, f x = g x) : l.flatMap f = l.flatMap g := by
 induction l with
 | nil => rfl
 | cons x l ih => rw [List.flatMap_cons, List.flatMap_cons, h x (List.mem_cons_self ..), ih fun y hy => h y (List.mem_cons_of_mem _ hy)]
theorem rowsA_congr (h : ∀ j, j ≤ n → lv j = lv' j) : RowsA lv a n = RowsA lv' a n := by
 induction a generalizing n with
 | zero => rfl
 | succ a ih =>
  rw [RowsA, RowsA]
  refine fmCongr fun k hk => ?_
  rw [List.mem_range] at hk
  rw [h (k + 1) (by omega), ih (fun j hj => h j (by omega))]
def LvU (ar : List Int) (lv : Nat → List (List Int)) (k f : Nat) : List (List Int) := (List.range f).flatMap fun f => (RowsA lv (ar.getD f 0).toNat k).map (((f : Nat) : Int) :: ·)
theorem LvU.congr (h : ∀ j, j ≤ k → lv j = lv' j) : LvU ar lv k f = LvU ar lv' k f := fmCongr fun f _ => by rw [rowsA_congr h]
theorem LvU.next : LvU ar lv k (f + 1) = LvU ar lv k f ++ (RowsA lv (ar.getD f 0).toNat k).map (((f : Nat) : Int) :: ·) := by
 unfold LvU
 rw [List.range_succ, List.flatMap_append]; simp
def LvI (ar : List Int) (lv : Nat → List (List Int)) (k f : Nat) (L : List (List Int)) : Prop := (L.length ≤ 200 → L.Perm (LvU ar lv k f)) ∧ (∀ u ∈ L, u.length = k + 1) ∧ L.length ≤ f * 201
theorem LvI.start : LvI ar lv k 0 [] := ⟨fun _ => List.Perm.refl _, fun u hu => absurd hu (by simp), by decide⟩
def LvX (ar : List Int) (lv : Nat → List (List Int)) (k f i : Nat) (r L : List (List Int)) : Prop := (L.length ≤ 200 → L.Perm (LvU ar lv k f ++ (r.take i).map (((f : Nat) : Int) :: ·))) ∧ (∀ u ∈ L, u.length = k + 1) ∧ L.length ≤ f * 201 + i
theorem LvI.open (h : LvI ar lv k f L) : LvX ar lv k f 0 r L := ⟨fun h9 => by simpa using h.1 h9, h.2.1, h.2.2⟩
theorem LvX.next (h : LvX ar lv k f i r L) (hr : ∀ u ∈ r, u.length = k) (hi : i < r.length) (hp : L'.Perm ((((f : Nat) : Int) :: r.getD i []) :: L)) : LvX ar lv k f (i + 1) r L' := by
 have hl := hp.length_eq
 rw [List.length_cons] at hl
 refine ⟨fun h9 => ?_, fun u hu => ?_, by have := h.2.2; omega⟩
 ·rw [take_succ_getD [] hi, List.map_append, ← List.append_assoc]
  refine hp.trans ((List.Perm.cons _ (h.1 (by omega))).trans ?_)
  exact List.perm_append_comm (l₁ := [((f : Nat) : Int) :: r.getD i []])
 ·rcases List.mem_cons.1 (hp.mem_iff.1 hu) with hu | hu
  ·rw [hu, List.length_cons, hr _ (by rw [List.getD_eq_getElem?_getD, List.getElem?_eq_getElem hi]; exact List.getElem_mem hi)]
  ·exact h.2.1 u hu
theorem LvX.close (h : LvX ar lv k f i r L) (hr : RowsT lv (ar.getD f 0).toNat k r) (hi : r.length ≤ i) (hi2 : i ≤ r.length) : LvI ar lv k (f + 1) L := by
 refine ⟨fun h9 => ?_, h.2.1, by have := h.2.2; have := hr.1; omega⟩
 have e := h.1 h9
 rw [List.take_of_length_le hi] at e
 have hl := e.length_eq
 rw [List.length_append, List.length_map] at hl
 rw [LvU.next, ← hr.2.1 (by omega)]
 exact e
abbrev lvOf (mm : List (List (List Int))) : Nat → List (List Int) := fun k => mm.getD k []
structure GrK (ar : List Int) (k : Nat) (mm : List (List (List Int))) (os : List (List Int)) : Prop where
 len : mm.length = k + 1
 sized : SizedL (lvOf mm)
 few : ∀ j, (mm.getD j []).length ≤ 200
 lvl : ∀ j, j < k → (lvOf mm (j + 1)).Perm (LvU ar (lvOf mm) j ar.length)
 all : os = (List.range k).flatMap fun j => lvOf mm (j + 1)
 small : os.length ≤ 200
theorem GrK.start : GrK ar 0 [[]] [] where
 len := rfl
 sized := fun k t ht => by
  cases k with
  | zero => exact absurd ht (by simp)
  | succ k => exact absurd ht (by simp)
 few := fun j => by cases j <;> simp
 lvl := fun j hj => absurd hj (by omega)
 all := rfl
 small := by decide
theorem GrK.next (h : GrK ar k mm os) (hL : LvI ar (lvOf mm) k f L) (hf : ar.length ≤ f) (hf2 : f ≤ ar.length) (hs : (os ++ L).length ≤ 200) : GrK ar (k + 1) (mm ++ [L]) (os ++ L) := by
 have hll : L.length ≤ 200 := by rw [List.length_append] at hs; omega
 obtain rfl : f = ar.length := by omega
 have e1 : ∀ j, j ≤ k → lvOf (mm ++ [L]) j = lvOf mm j := fun j hj => by
  show (mm ++ [L]).getD j [] = mm.getD j []
  rw [List.getD_eq_getElem?_getD, List.getD_eq_getElem?_getD, List.getElem?_append_left (by rw [h.len]; omega)]
 have e2 : lvOf (mm ++ [L]) (k + 1) = L := by
  show (mm ++ [L]).getD (k + 1) [] = L
  rw [List.getD_eq_getElem?_getD, List.getElem?_append_right (by rw [h.len]; omega), h.len]; simp
 have e3 : ∀ j, k + 1 < j → lvOf (mm ++ [L]) j = [] := fun j hj => by
  show (mm ++ [L]).getD j [] = []
  rw [List.getD_eq_getElem?_getD, List.getElem?_eq_none (by rw [List.length_append, h.len]; simp only [List.length_singleton]; omega)]; rfl
 refine ⟨by rw [List.length_append, h.len]; rfl, fun j t ht => ?_, fun j => ?_, fun j hj => ?_, ?_, hs⟩
 ·rcases Nat.lt_trichotomy j (k + 1) with hj | hj | hj
  ·rw [e1 j (by omega)] at ht; exact h.sized j t ht
  ·rw [hj, e2] at ht; rw [hj]; exact hL.2.1 t ht
  ·rw [e3 j hj] at ht; exact absurd ht (by simp)
 ·show (lvOf (mm ++ [L]) j).length ≤ 200
  rcases Nat.lt_trichotomy j (k + 1) with hj | hj | hj
  ·rw [e1 j (by omega)]; exact h.few j
  ·rw [hj, e2]; exact hll
  ·rw [e3 j hj]; decide
 ·rw [LvU.congr (lv' := lvOf mm) (fun i hi => e1 i (by omega))]
  by_cases hk : j = k
  ·rw [hk, e2]; exact hL.1 hll
  ·rw [e1 _ (by omega)]; exact h.lvl j (by omega)
 ·rw [List.range_succ, List.flatMap_append, h.all]
  congr 1
  ·exact fmCongr fun j hj => by rw [List.mem_range] at hj; rw [e1 _ (by omega)]
  ·rw [List.flatMap_cons, List.flatMap_nil, e2, List.append_nil]
def GrT (ar : List Int) (z : Int) (os : List (List Int)) (ok : Bool) : Prop := os.length ≤ 200 ∧ (ok = true → sigOk ar = true ∧ ∃ mm, GrK ar z.toNat mm os)
theorem GrT.no : GrT ar z [] false := ⟨by decide, fun h => by cases h⟩
theorem GrK.told (hs : sigOk ar = true) (h : GrK ar k mm os) (hk : (k : Int) = z) : GrT ar z os true := ⟨h.small, fun _ => ⟨hs, mm, by rw [show z.toNat = k by omega]; exact h⟩⟩
end
section
variable {ar fi qs t u v w f' : List Int} {m q : Int} {rs : List TranT} {f i j k n : Nat} {os : List (List Int)} {a b c d g : List Int} {P Q : List Int → Prop}
def RunN (ar : List Int) (rs : List TranT) (q : Int) (n : Nat) (a : List Int) : Prop := GT ar a ∧ Run ar rs q a ∧ a.length = n
def RunL (ar : List Int) (rs : List TranT) : List Int → Nat → List Int → Prop
 | [], n, v => n = 0 ∧ v = []
 | q :: qs, n, v => ∃ a b, v = a ++ b ∧ RunN ar rs q a.length a ∧ a.length ≤ n ∧ RunL ar rs qs (n - a.length) b
theorem RunL.len : ∀ {qs : List Int} {n : Nat} {v : List Int}, RunL ar rs qs n v → v.length = n
 | [], n, v, h => by rw [h.2, h.1]; rfl
 | q :: qs, n, v, ⟨a, b, e, _, hl, h⟩ => by have := RunL.len h; rw [e, List.length_append]; omega
theorem GT.pos (h : GT ar t) : 1 ≤ t.length ∧ t.length ≤ 60 := h.1.len
theorem RunN.z : ¬ RunN ar rs q 0 a := fun h => by have := h.1.pos; have := h.2.2; omega
theorem RunN.mk (h : GT ar a) (hr : Run ar rs q a) : RunN ar rs q a.length a := ⟨h, hr, rfl⟩
theorem RunL.one : RunL ar rs [q] n v ↔ RunN ar rs q n v := by
 constructor
 ·rintro ⟨a, b, e, h, hl, h2, h3⟩
  rw [h3, List.append_nil] at e
  subst e
  exact ⟨h.1, h.2.1, by omega⟩
 ·intro h
  exact ⟨v, [], (List.append_nil v).symm, ⟨h.1, h.2.1, rfl⟩, by have := h.2.2; omega, by have := h.2.2; omega, rfl⟩
theorem RunL.flat : ∀ {qs : List Int} {n : Nat} {v : List Int}, RunL ar rs qs n v ↔ ∃ as : RowL, v = as.flatten ∧ as.length = qs.length ∧ (∀ j, j < qs.length → GT ar (as.getD j []) ∧ Run ar rs (qs.getD j 0) (as.getD j [])) ∧ v.length = n
 | [], n, v => by
  constructor
  ·rintro ⟨rfl, rfl⟩; exact ⟨[], rfl, rfl, fun j hj => absurd hj (by simp), rfl⟩
  ·rintro ⟨as, e, hl, _, hn⟩
   have : as = [] := List.length_eq_zero_iff.1 hl
   subst this; subst e; exact ⟨hn.symm, rfl⟩
 | q :: qs, n, v => by
  constructor
  ·rintro ⟨a, b, e, h, hl, h2⟩
   have hbl := h2.len
   obtain ⟨as, e2, hl2, h3, _⟩ := RunL.flat.1 h2
   refine ⟨a :: as, by rw [List.flatten_cons, ← e2, e], by simp [hl2], fun j hj => ?_, by rw [e, List.length_append]; omega⟩
   cases j with
   | zero => exact ⟨h.1, h.2.1⟩
   | succ j => simpa using h3 j (by simpa using hj)
  ·rintro ⟨as, e, hl, h, hn⟩
   cases as with
   | nil => simp at hl
   | cons a as =>
    rw [List.flatten_cons] at e
    have h0 := h 0 (by simp)
    refine ⟨a, as.flatten, e, ⟨h0.1, h0.2, rfl⟩, by rw [e, List.length_append] at hn; omega, RunL.flat.2 ⟨as, rfl, by simpa using hl, fun j hj => by simpa using h (j + 1) (by simpa using hj), by rw [e, List.length_append] at hn; omega⟩⟩
theorem runN_iff (A : AutoOk ar m rs fi) (hn : n + 1 ≤ 60) : RunN ar rs q (n + 1) u ↔ ∃ i, i < rs.length ∧ (rs.getD i (0, [], 0)).2.2 = q ∧ ∃ v, u = (rs.getD i (0, [], 0)).1 :: v ∧ RunL ar rs (rs.getD i (0, [], 0)).2.1 n v := by
 constructor
 ·rintro ⟨hg, hr, hl⟩
  cases hr with
  | mk _ i hi hh hpl ha =>
   have hf := parts_flat hg.1
   refine ⟨i, hi, rfl, (partsL ar u).flatten, by rw [← hh]; exact hf, RunL.flat.2 ⟨partsL ar u, rfl, hpl, fun j hj => ⟨⟨part_W hg.1 (by omega), fun x hx => ?_⟩, ha j hj⟩, ?_⟩⟩
   ·refine hg.2 x ?_
    rw [hf]
    refine List.mem_cons_of_mem _ (List.mem_flatten.2 ⟨(partsL ar u).getD j [], ?_, hx⟩)
    rw [List.getD_eq_getElem?_getD, List.getElem?_eq_getElem (by omega)]; exact List.getElem_mem _
   ·have := congrArg List.length hf
    rw [List.length_cons] at this
    omega
 ·rintro ⟨i, hi, rfl, v, rfl, h⟩
  have hvl := h.len
  obtain ⟨as, e, hlen, h2, _⟩ := RunL.flat.1 h
  have hT := A.rule i hi
  subst e
  have hg : ∀ a ∈ as, GT ar a := fun a ha => by
   obtain ⟨j, hj, rfl⟩ := List.getElem_of_mem ha
   have := (h2 j (by omega)).1
   rwa [show as.getD j [] = as[j] from by simp [List.getD, hj]] at this
  have hW : ∀ a ∈ as, WF ar a 1 := fun a ha => (hg a ha).1.wf
  have hary : (arity ar (rs.getD i (0, [], 0)).1).toNat = (rs.getD i (0, [], 0)).2.1.length := by
   rw [arity, if_neg (by have := hT.sym; omega)]
   have := hT.args
   omega
  have hwf : WF ar ((rs.getD i (0, [], 0)).1 :: as.flatten) (0 + 1) := WF_cons.2 ⟨hT.sym.2, by rw [Nat.zero_add, hary, ← hlen]; exact WF_flat hW⟩
  have hge : ∀ x ∈ (rs.getD i (0, [], 0)).1 :: as.flatten, 0 ≤ x := fun x hx => by
   rcases List.mem_cons.1 hx with e | hx
   ·rw [e]; exact hT.sym.1
   ·obtain ⟨a, ha, hxa⟩ := List.mem_flatten.1 hx
    exact (hg a ha).2 x hxa
  have hTW : TermW ar ((rs.getD i (0, [], 0)).1 :: as.flatten) := ⟨A.sig, ⟨by simp, by rw [List.length_cons]; omega⟩, hwf, fun x hx => by have := hge x hx; omega⟩
  have hp : partsL ar ((rs.getD i (0, [], 0)).1 :: as.flatten) = as := parts_of hTW hW (by rw [hlen, hary])
  refine ⟨⟨hTW, hge⟩, ?_, by rw [List.length_cons]; omega⟩
  exact Run.mk (ar := ar) (rs := rs) _ i hi rfl (by rw [hp, hlen]) (fun j hj => by rw [hp]; exact (h2 j hj).2)
def Lst (P : List Int → Prop) (v : List Int) : Prop := (v = [] ∧ ∀ w, ¬ P w) ∨ (v ≠ [] ∧ P v ∧ ∀ w, P w → ¬ ltL w v)
theorem Lst.none (h : ∀ w, ¬ P w) : Lst P [] := .inl ⟨rfl, h⟩
theorem Lst.iff (h : Lst P v) (e : ∀ w, P w ↔ Q w) : Lst Q v := by
 rcases h with ⟨h1, h2⟩ | ⟨h1, h2, h3⟩
 ·exact .inl ⟨h1, fun w hw => h2 w ((e w).2 hw)⟩
 ·exact .inr ⟨h1, (e v).1 h2, fun w hw => h3 w ((e w).2 hw)⟩
theorem Lst.no (h : Lst P []) : ∀ w, ¬ P w := h.elim (fun h => h.2) (fun h => absurd rfl h.1)
theorem Lst.yes (h : Lst P v) (hv : v ≠ []) : P v ∧ ∀ w, P w → ¬ ltL w v := h.elim (fun h => absurd h.1 hv) (fun h => h.2)
theorem ltL_tri (h : ¬ ltL w v) : w = v ∨ ltL v w := (ltL.total w v).elim (fun k => absurd k h) id
theorem Lst.put (h : Lst P v) (k : Lst Q g) (hg : g ≠ []) (hb : v = [] ∨ ltL g v) : Lst (fun w => P w ∨ Q w) g := by
 have k2 := k.yes hg
 refine .inr ⟨hg, .inr k2.1, fun w hw => ?_⟩
 rcases hw with hw | hw
 ·rcases h with ⟨h1, h2⟩ | ⟨h1, h2, h3⟩
  ·exact absurd hw (h2 w)
  ·have hb := hb.resolve_left h1
   exact fun l => h3 w hw (l.trans hb)
 ·exact k2.2 w hw
theorem Lst.skip (h : Lst P v) (k : Lst Q g) (hb : g = [] ∨ v ≠ [] ∧ ¬ ltL g v) : Lst (fun w => P w ∨ Q w) v := by
 rcases h with ⟨h1, h2⟩ | ⟨h1, h2, h3⟩
 ·have hb := hb.resolve_right fun l => l.1 h1
  subst hb
  exact .inl ⟨h1, fun w hw => hw.elim (h2 w) (k.no w)⟩
 ·refine .inr ⟨h1, .inl h2, fun w hw => hw.elim (h3 w) fun hq l => ?_⟩
  by_cases hg : g = []
  ·subst hg; exact k.no w hq
  ·have hb := (hb.resolve_left hg).2
   have k2 := (k.yes hg).2 w hq
   rcases ltL_tri k2 with e | e
   ·subst e; exact hb l
   ·exact hb (e.trans l)
def LstL (ar : List Int) (rs : List TranT) (qs : List Int) (n : Nat) (v : List Int) : Prop := Lst (RunL ar rs qs n) v
def RunK (ar : List Int) (rs : List TranT) (q : Int) (qs : List Int) (n k : Nat) (w : List Int) : Prop := ∃ a b, w = a ++ b ∧ RunN ar rs q a.length a ∧ a.length ≤ k ∧ a.length ≤ n ∧ RunL ar rs qs (n - a.length) b
theorem LstL.start : Lst (RunK ar rs q qs n 0) [] := .none fun w ⟨a, b, _, h, hl, _⟩ => by have := h.1.pos; omega
theorem runK_next : (RunK ar rs q qs n k w ∨ ∃ a b, w = a ++ b ∧ RunN ar rs q (k + 1) a ∧ k + 1 ≤ n ∧ RunL ar rs qs (n - (k + 1)) b) ↔ RunK ar rs q qs n (k + 1) w := by
 constructor
 ·rintro (⟨a, b, e, h, h1, h2, h3⟩ | ⟨a, b, e, h, h2, h3⟩)
  ·exact ⟨a, b, e, h, by omega, h2, h3⟩
  ·have := h.2.2; exact ⟨a, b, e, ⟨h.1, h.2.1, rfl⟩, by omega, by omega, by rw [this]; exact h3⟩
 ·rintro ⟨a, b, e, h, h1, h2, h3⟩
  rcases Nat.lt_or_ge k a.length with h9 | h9
  ·have : a.length = k + 1 := by omega
   rw [this] at h h3
   exact .inr ⟨a, b, e, h, by omega, h3⟩
  ·exact .inl ⟨a, b, e, h, h9, h2, h3⟩
theorem lst_cat (hk : k + 1 ≤ n) (h : Lst (RunN ar rs q (k + 1)) f') (h2 : LstL ar rs qs (n - (k + 1)) g) (hf : f' ≠ []) (hg : g ≠ []) : Lst (fun w => ∃ a b, w = a ++ b ∧ RunN ar rs q (k + 1) a ∧ k + 1 ≤ n ∧ RunL ar rs qs (n - (k + 1)) b) (f' ++ g) := by
 have hy := h.yes hf
 have hz := Lst.yes h2 hg
 refine .inr ⟨by simp [hf], ⟨f', g, rfl, hy.1, hk, hz.1⟩, ?_⟩
 rintro w ⟨a, b, rfl, ha, _, hb⟩
 have hl : f'.length = a.length := by rw [hy.1.2.2, ha.2.2]
 rcases ltL_tri (hy.2 a ha) with e | e
 ·subst e
  rw [ltL_app]; exact hz.2 b hb
 ·intro l
  exact ltL.irrefl _ (l.trans (ltL_front hl e))
theorem lst_cat0 (h : f' = [] ∨ g = []) (hf : Lst (RunN ar rs q (k + 1)) f') (hg : f' = [] ∨ LstL ar rs qs (n - (k + 1)) g) : Lst (fun w => ∃ a b, w = a ++ b ∧ RunN ar rs q (k + 1) a ∧ k + 1 ≤ n ∧ RunL ar rs qs (n - (k + 1)) b) [] := by
 refine .none ?_
 rintro w ⟨a, b, rfl, ha, _, hb⟩
 by_cases e : f' = []
 ·subst e; exact hf.no a ha
 ·have hg := hg.resolve_left e
  rw [h.resolve_left e] at hg
  exact Lst.no hg b hb
theorem LstL.skip0 (h : Lst (RunK ar rs q qs n k) v) (hf : Lst (RunN ar rs q (k + 1)) []) : Lst (RunK ar rs q qs n (k + 1)) v := (Lst.skip h (lst_cat0 (g := []) (.inl rfl) hf (.inl rfl)) (.inl rfl)).iff fun _ => runK_next
theorem LstL.skip1 (h : Lst (RunK ar rs q qs n k) v) (hf : Lst (RunN ar rs q (k + 1)) f') (hg : LstL ar rs qs (n - (k + 1)) []) : Lst (RunK ar rs q qs n (k + 1)) v := (Lst.skip h (lst_cat0 (g := []) (.inr rfl) hf (.inr hg)) (.inl rfl)).iff fun _ => runK_next
theorem LstL.skip2 (h : Lst (RunK ar rs q qs n k) v) (hk : k + 1 ≤ n) (hf : Lst (RunN ar rs q (k + 1)) f') (hg : LstL ar rs qs (n - (k + 1)) g) (h1 : f' ≠ []) (h2 : g ≠ []) (hv : v ≠ []) (hb : ¬ ltL (f' ++ g) v) : Lst (RunK ar rs q qs n (k + 1)) v := (Lst.skip h (lst_cat hk hf hg h1 h2) (.inr ⟨hv, hb⟩)).iff fun _ => runK_next
theorem LstL.put (h : Lst (RunK ar rs q qs n k) v) (hk : k + 1 ≤ n) (hf : Lst (RunN ar rs q (k + 1)) f') (hg : LstL ar rs qs (n - (k + 1)) g) (h1 : f' ≠ []) (h2 : g ≠ []) (hb : v = [] ∨ ltL (f' ++ g) v) : Lst (RunK ar rs q qs n (k + 1)) (f' ++ g) := (Lst.put h (lst_cat hk hf hg h1 h2) (by simp [h1]) hb).iff fun _ => runK_next
theorem LstL.all (h : Lst (RunK ar rs q qs n k) v) (hq : qs ≠ []) (hk : n ≤ k + 1) : LstL ar rs (q :: qs) n v := h.iff fun w => by
 constructor
 ·rintro ⟨a, b, e, h, h1, h2, h3⟩; exact ⟨a, b, e, h, h2, h3⟩
 ·rintro ⟨a, b, e, h, h2, h3⟩
  refine ⟨a, b, e, h, ?_, h2, h3⟩
  have hb : 1 ≤ n - a.length := by
   cases qs with
   | nil => exact absurd rfl hq
   | cons x qs =>
    obtain ⟨c, d, _, hc, hcl, _⟩ := h3
    have := hc.1.pos
    omega
  omega
theorem LstL.at (hq : qs ≠ []) (h : LstL ar rs (qs.getD 0 0 :: qs.drop 1) n v) : LstL ar rs qs n v := by
 cases qs with
 | nil => exact absurd rfl hq
 | cons x qs => exact h
theorem LstL.len (h : LstL ar rs qs n v) : v.length ≤ n := by
 rcases h with ⟨h1, _⟩ | ⟨_, h2, _⟩
 ·rw [h1]; exact Nat.zero_le _
 ·exact Nat.le_of_eq h2.len
abbrev cS (os : List (List Int)) (j : Nat) (q : Int) : List Int := os.getD (q.toNat * 61 + j) []
def RunI (ar : List Int) (rs : List TranT) (n i : Nat) (q : Int) (u : List Int) : Prop := ∃ j, j < i ∧ (rs.getD j (0, [], 0)).2.2 = q ∧ ∃ v, u = (rs.getD j (0, [], 0)).1 :: v ∧ RunL ar rs (rs.getD j (0, [], 0)).2.1 n v
structure TabG (ar : List Int) (rs : List TranT) (k i : Nat) (os : List (List Int)) : Prop where
 len : os.length = 976
 bnd : ∀ i, (os.getD i []).length ≤ 60
 low : ∀ j q, j ≤ k → j ≤ 60 → 0 ≤ q → q < 16 → Lst (RunN ar rs q j) (cS os j q)
 row : ∀ q, k + 1 ≤ 60 → 0 ≤ q → q < 16 → Lst (RunI ar rs k i q) (cS os (k + 1) q)
 high : ∀ j q, k + 1 < j → j ≤ 60 → 0 ≤ q → q < 16 → cS os j q = []
theorem nil_getD {x : Nat} : (List.replicate 976 ([] : List Int)).getD x [] = [] := by rw [List.getD_eq_getElem?_getD, List.getElem?_replicate]; split <;> rfl
theorem TabG.start : TabG ar rs 0 0 (List.replicate 976 []) where
 len := List.length_replicate
 bnd := fun i => by rw [nil_getD]; exact Nat.zero_le _
 low := fun j q h _ _ _ => by unfold cS; rw [nil_getD, show j = 0 from by omega]; exact .none fun w => RunN.z
 row := fun q _ _ _ => by unfold cS; rw [nil_getD]; exact .none fun w ⟨j, hj, _⟩ => absurd hj (by omega)
 high := fun j q _ _ _ _ => by unfold cS; rw [nil_getD]
theorem TabG.turn (A : AutoOk ar m rs fi) (h : TabG ar rs k rs.length os) : TabG ar rs (k + 1) 0 os where
 len := h.len
 bnd := h.bnd
 low := fun j q h1 h2 h3 h4 => by
  by_cases e : j = k + 1
  ·subst e
   exact (h.row q h2 h3 h4).iff fun w => (runN_iff A h2).symm
  ·exact h.low j q (by omega) h2 h3 h4
 row := fun q h1 h2 h3 => by rw [h.high (k + 1 + 1) q (by omega) h1 h2 h3]; exact .none fun w ⟨j, hj, _⟩ => absurd hj (by omega)
 high := fun j q h1 h2 h3 h4 => h.high j q (by omega) h2 h3 h4
theorem runI_next : (RunI ar rs k i q u ∨ ((rs.getD i (0, [], 0)).2.2 = q ∧ ∃ v, u = (rs.getD i (0, [], 0)).1 :: v ∧ RunL ar rs (rs.getD i (0, [], 0)).2.1 k v)) ↔ RunI ar rs k (i + 1) q u := by
 constructor
 ·rintro (⟨j, hj, h⟩ | h)
  ·exact ⟨j, by omega, h⟩
  ·exact ⟨i, by omega, h⟩
 ·rintro ⟨j, hj, h⟩
  rcases Nat.lt_or_ge j i with h9 | h9
  ·exact .inl ⟨j, h9, h⟩
  ·rw [show j = i from by omega] at h; exact .inr h
def NewI (ar : List Int) (rs : List TranT) (k i : Nat) (g : List Int) : Prop := Lst (fun u => ∃ v, u = (rs.getD i (0, [], 0)).1 :: v ∧ RunL ar rs (rs.getD i (0, [], 0)).2.1 k v) g
theorem NewI.none (h : ∀ v, ¬ RunL ar rs (rs.getD i (0, [], 0)).2.1 k v) : NewI ar rs k i [] := Lst.none fun w ⟨v, _, hv⟩ => h v hv
theorem NewI.none0 (hq : (rs.getD i (0, [], 0)).2.1 = []) (hk : k ≠ 0) : NewI ar rs k i [] := Lst.none fun w ⟨v, _, hv⟩ => by rw [hq] at hv; exact hk hv.1
theorem NewI.zero (hq : (rs.getD i (0, [], 0)).2.1 = []) (hk : k = 0) : NewI ar rs k i [(rs.getD i (0, [], 0)).1] := by
 subst hk
 refine .inr ⟨by simp, ⟨[], rfl, by rw [hq]; exact ⟨rfl, rfl⟩⟩, ?_⟩
 rintro w ⟨v, e, hv⟩
 rw [hq] at hv
 rw [e, hv.2]; exact ltL.irrefl _
theorem NewI.cons (h : LstL ar rs (rs.getD i (0, [], 0)).2.1 k g) (hg : g ≠ []) : NewI ar rs k i ((rs.getD i (0, [], 0)).1 :: g) := by
 have h2 := Lst.yes h hg
 refine .inr ⟨by simp, ⟨g, rfl, h2.1⟩, ?_⟩
 rintro w ⟨v, e, hv⟩ l
 rw [e] at l
 rcases l with l | ⟨_, l⟩
 ·omega
 ·exact h2.2 v hv l
theorem lst_other (e : (rs.getD i (0, [], 0)).2.2 ≠ q) : Lst (fun u => (rs.getD i (0, [], 0)).2.2 = q ∧ ∃ v, u = (rs.getD i (0, [], 0)).1 :: v ∧ RunL ar rs (rs.getD i (0, [], 0)).2.1 k v) [] := .none fun w h => e h.1
theorem NewI.this (h : NewI ar rs k i g) : Lst (fun u => (rs.getD i (0, [], 0)).2.2 = (rs.getD i (0, [], 0)).2.2 ∧ ∃ v, u = (rs.getD i (0, [], 0)).1 :: v ∧ RunL ar rs (rs.getD i (0, [], 0)).2.1 k v) g := h.iff fun w => ⟨fun h => ⟨rfl, h⟩, fun h => h.2⟩
theorem TabG.skip (h : TabG ar rs k i os) (hg : NewI ar rs k i g) (hb : g = [] ∨ cS os (k + 1) (rs.getD i (0, [], 0)).2.2 ≠ [] ∧ ¬ ltL g (cS os (k + 1) (rs.getD i (0, [], 0)).2.2)) : TabG ar rs k (i + 1) os where
 len := h.len
 bnd := h.bnd
 low := h.low
 row := fun q h1 h2 h3 => by
  by_cases e : (rs.getD i (0, [], 0)).2.2 = q
  ·subst e
   exact (Lst.skip (h.row _ h1 h2 h3) hg.this hb).iff fun w => runI_next
  ·exact (Lst.skip (h.row q h1 h2 h3) (lst_other e) (.inl rfl)).iff fun w => runI_next
 high := h.high
theorem TabG.put (A : AutoOk ar m rs fi) (h : TabG ar rs k i os) (hi : i < rs.length) (hk : k + 1 ≤ 60) (hg : NewI ar rs k i g) (hne : g ≠ []) (hl : g.length ≤ 60) (hb : cS os (k + 1) (rs.getD i (0, [], 0)).2.2 = [] ∨ ltL g (cS os (k + 1) (rs.getD i (0, [], 0)).2.2)) : TabG ar rs k (i + 1) (os.set ((rs.getD i (0, [], 0)).2.2.toNat * 61 + (k + 1)) g) := by
 have hto := (A.rule i hi).to
 have h16 := A.n16
 have hlen := h.len
 have hoth : ∀ j q, j ≤ 60 → 0 ≤ q → q < 16 → ¬ (j = k + 1 ∧ q = (rs.getD i (0, [], 0)).2.2) → cS (os.set ((rs.getD i (0, [], 0)).2.2.toNat * 61 + (k + 1)) g) j q = cS os j q := fun j q hj h0 h1 hn => by
  unfold cS
  rw [List.getD_eq_getElem?_getD, List.getElem?_set_ne (by omega), ← List.getD_eq_getElem?_getD]
 refine ⟨by rw [List.length_set]; exact hlen, fun x => ?_, fun j q h1 h2 h3 h4 => ?_, fun q h1 h2 h3 => ?_, fun j q h1 h2 h3 h4 => ?_⟩
 ·rw [List.getD_eq_getElem?_getD, List.getElem?_set]
  split
  ·split
   ·rw [Option.getD_some]; exact hl
   ·rw [Option.getD_none]; exact Nat.zero_le _
  ·rw [← List.getD_eq_getElem?_getD]; exact h.bnd x
 ·rw [hoth j q h2 h3 h4 (by omega)]; exact h.low j q h1 h2 h3 h4
 ·by_cases e : (rs.getD i (0, [], 0)).2.2 = q
  ·subst e
   have e1 : cS (os.set ((rs.getD i (0, [], 0)).2.2.toNat * 61 + (k + 1)) g) (k + 1) (rs.getD i (0, [], 0)).2.2 = g := by
    unfold cS
    rw [List.getD_eq_getElem?_getD, List.getElem?_set_self (by omega)]; rfl
   rw [e1]
   exact (Lst.put (h.row _ h1 h2 h3) hg.this hne hb).iff fun w => runI_next
  ·rw [hoth _ q h1 h2 h3 (fun h9 => e h9.2.symm)]
   exact (Lst.skip (h.row q h1 h2 h3) (lst_other e) (.inl rfl)).iff fun w => runI_next
 ·rw [hoth j q h2 h3 h4 (by omega)]; exact h.high j q h1 h2 h3 h4
theorem TabG.one (h : TabG ar rs k i os) (hj : j ≤ k) (hj2 : j ≤ 60) (hq : qs.length = 1) (h0 : 0 ≤ qs.getD 0 0) (h1 : qs.getD 0 0 < 16) : LstL ar rs qs j (os.getD ((qs.getD 0 0).toNat * 61 + j) []) := by
 match qs, hq with
 | [q], _ => exact (h.low j q hj hj2 h0 h1).iff fun w => RunL.one.symm
def RunF (ar : List Int) (rs : List TranT) (fi : List Int) (n i : Nat) (u : List Int) : Prop := ∃ j, j < i ∧ RunN ar rs (fi.getD j 0) n u
theorem RunF.start : Lst (RunF ar rs fi n 0) [] := .none fun w ⟨j, hj, _⟩ => absurd hj (by omega)
theorem runF_next : (RunF ar rs fi n i u ∨ RunN ar rs (fi.getD i 0) n u) ↔ RunF ar rs fi n (i + 1) u := by
 constructor
 ·rintro (⟨j, hj, h⟩ | h)
  ·exact ⟨j, by omega, h⟩
  ·exact ⟨i, by omega, h⟩
 ·rintro ⟨j, hj, h⟩
  rcases Nat.lt_or_ge j i with h9 | h9
  ·exact .inl ⟨j, h9, h⟩
  ·rw [show j = i from by omega] at h; exact .inr h
theorem RunF.put (h : Lst (RunF ar rs fi n i) v) (hg : Lst (RunN ar rs (fi.getD i 0) n) g) (hne : g ≠ []) (hb : v = [] ∨ ltL g v) : Lst (RunF ar rs fi n (i + 1)) g := (Lst.put h hg hne hb).iff fun w => runF_next
theorem RunF.skip (h : Lst (RunF ar rs fi n i) v) (hg : Lst (RunN ar rs (fi.getD i 0) n) g) (hb : g = [] ∨ v ≠ [] ∧ ¬ ltL g v) : Lst (RunF ar rs fi n (i + 1)) v := (Lst.skip h hg hb).iff fun w => runF_next
def NoAcc (ar : List Int) (rs : List TranT) (fi : List Int) (k : Nat) : Prop := ∀ u, TermW ar u → u.length ≤ k → ¬ Acc ar rs fi u
theorem run_ge (A : AutoOk ar m rs fi) (h : Run ar rs q u) : TermW ar u → ∀ x ∈ u, 0 ≤ x := by
 induction h with
 | mk u i hi hh hl ha ih =>
  intro hu x hx
  rw [parts_flat hu, hh] at hx
  rcases List.mem_cons.1 hx with e | hx
  ·rw [e]; exact (A.rule i hi).sym.1
  ·obtain ⟨a, ha2, hxa⟩ := List.mem_flatten.1 hx
   obtain ⟨j, hj, rfl⟩ := List.getElem_of_mem ha2
   have e : (partsL ar u).getD j [] = (partsL ar u)[j] := by simp [List.getD, hj]
   refine ih j (by omega) (part_W hu hj) x ?_
   rw [e]; exact hxa
theorem NoAcc.start : NoAcc ar rs fi 0 := fun u hu hl => absurd hu.len.1 (by omega)
theorem NoAcc.next (A : AutoOk ar m rs fi) (h : NoAcc ar rs fi k) (hl : Lst (RunF ar rs fi (k + 1) fi.length) []) : NoAcc ar rs fi (k + 1) := fun u hu hl2 ⟨i, hi, hr⟩ => by
 rcases Nat.lt_or_ge k u.length with h9 | h9
 ·exact hl.no u ⟨i, hi, ⟨hu, run_ge A hr hu⟩, hr, by omega⟩
 ·exact h u hu h9 ⟨i, hi, hr⟩
theorem NoAcc.none (hA : autoB ar m rs fi = true) (h : NoAcc ar rs fi 60) : LeastR ar m rs fi [] false := ⟨fun e => (by rw [hA] at e; cases e), fun _ => ⟨fun e => (by cases e), fun _ => ⟨rfl, fun u hu => h u hu hu.len.2⟩⟩⟩
theorem NoAcc.least (A : AutoOk ar m rs fi) (hA : autoB ar m rs fi = true) (h : NoAcc ar rs fi k) (hl : Lst (RunF ar rs fi (k + 1) fi.length) v) (hv : v ≠ []) : LeastR ar m rs fi v true := by
 obtain ⟨⟨i, hi, hr⟩, hmin⟩ := hl.yes hv
 refine ⟨fun e => (by rw [hA] at e; cases e), fun _ => ⟨fun _ => ⟨hr.1, ⟨i, hi, hr.2.1⟩, fun u hu hacc => ?_⟩, fun e => by cases e⟩⟩
 rcases Nat.lt_or_ge k u.length with h9 | h9
 ·rcases Nat.lt_or_ge v.length u.length with h8 | h8
  ·exact .inl h8
  ·have hvl := hr.2.2
   obtain ⟨j, hj, hru⟩ := hacc
   refine .inr ⟨by omega, ?_⟩
   rcases ltL_tri (hmin u ⟨j, hj, ⟨hu, run_ge A hru hu⟩, hru, by omega⟩) with e | e
   ·exact .inl e.symm
   ·exact .inr e
 ·exact absurd hacc (h u hu h9)
end
end Go.Proofs.Ytgdcboopbmpdoaa.M
namespace Go.Proofs.Ytgdcboopbmpdoaa.X
open Go M WideMaps
def memH (b : Nat) (es : List (Value × Value)) : HP := fun l => ∃ (ea : Array MapEntry) (clock : Nat), l = [(b, .map ea clock)] ∧ ea.toList.map (fun e => (e.key, e.val)) = es
theorem Holds.getMem {F : FH} {A B : List HP} {b : Nat} {es : List (Value × Value)} {w : World} (h : Holds F (A ++ memH b es :: B) w) :
  ∃ (ea : Array MapEntry) (clock : Nat), ea.toList.map (fun e => (e.key, e.val)) = es ∧ w.heap[b]? = some (.map ea clock) ∧ Holds F (A ++ objH b (.map ea clock) :: B) w := by
 obtain ⟨h1, h2, h3, h4, l, hl, nd, hp⟩ := h
 obtain ⟨a, m, c, ha, ⟨ea, clock, rfl, hk⟩, hc, rfl⟩ := star_mid.1 hl
 have H : Holds F (A ++ objH b (.map ea clock) :: B) w := ⟨h1, h2, h3, h4, _, star_mid.2 ⟨a, _, c, ha, rfl, hc, rfl⟩, nd, hp⟩
 exact ⟨ea, clock, hk, H.get, H⟩
theorem Sub.mkMem {A B : List HP} {b : Nat} {es : List (Value × Value)} {ea : Array MapEntry} {clock : Nat} (hk : ea.toList.map (fun e => (e.key, e.val)) = es) :
  Sub (A ++ objH b (.map ea clock) :: B) (A ++ memH b es :: B) := Sub.mid fun l hl => ⟨ea, clock, hl, hk⟩
theorem Holds.putMem {F : FH} {A B : List HP} {b : Nat} {ea ea' : Array MapEntry} {clock clock' : Nat} {es : List (Value × Value)} {w : World} (H : Holds F (A ++ objH b (.map ea clock) :: B) w) (hb : w.heap[b]? = some (.map ea clock))
  (hk : ea'.toList.map (fun e => (e.key, e.val)) = es) : Holds F (A ++ memH b es :: B) { w with heap := w.heap.setIfInBounds b (.map ea' clock') } :=
 (Sub.mkMem hk).holds (H.put rfl rfl rfl (MapKept.heap_set hb).1 (MapKept.heap_set hb).2)
open Classical in
noncomputable def memFind (es : List (Value × Value)) (k : Value) : Option Value := (es.find? fun p => decide (p.1 = k)).map (·.2)
theorem memFind_none {es : List (Value × Value)} {k : Value} (h : ∀ p ∈ es, p.1 ≠ k) : memFind es k = none := by
 unfold memFind
 rw [List.find?_eq_none.2 fun p hp => by simpa using h p hp]; rfl
theorem memFind_some {es : List (Value × Value)} {k u : Value} (hn : (es.map (·.1)).Nodup) (h : (k, u) ∈ es) : memFind es k = some u := by
 induction es with
 | nil => simp at h
 | cons p es ih =>
  rw [List.map_cons, List.nodup_cons] at hn
  unfold memFind at ih ⊢
  rw [List.find?_cons]
  rcases List.mem_cons.1 h with e | h
  ·subst e; simp
  ·have hne : p.1 ≠ k := fun e => hn.1 (by rw [e]; exact List.mem_map.2 ⟨(k, u), h, rfl⟩)
   simp only [hne, decide_false]
   exact ih hn.2 h
theorem memFind_mem {es : List (Value × Value)} {k u : Value} (h : memFind es k = some u) : (k, u) ∈ es := by
 unfold memFind at h
 obtain ⟨p, hp, e⟩ := Option.map_eq_some_iff.1 h
 have h1 := List.mem_of_find?_eq_some hp
 have h2 := List.find?_some hp
 have h3 : p.1 = k := by simpa using h2
 rw [← h3, ← e]; exact h1
open Classical in
noncomputable def memPut (es : List (Value × Value)) (k u : Value) : List (Value × Value) := if (memFind es k).isSome = true then es.map fun p => if p.1 = k then (k, u) else p else es ++ [(k, u)]
theorem memPut_mem {es : List (Value × Value)} {k u : Value} {p : Value × Value} (h : p ∈ memPut es k u) : p ∈ es ∨ p = (k, u) := by
 unfold memPut at h
 split at h
 ·obtain ⟨x, hx, e⟩ := List.mem_map.1 h
  split at e
  ·exact .inr e.symm
  ·exact .inl (e ▸ hx)
 ·rcases List.mem_append.1 h with h | h
  ·exact .inl h
  ·exact .inr (by simpa using h)
open Classical in
theorem memPut_nodup {es : List (Value × Value)} {k u : Value} (hn : (es.map (·.1)).Nodup) : ((memPut es k u).map (·.1)).Nodup := by
 unfold memPut
 split
 ·rw [List.map_map]
  have e : ((·.1) ∘ fun p : Value × Value => if p.1 = k then (k, u) else p) = (·.1) := by
   funext p
   show (if p.1 = k then (k, u) else p).1 = p.1
   split
   ·rename_i h; exact h.symm
   ·rfl
  rw [e]; exact hn
 ·rename_i h
  rw [List.map_append]
  refine List.nodup_append.2 ⟨hn, by simp, fun a ha b hb e => h ?_⟩
  obtain ⟨p, hp, rfl⟩ := List.mem_map.1 ha
  have hb2 : b = k := by simpa using hb
  rw [hb2] at e
  have : (k, p.2) ∈ es := by rw [← e]; exact hp
  rw [memFind_some hn this]; rfl
theorem nodup_keys {ea : List MapEntry} {es : List (Value × Value)} (he : ea.map (fun e => (e.key, e.val)) = es) : ea.map (·.key) = es.map (·.1) := by rw [← he, List.map_map]; rfl
section
variable {P : Program} {ρ : Env} {F : FH} {L : List HP} {K : Post} {d : Option Tmp} {ty : TypeId} {pos : String} {af : Array Edge} {g : Option (Nat × Bool)}
theorem XOp.makeMapA {t : TypeId} (k : ∀ b, K (.map (some b)) F (memH b [] :: L)) : XOp P ⟨d, .makeMap t none, ty, pos, af, g⟩ ρ F L K := by
 intro w H
 refine .inl ⟨.map (some w.heap.size), w.alloc (.map #[] 0), F, _, ?_, FLe.refl F, (Sub.mkMem (A := []) (es := []) rfl).holds (H.new (.map #[] 0)), k _⟩
 simp [execOp, Instr.makeMap, newObj, Sem.run]
theorem find_mem {kt : TypeId} (KL : KeyLaw P kt) {ea : List MapEntry} {es : List (Value × Value)} {key : Value} (he : ea.map (fun e => (e.key, e.val)) = es) (hk : ∀ p ∈ es, ∃ l, keyOf P kt p.1 = some l) (hn : (es.map (·.1)).Nodup) (hkey : ∃ l, keyOf P kt key = some l) (w : World) :
  ((Instr.findKey kt key ea).run P w = .ok none w ∧ memFind es key = none) ∨ ∃ j e, (Instr.findKey kt key ea).run P w = .ok (some (j, e.val)) w ∧ ea[j]? = some e ∧ e.key = key ∧ memFind es key = some e.val := by
 obtain ⟨l, hl⟩ := hkey
 have hm : ∀ e ∈ ea, (e.key, e.val) ∈ es := fun e h => by rw [← he]; exact List.mem_map.2 ⟨e, h, rfl⟩
 rcases KL.find w hl ea (fun e h => hk _ (hm e h)) with ⟨h1, h2⟩ | ⟨j, e, h1, h2, h3⟩
 ·refine .inl ⟨h1, memFind_none fun p hp => ?_⟩
  rw [← he] at hp
  obtain ⟨e, h, rfl⟩ := List.mem_map.1 hp
  exact h2 e h
 ·exact .inr ⟨j, e, h1, h2, h3, memFind_some hn (by rw [← h3]; exact hm e (List.mem_of_getElem? h2))⟩
theorem XOp.lookupA {t kt et : TypeId} {x ix : Operand} {b : Nat} {es : List (Value × Value)} {key z : Value} (A : List HP) {B : List HP} (KL : KeyLaw P kt) (hm : P.underlying t = some (.map kt et)) (hz : ∀ w, (zeroValue et).run P w = .ok z w)
  (hx : evO ρ x = .map (some b)) (hi : evO ρ ix = key) (hL : L = A ++ memH b es :: B) (hk : ∀ p ∈ es, ∃ l, keyOf P kt p.1 = some l) (hn : (es.map (·.1)).Nodup) (hkey : ∃ l, keyOf P kt key = some l)
  (k : K (.tuple #[(memFind es key).getD z, .bool (memFind es key).isSome]) F L) : XOp P ⟨d, .lookup t x ix true, ty, pos, af, g⟩ ρ F L K := by
 subst hL
 refine XOp.value (fun w H => ?_) k
 obtain ⟨ea, clock, he, hb, _⟩ := H.getMem
 obtain ⟨l, hl⟩ := hkey
 rcases find_mem KL he hk hn ⟨l, hl⟩ w with ⟨h1, h2⟩ | ⟨j, e, h1, h2, h3, h4⟩
 ·simp [execOp, hx, hi, Instr.lookup, run_underlying hm, MapKept.run_getObj_map hb, KL.check w _ hl, h1, Result.andThen, hz, h2]
 ·simp [execOp, hx, hi, Instr.lookup, run_underlying hm, MapKept.run_getObj_map hb, KL.check w _ hl, h1, Result.andThen, h4]
theorem XOp.updateA {t kt et : TypeId} {m x y : Operand} {b : Nat} {es : List (Value × Value)} {key u : Value} (A : List HP) {B : List HP} (KL : KeyLaw P kt) (hm : P.underlying t = some (.map kt et))
  (hx : evO ρ m = .map (some b)) (hi : evO ρ x = key) (hy : evO ρ y = u) (hL : L = A ++ memH b es :: B) (hk : ∀ p ∈ es, ∃ l, keyOf P kt p.1 = some l) (hn : (es.map (·.1)).Nodup) (hkey : ∃ l, keyOf P kt key = some l)
  (k : K undef F (A ++ memH b (memPut es key u) :: B)) : XOp P ⟨d, .mapUpdate t m x y, ty, pos, af, g⟩ ρ F L K := by
 subst hL
 intro w H
 obtain ⟨ea, clock, he, hb, H2⟩ := H.getMem
 obtain ⟨l, hl⟩ := hkey
 rcases find_mem KL he hk hn ⟨l, hl⟩ w with ⟨h1, h2⟩ | ⟨j, e, h1, h2, h3, h4⟩
 ·refine .inr (.inl ⟨{ w with heap := w.heap.setIfInBounds b (.map (ea.push { key := key, val := u, born := clock }) (clock + 1)) }, F, _, ?_, FLe.refl F, H2.putMem hb ?_, k⟩)
  ·simp [execOp, hx, hi, hy, Instr.mapUpdate, run_underlying hm, MapKept.run_getObj_map hb, KL.check w _ hl, h1, MapKept.run_setObj_map _ hb, Result.andThen]
  ·rw [Array.toList_push, List.map_append, he]
   unfold memPut
   rw [h2]; rfl
 ·have hj : ea[j]? = some e := by simpa using h2
  refine .inr (.inl ⟨{ w with heap := w.heap.setIfInBounds b (.map (ea.modify j fun e => { e with key := key, val := u }) clock) }, F, _, ?_, FLe.refl F, H2.putMem hb ?_, k⟩)
  ·simp [execOp, hx, hi, hy, Instr.mapUpdate, run_underlying hm, MapKept.run_getObj_map hb, KL.check w _ hl, h1, hj, h3, KL.stays w hl, MapKept.run_setObj_map _ hb, Result.andThen]
  ·unfold memPut
   rw [h4, if_pos (show (some e.val).isSome = true from rfl), ← he, List.map_map]
   rw [Array.toList_modify]
   refine List.ext_getElem? fun i => ?_
   rw [List.getElem?_map, List.getElem?_map, List.getElem?_modify]
   by_cases hij : j = i
   ·subst hij
    rw [h2]; simp [h3]
   ·cases hi2 : ea.toList[i]? with
    | none => simp [hij]
    | some e2 =>
     have hne : e2.key ≠ key := fun e9 => by
      have hn2 : (ea.toList.map (·.key)).Nodup := by rw [nodup_keys he]; exact hn
      obtain ⟨hjl, hje⟩ := List.getElem?_eq_some_iff.1 h2
      obtain ⟨hil, hie⟩ := List.getElem?_eq_some_iff.1 hi2
      have hp := List.pairwise_iff_getElem.1 hn2
      have hlj : j < (ea.toList.map (·.key)).length := by rw [List.length_map]; exact hjl
      have hli : i < (ea.toList.map (·.key)).length := by rw [List.length_map]; exact hil
      rcases Nat.lt_or_gt_of_ne hij with h | h
      ·exact hp j i hlj hli h (by rw [List.getElem_map, List.getElem_map, hje, hie, h3, e9])
      ·exact hp i j hli hlj h (by rw [List.getElem_map, List.getElem_map, hje, hie, h3, e9])
     simp [hij, hne]
theorem XOp.copyK {x y : Operand} {t e : TypeId} {b : Nat} {v : Value} {xs : List Int} {c3 : Value} {E : TypeId} (A B : List HP) (hu : P.underlying t = some (.slice e)) (hs : ∀ w, (sizeOf e).run P w = .ok 1 w)
  (hx : evO ρ x = .slice (some ⟨b, 0, none⟩) 4 4) (hy : evO ρ y = v) (hL : L = A ++ cellsH b [.int .i64 (-1), .int .i64 (-1), .int .i64 (-1), c3] E :: B) (hv : IntsF F v xs) (h1 : 1 ≤ xs.length) (h3 : xs.length ≤ 3)
  (k : K (.int .i64 ((xs.length : Nat) : Int)) F (A ++ cellsH b [.int .i64 (xs.getD 0 (-1)), .int .i64 (xs.getD 1 (-1)), .int .i64 (xs.getD 2 (-1)), c3] E :: B)) :
  XOp P ⟨d, .call { callee := .builtin .copy, args := #[x, y], argTypes := #[t, t] }, ty, pos, af, g⟩ ρ F L K := by
 subst hL
 intro w H
 obtain ⟨base, cap, rfl, hc, hn⟩ := hv.slv (L := A ++ cellsH b [.int .i64 (-1), .int .i64 (-1), .int .i64 (-1), c3] E :: B) w H
 cases base with
 | none => have := hn rfl; omega
 | some a =>
  have hsrc : ∀ j u, (xs.map (Value.int .i64))[j]? = some u → w.cell? (a.add j) = some u := fun j u hu => Rd.arr hv hu w H
  obtain ⟨w', hrun, H'⟩ := storeCells_one (P := P) (vs := xs.map (Value.int .i64)) (o := 0) H (by simp; omega) (by
   intro u hu
   obtain ⟨z, _, rfl⟩ := List.mem_map.1 hu
   rfl)
  have hf := run_firstCells_some (P := P) w 1 xs.length a xs.length cap (xs.map (Value.int .i64)) (by simp) hsrc
  have hmin : Nat.min xs.length 4 = xs.length := Nat.min_eq_left (by omega)
  have hcs : List.take 0 [Value.int .i64 (-1), .int .i64 (-1), .int .i64 (-1), c3] ++ xs.map (Value.int .i64) ++ List.drop (0 + (xs.map (Value.int .i64)).length) [.int .i64 (-1), .int .i64 (-1), .int .i64 (-1), c3] = [.int .i64 (xs.getD 0 (-1)), .int .i64 (xs.getD 1 (-1)), .int .i64 (xs.getD 2 (-1)), c3] := by
   match xs, h1, h3 with
   | [p], _, _ => rfl
   | [p, q], _, _ => rfl
   | [p, q, r], _, _ => rfl
  rw [hcs] at H'
  refine .inl ⟨.int .i64 ((xs.length : Nat) : Int), w', F, _, ?_, FLe.refl F, H', k⟩
  simp [execOp, resolve, invoke, builtin, hx, hy, Builtin.copy_, run_underlying hu, Builtin.lenOf, hs, hmin, hf, hrun, goInt]
theorem XOp.buildArr {t e : TypeId} {s m : Nat} {ps : List (Nat × Operand)} {z : Value} (cs zs : List Value) (pl : List (Nat × List Value))
  (hu : ∀ w, (underlying t).run P w = .ok (.array m e) w) (hs : ∀ w, (sizeOf e).run P w = .ok s w) (hz : ∀ w, (zeroValue t).run P w = .ok z w) (hzs : z.cells = zs.toArray)
  (hk : fillL (fun i => some (i * s, s)) zs pl = some cs) (hc : CellsAre ρ ps pl) (k : K (.agg cs.toArray) F L) : XOp P ⟨d, .build t ps.toArray, ty, pos, af, g⟩ ρ F L K :=
 XOp.value (fun w _ => by
  have e : (Instr.build t (ps.map fun p => (p.1, evO ρ p.2)).toArray).run P w = .ok (.agg cs.toArray) w := by
   unfold Instr.build
   have h2 := fill_eq (fun i => some (i * s, s)) hc zs
   rw [hk] at h2
   simp only [Sem.run_bind, hz, Result.andThen_ok, hu, hs, hzs]
   simp only [h2, Option.map_some, Sem.run_pure]
  simp [execOp, e]) k
theorem XOp.sliceArrF {x : Operand} {t e : TypeId} {n b o : Nat} (hu : ∀ w, (underlying t).run P w = .ok (.array n e) w) (hs : ∀ w, (sizeOf e).run P w = .ok 1 w) (hx : evO ρ x = ptr b o)
  (k : K (.slice (some ⟨b, o, none⟩) n n) F L) : XOp P ⟨d, .slice t x none none none, ty, pos, af, g⟩ ρ F L K := by
 refine XOp.value (fun w H => ?_) k
 have e1 : (Instr.sliceBounds false n n none none none).run P w = .ok (0, n, n) w := by
  unfold Instr.sliceBounds
  simp [Sem.run_bind]
 simp [execOp, hx, Instr.sliceAt, hu, hs, Instr.sureAddr, e1, Addr.add]
end
section
variable {cs : List Value} {m a : Value} {i n : Nat} {u : List Int} {F : FH}
theorem sm_get (h : cs[i]? = some a) : (cs ++ [m])[i]? = some a := by rw [List.getElem?_append_left (List.getElem?_eq_some_iff.1 h).1]; exact h
theorem sm_map (h : cs.length = 976) : (cs ++ [m])[976]? = some m := by rw [List.getElem?_append_right (by omega), h]; rfl
theorem sm_set (h : i < cs.length) : (cs ++ [m]).set i a = cs.set i a ++ [m] := by rw [List.set_append_left _ _ h]
theorem sm_blt (h : i < cs.length) : Nat.blt i (cs ++ [m]).length = true := Nat.ble_eq_true_of_le (by rw [List.length_append]; omega)
theorem nil_no (h : IntsF F a u) (hu : u ≠ []) : isNil a = decide (u = []) := by rw [notNil_of_pos h (List.length_pos_iff.2 hu), decide_eq_false hu]
theorem nil_yes (h : isNil a = decide (u = [])) (k : isNil a = true) : u = [] := by rw [h] at k; exact of_decide_eq_true k
theorem nil_not (h : isNil a = decide (u = [])) (k : isNil a = false) : u ≠ [] := by rw [h] at k; exact of_decide_eq_false k
end
def smZ : List Value := List.replicate 976 (.slice none 0 0)
theorem smZ_bind {F : FH} : BindC F smZ (List.replicate 976 []) := BindC.nils 976
def keyV (qs : List Int) (n : Nat) : Value := .agg #[.int .i64 (qs.getD 0 (-1)), .int .i64 (qs.getD 1 (-1)), .int .i64 (qs.getD 2 (-1)), .int .i64 ((n : Nat) : Int)]
def KeyQ (qs : List Int) (n : Nat) : Prop := 1 ≤ qs.length ∧ qs.length ≤ 3 ∧ (∀ i, i < qs.length → 0 ≤ qs.getD i 0 ∧ qs.getD i 0 < 16) ∧ n ≤ 60
theorem KeyQ.bd {qs : List Int} {n : Nat} (h : KeyQ qs n) (i : Nat) : -1 ≤ qs.getD i (-1) ∧ qs.getD i (-1) < 16 := by
 rcases Nat.lt_or_ge i qs.length with h9 | h9
 ·have := h.2.2.1 i h9
  rw [List.getD_eq_getElem?_getD, List.getElem?_eq_getElem h9] at this ⊢
  simp only [Option.getD_some] at this ⊢
  omega
 ·rw [List.getD_eq_getElem?_getD, List.getElem?_eq_none h9]; decide
theorem key_ok {P : Program} {kt e : TypeId} (A : ArrKey P kt e 4) (he : P.underlying e = some (.int .i64)) (hsz : ∃ m, P.types.size = m + 1) {qs : List Int} {n : Nat} (h : KeyQ qs n) : ∃ l, keyOf P kt (keyV qs n) = some l := by
 have hkt := A.keyType hsz
 obtain ⟨m0, hm0⟩ := hsz
 have hw : ∀ x : Int, -1 ≤ x → x ≤ 60 → (Lit.int .i64 x).wf = true := fun x h1 h2 => by
  simp only [Lit.wf, Bool.and_eq_true, decide_eq_true_eq]
  exact ⟨Int.le_trans (by decide : IntKind.min .i64 ≤ -1) h1, Int.le_trans h2 (by decide : (60 : Int) ≤ IntKind.max .i64)⟩
 have h0 := h.bd 0
 have h1 := h.bd 1
 have h2 := h.bd 2
 have h4 := h.2.2.2
 have e0 := hw _ h0.1 (by omega)
 have e1 := hw _ h1.1 (by omega)
 have e2 := hw _ h2.1 (by omega)
 have e3 := hw ((n : Nat) : Int) (by omega) (by omega)
 unfold keyOf keyV
 simp only [A.hu]
 rw [if_pos (by simp [hkt, Value.formed, A.hu, A.size]), hm0]
 unfold Program.keyLits
 simp only [A.hu, Value.cells]
 rw [if_pos (by rw [A.size]; rfl)]
 refine ⟨.string (keyBytes [.int .i64 (qs.getD 0 (-1)), .int .i64 (qs.getD 1 (-1)), .int .i64 (qs.getD 2 (-1)), .int .i64 ((n : Nat) : Int)]), ?_⟩
 have hl : ∀ x : Int, (Lit.int .i64 x).wf = true → P.keyLits (m0 + 1) e [.int .i64 x] = some [.int .i64 x] := fun x hx => by
  unfold Program.keyLits
  simp only [he]
  rw [if_pos (by exact ⟨trivial, hx⟩)]
 have hr : List.range 4 = [0, 1, 2, 3] := by decide
 rw [hr, A.one]
 simp only [List.mapM_cons, List.mapM_nil, Nat.zero_mul, Nat.one_mul, Nat.mul_one, List.drop_zero, List.drop_succ_cons, List.take_succ_cons, List.take_zero, hl _ e0, hl _ e1, hl _ e2, hl _ e3]
 rfl
theorem key_inj {qs qs' : List Int} {n n' : Nat} (h : KeyQ qs n) (h' : KeyQ qs' n') (e : keyV qs n = keyV qs' n') : qs = qs' ∧ n = n' := by
 unfold keyV at e
 simp only [Value.agg.injEq, Array.mk.injEq, List.cons.injEq, Value.int.injEq, true_and, and_true] at e
 obtain ⟨e0, e1, e2, e3⟩ := e
 refine ⟨?_, by omega⟩
 have key : ∀ {l l' : List Int}, (∀ i, i < l.length → 0 ≤ l.getD i 0) → l.length ≤ 3 → l'.length ≤ 3 → l.getD 0 (-1) = l'.getD 0 (-1) → l.getD 1 (-1) = l'.getD 1 (-1) → l.getD 2 (-1) = l'.getD 2 (-1) → l.length ≤ l'.length := by
  intro l l' hl h1 h2 f0 f1 f2
  refine Nat.le_of_not_lt fun hlt => ?_
  have hx := hl l'.length hlt
  have e9 : l.getD l'.length (-1) = l'.getD l'.length (-1) := by
   have h9 : l'.length = 0 ∨ l'.length = 1 ∨ l'.length = 2 := by omega
   rcases h9 with h9 | h9 | h9 <;> rw [h9] <;> assumption
  rw [List.getD_eq_getElem?_getD, List.getD_eq_getElem?_getD, List.getElem?_eq_none (Nat.le_refl l'.length), List.getElem?_eq_getElem hlt] at e9
  rw [List.getD_eq_getElem?_getD, List.getElem?_eq_getElem hlt] at hx
  simp only [Option.getD_some, Option.getD_none] at e9 hx
  omega
 have hl : qs.length = qs'.length := Nat.le_antisymm (key (fun i hi => (h.2.2.1 i hi).1) h.2.1 h'.2.1 e0 e1 e2) (key (fun i hi => (h'.2.2.1 i hi).1) h'.2.1 h.2.1 e0.symm e1.symm e2.symm)
 refine List.ext_getElem hl fun i hi hi' => ?_
 have h9 : i = 0 ∨ i = 1 ∨ i = 2 := by have := h.2.1; omega
 have e9 : qs.getD i (-1) = qs'.getD i (-1) := by rcases h9 with h9 | h9 | h9 <;> rw [h9] <;> assumption
 rw [List.getD_eq_getElem?_getD, List.getD_eq_getElem?_getD, List.getElem?_eq_getElem hi, List.getElem?_eq_getElem hi'] at e9
 simpa using e9
structure MemC (ar : List Int) (rs : List TranT) (F : FH) (es : List (Value × Value)) : Prop where
 nodup : (es.map (·.1)).Nodup
 each : ∀ p ∈ es, ∃ qs n u, p.1 = keyV qs n ∧ KeyQ qs n ∧ IntsF F p.2 u ∧ isNil p.2 = decide (u = []) ∧ LstL ar rs qs n u
section
variable {ar : List Int} {rs : List TranT} {F F' : FH} {es : List (Value × Value)} {qs u : List Int} {n : Nat} {a : Value}
theorem MemC.mono (h : MemC ar rs F es) (le : F ≤ F') : MemC ar rs F' es := ⟨h.nodup, fun p hp => by obtain ⟨qs, n, u, h1, h2, h3, h4⟩ := h.each p hp; exact ⟨qs, n, u, h1, h2, h3.mono le, h4⟩⟩
theorem MemC.start : MemC ar rs F [] := ⟨by simp, fun p hp => absurd hp (by simp)⟩
theorem MemC.put (h : MemC ar rs F es) (hk : KeyQ qs n) (ha : IntsF F a u) (hn : isNil a = decide (u = [])) (hl : LstL ar rs qs n u) : MemC ar rs F (memPut es (keyV qs n) a) :=
 ⟨memPut_nodup h.nodup, fun p hp => (memPut_mem hp).elim (h.each p) fun e => by subst e; exact ⟨qs, n, u, rfl, hk, ha, hn, hl⟩⟩
theorem MemC.keys {P : Program} {kt e : TypeId} (h : MemC ar rs F es) (A : ArrKey P kt e 4) (he : P.underlying e = some (.int .i64)) (hsz : ∃ m, P.types.size = m + 1) : ∀ p ∈ es, ∃ l, keyOf P kt p.1 = some l := fun p hp => by
 obtain ⟨qs, n, u, h1, h2, _⟩ := h.each p hp
 rw [h1]; exact key_ok A he hsz h2
theorem MemC.look (h : MemC ar rs F es) (hk : KeyQ qs n) : ∃ u, IntsF F ((memFind es (keyV qs n)).getD (.slice none 0 0)) u ∧ isNil ((memFind es (keyV qs n)).getD (.slice none 0 0)) = decide (u = []) ∧ ((memFind es (keyV qs n)).isSome = true → LstL ar rs qs n u) := by
 cases hf : memFind es (keyV qs n) with
 | none => exact ⟨[], IntsF.nilV, rfl, fun h => by cases h⟩
 | some v =>
  obtain ⟨qs', n', u, h1, h2, h3, h4, h5⟩ := h.each _ (memFind_mem hf)
  obtain ⟨rfl, rfl⟩ := key_inj hk h2 h1
  exact ⟨u, h3, h4, fun _ => h5⟩
end
end Go.Proofs.Ytgdcboopbmpdoaa.X
namespace Go.Proofs.Ytgdcboopbmpdoaa.M
open X
section
variable {ar fi qs qs' t u v w r : List Int} {m q q' : Int} {rs : List TranT} {a f i j k K n : Nat} {lv : Nat → List (List Int)} {os L : List (List Int)} {P Q : List Int → Prop} {mm : List (List (List Int))}
theorem Run.one (hs : SureP rs) (h : Run ar rs q u) : Run ar rs q' u → q = q' := by
 induction h generalizing q' with
 | mk u i hi hh hl ha ih =>
  intro h'
  cases h' with
  | mk _ i' hi' hh' hl' ha' =>
   have e1 : (rs.getD i (0, [], 0)).1 = (rs.getD i' (0, [], 0)).1 := by rw [← hh, ← hh']
   have e2 : (rs.getD i (0, [], 0)).2.1 = (rs.getD i' (0, [], 0)).2.1 := eq_of_getD (by omega) fun j hj => ih j hj (ha' j (by omega))
   rcases Nat.lt_trichotomy i i' with h9 | h9 | h9
   ·exact (hs i' i hi' h9 ⟨e1.symm, e2.symm⟩).elim
   ·rw [h9]
   ·exact (hs i i' hi h9 ⟨e1, e2⟩).elim
theorem RunL.app (ht : GT ar t) (hl : t.length ≤ n) : RunL ar rs (q :: qs) n (t ++ r) ↔ Run ar rs q t ∧ RunL ar rs qs (n - t.length) r := by
 constructor
 ·rintro ⟨a, b, e, h, hl, h2⟩
  obtain ⟨rfl, rfl⟩ := WF_same ht.1.wf h.1.1.wf e
  exact ⟨h.2.1, h2⟩
 ·rintro ⟨h, h2⟩
  exact ⟨t, r, rfl, ⟨ht, h, rfl⟩, hl, h2⟩
theorem RunL.same (hs : SureP rs) : ∀ {qs qs' : List Int} {n : Nat} {v : List Int}, qs.length = qs'.length → RunL ar rs qs n v → RunL ar rs qs' n v → qs = qs'
 | [], [], _, _, _, _, _ => rfl
 | [], _ :: _, _, _, h, _, _ => by simp at h
 | _ :: _, [], _, _, h, _, _ => by simp at h
 | q :: qs, q' :: qs', n, v, h, ⟨a, b, e, ha, hl, hb⟩, k => by
  rw [e] at k
  obtain ⟨k1, k2⟩ := (RunL.app ha.1 hl).1 k
  rw [ha.2.1.one hs k1, RunL.same hs (by simpa using h) hb k2]
open Classical in
noncomputable def cnt (P : List Int → Prop) (L : List (List Int)) : Nat := L.countP fun u => decide (P u)
theorem cnt_nil : cnt P [] = 0 := rfl
theorem cnt_app {L L' : List (List Int)} : cnt P (L ++ L') = cnt P L + cnt P L' := List.countP_append
theorem cnt_le : cnt P L ≤ L.length := List.countP_le_length
theorem cnt_perm {L L' : List (List Int)} (h : L.Perm L') : cnt P L = cnt P L' := h.countP_eq _
open Classical in
theorem cnt_congr (h : ∀ u ∈ L, P u ↔ Q u) : cnt P L = cnt Q L := by
 unfold cnt
 exact List.countP_congr fun u hu => by rw [decide_eq_true_iff, decide_eq_true_iff]; exact h u hu
open Classical in
theorem cnt_none (h : ∀ u ∈ L, ¬ P u) : cnt P L = 0 := by
 unfold cnt
 rw [List.countP_eq_zero]
 exact fun u hu k => h u hu (of_decide_eq_true k)
open Classical in
theorem cnt_cons_yes (h : P u) : cnt P (u :: L) = cnt P L + 1 := by unfold cnt; exact List.countP_cons_of_pos (decide_eq_true h)
open Classical in
theorem cnt_cons_no (h : ¬ P u) : cnt P (u :: L) = cnt P L := by unfold cnt; exact List.countP_cons_of_neg (by simpa using h)
theorem cnt_or (h : ∀ u ∈ L, P u → ¬ Q u) : cnt (fun u => P u ∨ Q u) L = cnt P L + cnt Q L := by
 induction L with
 | nil => rfl
 | cons x L ih =>
  have ih := ih fun u hu => h u (List.mem_cons_of_mem _ hu)
  have hx := h x (List.mem_cons_self ..)
  by_cases hp : P x
  ·rw [cnt_cons_yes (P := fun u => P u ∨ Q u) (.inl hp), cnt_cons_yes hp, cnt_cons_no (hx hp), ih]; omega
  ·by_cases hq : Q x
   ·rw [cnt_cons_yes (P := fun u => P u ∨ Q u) (.inr hq), cnt_cons_no hp, cnt_cons_yes hq, ih]; omega
   ·rw [cnt_cons_no (P := fun u => P u ∨ Q u) (fun k => k.elim hp hq), cnt_cons_no hp, cnt_cons_no hq, ih]
open Classical in
theorem cnt_map {g : List Int → List Int} : cnt P (L.map g) = cnt (fun u => P (g u)) L := by
 unfold cnt
 rw [List.countP_map]
 rfl
theorem cnt_prod {P Q S : List Int → Prop} {R : List (List Int)} : ∀ {T : List (List Int)}, (∀ t ∈ T, ∀ r ∈ R, (P (t ++ r) ↔ Q t ∧ S r)) → cnt P (T.flatMap fun t => R.map (t ++ ·)) = cnt Q T * cnt S R
 | [], _ => by rw [List.flatMap_nil, cnt_nil, cnt_nil, Nat.zero_mul]
 | t :: T, h => by
  have ih := cnt_prod (T := T) fun x hx => h x (List.mem_cons_of_mem _ hx)
  have ht := h t (List.mem_cons_self ..)
  rw [List.flatMap_cons, cnt_app, ih, cnt_map]
  by_cases hq : Q t
  ·rw [cnt_cons_yes hq, cnt_congr (P := fun r => P (t ++ r)) (Q := S) fun r hr => (ht r hr).trans ⟨fun k => k.2, fun k => ⟨hq, k⟩⟩, Nat.succ_mul, Nat.add_comm]
  ·rw [cnt_cons_no hq, cnt_none (P := fun r => P (t ++ r)) fun r hr k => hq ((ht r hr).1 k).1, Nat.zero_add]
structure LvOk (ar : List Int) (lv : Nat → List (List Int)) (K : Nat) : Prop where
 sig : sigOk ar = true
 k60 : K ≤ 60
 lvl : ∀ j, j < K → (lv (j + 1)).Perm (LvU ar lv j ar.length)
 few : ∀ j, (lv j).length ≤ 200
theorem rowsA_mem : ∀ {a n : Nat} {v : List Int}, v ∈ RowsA lv (a + 1) n ↔ ∃ k, k < n ∧ ∃ t, t ∈ lv (k + 1) ∧ ∃ r, r ∈ RowsA lv a (n - (k + 1)) ∧ v = t ++ r := fun {a n v} => by
 rw [RowsA, List.mem_flatMap]
 simp only [List.mem_flatMap, List.mem_range, List.mem_map]
 constructor
 ·rintro ⟨k, hk, t, ht, r, hr, e⟩; exact ⟨k, hk, t, ht, r, hr, e.symm⟩
 ·rintro ⟨k, hk, t, ht, r, hr, e⟩; exact ⟨k, hk, t, ht, r, hr, e.symm⟩
def SndL (ar : List Int) (lv : Nat → List (List Int)) (k : Nat) : Prop := ∀ j, j < k → ∀ t ∈ lv (j + 1), GT ar t ∧ t.length = j + 1
theorem rows_snd (hs : SndL ar lv k) : ∀ {a n : Nat} {v : List Int}, n ≤ k → v ∈ RowsA lv a n → WF ar v a ∧ v.length = n ∧ ∀ x ∈ v, 0 ≤ x
 | 0, n, v, _, h => by
  rw [RowsA] at h
  by_cases e : n = 0
  ·rw [if_pos e, List.mem_singleton] at h
   subst h; exact ⟨WF_nil, e.symm, fun x hx => absurd hx (by simp)⟩
  ·rw [if_neg e] at h; exact absurd h (by simp)
 | a + 1, n, v, hn, h => by
  obtain ⟨j, hj, t, ht, r, hr, rfl⟩ := rowsA_mem.1 h
  have h1 := hs j (by omega) t ht
  have h2 := rows_snd hs (by omega) hr
  refine ⟨by rw [Nat.add_comm]; exact WF_app h1.1.1.wf h2.1, by rw [List.length_append]; omega, fun x hx => ?_⟩
  rcases List.mem_append.1 hx with hx | hx
  ·exact h1.1.2 x hx
  ·exact h2.2.2 x hx
theorem LvOk.snd (h : LvOk ar lv K) : ∀ {k : Nat}, k ≤ K → SndL ar lv k
 | 0, _ => fun j hj => absurd hj (by omega)
 | k + 1, hk => fun j hj t ht => by
  have hs := h.snd (show k ≤ K by omega)
  rcases Nat.lt_or_ge j k with h9 | h9
  ·exact hs j h9 t ht
  ·obtain rfl : j = k := by omega
   have ht := (h.lvl j (by omega)).mem_iff.1 ht
   unfold LvU at ht
   rw [List.mem_flatMap] at ht
   obtain ⟨f, hf, ht⟩ := ht
   rw [List.mem_range] at hf
   obtain ⟨r, hr, rfl⟩ := List.mem_map.1 ht
   have h2 := rows_snd hs (Nat.le_refl _) hr
   have hg : ∀ x ∈ ((f : Nat) : Int) :: r, 0 ≤ x := fun x hx => by
    rcases List.mem_cons.1 hx with e | hx
    ·omega
    ·exact h2.2.2 x hx
   have hw : WF ar (((f : Nat) : Int) :: r) (0 + 1) := WF_cons.2 ⟨by omega, by
    rw [Nat.zero_add, arity, if_neg (by omega), Int.toNat_natCast]; exact h2.1⟩
   exact ⟨⟨⟨h.sig, ⟨by simp, by rw [List.length_cons]; have := h.k60; omega⟩, hw, fun x hx => by have := hg x hx; omega⟩, hg⟩, by rw [List.length_cons, h2.2.1]⟩
def NumL (ar : List Int) (rs : List TranT) (lv : Nat → List (List Int)) (k : Nat) : Prop := ∀ j q, j < k → cntT rs (j + 1) (j + 1) q = (cnt (RunN ar rs q (j + 1)) (lv (j + 1)) : Nat)
theorem rows_few (ht : t ∈ lv (j + 1)) (hj : j < n) : (RowsA lv a (n - (j + 1))).length ≤ ((lv (j + 1)).flatMap fun t => (RowsA lv a (n - (j + 1))).map (t ++ ·)).length := by
 obtain ⟨s, e, h⟩ := List.append_of_mem ht
 rw [h, List.flatMap_append, List.flatMap_cons, List.length_append, List.length_append, List.length_map]
 omega
theorem rowsU_le : ∀ {i j : Nat}, i ≤ j → (RowsU lv a n i).length ≤ (RowsU lv a n j).length
 | i, 0, h => by rw [show i = 0 from by omega]; exact Nat.le_refl _
 | i, j + 1, h => by
  rcases Nat.lt_or_ge i (j + 1) with h9 | h9
  ·have := rowsU_le (show i ≤ j by omega)
   rw [RowsU.next, List.length_append]; omega
  ·rw [show i = j + 1 from by omega]; exact Nat.le_refl _
theorem ways_num (hs : SndL ar lv k) (hN : NumL ar rs lv k) : ∀ {qs : List Int} {n : Nat}, n ≤ k → (RowsA lv qs.length n).length ≤ 200 → waysF (cntT rs k) qs n = (cnt (RunL ar rs qs n) (RowsA lv qs.length n) : Nat)
 | [], n, hn, hl => by
  rw [waysF]
  show _ = ((cnt _ (RowsA lv 0 n) : Nat) : Int)
  rw [RowsA]
  by_cases e : n = 0
  ·rw [if_pos e, if_pos e, cnt_cons_yes (P := RunL ar rs [] n) ⟨e, rfl⟩, cnt_nil]; rfl
  ·rw [if_neg e, if_neg e, cnt_nil]; rfl
 | q :: qs, n, hn, hl => by
  rw [waysF]
  have key : ∀ i, i ≤ n → waysGo (cntT rs k) (waysF (cntT rs k) qs) q n i = (cnt (RunL ar rs (q :: qs) n) (RowsU lv qs.length n i) : Nat) := by
   intro i
   induction i with
   | zero => intro _; rfl
   | succ i ih =>
    intro hi
    have ih := ih (by omega)
    have hul : (RowsU lv qs.length n (i + 1)).length ≤ 200 := Nat.le_trans (rowsU_le hi) hl
    have hall := cnt_le (P := RunL ar rs (q :: qs) n) (L := RowsU lv qs.length n (i + 1))
    have hc : cntT rs k (i + 1) q = (cnt (RunN ar rs q (i + 1)) (lv (i + 1)) : Nat) := by rw [cntT_low (by omega)]; exact hN i q (by omega)
    have hp : cnt (RunL ar rs (q :: qs) n) ((lv (i + 1)).flatMap fun t => (RowsA lv qs.length (n - (i + 1))).map (t ++ ·)) = cnt (RunN ar rs q (i + 1)) (lv (i + 1)) * cnt (RunL ar rs qs (n - (i + 1))) (RowsA lv qs.length (n - (i + 1))) := by
     refine cnt_prod fun t ht r hr => ?_
     have h1 := hs i (by omega) t ht
     rw [RunL.app h1.1 (by omega), h1.2]
     exact ⟨fun h => ⟨⟨h1.1, h.1, h1.2⟩, h.2⟩, fun h => ⟨h.1.2.1, h.2⟩⟩
    rw [waysGo, ih]
    rw [RowsU.next, cnt_app, hp] at hall
    rw [RowsU.next, cnt_app, hp]
    split
    ·rename_i h0
     have hne : ∃ t, t ∈ lv (i + 1) := by
      cases hv : lv (i + 1) with
      | nil => rw [hc, hv, cnt_nil] at h0; omega
      | cons y ys => exact ⟨y, by simp⟩
     obtain ⟨t, ht⟩ := hne
     have hrl : (RowsA lv qs.length (n - (i + 1))).length ≤ 200 := by
      have h1 := rows_few (a := qs.length) ht (show i < n by omega)
      rw [RowsU.next, List.length_append] at hul
      omega
     rw [ways_num hs hN (by omega) hrl, hc, ← Int.natCast_mul, ← Int.natCast_add]
     rw [RowsU.next, List.length_append] at hul
     rw [List.length_append] at hall
     omega
    ·rename_i h0
     have h1 : cnt (RunN ar rs q (i + 1)) (lv (i + 1)) = 0 := by omega
     rw [h1, Nat.zero_mul, Nat.add_zero]
  exact key n (Nat.le_refl _)
theorem lvU_le : ∀ {i j : Nat}, i ≤ j → (LvU ar lv k i).length ≤ (LvU ar lv k j).length
 | i, 0, h => by rw [show i = 0 from by omega]; exact Nat.le_refl _
 | i, j + 1, h => by
  rcases Nat.lt_or_ge i (j + 1) with h9 | h9
  ·have := lvU_le (show i ≤ j by omega)
   rw [LvU.next, List.length_append]; omega
  ·rw [show i = j + 1 from by omega]; exact Nat.le_refl _
theorem new_cnt {g : Int} (hg0 : 0 ≤ g) (S : List Int → Prop) : ∀ {f : Nat}, cnt (fun u => ∃ v, u = g :: v ∧ S v) (LvU ar lv k f) = if g.toNat < f then cnt S (RowsA lv (ar.getD g.toNat 0).toNat k) else 0
 | 0 => by rw [if_neg (by omega)]; rfl
 | f + 1 => by
  have ih := new_cnt hg0 S (f := f)
  rw [LvU.next, cnt_app, ih, cnt_map]
  by_cases e : g.toNat = f
  ·rw [if_neg (by omega), if_pos (by omega), Nat.zero_add, ← e]
   exact cnt_congr fun u hu => ⟨fun ⟨v, h, hv⟩ => (show v = u from by injection h with _ h9; exact h9.symm) ▸ hv, fun h => ⟨u, by rw [show ((g.toNat : Nat) : Int) = g from by omega], h⟩⟩
  ·rw [cnt_none (P := fun u => ∃ v, ((f : Nat) : Int) :: u = g :: v ∧ S v) (fun u hu ⟨v, h, hv⟩ => by cases h; omega), Nat.add_zero]
   by_cases h9 : g.toNat < f
   ·rw [if_pos h9, if_pos (by omega)]
   ·rw [if_neg h9, if_neg (by omega)]
theorem cntS_num (A : AutoOk ar m rs fi) (hs : SureP rs) (h : LvOk ar lv K) (hk : k < K) (hN : NumL ar rs lv k) : ∀ {i : Nat}, i ≤ rs.length → cntS rs (cntT rs k) (k + 1) i q = (cnt (RunI ar rs k i q) (LvU ar lv k ar.length) : Nat)
 | 0, _ => by rw [cnt_none (P := RunI ar rs k 0 q) fun u hu ⟨j, hj, _⟩ => by omega]; rfl
 | i + 1, hi => by
  have ih := cntS_num A hs h hk hN (show i ≤ rs.length by omega)
  have hT := A.rule i (by omega)
  have hfew : (LvU ar lv k ar.length).length ≤ 200 := by rw [← (h.lvl k hk).length_eq]; exact h.few _
  have hall := cnt_le (P := RunI ar rs k (i + 1) q) (L := LvU ar lv k ar.length)
  have hor : cnt (RunI ar rs k (i + 1) q) (LvU ar lv k ar.length) = cnt (RunI ar rs k i q) (LvU ar lv k ar.length) + cnt (fun u => (rs.getD i (0, [], 0)).2.2 = q ∧ ∃ v, u = (rs.getD i (0, [], 0)).1 :: v ∧ RunL ar rs (rs.getD i (0, [], 0)).2.1 k v) (LvU ar lv k ar.length) := by
   rw [← cnt_or]
   ·exact cnt_congr fun u _ => runI_next.symm
   ·rintro u _ ⟨j, hj, e1, v, rfl, hv⟩ ⟨e2, v2, e3, hv2⟩
    have e4 : (rs.getD j (0, [], 0)).1 = (rs.getD i (0, [], 0)).1 := by injection e3
    have e5 : v = v2 := by injection e3
    subst e5
    have hT2 := A.rule j (by omega)
    refine hs i j (by omega) hj ⟨e4.symm, (RunL.same hs ?_ hv hv2).symm⟩
    have := hT.args
    have := hT2.args
    rw [e4] at this
    omega
  rw [cntS, ih, Nat.add_sub_cancel]
  rw [hor] at hall ⊢
  by_cases e : (rs.getD i (0, [], 0)).2.2 = q
  ·have hy : (rs.getD i (0, [], 0)).1.toNat < ar.length := by have := hT.sym; omega
   have hal : (ar.getD (rs.getD i (0, [], 0)).1.toNat 0).toNat = (rs.getD i (0, [], 0)).2.1.length := by have := hT.args; omega
   have hone : cnt (fun u => (rs.getD i (0, [], 0)).2.2 = q ∧ ∃ v, u = (rs.getD i (0, [], 0)).1 :: v ∧ RunL ar rs (rs.getD i (0, [], 0)).2.1 k v) (LvU ar lv k ar.length) = cnt (RunL ar rs (rs.getD i (0, [], 0)).2.1 k) (RowsA lv (rs.getD i (0, [], 0)).2.1.length k) := by
    rw [cnt_congr (Q := fun u => ∃ v, u = (rs.getD i (0, [], 0)).1 :: v ∧ RunL ar rs (rs.getD i (0, [], 0)).2.1 k v) (fun u _ => ⟨fun h => h.2, fun h => ⟨e, h⟩⟩), new_cnt hT.sym.1, if_pos hy, hal]
   have hrl : (RowsA lv (rs.getD i (0, [], 0)).2.1.length k).length ≤ 200 := by
    have h1 := lvU_le (ar := ar) (lv := lv) (k := k) (show (rs.getD i (0, [], 0)).1.toNat + 1 ≤ ar.length by omega)
    rw [LvU.next, List.length_append, List.length_map, hal] at h1
    omega
   rw [if_pos e, ways_num (h.snd (by omega)) hN (Nat.le_refl _) hrl, hone]
   rw [hone] at hall
   omega
  ·rw [if_neg e, cnt_none (P := fun u => (rs.getD i (0, [], 0)).2.2 = q ∧ ∃ v, u = (rs.getD i (0, [], 0)).1 :: v ∧ RunL ar rs (rs.getD i (0, [], 0)).2.1 k v) (fun u _ k => e k.1), Nat.add_zero]
theorem LvOk.num (A : AutoOk ar m rs fi) (hs : SureP rs) (h : LvOk ar lv K) : ∀ {k : Nat}, k ≤ K → NumL ar rs lv k
 | 0, _ => fun j q hj => absurd hj (by omega)
 | k + 1, hk => fun j q hj => by
  have hN := h.num A hs (show k ≤ K by omega)
  rcases Nat.lt_or_ge j k with h9 | h9
  ·exact hN j q h9
  ·obtain rfl : j = k := by omega
   rw [cntT_new, cntS_num A hs h (by omega) hN (Nat.le_refl _), cnt_perm (h.lvl j (by omega))]
   congr 1
   exact cnt_congr fun u _ => (runN_iff A (by have := h.k60; omega)).symm
theorem AutoOk.mono (A : AutoOk ar m rs fi) : ∀ {i j : Nat}, j < i → i < fi.length → fi.getD j 0 < fi.getD i 0
 | 0, j, h, _ => absurd h (by omega)
 | i + 1, j, h, hi => by
  have h1 := A.asc (i + 1) hi (by omega)
  rw [show (((i + 1 : Nat) : Int) - 1).toNat = i from by omega] at h1
  rcases Nat.lt_or_ge j i with h9 | h9
  ·have := A.mono h9 (by omega); omega
  ·rw [show j = i from by omega]; exact h1
theorem sumGo_num (A : AutoOk ar m rs fi) (hs : SureP rs) (h : LvOk ar lv K) (hk : k < K) : ∀ {i : Nat}, i ≤ fi.length → sumGo rs fi (k + 1) i = (cnt (RunF ar rs fi (k + 1) i) (lv (k + 1)) : Nat)
 | 0, _ => by rw [cnt_none (P := RunF ar rs fi (k + 1) 0) fun u hu ⟨j, hj, _⟩ => by omega]; rfl
 | i + 1, hi => by
  have ih := sumGo_num A hs h hk (show i ≤ fi.length by omega)
  have hfew := h.few (k + 1)
  have hall := cnt_le (P := RunF ar rs fi (k + 1) (i + 1)) (L := lv (k + 1))
  have hor : cnt (RunF ar rs fi (k + 1) (i + 1)) (lv (k + 1)) = cnt (RunF ar rs fi (k + 1) i) (lv (k + 1)) + cnt (RunN ar rs (fi.getD i 0) (k + 1)) (lv (k + 1)) := by
   rw [← cnt_or]
   ·exact cnt_congr fun u _ => runF_next.symm
   ·rintro u _ ⟨j, hj, h1⟩ h2
    have := h1.2.1.one hs h2.2.1
    have := A.mono hj (by omega)
    omega
  rw [sumGo, ih, h.num A hs (Nat.le_refl _) k _ hk, hor]
  rw [hor] at hall
  omega
theorem GrK.lvOk (hs : sigOk ar = true) (h : GrK ar k mm os) (hk : k ≤ 60) : LvOk ar (lvOf mm) k := ⟨hs, hk, h.lvl, h.few⟩
theorem cnt_level (hz : SizedL lv) : ∀ {k : Nat}, cnt (fun u => P u ∧ u.length = n + 1) ((List.range k).flatMap fun j => lv (j + 1)) = if n < k then cnt P (lv (n + 1)) else 0
 | 0 => by rw [if_neg (by omega)]; rfl
 | k + 1 => by
  have ih := cnt_level hz (k := k)
  rw [List.range_succ, List.flatMap_append, cnt_app, ih, List.flatMap_cons, List.flatMap_nil, List.append_nil]
  by_cases e : n = k
  ·subst e
   rw [if_neg (by omega), if_pos (by omega), Nat.zero_add]
   exact cnt_congr fun u hu => ⟨fun h => h.1, fun h => ⟨h, hz _ u hu⟩⟩
  ·rw [cnt_none (P := fun u => P u ∧ u.length = n + 1) (L := lv (k + 1)) (fun u hu h => e (by have := hz _ u hu; omega)), Nat.add_zero]
   by_cases h9 : n < k
   ·rw [if_pos h9, if_pos (by omega)]
   ·rw [if_neg h9, if_neg (by omega)]
def TakenP (ar : List Int) (m : Int) (rs : List TranT) (fi u : List Int) : Prop := (autoB ar m rs fi && groundB ar u && accT ar rs fi u) = true
theorem GT.ground (h : GT ar t) : groundB ar t = true := ground_iff.2 ⟨termOk_iff.2 ⟨h.1.sig, h.1.len.1, h.1.len.2, fun x hx => by have := h.2 x hx; omega, h.1.whole⟩, h.2⟩
theorem ground_GT (h : groundB ar t = true) : GT ar t := ⟨termW_of (ground_iff.1 h).1, (ground_iff.1 h).2⟩
theorem taken_iff (A : AutoOk ar m rs fi) (h : GT ar u) : TakenP ar m rs fi u ↔ Acc ar rs fi u := by
 unfold TakenP
 rw [auto_yes A, h.ground, Bool.true_and, Bool.true_and, accT_iff]
theorem count_law {n : Int} {ok : Bool} (hA : autoB ar m rs fi = true) (hsu : (autoB ar m rs fi && surB rs) = true) (h1 : 1 ≤ n) (h5 : n ≤ 5) (hG : GrT ar 5 os ok) (hok : ok = true) : cntZ ar m rs fi n = (cnt (fun u => TakenP ar m rs fi u ∧ (u.length : Int) = n) os : Nat) := by
 have A := auto_iff.1 hA
 have hs : SureP rs := sur_iff.1 (by rw [hA, Bool.true_and] at hsu; exact hsu)
 obtain ⟨hsg, mm, hK⟩ := hG.2 hok
 have hL := hK.lvOk hsg (by decide)
 obtain ⟨x, rfl⟩ : ∃ x : Nat, n = ((x + 1 : Nat) : Int) := ⟨(n - 1).toNat, by omega⟩
 rw [cntZ_yes ⟨hsu, h1, by omega⟩, Int.toNat_natCast, sumGo_num A hs hL (by simp; omega) (Nat.le_refl _), hK.all]
 congr 1
 rw [cnt_congr (P := fun u => TakenP ar m rs fi u ∧ (u.length : Int) = ((x + 1 : Nat) : Int)) (Q := fun u => TakenP ar m rs fi u ∧ u.length = x + 1) (fun u _ => by rw [Int.ofNat_inj]), cnt_level hK.sized, if_pos (by simp; omega)]
 refine cnt_congr fun u hu => ?_
 have hu2 := hL.snd (Nat.le_refl _) x (by simp; omega) u hu
 rw [taken_iff A hu2.1]
 constructor
 ·rintro ⟨j, hj, h⟩; exact ⟨j, hj, h.2.1⟩
 ·rintro ⟨j, hj, h⟩; exact ⟨j, hj, hu2.1, h, hu2.2⟩
theorem least_law {t : List Int} {ok : Bool} (hL : LeastR ar m rs fi t ok) (hu : TakenP ar m rs fi u) : ok = true ∧ lessB u t = false := by
 unfold TakenP at hu
 simp only [Bool.and_eq_true] at hu
 obtain ⟨⟨hA, hg⟩, ha⟩ := hu
 have hW := (ground_GT hg).1
 have h2 := hL.2 hA
 cases ok with
 | true => exact ⟨rfl, by rw [Bool.eq_false_iff, Ne, less_iff]; exact leT_iff.1 ((h2.1 rfl).2.2 u hW (accT_iff.1 ha))⟩
 | false => exact absurd (accT_iff.1 ha) ((h2.2 rfl).2 u hW)
theorem least_taken {t : List Int} {ok : Bool} (hL : LeastR ar m rs fi t ok) (hok : ok = true) : (autoB ar m rs fi && groundB ar t && accT ar rs fi t) = true := by
 cases hA : autoB ar m rs fi with
 | false => rw [(hL.1 hA).1] at hok; cases hok
 | true =>
  have h2 := (hL.2 hA).1 hok
  rw [h2.1.ground, accT_iff.2 h2.2.1]; rfl
theorem cnt_next {x : Nat} (hx : x < os.length) (h : P (os.getD x [])) : cnt P (os.take (x + 1)) = cnt P (os.take x) + 1 := by
 rw [take_succ_getD [] hx, cnt_app, cnt_cons_yes h, cnt_nil]
theorem cnt_skip {x : Nat} (hx : x < os.length) (h : ¬ P (os.getD x [])) : cnt P (os.take (x + 1)) = cnt P (os.take x) := by
 rw [take_succ_getD [] hx, cnt_app, cnt_cons_no h, cnt_nil]; rfl
end
section
variable {ar fi xs l os t u : List Int} {z q : Int} {rs : List TranT} {i j k n : Nat} {x : Int}
def valN (n : Nat) : List Int → Nat
 | [] => 0
 | x :: xs => x.toNat * n ^ xs.length + valN n xs
def InN (n : Nat) (xs : List Int) : Prop := ∀ i, i < xs.length → 0 ≤ xs.getD i 0 ∧ xs.getD i 0 < (n : Int)
theorem valN_lt : ∀ {xs : List Int}, InN n xs → valN n xs < n ^ xs.length
 | [], _ => by show 0 < n ^ 0; simp
 | x :: xs, h => by
  have h1 := valN_lt (xs := xs) fun i hi => by simpa using h (i + 1) (by simpa using hi)
  have h2 := h 0 (by simp)
  simp only [List.getD_cons_zero] at h2
  rw [valN, List.length_cons, Nat.pow_succ]
  have h3 : (x.toNat + 1) * n ^ xs.length ≤ n * n ^ xs.length := Nat.mul_le_mul_right _ (by omega)
  rw [Nat.succ_mul] at h3
  rw [Nat.mul_comm (n ^ xs.length) n]
  omega
theorem valN_set : ∀ {xs : List Int} {k : Nat}, k < xs.length → valN n (xs.set k x) + (xs.getD k 0).toNat * n ^ (xs.length - 1 - k) = valN n xs + x.toNat * n ^ (xs.length - 1 - k)
 | [], _, h => absurd h (by simp)
 | y :: xs, 0, _ => by
  show x.toNat * n ^ xs.length + valN n xs + y.toNat * n ^ (xs.length + 1 - 1 - 0) = y.toNat * n ^ xs.length + valN n xs + x.toNat * n ^ (xs.length + 1 - 1 - 0)
  rw [show xs.length + 1 - 1 - 0 = xs.length from by omega]; omega
 | y :: xs, k + 1, h => by
  have h2 : k < xs.length := by simpa using h
  have ih := valN_set (xs := xs) h2
  show y.toNat * n ^ (xs.set k x).length + valN n (xs.set k x) + (xs.getD k 0).toNat * n ^ (xs.length + 1 - 1 - (k + 1)) = y.toNat * n ^ xs.length + valN n xs + x.toNat * n ^ (xs.length + 1 - 1 - (k + 1))
  rw [List.length_set, show xs.length + 1 - 1 - (k + 1) = xs.length - 1 - k from by omega]
  omega
structure NextI (n : Nat) (l os : List Int) (k : Nat) : Prop where
 len : os.length = l.length
 inn : InN n os
 val : valN n os + n ^ (l.length - k) = valN n l + 1
theorem NextI.start (h : InN n l) : NextI n l l l.length := ⟨rfl, h, by rw [Nat.sub_self, Nat.pow_zero]⟩
theorem getD_set (hk : k < xs.length) : (xs.set k x).getD i 0 = if i = k then x else xs.getD i 0 := by
 by_cases e : i = k
 ·subst e; rw [if_pos rfl, List.getD_eq_getElem?_getD, List.getElem?_set_self hk]; rfl
 ·rw [if_neg e, List.getD_eq_getElem?_getD, List.getElem?_set_ne (fun h => e h.symm), ← List.getD_eq_getElem?_getD]
theorem InN.set (h : InN n xs) (h0 : 0 ≤ x) (h1 : x < (n : Int)) : InN n (xs.set k x) := fun i hi => by
 rw [List.length_set] at hi
 rcases Nat.lt_or_ge k xs.length with hk | hk
 ·rw [getD_set hk]
  split
  ·exact ⟨h0, h1⟩
  ·exact h i hi
 ·rw [List.set_eq_of_length_le hk]; exact h i hi
def NextR (n : Nat) (l os : List Int) (ok : Bool) : Prop := os.length = l.length ∧ (ok = true → InN n os ∧ valN n os = valN n l + 1)
theorem NextI.found {p : Nat} (h : NextI n l os k) (hk : k ≤ l.length) (hp : p + 1 = k) (hx : os.getD p 0 + 1 < (n : Int)) : NextR n l (os.set p (os.getD p 0 + 1)) true := by
 have h0 : k ≠ 0 := by omega
 obtain rfl : p = k - 1 := by omega
 have hl := h.len
 have hi := h.inn (k - 1) (by omega)
 refine ⟨by rw [List.length_set]; exact hl, fun _ => ⟨h.inn.set (by omega) hx, ?_⟩⟩
 have h1 := valN_set (n := n) (x := os.getD (k - 1) 0 + 1) (xs := os) (show k - 1 < os.length by omega)
 have h2 := h.val
 rw [show os.length - 1 - (k - 1) = l.length - k from by omega, show (os.getD (k - 1) 0 + 1).toNat = (os.getD (k - 1) 0).toNat + 1 from by omega, Nat.succ_mul] at h1
 omega
theorem NextI.next {p : Nat} (h : NextI n l os k) (hk : k ≤ l.length) (hp : p + 1 = k) (hx : ¬ os.getD p 0 + 1 < (n : Int)) : NextI n l ((os.set p (os.getD p 0 + 1)).set p 0) (k - 1) := by
 have h0 : k ≠ 0 := by omega
 obtain rfl : p = k - 1 := by omega
 have hl := h.len
 have hi := h.inn (k - 1) (by omega)
 rw [List.set_set]
 refine ⟨by rw [List.length_set]; exact hl, h.inn.set (by omega) (by omega), ?_⟩
 have h1 := valN_set (n := n) (x := 0) (xs := os) (show k - 1 < os.length by omega)
 have h2 := h.val
 have e : (os.getD (k - 1) 0).toNat + 1 = n := by omega
 have e3 : n * n ^ (l.length - k) = (os.getD (k - 1) 0).toNat * n ^ (l.length - k) + n ^ (l.length - k) := by
  conv => lhs; lhs; rw [← e]
  rw [Nat.succ_mul]
 rw [show os.length - 1 - (k - 1) = l.length - k from by omega, Int.toNat_zero, Nat.zero_mul, Nat.add_zero] at h1
 rw [show l.length - (k - 1) = (l.length - k) + 1 from by omega, Nat.pow_succ, Nat.mul_comm, e3]
 omega
theorem NextI.none (h : NextI n l os k) : NextR n l os false := ⟨h.len, fun e => by cases e⟩
def muN (n : Nat) (l : List Int) (b : Bool) : Nat := if b = true then n ^ l.length - valN n l else 0
theorem muN_next {b : Bool} (hi : InN n l) (h : NextR n l os b) : muN n os b < muN n l true := by
 have h1 := valN_lt hi
 unfold muN
 rw [if_pos rfl]
 split
 ·rename_i hb
  have h2 := h.2 hb
  have h3 := valN_lt h2.1
  rw [h.1] at h3 ⊢
  omega
 ·omega
theorem InN.zero (h : 0 < n ∨ k = 0) : InN n (List.replicate k 0) := fun i hi => by
 rw [List.length_replicate] at hi
 rw [List.getD_eq_getElem?_getD, List.getElem?_replicate, if_pos hi]
 show (0 : Int) ≤ 0 ∧ (0 : Int) < n
 omega
theorem GrT.len {os : List (List Int)} {ok : Bool} (h : GrT ar 5 os ok) (hok : ok = true) (i : Nat) : (os.getD i []).length ≤ 5 := by
 obtain ⟨_, mm, hK⟩ := h.2 hok
 rcases Nat.lt_or_ge i os.length with h9 | h9
 ·have hm : os.getD i [] ∈ os := by rw [List.getD_eq_getElem?_getD, List.getElem?_eq_getElem h9]; exact List.getElem_mem h9
  generalize os.getD i [] = u at hm ⊢
  rw [hK.all, List.mem_flatMap] at hm
  obtain ⟨j, hj, hm3⟩ := hm
  have h1 := hK.sized _ _ hm3
  rw [List.mem_range] at hj
  have : (5 : Int).toNat = 5 := rfl
  omega
 ·rw [List.getD_eq_getElem?_getD, List.getElem?_eq_none h9]; exact Nat.zero_le _
theorem law_end {os : List (List Int)} {ok : Bool} {m y : Int} {c i : Nat} (hA : autoB ar m rs fi = true) (hsu : (autoB ar m rs fi && surB rs) = true) (h1 : ¬ y < 1) (h5 : ¬ y > 5) (hG : GrT ar 5 os ok) (hok : ok = true) (hi : os.length ≤ i) (hc : c = cnt (fun u => TakenP ar m rs fi u ∧ (u.length : Int) = y) (os.take i)) : cntZ ar m rs fi y = (c : Int) := by
 rw [count_law hA hsu (by omega) (by omega) hG hok, hc, List.take_of_length_le hi]
def RndR (ss os : List (List Int)) (ok : Bool) : Prop := ss.length ≤ os.length ∧ os.length ≤ 17 ∧ (ok = true → os.length ≤ 16) ∧ ∀ r ∈ os, r.length ≤ 300
def SetsR (os : List (List Int)) (ok : Bool) : Prop := os.length ≤ 17 ∧ (∀ r ∈ os, r.length ≤ 300) ∧ (ok = true → (os.length : Int) > 0 ∧ os.length ≤ 16)
theorem getD_mem {os : List (List Int)} (h : ∀ r ∈ os, r.length ≤ k) (i : Nat) : (os.getD i []).length ≤ k := by
 rcases Nat.lt_or_ge i os.length with h9 | h9
 ·rw [List.getD_eq_getElem?_getD, List.getElem?_eq_getElem h9]; exact h _ (List.getElem_mem h9)
 ·rw [List.getD_eq_getElem?_getD, List.getElem?_eq_none h9]; exact Nat.zero_le _
theorem getD_all9 {os : List (List Int)} (h : ∀ i, i < os.length → (os.getD i []).length ≤ k) : ∀ r ∈ os, r.length ≤ k := fun r hr => by
 obtain ⟨i, hi, rfl⟩ := List.getElem_of_mem hr
 have := h i hi
 rwa [show os.getD i [] = os[i] from by simp [List.getD, hi]] at this
theorem mem_snoc9 {os : List (List Int)} {t : List Int} (h : ∀ r ∈ os, r.length ≤ k) (ht : t.length ≤ k) : ∀ r ∈ os ++ [t], r.length ≤ k := fun r hr => (List.mem_append.1 hr).elim (h r) fun e => by rw [List.mem_singleton.1 e]; exact ht
def autoS (k : Nat) (rs : List TranT) (fi : List Int) : Prop := rs.length ≤ 400 + k ∧ fi.length ≤ 100 + k ∧ ∀ r ∈ rs, r.2.1.length ≤ 10 + k
theorem autoS.nil : autoS k [] [] := ⟨Nat.zero_le _, Nat.zero_le _, fun r hr => absurd hr (by simp)⟩
theorem trans_snoc {k : Nat} {y : TranT} (h : ∀ r ∈ rs, r.2.1.length ≤ k) (hr : y.2.1.length ≤ k) : ∀ r ∈ rs ++ [y], r.2.1.length ≤ k := fun s hs => (List.mem_append.1 hs).elim (h s) fun e => by rw [List.mem_singleton.1 e]; exact hr
theorem trans_at {k : Nat} (h : ∀ r ∈ rs, r.2.1.length ≤ k) (i : Nat) : (rs.getD i (0, [], 0)).2.1.length ≤ k := by
 rcases Nat.lt_or_ge i rs.length with h9 | h9
 ·rw [List.getD_eq_getElem?_getD, List.getElem?_eq_getElem h9]; exact h _ (List.getElem_mem h9)
 ·rw [List.getD_eq_getElem?_getD, List.getElem?_eq_none h9]; exact Nat.zero_le _
theorem autoS.at (h : autoS k rs fi) (i : Nat) : (rs.getD i (0, [], 0)).2.1.length ≤ 10 + k := trans_at h.2.2 i
theorem autoS.up (h : autoS k rs fi) : autoS (k + 1) rs fi := ⟨by have := h.1; omega, by have := h.2.1; omega, fun r hr => by have := h.2.2 r hr; omega⟩
theorem autoS.set {y : TranT} (h : autoS k rs fi) (hy : y.2.1.length ≤ 10 + (k + 1)) : autoS (k + 1) (rs.set i y) fi := ⟨by rw [List.length_set]; have := h.1; omega, by have := h.2.1; omega, fun r hr => by
 rcases List.mem_or_eq_of_mem_set hr with h9 | h9
 ·have := h.2.2 r h9; omega
 ·rw [h9]; exact hy⟩
theorem autoS.setTo (h : autoS k rs fi) : autoS (k + 1) (rs.set i ((rs.getD i (0, [], 0)).1, (rs.getD i (0, [], 0)).2.1, x)) fi := h.set (by have := h.at i; dsimp only; omega)
theorem autoS.setArgs (h : autoS k rs fi) : autoS (k + 1) (rs.set i ((rs.getD i (0, [], 0)).1, (rs.getD i (0, [], 0)).2.1 ++ [x], (rs.getD i (0, [], 0)).2.2)) fi := h.set (by have := h.at i; dsimp only; rw [List.length_append]; simp only [List.length_singleton]; omega)
theorem autoS.app (h : autoS k rs fi) : autoS (k + 1) (rs ++ [((rs.getD i (0, [], 0)).1, (rs.getD i (0, [], 0)).2.1, (rs.getD i (0, [], 0)).2.2)]) fi := ⟨by have := h.1; rw [List.length_append]; simp only [List.length_singleton]; omega, by have := h.2.1; omega, trans_snoc h.up.2.2 (by have := h.at i; dsimp only; omega)⟩
theorem autoS.fin (h : autoS k rs fi) : autoS (k + 1) rs (fi ++ [x]) := ⟨by have := h.1; omega, by have := h.2.1; rw [List.length_append]; simp only [List.length_singleton]; omega, h.up.2.2⟩
theorem autoS.bounds (h : autoS k rs fi) (hk : k ≤ 1000) : rs.length ≤ 4000000 ∧ (∀ i, i < rs.length → (rs.getD i (0, [], 0)).2.1.length ≤ 4000000) ∧ fi.length ≤ 4000000 := ⟨by have := h.1; omega, fun i _ => by have := h.at i; omega, by have := h.2.1; omega⟩
end
end Go.Proofs.Ytgdcboopbmpdoaa.M
namespace Go.Proofs.Ytgdcboopbmpdoaa.X
open Go
section
variable {e E1 E : TypeId} {F G : FH} {v : Value} {cs : List Value} {xs : List LineT} {L : List HP}
end
section
variable {P : Program} {ρ : Env} {F : FH} {L : List HP} {K : Post} {d : Option Tmp} {ty : TypeId} {pos : String} {af : Array Edge} {g : Option (Nat × Bool)}
end
section
variable {α : Type} {s : Nat} {R : List Value → α → List HP → Prop} {cs cs0 : List Value} {xs : List α} {Ls Ls' L1 : List HP} {d : α}
end
section
variable {α : Type} {s : Nat} {R : List Value → α → List HP → Prop} {cs cs0 : List Value} {xs : List α} {Ls : List HP} {d : α} {q : α → Bool} {i j : Nat}
structure DelI (s : Nat) (R : List Value → α → List HP → Prop) (q : α → Bool) (cs0 : List Value) (xs : List α) (cs : List Value) (i j : Nat) : Prop where
 le : j ≤ xs.length
 cnt : i = ((xs.take j).filter q).length
 len : cs.length = cs0.length
 rest : cs.drop (j * s) = cs0.drop (j * s)
 pre : ∃ L1 Lk, DeepL s R (cs0.take (j * s)) (xs.take j) L1 ∧ DeepL s R (cs.take (i * s)) ((xs.take j).filter q) Lk ∧ Lk.Sublist L1
end
section
variable {e E1 E : TypeId} {F F1 F2 G : FH} {v a b : Value} {cs : List Value} {xs : List LineT} {L M : List HP}
theorem DeepL.imp9 {α : Type} {s : Nat} {R R' : List Value → α → List HP → Prop} {cs : List Value} {xs : List α} {L : List HP} (hR : ∀ es x K, R es x K → R' es x K) (h : DeepL s R cs xs L) : DeepL s R' cs xs L := by
 induction h with
 | nil => exact DeepL.nil
 | snoc _ hl hr ih => exact ih.snoc hl (hR _ _ _ hr)
theorem DeepL.at9 {α : Type} {s : Nat} {R : List Value → α → List HP → Prop} {d : α} {cs : List Value} {xs : List α} {L : List HP} (h : DeepL s R cs xs L) {k : Nat} (hk : k < xs.length) : ∃ A K B es, L = A ++ (K ++ B) ∧ es.length = s ∧ R es (xs.getD k d) K ∧ (∀ j u, es[j]? = some u → cs[k * s + j]? = some u) ∧
  ∀ (R' : List Value → α → List HP → Prop), (∀ es x K, R es x K → R' es x K) → ∀ es' x' K', es'.length = s → R' es' x' K' → DeepL s R' (cs.take (k * s) ++ es' ++ cs.drop (k * s + s)) (xs.set k x') (A ++ (K' ++ B)) := by
 induction h with
 | nil => simp at hk
 | @snoc cs es xs x L K h hl hr ih =>
  have hlen := h.len
  rw [List.length_append, List.length_singleton] at hk
  rcases Nat.lt_or_ge k xs.length with hlt | hge
  ·obtain ⟨A, K0, B, es0, rfl, hl0, hr0, hg0, hput⟩ := ih hlt
   have hb : k * s + s ≤ cs.length := by
    rw [hlen]
    have : (k + 1) * s ≤ xs.length * s := Nat.mul_le_mul_right s hlt
    rwa [Nat.succ_mul] at this
   refine ⟨A, K0, B ++ K, es0, by simp, hl0, ?_, fun j u hu => ?_, fun R' hR es' x' K' hl' hr' => ?_⟩
   ·have : (xs ++ [x]).getD k d = xs.getD k d := by simp [List.getD_eq_getElem?_getD, List.getElem?_append_left hlt]
    rw [this]; exact hr0
   ·have := hg0 j u hu
    rw [List.getElem?_append_left (List.getElem?_eq_some_iff.1 this).1]; exact this
   ·have h1 := (hput R' hR es' x' K' hl' hr').snoc hl (hR _ _ _ hr)
    have e1 : (cs ++ es).take (k * s) ++ es' ++ (cs ++ es).drop (k * s + s) = cs.take (k * s) ++ es' ++ cs.drop (k * s + s) ++ es := by
     rw [List.take_append_of_le_length (by omega), List.drop_append_of_le_length (by omega)]; simp
    have e2 : (xs ++ [x]).set k x' = xs.set k x' ++ [x] := by rw [List.set_append_left _ _ hlt]
    have e3 : A ++ (K' ++ (B ++ K)) = A ++ (K' ++ B) ++ K := by simp
    rw [e1, e2, e3]; exact h1
  ·obtain rfl : k = xs.length := by omega
   refine ⟨L, K, [], es, by simp, hl, ?_, fun j u hu => ?_, fun R' hR es' x' K' hl' hr' => ?_⟩
   ·have : (xs ++ [x]).getD xs.length d = x := by simp [List.getD_eq_getElem?_getD]
    rw [this]; exact hr
   ·rw [← hlen, List.getElem?_append_right (by omega)]
    rw [show cs.length + j - cs.length = j from by omega]; exact hu
   ·have e1 : (cs ++ es).take (xs.length * s) ++ es' ++ (cs ++ es).drop (xs.length * s + s) = cs ++ es' := by
     rw [← hlen, List.take_left, List.drop_eq_nil_of_le (by simp; omega)]; simp
    have e2 : (xs ++ [x]).set xs.length x' = xs ++ [x'] := by simp
    rw [e1, e2, List.append_nil]; exact (h.imp9 hR).snoc hl' hr'
end
section
variable {e E2 E : TypeId} {F G : FH} {v : Value} {cs : List Value} {xs : List CRuleT} {L : List HP}
end
section
variable {e E2 E : TypeId} {F F1 F2 G : FH} {v a b c : Value} {cs : List Value} {xs : List CRuleT} {L M : List HP}
theorem set_last3 {cs : List Value} {k : Nat} {a b c c' : Value} (h0 : cs[k * 3 + 0]? = some a) (h1 : cs[k * 3 + 1]? = some b) (h2 : cs[k * 3 + 2]? = some c) : cs.set (k * 3 + 2) c' = cs.take (k * 3) ++ [a, b, c'] ++ cs.drop (k * 3 + 3) := by
 have q2 : (cs.set (k * 3 + 2) c')[k * 3 + 2]? = some c' := by rw [List.getElem?_set_self (List.getElem?_eq_some_iff.1 h2).1]
 have q0 : (cs.set (k * 3 + 2) c')[k * 3 + 0]? = some a := by rw [List.getElem?_set_ne (by omega)]; exact h0
 have q1 : (cs.set (k * 3 + 2) c')[k * 3 + 1]? = some b := by rw [List.getElem?_set_ne (by omega)]; exact h1
 have h := set_three (a' := a) (b' := b) q0 q1 q2
 have e : ((cs.set (k * 3 + 2) c').set (k * 3) a).set (k * 3 + 1) b = cs.set (k * 3 + 2) c' := by
  have e0 : (cs.set (k * 3 + 2) c').set (k * 3) a = cs.set (k * 3 + 2) c' := by
   obtain ⟨hl, he⟩ := List.getElem?_eq_some_iff.1 q0
   have := List.set_getElem_self (as := cs.set (k * 3 + 2) c') (i := k * 3) hl
   rw [show (cs.set (k * 3 + 2) c')[k * 3] = a from he] at this; exact this
  rw [e0]
  obtain ⟨hl, he⟩ := List.getElem?_eq_some_iff.1 q1
  have := List.set_getElem_self (as := cs.set (k * 3 + 2) c') (i := k * 3 + 1) hl
  rw [he] at this; exact this
 rw [e] at h
 rw [h, List.take_set_of_le (by omega), List.drop_set_of_lt (by omega)]
end
def TranO (e : TypeId) (es : List Value) (x : TranT) (K : List HP) : Prop := ∃ a, es = [.int .i64 x.1, a, .int .i64 x.2.2] ∧ K = [intsH e a x.2.1]
abbrev transD (e E : TypeId) (v : Value) (xs : List TranT) : HP := deepH 3 (TranO e) E v xs
section
variable {e E : TypeId} {F F1 F2 G : FH} {v a b c : Value} {cs : List Value} {xs : List TranT} {L M : List HP}
theorem TranO.fz (es : List Value) (x : TranT) (K : List HP) (h : TranO e es x K) (hz : ∃ l, star K l ∧ ∀ p ∈ l, F.cells p.1 = some p.2) : TranF F es x := by
 obtain ⟨a, rfl, rfl⟩ := h
 exact ⟨a, rfl, intsH.fz (E := e) (frozen_star hz _ (by simp))⟩
theorem transD.fz (h : Fz (transD e E v xs) F) : TransF F v xs := deepH.fz TranO.fz h
theorem DeepL.trans (h : DeepL 3 (TranO e) cs xs L) (hz : Fresh G F (star L)) : TransC F cs xs := h.co TranO.fz (let ⟨m, h1, _, h3⟩ := hz; ⟨m, h1, fun p hp => (h3 p hp).2⟩)
theorem nilTransD : transD e E (.slice none 0 0) [] [] := ⟨[], [], DeepL.nil, [], [], slH_nil E 3 none, rfl, rfl⟩
theorem nilAuto : star [transD e E (.slice none 0 0) [], intsH e (.slice none 0 0) []] [] := ⟨[], [], nilTransD, ⟨[], [], nilLeaf, rfl, rfl⟩, rfl⟩
theorem freshA : Fresh F G (star [transD e E (.slice none 0 0) [], intsH e (.slice none 0 0) []]) := Fresh.empty nilAuto
theorem tran_more {x z : Int} {y : List Int} (hd : DeepL 3 (TranO e) cs xs L) (k : Fresh F G (star (L ++ [intsH e a y]))) : ∃ L', DeepL 3 (TranO e) (cs ++ [.int .i64 x, a, .int .i64 z]) (xs ++ [(x, y, z)]) L' ∧ Fresh F G (star L') :=
 ⟨_, hd.snoc (es := [.int .i64 x, a, .int .i64 z]) (x := (x, y, z)) rfl ⟨a, rfl, rfl⟩, k⟩
theorem TransC.setTo {n : Int} (h : TransC F cs xs) {j : Nat} (hj : j < xs.length) : TransC F (cs.set (j * 3 + 2) (.int .i64 n)) (xs.set j ((xs.getD j (0, [], 0)).1, (xs.getD j (0, [], 0)).2.1, n)) :=
 CO.setOne (o := 2) h hj (by omega) (fun es _ ⟨c, h1, h2⟩ => ⟨c, by rw [h1]; rfl, h2⟩)
def TranO2 (F : FH) (e : TypeId) (es : List Value) (x : TranT) (K : List HP) : Prop := TranO e es x K ∨ ∃ a, es = [.int .i64 x.1, a, .int .i64 x.2.2] ∧ IntsF F a x.2.1 ∧ K = []
theorem TranO2.fz (es : List Value) (x : TranT) (K : List HP) (h : TranO2 F e es x K) (hz : ∃ l, star K l ∧ ∀ p ∈ l, F.cells p.1 = some p.2) : TranF F es x := by
 rcases h with h | ⟨a, rfl, ha, rfl⟩
 ·exact TranO.fz es x K h hz
 ·exact ⟨a, rfl, ha⟩
def TransX (F : FH) (cs : List Value) (xs : List TranT) (k : Nat) : Prop := ∀ F' a y, F ≤ F' → IntsF F' a y → TransC F' (cs.set (k * 3 + 1) a) (xs.set k ((xs.getD k (0, [], 0)).1, y, (xs.getD k (0, [], 0)).2.2))
theorem TransX.close {k : Nat} {y : List Int} (h : TransX F cs xs k) (le : F ≤ F1) (hy : IntsF F1 a y) : TransC F1 (cs.set (k * 3 + 1) a) (xs.set k ((xs.getD k (0, [], 0)).1, y, (xs.getD k (0, [], 0)).2.2)) := h F1 a y le hy
theorem set_mid3 {cs : List Value} {k : Nat} {a b c c' : Value} (h0 : cs[k * 3 + 0]? = some a) (h1 : cs[k * 3 + 1]? = some b) (h2 : cs[k * 3 + 2]? = some c) : cs.set (k * 3 + 1) c' = cs.take (k * 3) ++ [a, c', c] ++ cs.drop (k * 3 + 3) := by
 have q1 : (cs.set (k * 3 + 1) c')[k * 3 + 1]? = some c' := by rw [List.getElem?_set_self (List.getElem?_eq_some_iff.1 h1).1]
 have q0 : (cs.set (k * 3 + 1) c')[k * 3 + 0]? = some a := by rw [List.getElem?_set_ne (by omega)]; exact h0
 have q2 : (cs.set (k * 3 + 1) c')[k * 3 + 2]? = some c := by rw [List.getElem?_set_ne (by omega)]; exact h2
 have h := set_last3 (c' := c) q0 q1 q2
 have e : (cs.set (k * 3 + 1) c').set (k * 3 + 2) c = cs.set (k * 3 + 1) c' := by
  obtain ⟨hl, he⟩ := List.getElem?_eq_some_iff.1 q2
  have := List.set_getElem_self (as := cs.set (k * 3 + 1) c') (i := k * 3 + 2) hl
  rw [he] at this; exact this
 rw [e] at h
 rw [h, List.take_set_of_le (by omega), List.drop_set_of_lt (by omega)]
theorem Holds.openArgs {A B : List HP} {w : World} {k : Nat} (hk : k < xs.length) (H : Holds F (A ++ transD e E v xs :: B) w) :
  ∃ cs a F2, F ≤ F2 ∧ IsSl v ∧ IsSl a ∧ cs[k * 3 + 1]? = some a ∧ cs.length = xs.length * 3 ∧ TransX F2 cs xs k ∧
   Holds F2 (intsH e a (xs.getD k (0, [], 0)).2.1 :: (A ++ slH E 3 v xs.length cs :: B)) w := by
 obtain ⟨h1, h2, h3, h4, l, hl, nd, hp⟩ := H
 obtain ⟨la, m, lc, ha, ⟨cs, Ls, hd, x, y, hx, hy, rfl⟩, hc, rfl⟩ := star_mid.1 hl
 obtain ⟨A1, K, B1, es, rfl, hel, ⟨a, rfl, rfl⟩, hg, hput⟩ := hd.at9 (d := ((0, [], 0) : TranT)) hk
 obtain ⟨y1, y2, hy1, hy2, rfl⟩ := star_append.1 hy
 obtain ⟨yk, y3, hyk, hy3, rfl⟩ := star_append.1 hy2
 obtain ⟨ka, kb, hka, hkb, rfl⟩ := hyk
 obtain rfl : kb = [] := hkb
 have hlen := hd.len
 have pm : (la ++ ((x ++ (y1 ++ ((ka ++ []) ++ y3))) ++ lc)).Perm ((ka ++ (la ++ (x ++ lc))) ++ ((y1 ++ y3) ++ [])) := by
  haveI : DecidableEq (Nat × Obj) := fun _ _ => Classical.propDecidable _
  refine List.perm_iff_count.2 fun z => ?_
  simp only [List.count_append, List.count_nil]; omega
 have H2 : Holds F ((intsH e a (xs.getD k (0, [], 0)).2.1 :: (A ++ slH E 3 v xs.length cs :: B)) ++ star (A1 ++ B1) :: []) w := by
  refine ⟨h1, h2, h3, h4, (ka ++ (la ++ (x ++ lc))) ++ ((y1 ++ y3) ++ []), star_append.2 ⟨_, _, ⟨ka, _, hka, star_append.2 ⟨la, x ++ lc, ha, ⟨x, lc, hx, hc, rfl⟩, rfl⟩, rfl⟩, ⟨_, [], star_append.2 ⟨y1, y3, hy1, hy3, rfl⟩, rfl, rfl⟩, rfl⟩, ?_, ?_⟩
  ·exact (pm.map Prod.fst).nodup_iff.1 nd
  ·exact fun z hz => hp z (pm.mem_iff.2 hz)
 obtain ⟨F2, le, hz, H3, _⟩ := H2.lendF
 refine ⟨cs, a, F2, le, hx.isSl, hka.isSl, hg 1 _ rfl, hlen, ?_, by simpa using H3⟩
 intro F' a' y9 le' hy9
 obtain ⟨m, hm, _, hm2⟩ := hz
 have h9 := hput (TranO2 F' e) (fun es x K h => .inl h) [.int .i64 (xs.getD k (0, [], 0)).1, a', .int .i64 (xs.getD k (0, [], 0)).2.2] ((xs.getD k (0, [], 0)).1, y9, (xs.getD k (0, [], 0)).2.2) [] rfl (.inr ⟨a', rfl, hy9, rfl⟩)
 rw [← set_mid3 (c' := a') (hg 0 _ rfl) (hg 1 _ rfl) (hg 2 _ rfl)] at h9
 exact h9.co TranO2.fz ⟨m, by simpa using hm, fun p hp => le'.cells _ _ (hm2 p hp).2⟩
theorem X.openArgs {P : Program} {n : Nat} {c : Code} {Q : QX} {ρ : Env} (A B : List HP) {k : Nat} (hk : k < xs.length) (hL : L = A ++ transD e E v xs :: B)
  (H : ∀ cs a F2, F ≤ F2 → IsSl v → IsSl a → cs[k * 3 + 1]? = some a → cs.length = xs.length * 3 → TransX F2 cs xs k →
   X P n c Q ρ F2 (intsH e a (xs.getD k (0, [], 0)).2.1 :: (A ++ slH E 3 v xs.length cs :: B))) : X P n c Q ρ F L := by
 subst hL
 intro ok a w r Hw
 obtain ⟨cs, a', F2, le, h1, h2, h3, h4, h6, H'⟩ := Hw.openArgs hk
 exact Code.wp_mono (fun _ _ _ q => low_le le q) (H cs a' F2 le h1 h2 h3 h4 h6 ok a w r H')
theorem transH.slv (A : List HP) {B : List HP} (hL : L = A ++ transD e E v xs :: B) : SlV F L v xs.length := by
 subst hL
 intro w H
 obtain ⟨h1, h2, h3, h4, l, hl, nd, hp⟩ := H
 obtain ⟨la, m, lc, ha, ⟨cs, Ls, hd, x, y, hx, hy, rfl⟩, hc, rfl⟩ := star_mid.1 hl
 refine SlV.own (F := F) (A ++ [star Ls]) (B := B) (E := E) (s := 3) (n := xs.length) (v := v) (cs := cs) rfl w ⟨h1, h2, h3, h4, (la ++ y) ++ (x ++ lc), star_append.2 ⟨la ++ y, x ++ lc, star_append.2 ⟨la, y, ha, ⟨y, [], hy, rfl, by simp⟩, rfl⟩, ⟨x, lc, hx, hc, rfl⟩, rfl⟩, ?_, ?_⟩
 ·have pm : (la ++ ((x ++ y) ++ lc)).Perm ((la ++ y) ++ (x ++ lc)) := by
   haveI : DecidableEq (Nat × Obj) := fun _ _ => Classical.propDecidable _
   refine List.perm_iff_count.2 fun z => ?_
   simp only [List.count_append]; omega
  exact (pm.map Prod.fst).nodup_iff.1 nd
 ·intro p hq; refine hp p ?_; simp only [List.mem_append] at hq ⊢
  rcases hq with (hq | hq) | hq | hq
  ·exact .inl hq
  ·exact .inr (.inl (.inr hq))
  ·exact .inr (.inl (.inl hq))
  ·exact .inr (.inr hq)
end
open Go Go.WideShapes Go.ChangeShapes Go.RowKit
def fhOf (w : World) : FH := ⟨fun b => w.heap[b]?, w.os, w.output, w.tape⟩
theorem holds_fhOf (w : World) : Holds (fhOf w) [] w := ⟨rfl, rfl, rfl, fun _ _ h => h, [], rfl, List.nodup_nil, fun p hp => absurd hp (by simp)⟩
theorem cell_fhOf (w : World) (a : Addr) : (fhOf w).cell? a = w.cell? a := by
 unfold FH.cell? World.cell? fhOf
 rfl
theorem below_of_holds {w w' : World} {F' : FH} {L' : List HP} (le : fhOf w ≤ F') (h : Holds F' L' w') : Below w.heap.size w w' := by
 have key : ∀ k o, w.heap[k]? = some o → w'.heap[k]? = some o := fun k o hk => h.cells k o (le.cells k o hk)
 refine ⟨h.os.trans le.os, h.tape.trans le.tape, h.output.trans le.output, ?_, fun k hk => ?_⟩
 ·rcases Nat.eq_zero_or_pos w.heap.size with h0 | h0
  ·omega
  ·have h1 : w.heap[w.heap.size - 1]? = some (w.heap[w.heap.size - 1]'(by omega)) := Array.getElem?_eq_getElem (by omega)
   have h2 := (Array.getElem?_eq_some_iff.1 (key _ _ h1)).1
   omega
 ·have h1 : w.heap[k]? = some (w.heap[k]'hk) := Array.getElem?_eq_getElem hk
  rw [h1]
  exact key _ _ h1
def Opens (P : Program) (t : TypeId) {α : Type} (R : FH → List Value → α → Prop) (B : α → Prop) : Prop :=
 ∀ (H : Type) (enc : TypeId × Value → H) (w : World) (base : Nat) (spare : Nat → Bool) (held : Bool) (fuel : Nat) (cs : List Value) (x : DataW H × List MemPlace),
  DataW.trod enc P w base spare held fuel t cs = some x → ∃ a, R (fhOf w) cs a ∧ B a
section
variable {P : Program} {t e : TypeId}
theorem opens_slice {α : Type} {R : FH → List Value → α → Prop} {B : α → Prop} {s : Nat} (d : α) (ht : P.underlying t = some (.slice e)) (hc : P.cellsOf e = s) (ho : Opens P e R B) :
  Opens P t (fun F cs (xs : List α) => ∃ v, cs = [v] ∧ SlOf s R d F v xs) (fun xs => xs.length ≤ 9223372036854775807 ∧ ∀ i, i < xs.length → B (xs.getD i d)) := by
 intro H enc w base spare held fuel cs x h
 rcases Go.Deep.open_slice ht h with ⟨rfl, _⟩ | ⟨a, len, cap, m, n, D, Pl, rfl, hb, hl, hm, hmm, _, hx⟩
 ·exact ⟨[], ⟨_, rfl, [], ⟨by simp, none, 0, rfl, by simp, fun _ => rfl, fun a h => by cases h⟩, fun i hi => by simp at hi⟩, by simp, fun i hi => by simp at hi⟩
 ·have hlm : len ≤ m := by rw [hmm]; split <;> omega
  rw [hc] at hx
  have each : ∀ i, i < len → ∃ q : α, ∃ cs' : List Value, cs'.length = s ∧ (∀ r, r < s → w.cell? (a.add (i * s + r)) = cs'[r]?) ∧ R (fhOf w) cs' q ∧ B q := by
   intro i hi
   obtain ⟨cs', h1, h2⟩ := hx i (by omega)
   obtain ⟨_, hlen, hcell⟩ := World.cells?_some h1
   obtain ⟨q, hq, hbq⟩ := ho H enc w base spare held n cs' _ h2
   exact ⟨q, cs', hlen, fun r hr => by rw [← hcell r hr, add_add], hq, hbq⟩
  have ⟨q, hq⟩ : ∃ q : Nat → α, ∀ i, i < len → ∃ cs' : List Value, cs'.length = s ∧ (∀ r, r < s → w.cell? (a.add (i * s + r)) = cs'[r]?) ∧ R (fhOf w) cs' (q i) ∧ B (q i) := by
   haveI : Inhabited α := ⟨d⟩
   exact Go.Deep.choose_lt each
  let V : Nat → Value := fun j => (w.cell? (a.add j)).getD undef
  have hV : ∀ j, j < len * s → w.cell? (a.add j) = some (V j) := by
   intro j hj
   have hs : 0 < s := by rcases Nat.eq_zero_or_pos s with h0 | h0; subst h0; simp at hj; exact h0
   have hdiv : j / s < len := (Nat.div_lt_iff_lt_mul hs).2 hj
   obtain ⟨cs', hl', hcell, _⟩ := hq (j / s) hdiv
   have hr := hcell (j % s) (Nat.mod_lt _ hs)
   have e1 : j / s * s + j % s = j := by rw [Nat.mul_comm]; exact Nat.div_add_mod j s
   rw [e1] at hr
   have hlt : j % s < cs'.length := by rw [hl']; exact Nat.mod_lt _ hs
   rw [List.getElem?_eq_getElem hlt] at hr
   show w.cell? (a.add j) = some ((w.cell? (a.add j)).getD undef)
   rw [hr]; rfl
  have hxl : ((List.range len).map q).length = len := by simp
  have hgd : ∀ i, i < len → ((List.range len).map q).getD i d = q i := fun i hi => by simp [List.getD, hi]
  refine ⟨(List.range len).map q, ⟨_, rfl, (List.range (len * s)).map V, ⟨by simp, some a, cap, by rw [hxl], by omega, (fun h => by cases h), ?_⟩, ?_⟩, by rw [hxl]; unfold maxLen at hm; omega, fun i hi => ?_⟩
  ·intro a' ha i u hu
   obtain rfl := Option.some.inj ha
   have hi : i < len * s := by have := (List.getElem?_eq_some_iff.1 hu).1; simpa using this
   rw [cell_fhOf, hV i hi]
   rw [List.getElem?_map, List.getElem?_range hi] at hu
   exact hu
  ·intro i hi
   rw [hxl] at hi
   obtain ⟨cs', hl', hcell, hR, _⟩ := hq i hi
   refine ⟨cs', hl', ?_, by rw [hgd i hi]; exact hR⟩
   have hle : i * s + s ≤ len * s := by
    have : (i + 1) * s ≤ len * s := Nat.mul_le_mul_right s hi
    rwa [Nat.succ_mul] at this
   apply List.ext_getElem?
   intro r
   rcases Nat.lt_or_ge r s with hr | hr
   ·rw [List.getElem?_take, if_pos hr, List.getElem?_drop, List.getElem?_map, List.getElem?_range (by omega), ← hcell r hr, hV _ (by omega)]; rfl
   ·rw [List.getElem?_eq_none (by simp; omega), List.getElem?_eq_none (by omega)]
  ·rw [hxl] at hi
   obtain ⟨_, _, _, _, hB⟩ := hq i hi
   rw [hgd i hi]
   exact hB
theorem Opens.mono {α : Type} {R R' : FH → List Value → α → Prop} {B B' : α → Prop} (h : Opens P t R B) (hR : ∀ F cs a, R F cs a → R' F cs a) (hB : ∀ a, B a → B' a) : Opens P t R' B' := fun H enc w base spare held fuel cs x hx =>
 let ⟨a, h1, h2⟩ := h H enc w base spare held fuel cs x hx
 ⟨a, hR _ _ _ h1, hB _ h2⟩
theorem Opens.slv {α : Type} {R : FH → List Value → α → Prop} {B : α → Prop} (h : Opens P t R B) (ht : P.underlying t = some (.slice e)) {H : Type} {enc : TypeId × Value → H} {w : World} {r : Reach} {base b0 : Nat} {spare : Nat → Bool} {held : Bool} {v : Value} {d : DataW H} {ps : List MemPlace}
  (hv : Value.okWide P w r b0 t v) (ht' : DataW.Trod enc P w base spare held t v d ps) : ∃ a, R (fhOf w) [v] a ∧ B a := by
 obtain ⟨a, l, c, rfl⟩ := okWide_slice ht hv
 obtain ⟨n, hn⟩ := ht'
 exact h H enc w base spare held n _ _ hn
theorem trodAll_below {H : Type} {enc : TypeId × Value → H} (hl : laidOutB P = true) {W W' : World} (hb : Below W.heap.size W W') {sp : Nat → Bool} :
  ∀ {ts : List TypeId} {vs : List Value} {ds : List (DataW H)} {ps : List MemPlace}, (ts.all fun t => P.readableRec t && decide (t < P.types.size)) = true → DataW.TrodAll enc P W 0 (fun _ => true) true ts vs ds ps →
   (∀ x ∈ ps, x.block < W.heap.size) → (∀ p ∈ ps, sp p.block = true) → DataW.TrodAll enc P W' 0 sp true ts vs ds ps
 | [], [], [], _, _, h, _, _ => h
 | [], _ :: _, _, _, _, h, _, _ => by cases h
 | [], [], _ :: _, _, _, h, _, _ => by cases h
 | _ :: _, [], _, _, _, h, _, _ => by cases h
 | _ :: _, _ :: _, [], _, _, h, _, _ => by cases h
 | t :: ts, v :: vs, d :: ds, ps, hr, h, hlt, hsp => by
  obtain ⟨p, q, h1, h2, rfl⟩ := h
  simp only [List.all_cons, Bool.and_eq_true, decide_eq_true_eq] at hr
  exact ⟨p, q, Go.WideElems.Trod_stays hl hr.1.1 hr.1.2 h1 (fun x hx => hb.same (hlt x (List.mem_append_left _ hx))) (fun x hx => hsp x (List.mem_append_left _ hx)),
   trodAll_below hl hb hr.2 h2 (fun x hx => hlt x (List.mem_append_right _ hx)) (fun x hx => hsp x (List.mem_append_right _ hx)), rfl⟩
theorem post_of_law {H : Type} {enc : TypeId × Value → H} {f : Func} {s : ChangeSpec} {apart fresh handsOn : Bool} {W W' : World} {args : Array Value} {ds gs : List (DataW H)} {before : List MemPlace} {tb : TypeId}
  (hs : s.vars = []) (hfn : s.fn H (ds ++ gs) = { results := [.lit (.bool true)], args := ds }) (hl : laidOutB P = true) (hr : (f.params.toList.all fun t => P.readableRec t && decide (t < P.types.size)) = true)
  (hres : f.resultTypes = #[tb]) (htb : P.underlying tb = some .bool) (hW : DataW.Whole enc P f.params.toList s.vars apart W args.toList ds gs before) (hb : Below W.heap.size W W') : s.post enc P f apart fresh handsOn false W args (.bool true) W' := by
 have hlt := hW.lt
 have hW' := hW
 obtain ⟨p, q, hA, hV, rfl, _, _⟩ := hW
 rw [hs] at hV
 obtain ⟨rfl, rfl⟩ := trodVars_none hV
 refine ⟨ds, [], p ++ [], [], p, [], hW', ?_, ?_, ?_, ?_, fun h => by cases h⟩
 ·rw [hfn, hres]
  exact trodAll_cons_mk (shut_bool htb _) trodAll_mk0
 ·rw [hfn]
  exact trodAll_below hl hb hr hA (fun x hx => hlt x (by simpa using hx)) (fun x hx => by simpa using hlt x (by simpa using hx))
 ·rw [hfn, hs]; rfl
 ·exact World.keptBut_mono (fun x hx => ⟨hx, .inr (.inl (by simpa using hx))⟩) (hb.frame (· ∈ p ++ []))
theorem Does.atTop {f : FuncId} {args : List Value} {W : World} (h : Does P f args (fhOf W) [] fun v _ _ => v = .bool true) : Calls P f args.toArray W fun e W' => e = .returned (.bool true) ∧ Below W.heap.size W W' :=
 (h W (holds_fhOf W)).mono fun _ _ ⟨_, _, _, he, le, H, hv⟩ => ⟨by rw [he, hv], below_of_holds le H⟩
end
section
variable {P : Program} {t e : TypeId}
end
open Go Go.ChangeShapes Go.WideShapes Go.ChangeAt
section
variable {P : Program} {t e : TypeId}
theorem opens_byte (ht : P.underlying e = some (.int .u8)) : Opens P e ByteE (fun _ => True) := by
 intro H enc w base spare held fuel cs x h
 obtain ⟨n, rfl, _, hw⟩ := DataW.trod_int ht h
 refine ⟨n, ⟨rfl, ?_⟩, trivial⟩
 simp [Lit.wf, IntKind.min, IntKind.max, IntKind.signed, IntKind.bits] at hw
 omega
theorem opens_bytes (ht : P.underlying t = some (.slice e)) (he : P.underlying e = some (.int .u8)) (hc : P.cellsOf e = 1) :
  Opens P t (fun F cs (xs : List Int) => ∃ v, cs = [v] ∧ BytesF F v xs) (fun xs => xs.length ≤ 9223372036854775807) :=
 (opens_slice 0 ht hc (opens_byte he)).mono (fun _ _ _ h => h) (fun _ h => h.1)
end
end Go.Proofs.Ytgdcboopbmpdoaa.X
