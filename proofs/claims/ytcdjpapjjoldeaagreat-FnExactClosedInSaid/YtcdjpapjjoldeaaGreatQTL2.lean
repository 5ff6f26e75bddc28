/-
  What the walks rest on (part 3).
-/
import Derived.Orders
import Derived.Tactics
import Derived.Below
import Derived.Laws.CopyRow
import Derived.Laws.AppendOwn
import Derived.IntWalk
import Derived.Lib.AppendZeros
import Derived.Scope
import Derived.OrdersIn
import Derived.TacticsIn
import Derived.RangeFuncSeq
import Derived.RangeFuncRecord
import Derived.RangeFuncLeaves
import Derived.Laws.Append
import Derived.WalkKit
import Derived.ProofKit
import Derived.OpenShut
import Derived.JoinedCond
import Derived.Carry
import Derived.Deep.Slices
import Derived.Test.YtcdjpapjjoldeaaGreatQTL1
set_option linter.unusedSimpArgs false
set_option linter.unusedVariables false
namespace Go.Proofs.YtcdjpapjjoldeaaGreat.X
open Go Go.WideShapes Go.ChangeShapes Go.RowKit
def fhOf (w : World) : FH := ⟨fun b => w.heap[b]?, w.os, w.output, w.tape⟩
theorem holds_fhOf (w : World) : Holds (fhOf w) [] w := ⟨rfl, rfl, rfl, fun _ _ h => h, [], rfl, List.nodup_nil, fun p hp => absurd hp (by simp)⟩
theorem cell_fhOf (w : World) (a : Addr) : (fhOf w).cell? a = w.cell? a := by
 unfold FH.cell? World.cell? fhOf
 rfl
theorem below_of_holds {w w' : World} {F' : FH} {L' : List HP} (le : fhOf w ≤ F') (h : Holds F' L' w') : Below w.heap.size w w' := by
 have key : ∀ k o, w.heap[k]? = some o → w'.heap[k]? = some o := fun k o hk => h.cells k o (le.cells k o hk)
 refine ⟨h.os.trans le.os, h.tape.trans le.tape, h.output.trans le.output, ?_, fun k hk => ?_⟩
 ·rcases Nat.eq_zero_or_pos w.heap.size with h0 | h0
  ·omega
  ·have h1 : w.heap[w.heap.size - 1]? = some (w.heap[w.heap.size - 1]'(by omega)) := Array.getElem?_eq_getElem (by omega)
   have h2 := (Array.getElem?_eq_some_iff.1 (key _ _ h1)).1
   omega
 ·have h1 : w.heap[k]? = some (w.heap[k]'hk) := Array.getElem?_eq_getElem hk
  rw [h1]
  exact key _ _ h1
def Opens (P : Program) (t : TypeId) {α : Type} (R : FH → List Value → α → Prop) (B : α → Prop) : Prop :=
 ∀ (H : Type) (enc : TypeId × Value → H) (w : World) (base : Nat) (spare : Nat → Bool) (held : Bool) (fuel : Nat) (cs : List Value) (x : DataW H × List MemPlace),
  DataW.trod enc P w base spare held fuel t cs = some x → ∃ a, R (fhOf w) cs a ∧ B a
section
variable {P : Program} {t e : TypeId}
theorem opens_ints (ht : P.underlying t = some (.slice e)) (he : P.underlying e = some (.int .i64)) (hc : P.cellsOf e = 1) : Opens P t RowF (fun xs => xs.length ≤ 9223372036854775807) := by
 intro H enc w base spare held fuel cs x h
 rcases open_ints ht he hc h with ⟨rfl, _⟩ | ⟨a, len, cap, zs, rfl, hb, hl, hm, hz, _, hcell, _⟩
 ·exact ⟨[], ⟨_, rfl, by simp, none, 0, rfl, by simp, fun _ => rfl, fun a h => by cases h⟩, by simp⟩
 ·have hlz : len ≤ zs.length := by rw [hz]; split <;> omega
  have e1 : (zs.take len).length = len := by rw [List.length_take]; omega
  refine ⟨zs.take len, ⟨_, rfl, by simp, some a, cap, by rw [e1], by omega, (fun h => by cases h), ?_⟩, by unfold maxLen at hm; omega⟩
  intro a' ha i u hu
  obtain rfl := Option.some.inj ha
  have hi : i < len := by have := (List.getElem?_eq_some_iff.1 hu).1; simp at this; omega
  rw [cell_fhOf, hcell i (by omega)]
  rw [List.getElem?_map, List.getElem?_take, if_pos hi, List.getElem?_eq_getElem (by omega)] at hu
  simp only [Option.map_some, Option.some.injEq] at hu
  rw [← hu]
  simp [List.getD, List.getElem?_eq_getElem (show i < zs.length by omega)]
theorem opens_slice {α : Type} {R : FH → List Value → α → Prop} {B : α → Prop} {s : Nat} (d : α) (ht : P.underlying t = some (.slice e)) (hc : P.cellsOf e = s) (ho : Opens P e R B) :
  Opens P t (fun F cs (xs : List α) => ∃ v, cs = [v] ∧ SlOf s R d F v xs) (fun xs => xs.length ≤ 9223372036854775807 ∧ ∀ i, i < xs.length → B (xs.getD i d)) := by
 intro H enc w base spare held fuel cs x h
 rcases Go.Deep.open_slice ht h with ⟨rfl, _⟩ | ⟨a, len, cap, m, n, D, Pl, rfl, hb, hl, hm, hmm, _, hx⟩
 ·exact ⟨[], ⟨_, rfl, [], ⟨by simp, none, 0, rfl, by simp, fun _ => rfl, fun a h => by cases h⟩, fun i hi => by simp at hi⟩, by simp, fun i hi => by simp at hi⟩
 ·have hlm : len ≤ m := by rw [hmm]; split <;> omega
  rw [hc] at hx
  have each : ∀ i, i < len → ∃ q : α, ∃ cs' : List Value, cs'.length = s ∧ (∀ r, r < s → w.cell? (a.add (i * s + r)) = cs'[r]?) ∧ R (fhOf w) cs' q ∧ B q := by
   intro i hi
   obtain ⟨cs', h1, h2⟩ := hx i (by omega)
   obtain ⟨_, hlen, hcell⟩ := World.cells?_some h1
   obtain ⟨q, hq, hbq⟩ := ho H enc w base spare held n cs' _ h2
   exact ⟨q, cs', hlen, fun r hr => by rw [← hcell r hr, add_add], hq, hbq⟩
  have ⟨q, hq⟩ : ∃ q : Nat → α, ∀ i, i < len → ∃ cs' : List Value, cs'.length = s ∧ (∀ r, r < s → w.cell? (a.add (i * s + r)) = cs'[r]?) ∧ R (fhOf w) cs' (q i) ∧ B (q i) := by
   haveI : Inhabited α := ⟨d⟩
   exact Go.Deep.choose_lt each
  let V : Nat → Value := fun j => (w.cell? (a.add j)).getD undef
  have hV : ∀ j, j < len * s → w.cell? (a.add j) = some (V j) := by
   intro j hj
   have hs : 0 < s := by rcases Nat.eq_zero_or_pos s with h0 | h0; subst h0; simp at hj; exact h0
   have hdiv : j / s < len := (Nat.div_lt_iff_lt_mul hs).2 hj
   obtain ⟨cs', hl', hcell, _⟩ := hq (j / s) hdiv
   have hr := hcell (j % s) (Nat.mod_lt _ hs)
   have e1 : j / s * s + j % s = j := by rw [Nat.mul_comm]; exact Nat.div_add_mod j s
   rw [e1] at hr
   have hlt : j % s < cs'.length := by rw [hl']; exact Nat.mod_lt _ hs
   rw [List.getElem?_eq_getElem hlt] at hr
   show w.cell? (a.add j) = some ((w.cell? (a.add j)).getD undef)
   rw [hr]; rfl
  have hxl : ((List.range len).map q).length = len := by simp
  have hgd : ∀ i, i < len → ((List.range len).map q).getD i d = q i := fun i hi => by simp [List.getD, hi]
  refine ⟨(List.range len).map q, ⟨_, rfl, (List.range (len * s)).map V, ⟨by simp, some a, cap, by rw [hxl], by omega, (fun h => by cases h), ?_⟩, ?_⟩, by rw [hxl]; unfold maxLen at hm; omega, fun i hi => ?_⟩
  ·intro a' ha i u hu
   obtain rfl := Option.some.inj ha
   have hi : i < len * s := by have := (List.getElem?_eq_some_iff.1 hu).1; simpa using this
   rw [cell_fhOf, hV i hi]
   rw [List.getElem?_map, List.getElem?_range hi] at hu
   exact hu
  ·intro i hi
   rw [hxl] at hi
   obtain ⟨cs', hl', hcell, hR, _⟩ := hq i hi
   refine ⟨cs', hl', ?_, by rw [hgd i hi]; exact hR⟩
   have hle : i * s + s ≤ len * s := by
    have : (i + 1) * s ≤ len * s := Nat.mul_le_mul_right s hi
    rwa [Nat.succ_mul] at this
   apply List.ext_getElem?
   intro r
   rcases Nat.lt_or_ge r s with hr | hr
   ·rw [List.getElem?_take, if_pos hr, List.getElem?_drop, List.getElem?_map, List.getElem?_range (by omega), ← hcell r hr, hV _ (by omega)]; rfl
   ·rw [List.getElem?_eq_none (by simp; omega), List.getElem?_eq_none (by omega)]
  ·rw [hxl] at hi
   obtain ⟨_, _, _, _, hB⟩ := hq i hi
   rw [hgd i hi]
   exact hB
theorem opens_struct1 {α : Type} {R : FH → List Value → α → Prop} {B : α → Prop} {f0 : Field} (ht : P.underlying t = some (.struct #[f0])) (ho : f0.offset = 0) (hc : P.cellsOf f0.type = P.cellsOf t) (h0 : Opens P f0.type R B) : Opens P t R B := by
 intro H enc w base spare held fuel cs x h
 obtain ⟨y0, n, _, hl, h⟩ := trod_struct1 ht h
 rw [ho, hc, List.drop_zero, ← hl, List.take_length] at h
 exact h0 H enc w base spare held n cs _ h
theorem opens_struct2 {α β : Type} {R0 : FH → List Value → α → Prop} {B0 : α → Prop} {R1 : FH → List Value → β → Prop} {B1 : β → Prop} {f0 f1 : Field} (ht : P.underlying t = some (.struct #[f0, f1])) (o0 : f0.offset = 0) (o1 : f1.offset = P.cellsOf f0.type)
  (hc : P.cellsOf f0.type + P.cellsOf f1.type = P.cellsOf t) (h0 : Opens P f0.type R0 B0) (h1 : Opens P f1.type R1 B1) : Opens P t (fun F cs (x : α × β) => ∃ a b, cs = a ++ b ∧ R0 F a x.1 ∧ R1 F b x.2) (fun x => B0 x.1 ∧ B1 x.2) := by
 intro H enc w base spare held fuel cs x h
 obtain ⟨y0, y1, n, _, hl, g0, g1⟩ := trod_struct2 ht h
 rw [o0, List.drop_zero] at g0
 rw [o1] at g1
 obtain ⟨a, ha, ba⟩ := h0 H enc w base spare held n _ _ g0
 obtain ⟨b, hb, bb⟩ := h1 H enc w base spare held n _ _ g1
 refine ⟨(a, b), ⟨_, _, ?_, ha, hb⟩, ba, bb⟩
 rw [List.take_of_length_le (l := cs.drop _) (by rw [List.length_drop]; omega), List.take_append_drop]
theorem Opens.mono {α : Type} {R R' : FH → List Value → α → Prop} {B B' : α → Prop} (h : Opens P t R B) (hR : ∀ F cs a, R F cs a → R' F cs a) (hB : ∀ a, B a → B' a) : Opens P t R' B' := fun H enc w base spare held fuel cs x hx =>
 let ⟨a, h1, h2⟩ := h H enc w base spare held fuel cs x hx
 ⟨a, hR _ _ _ h1, hB _ h2⟩
abbrev M63 : Nat := 9223372036854775807
theorem opens_pairs {f0 f1 : Field} {q0 q1 : TypeId} (ht : P.underlying t = some (.slice e)) (he : P.underlying e = some (.struct #[f0, f1])) (ce : P.cellsOf e = 2) (o0 : f0.offset = 0) (o1 : f1.offset = 1)
  (c0 : P.cellsOf f0.type = 1) (c1 : P.cellsOf f1.type = 1) (u0 : P.underlying f0.type = some (.slice q0)) (u1 : P.underlying f1.type = some (.slice q1)) (w0 : P.underlying q0 = some (.int .i64)) (w1 : P.underlying q1 = some (.int .i64))
  (k0 : P.cellsOf q0 = 1) (k1 : P.cellsOf q1 = 1) :
  Opens P t (fun F cs (xs : List (List Int × List Int)) => ∃ v, cs = [v] ∧ PairsF F v xs) (fun xs => xs.length ≤ M63 ∧ ∀ i, i < xs.length → (xs.getD i ([], [])).1.length ≤ M63 ∧ (xs.getD i ([], [])).2.length ≤ M63) :=
 opens_slice ([], []) ht ce ((opens_struct2 he o0 (by rw [o1, c0]) (by rw [c0, c1, ce]) (opens_ints u0 w0 k0) (opens_ints u1 w1 k1)).mono
  (by rintro F cs x ⟨_, _, rfl, ⟨a, rfl, ha⟩, ⟨b, rfl, hb⟩⟩; exact ⟨a, b, rfl, ha, hb⟩) (fun _ h => h))
theorem opens_s1 {t0 : TypeId} {n : Nat} {α : Type} {R : FH → List Value → α → Prop} {B : α → Prop} {f0 : Field} (ht : P.underlying t = some (.struct #[f0])) (e0 : f0.type = t0) (o0 : f0.offset = 0) (c0 : P.cellsOf t0 = n) (ct : P.cellsOf t = n) (h0 : Opens P t0 R B) : Opens P t R B := by
 subst e0
 exact opens_struct1 ht o0 (c0.trans ct.symm) h0
theorem opens_s2 {t0 t1 : TypeId} {n0 n1 n : Nat} {α β : Type} {R0 : FH → List Value → α → Prop} {B0 : α → Prop} {R1 : FH → List Value → β → Prop} {B1 : β → Prop} {f0 f1 : Field} (ht : P.underlying t = some (.struct #[f0, f1]))
  (e0 : f0.type = t0) (e1 : f1.type = t1) (o0 : f0.offset = 0) (o1 : f1.offset = n0) (c0 : P.cellsOf t0 = n0) (c1 : P.cellsOf t1 = n1) (ct : P.cellsOf t = n) (hn : n0 + n1 = n) (h0 : Opens P t0 R0 B0) (h1 : Opens P t1 R1 B1) :
  Opens P t (fun F cs (x : α × β) => ∃ a b, cs = a ++ b ∧ R0 F a x.1 ∧ R1 F b x.2) (fun x => B0 x.1 ∧ B1 x.2) := by
 subst e0 e1
 exact opens_struct2 ht o0 (o1.trans c0.symm) (by rw [c0, c1, ct, hn]) h0 h1
theorem opens_ps {t0 t1 : TypeId} {f0 f1 : Field} {q0 q1 : TypeId} (ht : P.underlying t = some (.slice e)) (he : P.underlying e = some (.struct #[f0, f1])) (e0 : f0.type = t0) (e1 : f1.type = t1) (o0 : f0.offset = 0) (o1 : f1.offset = 1) (ce : P.cellsOf e = 2)
  (c0 : P.cellsOf t0 = 1) (c1 : P.cellsOf t1 = 1) (u0 : P.underlying t0 = some (.slice q0)) (u1 : P.underlying t1 = some (.slice q1)) (w0 : P.underlying q0 = some (.int .i64)) (w1 : P.underlying q1 = some (.int .i64)) (k0 : P.cellsOf q0 = 1) (k1 : P.cellsOf q1 = 1) :
  Opens P t (fun F cs (xs : List (List Int × List Int)) => ∃ v, cs = [v] ∧ PairsF F v xs) (fun xs => xs.length ≤ M63 ∧ ∀ i, i < xs.length → (xs.getD i ([], [])).1.length ≤ M63 ∧ (xs.getD i ([], [])).2.length ≤ M63) := by
 subst e0 e1
 exact opens_pairs ht he ce o0 o1 c0 c1 u0 u1 w0 w1 k0 k1
theorem Opens.slv {α : Type} {R : FH → List Value → α → Prop} {B : α → Prop} (h : Opens P t R B) (ht : P.underlying t = some (.slice e)) {H : Type} {enc : TypeId × Value → H} {w : World} {r : Reach} {base b0 : Nat} {spare : Nat → Bool} {held : Bool} {v : Value} {d : DataW H} {ps : List MemPlace}
  (hv : Value.okWide P w r b0 t v) (ht' : DataW.Trod enc P w base spare held t v d ps) : ∃ a, R (fhOf w) [v] a ∧ B a := by
 obtain ⟨a, l, c, rfl⟩ := okWide_slice ht hv
 obtain ⟨n, hn⟩ := ht'
 exact h H enc w base spare held n _ _ hn
theorem Opens.agg {α : Type} {R : FH → List Value → α → Prop} {B : α → Prop} (h : Opens P t R B) {fs : Array Field} (ht : P.underlying t = some (.struct fs)) {H : Type} {enc : TypeId × Value → H} {w : World} {r : Reach} {base b0 : Nat} {spare : Nat → Bool} {held : Bool} {v : Value} {d : DataW H} {ps : List MemPlace}
  (hv : Value.okWide P w r b0 t v) (ht' : DataW.Trod enc P w base spare held t v d ps) : ∃ cs : List Value, v = .agg cs.toArray ∧ ∃ a, R (fhOf w) cs a ∧ B a := by
 obtain ⟨cs, rfl, _⟩ := okWide_struct ht hv
 obtain ⟨n, hn⟩ := ht'
 exact ⟨cs.toList, by simp, h H enc w base spare held n _ _ hn⟩
theorem Opens.int {k : IntKind} (ht : P.underlying t = some (.int k)) {H : Type} {enc : TypeId × Value → H} {w : World} {r : Reach} {base b0 : Nat} {spare : Nat → Bool} {held : Bool} {v : Value} {d : DataW H} {ps : List MemPlace}
  (hv : Value.okWide P w r b0 t v) (ht' : DataW.Trod enc P w base spare held t v d ps) : ∃ n, v = .int k n ∧ (Lit.int k n).wf = true := by
 obtain ⟨n, rfl, _, _, hw⟩ := open_int ht hv ht'
 exact ⟨n, rfl, hw⟩
theorem trodAll_below {H : Type} {enc : TypeId × Value → H} (hl : laidOutB P = true) {W W' : World} (hb : Below W.heap.size W W') {sp : Nat → Bool} :
  ∀ {ts : List TypeId} {vs : List Value} {ds : List (DataW H)} {ps : List MemPlace}, (ts.all fun t => P.readableRec t && decide (t < P.types.size)) = true → DataW.TrodAll enc P W 0 (fun _ => true) true ts vs ds ps →
   (∀ x ∈ ps, x.block < W.heap.size) → (∀ p ∈ ps, sp p.block = true) → DataW.TrodAll enc P W' 0 sp true ts vs ds ps
 | [], [], [], _, _, h, _, _ => h
 | [], _ :: _, _, _, _, h, _, _ => by cases h
 | [], [], _ :: _, _, _, h, _, _ => by cases h
 | _ :: _, [], _, _, _, h, _, _ => by cases h
 | _ :: _, _ :: _, [], _, _, h, _, _ => by cases h
 | t :: ts, v :: vs, d :: ds, ps, hr, h, hlt, hsp => by
  obtain ⟨p, q, h1, h2, rfl⟩ := h
  simp only [List.all_cons, Bool.and_eq_true, decide_eq_true_eq] at hr
  exact ⟨p, q, Go.WideElems.Trod_stays hl hr.1.1 hr.1.2 h1 (fun x hx => hb.same (hlt x (List.mem_append_left _ hx))) (fun x hx => hsp x (List.mem_append_left _ hx)),
   trodAll_below hl hb hr.2 h2 (fun x hx => hlt x (List.mem_append_right _ hx)) (fun x hx => hsp x (List.mem_append_right _ hx)), rfl⟩
theorem post_of_law {H : Type} {enc : TypeId × Value → H} {f : Func} {s : ChangeSpec} {apart fresh handsOn : Bool} {W W' : World} {args : Array Value} {ds gs : List (DataW H)} {before : List MemPlace} {tb : TypeId}
  (hs : s.vars = []) (hfn : s.fn H (ds ++ gs) = { results := [.lit (.bool true)], args := ds }) (hl : laidOutB P = true) (hr : (f.params.toList.all fun t => P.readableRec t && decide (t < P.types.size)) = true)
  (hres : f.resultTypes = #[tb]) (htb : P.underlying tb = some .bool) (hW : DataW.Whole enc P f.params.toList s.vars apart W args.toList ds gs before) (hb : Below W.heap.size W W') : s.post enc P f apart fresh handsOn false W args (.bool true) W' := by
 have hlt := hW.lt
 have hW' := hW
 obtain ⟨p, q, hA, hV, rfl, _, _⟩ := hW
 rw [hs] at hV
 obtain ⟨rfl, rfl⟩ := trodVars_none hV
 refine ⟨ds, [], p ++ [], [], p, [], hW', ?_, ?_, ?_, ?_, fun h => by cases h⟩
 ·rw [hfn, hres]
  exact trodAll_cons_mk (shut_bool htb _) trodAll_mk0
 ·rw [hfn]
  exact trodAll_below hl hb hr hA (fun x hx => hlt x (by simpa using hx)) (fun x hx => by simpa using hlt x (by simpa using hx))
 ·rw [hfn, hs]; rfl
 ·exact World.keptBut_mono (fun x hx => ⟨hx, .inr (.inl (by simpa using hx))⟩) (hb.frame (· ∈ p ++ []))
theorem Does.atTop {f : FuncId} {args : List Value} {W : World} (h : Does P f args (fhOf W) [] fun v _ _ => v = .bool true) : Calls P f args.toArray W fun e W' => e = .returned (.bool true) ∧ Below W.heap.size W W' :=
 (h W (holds_fhOf W)).mono fun _ _ ⟨_, _, _, he, le, H, hv⟩ => ⟨by rw [he, hv], below_of_holds le H⟩
end
section
variable {P : Program} {t e : TypeId}
end
end Go.Proofs.YtcdjpapjjoldeaaGreat.X
