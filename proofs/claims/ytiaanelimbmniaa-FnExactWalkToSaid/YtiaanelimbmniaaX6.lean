/-
  A region that draws its order: each operation's value is told by what the operations behind which it stands gave; the order does not matter.
-/
import Derived.Test.YtiaanelimbmniaaX5
set_option linter.unusedSimpArgs false
set_option linter.unusedVariables false
namespace Go.Proofs.Ytiaanelimbmniaa.X
open Go

/-- Which operations stand ahead of an operation in every order. -/
def closure : List Oper → List (List Nat) → List (List Nat)
  | [], acc => acc
  | o :: r, acc => closure r (acc ++ [((o.after.toList.filter (fun e => Region.binds .any e)).flatMap fun e => if e.on < acc.length then e.on :: acc.getD e.on [] else [])])
def clo (l : List Oper) (i : Nat) : List Nat := (closure l []).getD i []

theorem closure_length : ∀ (l : List Oper) (acc : List (List Nat)), (closure l acc).length = acc.length + l.length
  | [], acc => by simp [closure]
  | o :: r, acc => by rw [closure, closure_length r]; simp; omega
theorem closure_acc : ∀ (l : List Oper) (acc : List (List Nat)) (i : Nat), i < acc.length → (closure l acc)[i]? = acc[i]?
  | [], acc, i, h => rfl
  | o :: r, acc, i, h => by rw [closure, closure_acc r _ i (by simp; omega), List.getElem?_append_left h]
theorem closure_at : ∀ (l : List Oper) (acc : List (List Nat)) (k : Nat) (o : Oper), l[k]? = some o →
    ∃ A : List (List Nat), A.length = acc.length + k ∧ (∀ i, i < A.length → (closure l acc)[i]? = A[i]?) ∧
      (closure l acc)[acc.length + k]? = some ((o.after.toList.filter (fun e => Region.binds .any e)).flatMap fun e => if e.on < A.length then e.on :: A.getD e.on [] else [])
  | [], acc, k, o, h => by simp at h
  | q :: r, acc, 0, o, h => by
    simp at h; subst h
    refine ⟨acc, rfl, fun i hi => ?_, ?_⟩
    · rw [closure, closure_acc r _ i (by simp; omega), List.getElem?_append_left hi]
    · rw [closure, closure_acc r _ _ (by simp)]
      simp
  | q :: r, acc, k + 1, o, h => by
    simp at h
    obtain ⟨A, hA, h1, h2⟩ := closure_at r (acc ++ [((q.after.toList.filter (fun e => Region.binds .any e)).flatMap fun e => if e.on < acc.length then e.on :: acc.getD e.on [] else [])]) k o h
    simp at hA
    refine ⟨A, by omega, fun i hi => by rw [closure]; exact h1 i hi, ?_⟩
    rw [closure]
    have e : acc.length + (k + 1) = (acc ++ [((q.after.toList.filter (fun e => Region.binds .any e)).flatMap fun e => if e.on < acc.length then e.on :: acc.getD e.on [] else [])]).length + k := by simp; omega
    rw [e]
    exact h2

theorem mem_clo {l : List Oper} {i : Nat} {o : Oper} (ho : l[i]? = some o) {j : Nat} (h : j ∈ clo l i) :
    ∃ e ∈ o.after.toList, Region.binds .any e = true ∧ e.on < i ∧ (j = e.on ∨ j ∈ clo l e.on) := by
  obtain ⟨A, hA, h1, h2⟩ := closure_at l [] i o ho
  simp only [List.length_nil, Nat.zero_add] at hA h2
  unfold clo at h
  rw [List.getD_eq_getElem?_getD, h2] at h
  simp only [Option.getD_some, List.mem_flatMap, List.mem_filter] at h
  obtain ⟨e, ⟨he, hb⟩, hj⟩ := h
  split at hj
  · rename_i hlt
    refine ⟨e, he, hb, by omega, ?_⟩
    rcases List.mem_cons.1 hj with rfl | hj
    · exact .inl rfl
    · refine .inr ?_
      unfold clo
      rw [List.getD_eq_getElem?_getD, h1 _ hlt, ← List.getD_eq_getElem?_getD]
      exact hj
  · cases hj

/-- The slots of the first operations, in the text's order. -/
def canon (vals : Nat → Value) : List Oper → Nat → Env → Env
  | [], _, ρ => ρ
  | o :: r, k, ρ => canon vals r (k + 1) (putE ρ o.dst (vals k))

def dstIs (o : Oper) (s : Nat) : Bool := match o.dst with | some d => Nat.beq d s | none => false

/-- No slot is written twice; what an operation reads of the region's slots was written by operations that stand ahead of it. -/
def looks (l : List Oper) (o : Oper) : List Nat := o.looksAt l.toArray
def notSel (o : Oper) : Bool := match o.op with | .select _ _ => false | _ => true
def drawOk (l : List Oper) (m : Nat) (uses cls : List (List Nat)) : Bool :=
  (List.range l.length).all (fun i =>
    match l[i]? with
    | none => false
    | some o => notSel o && ((uses.getD i []).all (fun j => (clo l i).contains j) && (cls.getD i []).all (fun j => (clo l i).contains j)) &&
      (if i < m then
        (List.range m).all (fun j => match l[j]? with | none => false | some q => (match o.dst with | some d => (decide (i = j)) || !(dstIs q d) | none => true) &&
          ((looks l o).all fun s => !(dstIs q s) || ((clo l i).contains j && decide (j < i))))
       else (List.range i).all (fun j => (clo l i).contains j)) &&
      o.after.toList.all (fun e => !(Region.binds .any e) || decide (e.on < i)))

structure DrawOk (l : List Oper) (m : Nat) (uses cls : List (List Nat)) : Prop where
  sel : ∀ (i : Nat) (o : Oper), l[i]? = some o → ∀ cs b, o.op ≠ .select cs b
  uses : ∀ i, i < l.length → ∀ j ∈ uses.getD i [], j ∈ clo l i
  cls : ∀ i, i < l.length → ∀ j ∈ cls.getD i [], j ∈ clo l i
  one : ∀ (i j : Nat) (o q : Oper), i < m → j < m → l[i]? = some o → l[j]? = some q → ∀ d, o.dst = some d → q.dst = some d → i = j
  read : ∀ (i j : Nat) (o q : Oper), i < m → j < m → l[i]? = some o → l[j]? = some q → ∀ s ∈ o.looksAt l.toArray, q.dst = some s → j ∈ clo l i ∧ j < i
  tail : ∀ i, m ≤ i → i < l.length → ∀ j, j < i → j ∈ clo l i
  back : ∀ (i : Nat) (o : Oper), l[i]? = some o → ∀ e ∈ o.after.toList, Region.binds .any e = true → e.on < i

theorem dstIs_of {o : Oper} {s : Nat} (h : o.dst = some s) : dstIs o s = true := by simp [dstIs, h]

theorem drawOk_spec {l : List Oper} {m : Nat} {uses cls : List (List Nat)} (h : drawOk l m uses cls = true) : DrawOk l m uses cls := by
  have each : ∀ (i : Nat) (o : Oper), l[i]? = some o → (notSel o && ((uses.getD i []).all (fun j => (clo l i).contains j) && (cls.getD i []).all (fun j => (clo l i).contains j)) &&
      (if i < m then
        (List.range m).all (fun j => match l[j]? with | none => false | some q => (match o.dst with | some d => (decide (i = j)) || !(dstIs q d) | none => true) &&
          ((looks l o).all fun s => !(dstIs q s) || ((clo l i).contains j && decide (j < i))))
       else (List.range i).all (fun j => (clo l i).contains j)) &&
      o.after.toList.all (fun e => !(Region.binds .any e) || decide (e.on < i))) = true := by
    intro i o ho
    have hi : i < l.length := (List.getElem?_eq_some_iff.1 ho).1
    have := (List.all_eq_true.1 h) i (List.mem_range.2 hi)
    rw [ho] at this
    exact this
  refine ⟨?_, ?_, ?_, ?_, ?_, ?_, ?_⟩
  · intro i o ho cs b e
    have := each i o ho
    simp [notSel, e] at this
  · intro i hi j hj
    have := each i _ (List.getElem?_eq_getElem hi)
    simp only [Bool.and_eq_true, List.all_eq_true] at this
    have := this.1.1.2.1 j hj
    simpa using this
  · intro i hi j hj
    have := each i _ (List.getElem?_eq_getElem hi)
    simp only [Bool.and_eq_true, List.all_eq_true] at this
    have := this.1.1.2.2 j hj
    simpa using this
  · intro i j o q hi hj ho hq d hd hqd
    have := each i o ho
    simp only [Bool.and_eq_true, hi, if_true, List.all_eq_true, List.mem_range] at this
    have := this.1.2 j hj
    rw [hq] at this
    simp only [hd, Bool.and_eq_true, Bool.or_eq_true, dstIs_of hqd, Bool.not_true, decide_eq_true_eq, or_false, Bool.false_eq_true] at this
    exact this.1
  · intro i j o q hi hj ho hq s hs hqs
    have := each i o ho
    simp only [Bool.and_eq_true, hi, if_true, List.all_eq_true, List.mem_range] at this
    have := this.1.2 j hj
    rw [hq] at this
    simp only [Bool.and_eq_true, List.all_eq_true] at this
    have := this.2 s hs
    simp only [dstIs_of hqs, Bool.not_true, Bool.false_or, Bool.and_eq_true, decide_eq_true_eq] at this
    exact ⟨by simpa using this.1, this.2⟩
  · intro i hm hi j hj
    have := each i _ (List.getElem?_eq_getElem hi)
    simp only [Bool.and_eq_true, show ¬ i < m from by omega, if_false, List.all_eq_true, List.mem_range] at this
    simpa using this.1.2 j hj
  · intro i o ho e he hb
    have := each i o ho
    simp only [Bool.and_eq_true, List.all_eq_true] at this
    have := this.2 e he
    simpa [hb] using this

theorem canon_get (vals : Nat → Value) : ∀ (l : List Oper) (k : Nat) (ρ : Env) (s : Nat),
    (∀ (i j : Nat) (o q : Oper), l[i]? = some o → l[j]? = some q → ∀ d, o.dst = some d → q.dst = some d → i = j) →
    (∀ (i : Nat) (o : Oper), l[i]? = some o → o.dst = some s → canon vals l k ρ s = vals (k + i)) ∧ ((∀ (i : Nat) (o : Oper), l[i]? = some o → o.dst ≠ some s) → canon vals l k ρ s = ρ s)
  | [], k, ρ, s, _ => by simp [canon]
  | q :: r, k, ρ, s, hone => by
    have hone' : ∀ (i j : Nat) (o q : Oper), r[i]? = some o → r[j]? = some q → ∀ d, o.dst = some d → q.dst = some d → i = j := by
      intro i j o q' ho hq d hd hqd
      have := hone (i + 1) (j + 1) o q' (by simpa using ho) (by simpa using hq) d hd hqd
      omega
    obtain ⟨ih1, ih2⟩ := canon_get vals r (k + 1) (putE ρ q.dst (vals k)) s hone'
    constructor
    · intro i o ho hd
      cases i with
      | zero =>
        simp at ho; subst ho
        rw [canon, ih2 (fun i o ho hd' => by have := hone 0 (i + 1) q o (by simp) (by simpa using ho) s hd hd'; omega)]
        simp [putE, hd, upd, Nat.beq_refl]
      | succ i =>
        rw [canon, ih1 i o (by simpa using ho) hd]
        congr 1; omega
    · intro hno
      rw [canon, ih2 (fun i o ho => hno (i + 1) o (by simpa using ho))]
      cases hd : q.dst with
      | none => rfl
      | some d =>
        have hne : d ≠ s := fun e => hno 0 q (by simp) (e ▸ hd)
        have : Nat.beq s d = false := by
          cases hb : Nat.beq s d with
          | false => rfl
          | true => exact absurd (Nat.eq_of_beq_eq_true hb).symm hne
        simp [putE, upd, this]

/-- One operation, behind its guard. -/
def XG (P : Program) (ops : Array Oper) (o : Oper) (ρ : Env) (F : FH) (L : List HP) (K : Post) : Prop :=
  match o.guard with
  | none => XOp P o ρ F L K
  | some (j, want) => ∃ t b, (ops[j]?).bind (·.dst) = some t ∧ ρ t = .bool b ∧ (if b = want then XOp P o ρ F L K else K undef F L)

theorem XG.op {P : Program} {ops : Array Oper} {ρ : Env} {F : FH} {L : List HP} {K : Post} {d : Option Tmp} {op : Op} {ty : TypeId} {pos : String} {af : Array Edge} (h : XOp P ⟨d, op, ty, pos, af, none⟩ ρ F L K) : XG P ops ⟨d, op, ty, pos, af, none⟩ ρ F L K := h
theorem XG.yes {P : Program} {ops : Array Oper} {ρ : Env} {F : FH} {L : List HP} {K : Post} {d : Option Tmp} {op : Op} {ty : TypeId} {pos : String} {af : Array Edge} {g : Nat} {t : Tmp} {b : Bool}
    (ht : (ops[g]?).bind (·.dst) = some t) (hv : ρ t = .bool b) (h : XOp P ⟨d, op, ty, pos, af, some (g, b)⟩ ρ F L K) : XG P ops ⟨d, op, ty, pos, af, some (g, b)⟩ ρ F L K :=
  ⟨t, b, ht, hv, by rw [if_pos rfl]; exact h⟩
theorem XG.no {P : Program} {ops : Array Oper} {ρ : Env} {F : FH} {L : List HP} {K : Post} {d : Option Tmp} {op : Op} {ty : TypeId} {pos : String} {af : Array Edge} {g : Nat} {t : Tmp} {b : Bool}
    (ht : (ops[g]?).bind (·.dst) = some t) (hv : ρ t = .bool (!b)) (h : K undef F L) : XG P ops ⟨d, op, ty, pos, af, some (g, b)⟩ ρ F L K :=
  ⟨t, !b, ht, hv, by rw [if_neg (by cases b <;> simp)]; exact h⟩

def stepsP (P : Program) (l : List Oper) (ρ : Env) (F : FH) (Bs : List HP) (phi : Nat → List Value → Value → Prop) (own : Nat → List Value → Value → List HP) (uses cls : List (List Nat)) : List Oper → Nat → Prop
  | [], _ => True
  | o :: r, i => (∀ (vals : Nat → Value) (R : List HP), (∀ j ∈ cls.getD i [], phi j ((uses.getD j []).map vals) (vals j)) →
      XG P l.toArray o (canon vals (l.take i) 0 ρ) F (Bs ++ R) fun v F' L' => F = F' ∧ phi i ((uses.getD i []).map vals) v ∧ L' = own i ((uses.getD i []).map vals) v ++ (Bs ++ R)) ∧
    stepsP P l ρ F Bs phi own uses cls r (i + 1)

theorem stepsP_get {P : Program} {l : List Oper} {ρ : Env} {F : FH} {Bs : List HP} {phi : Nat → List Value → Value → Prop} {own : Nat → List Value → Value → List HP} {uses cls : List (List Nat)} :
    ∀ (r : List Oper) (i : Nat), stepsP P l ρ F Bs phi own uses cls r i → ∀ (k : Nat) (o : Oper), r[k]? = some o → ∀ (vals : Nat → Value) (R : List HP), (∀ j ∈ cls.getD (i + k) [], phi j ((uses.getD j []).map vals) (vals j)) →
      XG P l.toArray o (canon vals (l.take (i + k)) 0 ρ) F (Bs ++ R) fun v F' L' => F = F' ∧ phi (i + k) ((uses.getD (i + k) []).map vals) v ∧ L' = own (i + k) ((uses.getD (i + k) []).map vals) v ++ (Bs ++ R)
  | [], _, _, k, o, h => by simp at h
  | q :: r, i, ⟨h1, h2⟩, 0, o, h => by simp at h; subst h; exact h1
  | q :: r, i, ⟨h1, h2⟩, k + 1, o, h => by
    have := stepsP_get r (i + 1) h2 k o (by simpa using h)
    rw [show i + (k + 1) = i + 1 + k from by omega]
    exact this

/-- What the executed operations have made. -/
def made (own : Nat → List Value → Value → List HP) (uses : List (List Nat)) (vals : Nat → Value) (ex : List Nat) : List HP := ex.flatMap fun i => own i ((uses.getD i []).map vals) (vals i)

theorem perm_of_mem {l k : List Nat} (hl : l.Nodup) (hk : k.Nodup) (h : ∀ i, i ∈ l ↔ i ∈ k) : l.Perm k := by
  rw [List.perm_iff_count]
  intro a
  rw [List.Nodup.count hl, List.Nodup.count hk]
  simp only [h a]

theorem nodup_lt : ∀ (m : Nat) (l : List Nat), l.Nodup → (∀ i ∈ l, i < m) → l.length ≤ m
  | 0, l, _, h => by
    cases l with
    | nil => simp
    | cons a l => have := h a (by simp); omega
  | m + 1, l, hn, h => by
    have ih := nodup_lt m (l.erase m) (hn.erase m) (fun i hi => by
      have h1 := (List.Nodup.mem_erase_iff hn).1 hi
      have := h i h1.2
      omega)
    rw [List.length_erase] at ih
    split at ih <;> omega
theorem map_upd {vals : Nat → Value} {i : Nat} {v : Value} {l : List Nat} (h : i ∉ l) : l.map (fun j => if j = i then v else vals j) = l.map vals := by
  apply List.map_congr_left
  intro j hj
  have : j ≠ i := fun e => h (e ▸ hj)
  simp [this]

theorem X.draw {P : Program} {n id : Nat} {Q : QX} {ρ : Env} {F : FH} {L : List HP} {l : List Oper} (Bs L0 : List HP) (m : Nat) (uses cls : List (List Nat)) (phi : Nat → List Value → Value → Prop) (own : Nat → List Value → Value → List HP)
    (hmix : P.follows .mixedOrders = true) (hL : L = Bs ++ L0) (hm : Nat.ble m l.length = true) (hok : drawOk l m uses cls = true)
    (hstep : stepsP P l ρ F Bs phi own uses cls (l.take m) 0)
    (hend : ∀ vals : Nat → Value, (∀ i, i < m → phi i ((uses.getD i []).map vals) (vals i)) → XL P n l.toArray (l.drop m) Q (canon vals (l.take m) 0 ρ) F (made own uses vals (List.range m) ++ (Bs ++ L0))) :
    X P n (.region id l.toArray true) Q ρ F L := by
  subst hL
  have hm' : m ≤ l.length := Nat.le_of_ble_eq_true hm
  have ok := drawOk_spec hok
  intro cok a w r H
  have cok' : opsOk n l = true := by simpa [cOk] using cok
  refine wp_region_any hmix ?_
  have H1 : Holds F (Bs ++ L0) { w with drawn := w.drawn + 1 } := H.drew
  generalize { w with drawn := w.drawn + 1 } = w0 at H1
  -- the tail, in its text's order
  have tailP : ∀ (k : Nat) (fuel : Nat) (listed : Array Bool) (a : Act) (w : World), fuel + k = l.length → m ≤ k → listed.size = l.length → (∀ i, i < k → listed.getD i true = true) → (∀ i, k ≤ i → i < l.length → listed.getD i true = false) →
      wpList P l.toArray (low n F Q) (l.drop k) a w → wpAny P .any l.toArray (low n F Q) fuel listed a w := by
    intro k fuel
    induction fuel generalizing k with
    | zero =>
      intro listed a w hk hmk hsz hin hout h
      have hk' : k = l.length := by omega
      subst hk'
      rw [List.drop_length] at h
      refine ⟨?_, h⟩
      unfold Region.ready
      rw [List.filter_eq_nil_iff]
      intro i hi
      have hi' : i < l.length := by simpa using hi
      simp [hin i hi']
    | succ fuel ih =>
      intro listed a w hk hmk hsz hin hout h
      have hkl : k < l.length := by omega
      obtain ⟨o, ho⟩ : ∃ o, l[k]? = some o := ⟨l[k], List.getElem?_eq_getElem hkl⟩
      have hready : ∀ i, i ∈ Region.ready .any l.toArray listed → i = k := by
        intro i hi
        obtain ⟨hun, oi, hoi, hall⟩ := mem_ready.1 hi
        have hoi' : l[i]? = some oi := by simpa using hoi
        have hil : i < l.length := (List.getElem?_eq_some_iff.1 hoi').1
        have hki : k ≤ i := by
          rcases Nat.lt_or_ge i k with h' | h'
          · have := hin i h'; rw [this] at hun; cases hun
          · exact h'
        rcases Nat.lt_or_ge k i with h' | h'
        · -- k is ahead of i: so some edge of i's leads to k, which is not listed
          exfalso
          have hmem := ok.tail i (by omega) hil k h'
          have key : ∀ (t j : Nat), (∀ oj : Oper, l[j]? = some oj → ∀ e ∈ oj.after, Region.binds .any e = true → listed.getD e.on false = true) → j ≤ t → k ∈ clo l j → (j < l.length) → False := by
            intro t
            induction t with
            | zero =>
              intro j hj hjt hkj hjl
              obtain ⟨e, he, hb, hlt, _⟩ := mem_clo (List.getElem?_eq_getElem hjl) hkj
              omega
            | succ t iht =>
              intro j hj hjt hkj hjl
              obtain ⟨e, he, hb, hlt, hor⟩ := mem_clo (List.getElem?_eq_getElem hjl) hkj
              have hl := hj _ (List.getElem?_eq_getElem hjl) e (by simpa using he) hb
              rcases hor with rfl | hmem
              · have := hout _ (Nat.le_refl _) hkl
                simp only [Array.getD_eq_getD_getElem?] at this hl
                rw [Array.getElem?_eq_getElem (by omega)] at this hl
                simp at this hl
                rw [this] at hl; cases hl
              · have hon : e.on < k := by
                  rcases Nat.lt_or_ge e.on k with h'' | h''
                  · exact h''
                  · have := hout e.on h'' (by omega)
                    simp only [Array.getD_eq_getD_getElem?] at this hl
                    rw [Array.getElem?_eq_getElem (by omega)] at this hl
                    simp at this hl
                    rw [this] at hl; cases hl
                -- below k everything in the closure is below k
                obtain ⟨e2, he2, hb2, hlt2, hor2⟩ := mem_clo (List.getElem?_eq_getElem (show e.on < l.length by omega)) hmem
                have low : ∀ (t j : Nat), j ≤ t → j < k → k ∈ clo l j → False := by
                  intro t
                  induction t with
                  | zero => intro j hjt hjk hkj; obtain ⟨e, _, _, hlt, _⟩ := mem_clo (List.getElem?_eq_getElem (show j < l.length by omega)) hkj; omega
                  | succ t iht2 =>
                    intro j hjt hjk hkj
                    obtain ⟨e, _, _, hlt, hor⟩ := mem_clo (List.getElem?_eq_getElem (show j < l.length by omega)) hkj
                    rcases hor with rfl | hmem
                    · omega
                    · exact iht2 e.on (by omega) (by omega) hmem
                exact low _ _ (Nat.le_refl _) hon hmem
          refine key i i (fun oj hoj e he hb => ?_) (Nat.le_refl _) hmem hil
          rw [hoi'] at hoj; cases hoj
          exact hall e he hb
        · omega
      have hkready : k ∈ Region.ready .any l.toArray listed := by
        refine mem_ready.2 ⟨hout k (Nat.le_refl _) hkl, o, by simpa using ho, fun e he hb => ?_⟩
        have hlt := ok.back k o ho e (by simpa using he) hb
        have := hin e.on hlt
        simp only [Array.getD_eq_getD_getElem?] at this ⊢
        rw [Array.getElem?_eq_getElem (by omega)] at this ⊢
        simpa using this
      refine ⟨fun h0 => (by rw [h0] at hkready; cases hkready), fun i hi => ?_⟩
      obtain rfl := hready i hi
      have hdrop : l.drop i = o :: l.drop (i + 1) := by
        rw [List.drop_eq_getElem_cons hkl]
        have := (List.getElem?_eq_some_iff.1 ho).2
        rw [this]
      rw [hdrop] at h
      unfold wpList at h
      unfold wpOp
      have hoA : l.toArray[i]? = some o := by simpa using ho
      rw [hoA]
      have nxt : ∀ a' w', wpList P l.toArray (low n F Q) (l.drop (i + 1)) a' w' → wpAny P .any l.toArray (low n F Q) fuel (listed.setIfInBounds i true) a' w' := by
        intro a' w' h'
        refine ih (i + 1) (listed.setIfInBounds i true) a' w' (by omega) (by omega) (by simp [hsz]) ?_ ?_ h'
        · intro j hj
          simp only [Array.getD_eq_getD_getElem?, Array.getElem?_setIfInBounds]
          by_cases hij : i = j
          · subst hij; simp [hsz, hkl]
          · simp only [hij, if_false]
            have := hin j (by omega)
            simpa [Array.getD_eq_getD_getElem?] using this
        · intro j hj hjl
          simp only [Array.getD_eq_getD_getElem?, Array.getElem?_setIfInBounds]
          have hij : ¬ i = j := by omega
          simp only [hij, if_false]
          have := hout j (by omega) hjl
          simpa [Array.getD_eq_getD_getElem?] using this
      show (if Region.wanted o (yielded l.toArray a.tmps) = true then _ else _)
      split
      · rename_i hw
        rw [if_pos hw] at h
        exact h.imp (Oper.wp_mono nxt) (fun q => q)
      · rename_i hw
        rw [if_neg hw] at h
        exact nxt _ _ h
  -- all of the head is done
  have finish : ∀ (fuel : Nat) (listed : Array Bool) (ex : List Nat) (vals : Nat → Value) (a : Act) (w : World), fuel + ex.length = l.length → listed.size = l.length → ex.Nodup → (∀ i, i ∈ ex ↔ i < m) →
      (∀ i, i < l.length → (listed.getD i true = true ↔ i ∈ ex)) → (∀ i ∈ ex, phi i ((uses.getD i []).map vals) (vals i)) →
      a.tmps.size = n → a.defers = [] → (∀ i ∈ ex, ∀ o : Oper, l[i]? = some o → ∀ s, o.dst = some s → a.tmps.getD s undef = vals i) → (∀ s, (∀ i ∈ ex, ∀ o : Oper, l[i]? = some o → o.dst ≠ some s) → a.tmps.getD s undef = ρ s) →
      Holds F (made own uses vals ex ++ (Bs ++ L0)) w → wpAny P .any l.toArray (low n F Q) fuel listed a w := by
    intro fuel listed ex vals a w hf hsz hnd hmem hlist hphi hsize hdef hs1 hs2 HH
    have hperm : ex.Perm (List.range m) := perm_of_mem hnd List.nodup_range (fun i => by rw [hmem]; simp)
    have hlen : ex.length = m := by rw [hperm.length_eq]; simp
    have hX := hend vals (fun i hi => hphi i ((hmem i).2 hi))
    have hone : ∀ (i j : Nat) (o q : Oper), (l.take m)[i]? = some o → (l.take m)[j]? = some q → ∀ d, o.dst = some d → q.dst = some d → i = j := by
      intro i j o q ho hq d hd hqd
      rw [List.getElem?_take] at ho hq
      split at ho
      · split at hq
        · rename_i h1 h2
          exact ok.one i j o q h1 h2 ho hq d hd hqd
        · cases hq
      · cases ho
    have rep : Rep n a (canon vals (l.take m) 0 ρ) := by
      refine ⟨hsize, hdef, fun s => ?_⟩
      obtain ⟨c1, c2⟩ := canon_get vals (l.take m) 0 ρ s hone
      by_cases hw : ∃ i o, i < m ∧ l[i]? = some o ∧ o.dst = some s
      · obtain ⟨i, o, hi, ho, hd⟩ := hw
        rw [hs1 i ((hmem i).2 hi) o ho s hd, c1 i o (by rw [List.getElem?_take, if_pos hi]; exact ho) hd, Nat.zero_add]
      · rw [hs2 s (fun i hi o ho hd => hw ⟨i, o, (hmem i).1 hi, ho, hd⟩), c2 (fun i o ho hd => by
          rw [List.getElem?_take] at ho
          split at ho
          · rename_i hi; exact hw ⟨i, o, hi, ho, hd⟩
          · cases ho)]
    have hsub : Sub (made own uses vals ex ++ (Bs ++ L0)) (made own uses vals (List.range m) ++ (Bs ++ L0)) :=
      Sub.append (Sub.perm (hperm.flatMap_right _)) (Sub.refl _)
    have hwp := hX (by
      simp only [opsOk, List.all_eq_true] at cok' ⊢
      exact fun o ho => cok' o (List.mem_of_mem_drop ho)) a w rep (hsub.holds HH)
    exact tailP m fuel listed a w (by omega) (Nat.le_refl _) hsz (fun i hi => (hlist i (by omega)).2 ((hmem i).2 hi)) (fun i hi hil => by
      cases hb : listed.getD i true with
      | false => rfl
      | true => have := (hmem i).1 ((hlist i hil).1 hb); omega) hwp
  -- the head, in any order
  have headP : ∀ (fuel : Nat) (listed : Array Bool) (ex : List Nat) (vals : Nat → Value) (a : Act) (w : World), fuel + ex.length = l.length → listed.size = l.length → ex.Nodup → (∀ i, i ∈ ex → i < m) →
      (∀ i, i < l.length → (listed.getD i true = true ↔ i ∈ ex)) → (∀ i ∈ ex, ∀ j ∈ clo l i, j ∈ ex) → (∀ i ∈ ex, phi i ((uses.getD i []).map vals) (vals i)) →
      a.tmps.size = n → a.defers = [] → (∀ i ∈ ex, ∀ o : Oper, l[i]? = some o → ∀ s, o.dst = some s → a.tmps.getD s undef = vals i) → (∀ s, (∀ i ∈ ex, ∀ o : Oper, l[i]? = some o → o.dst ≠ some s) → a.tmps.getD s undef = ρ s) →
      Holds F (made own uses vals ex ++ (Bs ++ L0)) w → wpAny P .any l.toArray (low n F Q) fuel listed a w := by
    intro fuel
    induction fuel with
    | zero =>
      intro listed ex vals a w hf hsz hnd hlt hlist hdown hphi hsize hdef hs1 hs2 HH
      have hall : ∀ i, i ∈ ex ↔ i < m := by
        intro i
        refine ⟨hlt i, fun hi => ?_⟩
        rcases Classical.em (i ∈ ex) with h' | h'
        · exact h'
        · have := nodup_lt m (i :: ex) (List.nodup_cons.2 ⟨h', hnd⟩) (fun k hk => by
            rcases List.mem_cons.1 hk with rfl | hk
            · exact hi
            · exact hlt k hk)
          simp at this
          omega
      exact finish 0 listed ex vals a w hf hsz hnd hall hlist hphi hsize hdef hs1 hs2 HH
    | succ fuel ih =>
      intro listed ex vals a w hf hsz hnd hlt hlist hdown hphi hsize hdef hs1 hs2 HH
      by_cases hcov : ∀ i, i < m → i ∈ ex
      · exact finish (fuel + 1) listed ex vals a w hf hsz hnd (fun i => ⟨hlt i, hcov i⟩) hlist hphi hsize hdef hs1 hs2 HH
      -- an operation that is ready: what stands ahead of it is done
      have ahead : ∀ i ∈ Region.ready .any l.toArray listed, i < l.length ∧ i ∉ ex ∧ ∀ j ∈ clo l i, j ∈ ex := by
        intro i hi
        obtain ⟨hun, o, ho, hall⟩ := mem_ready.1 hi
        have ho' : l[i]? = some o := by simpa using ho
        have hil : i < l.length := (List.getElem?_eq_some_iff.1 ho').1
        refine ⟨hil, fun hm => ?_, fun j hj => ?_⟩
        · rw [(hlist i hil).2 hm] at hun; cases hun
        · obtain ⟨e, he, hb, hlt', hor⟩ := mem_clo ho' hj
          have hl := hall e (by simpa using he) hb
          have hex : e.on ∈ ex := by
            refine (hlist e.on (by omega)).1 ?_
            simp only [Array.getD_eq_getD_getElem?] at hl ⊢
            rw [Array.getElem?_eq_getElem (by omega)] at hl ⊢
            simpa using hl
          rcases hor with rfl | hj'
          · exact hex
          · exact hdown _ hex _ hj'
      have small : ∀ i ∈ Region.ready .any l.toArray listed, i < m := by
        intro i hi
        obtain ⟨hil, _, hc⟩ := ahead i hi
        rcases Nat.lt_or_ge i m with h' | h'
        · exact h'
        · exact absurd (fun j hj => hc j (ok.tail i h' hil j (by omega))) hcov
      refine ⟨fun h0 => ?_, fun i hi => ?_⟩
      · -- not all is done, so something is ready: the least that is not listed
        exfalso
        apply hcov
        intro i
        induction i using Nat.strongRecOn with
        | _ i ihs =>
          intro him
          rcases Classical.em (i ∈ ex) with h' | h'
          · exact h'
          · exfalso
            have hil : i < l.length := by omega
            have : i ∈ Region.ready .any l.toArray listed := by
              refine mem_ready.2 ⟨?_, l[i], by simp [hil], fun e he hb => ?_⟩
              · cases hb : listed.getD i true with
                | false => rfl
                | true => exact absurd ((hlist i hil).1 hb) h'
              · have hlt' := ok.back i l[i] (List.getElem?_eq_getElem hil) e (by simpa using he) hb
                have := (hlist e.on (by omega)).2 (ihs e.on hlt' (by omega))
                simp only [Array.getD_eq_getD_getElem?] at this ⊢
                rw [Array.getElem?_eq_getElem (by omega)] at this ⊢
                simpa using this
            rw [h0] at this
            cases this
      · obtain ⟨hil, hnex, hclo⟩ := ahead i hi
        have him := small i hi
        obtain ⟨o, ho⟩ : ∃ o, l[i]? = some o := ⟨l[i], List.getElem?_eq_getElem hil⟩
        have hG := stepsP_get (l.take m) 0 hstep i o (by rw [List.getElem?_take, if_pos him]; exact ho) vals (made own uses vals ex ++ L0) (fun j hj => hphi j (hclo j (ok.cls i hil j (by simpa using hj))))
        rw [Nat.zero_add] at hG
        have H2 : Holds F (Bs ++ (made own uses vals ex ++ L0)) w := by
          refine Sub.holds (Sub.perm ?_) HH
          rw [← List.append_assoc, ← List.append_assoc]
          exact List.perm_append_comm.append_right L0
        have hone : ∀ (k j : Nat) (o q : Oper), (l.take i)[k]? = some o → (l.take i)[j]? = some q → ∀ d, o.dst = some d → q.dst = some d → k = j := by
          intro k j o q ho hq d hd hqd
          rw [List.getElem?_take] at ho hq
          split at ho
          · split at hq
            · rename_i h1 h2
              exact ok.one k j o q (by omega) (by omega) ho hq d hd hqd
            · cases hq
          · cases ho
        have slot : ∀ s ∈ o.looksAt l.toArray, a.tmps.getD s undef = canon vals (l.take i) 0 ρ s := by
          intro s hs
          obtain ⟨c1, c2⟩ := canon_get vals (l.take i) 0 ρ s hone
          by_cases hw : ∃ j q, j < m ∧ l[j]? = some q ∧ q.dst = some s
          · obtain ⟨j, q, hj, hq, hd⟩ := hw
            obtain ⟨hjc, hji⟩ := ok.read i j o q him hj ho hq s hs hd
            rw [hs1 j (hclo j hjc) q hq s hd, c1 j q (by rw [List.getElem?_take, if_pos hji]; exact hq) hd, Nat.zero_add]
          · rw [hs2 s (fun j hj q hq hd => hw ⟨j, q, hlt j hj, hq, hd⟩), c2 (fun j q hq hd => by
              rw [List.getElem?_take] at hq
              split at hq
              · rename_i hj; exact hw ⟨j, q, by omega, hq, hd⟩
              · cases hq)]
        have hev : execOp a.eval o = execOp (evO (canon vals (l.take i) 0 ρ)) o := by
          refine execOp_congr o (ok.sel i o ho) fun x hx => ?_
          cases x with
          | tmp t => exact slot t (List.mem_append_left _ (List.mem_filterMap.2 ⟨.tmp t, by simpa using hx, rfl⟩))
          | _ => rfl
        have hus : ∀ j ∈ uses.getD i [], j ≠ i := fun j hj e => hnex (hclo i (e ▸ ok.uses i hil j hj))
        have husx : ∀ k ∈ ex, i ∉ uses.getD k [] := fun k hk hm => hnex (hdown k hk i (ok.uses k (by have := hlt k hk; omega) i hm))
        have hdo : dOk n o.dst = true := by
          simp only [opsOk, List.all_eq_true] at cok'
          exact cok' o (List.mem_of_getElem? ho)
        have next : ∀ v w', Holds F (own i ((uses.getD i []).map vals) v ++ (Bs ++ (made own uses vals ex ++ L0))) w' → phi i ((uses.getD i []).map vals) v → wpAny P .any l.toArray (low n F Q) fuel (listed.setIfInBounds i true) (a.put o.dst v) w' := by
          intro v w' H3 hp
          have hi' : (uses.getD i []).map (fun j => if j = i then v else vals j) = (uses.getD i []).map vals := map_upd (fun h => hus i h rfl)
          have hx' : ∀ k ∈ ex, (uses.getD k []).map (fun j => if j = i then v else vals j) = (uses.getD k []).map vals := fun k hk => map_upd (husx k hk)
          have hki : ∀ k ∈ ex, k ≠ i := fun k hk e => hnex (e ▸ hk)
          have hmade : made own uses (fun j => if j = i then v else vals j) (i :: ex) = own i ((uses.getD i []).map vals) v ++ made own uses vals ex := by
            simp only [made, List.flatMap_cons, hi', if_true]
            congr 1
            rw [List.flatMap_def, List.flatMap_def]
            congr 1
            apply List.map_congr_left
            intro k hk
            rw [hx' k hk, if_neg (hki k hk)]
          refine ih (listed.setIfInBounds i true) (i :: ex) (fun j => if j = i then v else vals j) _ w' (by simp; omega) (by simp [hsz]) (List.nodup_cons.2 ⟨hnex, hnd⟩) ?_ ?_ ?_ ?_ ?_ ?_ ?_ ?_ ?_
          · intro k hk; rcases List.mem_cons.1 hk with rfl | hk
            · exact him
            · exact hlt k hk
          · intro k hk
            simp only [Array.getD_eq_getD_getElem?, Array.getElem?_setIfInBounds, List.mem_cons]
            by_cases hik : i = k
            · subst hik; simp [hsz, hil]
            · have := hlist k hk
              simp only [Array.getD_eq_getD_getElem?] at this
              simp only [hik, if_false, this]
              constructor
              · exact fun h => .inr h
              · rintro (rfl | h)
                · exact absurd rfl hik
                · exact h
          · intro k hk j hj
            rcases List.mem_cons.1 hk with rfl | hk
            · exact List.mem_cons_of_mem _ (hclo j hj)
            · exact List.mem_cons_of_mem _ (hdown k hk j hj)
          · intro k hk
            rcases List.mem_cons.1 hk with rfl | hk
            · rw [hi', if_pos rfl]; exact hp
            · rw [hx' k hk, if_neg (hki k hk)]; exact hphi k hk
          · cases o.dst <;> simp [Act.put, hsize]
          · cases o.dst <;> simp [Act.put, hdef]
          · intro k hk q hq s hd
            rcases List.mem_cons.1 hk with rfl | hk
            · rw [ho] at hq; cases hq
              rw [if_pos rfl, hd]
              have hsn : s < n := by rw [hd] at hdo; exact Nat.le_of_ble_eq_true hdo
              simp [Act.put, Array.getD_eq_getD_getElem?, Array.getElem?_setIfInBounds, hsize, hsn]
            · rw [if_neg (hki k hk)]
              have hne : o.dst ≠ some s := fun e => hki k hk (ok.one k i q o (hlt k hk) him hq ho s hd e)
              have := hs1 k hk q hq s hd
              cases hod : o.dst with
              | none => simpa [Act.put] using this
              | some d =>
                have hds : d ≠ s := fun e => hne (by rw [hod, e])
                simp only [Act.put, Array.getD_eq_getD_getElem?, Array.getElem?_setIfInBounds_ne hds] at this ⊢
                exact this
          · intro s hno
            have hne : o.dst ≠ some s := hno i List.mem_cons_self o ho
            have := hs2 s (fun k hk q hq => hno k (List.mem_cons_of_mem _ hk) q hq)
            cases hod : o.dst with
            | none => simpa [Act.put] using this
            | some d =>
              have hds : d ≠ s := fun e => hne (by rw [hod, e])
              simp only [Act.put, Array.getD_eq_getD_getElem?, Array.getElem?_setIfInBounds_ne hds] at this ⊢
              exact this
          · rw [hmade]
            refine Sub.holds (Sub.perm ?_) H3
            rw [List.append_assoc]
            refine List.Perm.append_left _ ?_
            rw [← List.append_assoc, ← List.append_assoc]
            exact List.perm_append_comm.append_right L0
        have opwp : XOp P o (canon vals (l.take i) 0 ρ) F (Bs ++ (made own uses vals ex ++ L0)) (fun v F' L' => F = F' ∧ phi i ((uses.getD i []).map vals) v ∧ L' = own i ((uses.getD i []).map vals) v ++ (Bs ++ (made own uses vals ex ++ L0))) →
            o.wp P a w (wpAny P .any l.toArray (low n F Q) fuel (listed.setIfInBounds i true)) (low n F Q) := by
          intro hop
          unfold Oper.wp
          rw [hev]
          rcases hop w H2 with ⟨v, w', F', L', h1, _, h3, rfl, hp, rfl⟩ | ⟨w', F', L', h1, _, h3, rfl, hp, rfl⟩ | ⟨f, args, w', h1, h2⟩
          · rw [h1]; exact next v w' h3 hp
          · rw [h1]; exact next undef w' h3 hp
          · rw [h1]
            refine h2.mono fun e w'' ⟨v, F', L', he, _, hH, hk⟩ => ?_
            obtain ⟨rfl, hp, rfl⟩ := hk
            subst he
            exact next v w'' hH hp
        unfold wpOp
        have hoA : l.toArray[i]? = some o := by simpa using ho
        rw [hoA]
        show (if Region.wanted o (yielded l.toArray a.tmps) = true then _ else _)
        unfold XG at hG
        cases hg : o.guard with
        | none =>
          rw [hg] at hG
          rw [if_pos (by simp [Region.wanted, hg])]
          exact .inl (opwp hG)
        | some gw =>
          obtain ⟨j, want⟩ := gw
          rw [hg] at hG
          obtain ⟨t, b, ht, hv, hif⟩ := hG
          have hy : yielded l.toArray a.tmps j = some b := by
            unfold yielded
            rw [ht]
            have hts := slot t (List.mem_append_right _ (by simp only [hg]; simpa using ht))
            rw [hv, Array.getD_eq_getD_getElem?] at hts
            cases hx : a.tmps[t]? with
            | none => rw [hx] at hts; simp [undef] at hts
            | some x => rw [hx] at hts; simp at hts; subst hts; simp [hx]
          by_cases hb : b = want
          · rw [if_pos hb] at hif
            rw [if_pos (by simp [Region.wanted, hg, hy, hb])]
            exact .inl (opwp hif)
          · rw [if_neg hb] at hif
            rw [if_neg (by simp [Region.wanted, hg, hy, hb])]
            obtain ⟨_, hp, hL'⟩ := hif
            have := next undef w (by rw [← hL']; exact H2) hp
            exact this
  refine headP l.toArray.size (Array.replicate l.toArray.size false) [] (fun _ => undef) a w0 (by simp) (by simp) List.nodup_nil (by simp) ?_ (by simp) (by simp) r.size r.defers (by simp) (fun s _ => r.get s) H1
  intro i hi
  simp only [Array.getD_eq_getD_getElem?, Array.getElem?_replicate]
  simp [hi]

def phiL (phis : List (List Value → Value → Prop)) : Nat → List Value → Value → Prop := fun i => phis.getD i (fun _ _ => True)
def ownL (owns : List (List Value → Value → List HP)) : Nat → List Value → Value → List HP := fun i => owns.getD i (fun _ _ => [])

theorem stepsP.nil {P : Program} {l : List Oper} {ρ : Env} {F : FH} {Bs : List HP} {phi : Nat → List Value → Value → Prop} {own : Nat → List Value → Value → List HP} {uses cls : List (List Nat)} {i : Nat} : stepsP P l ρ F Bs phi own uses cls [] i := trivial
theorem stepsP.cons {P : Program} {l : List Oper} {ρ : Env} {F : FH} {Bs : List HP} {phi : Nat → List Value → Value → Prop} {own : Nat → List Value → Value → List HP} {uses cls : List (List Nat)} {i : Nat} {o : Oper} {r : List Oper}
    (h : ∀ (vals : Nat → Value) (R : List HP), (∀ j ∈ cls.getD i [], phi j ((uses.getD j []).map vals) (vals j)) →
      XG P l.toArray o (canon vals (l.take i) 0 ρ) F (Bs ++ R) fun v F' L' => F = F' ∧ phi i ((uses.getD i []).map vals) v ∧ L' = own i ((uses.getD i []).map vals) v ++ (Bs ++ R))
    (k : stepsP P l ρ F Bs phi own uses cls r (i + 1)) : stepsP P l ρ F Bs phi own uses cls (o :: r) i := ⟨h, k⟩
/-- A pointer's block. -/
def blk : Value → Nat
  | .pointer (some a) => a.block
  | _ => 0
end Go.Proofs.Ytiaanelimbmniaa.X
