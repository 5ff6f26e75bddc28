/-
  A region that draws its order, where an operation may take over chunks that stood there ahead of it.
-/
import Derived.Test.YtiaanelimbmniaaX9
set_option linter.unusedSimpArgs false
set_option linter.unusedVariables false
namespace Go.Proofs.Ytiaanelimbmniaa.X
open Go

def stepsT (P : Program) (l : List Oper) (ρ : Env) (F : FH) (Bs : List HP) (phi : Nat → FH → List Value → Value → Prop) (own : Nat → List Value → Value → List HP) (tb : Nat → List HP) (uses cls tk : List (List Nat)) : List Oper → Nat → Prop
  | [], _ => True
  | o :: r, i => (∀ (vals : Nat → Value) (F1 : FH) (R : List HP), F ≤ F1 → (∀ j ∈ cls.getD i [], phi j F1 ((uses.getD j []).map vals) (vals j)) →
      XG P l.toArray o (canon vals (l.take i) 0 ρ) F1 (takenBy own uses tk vals i ++ (tb i ++ (Bs ++ R))) fun v F' L' => phi i F' ((uses.getD i []).map vals) v ∧ L' = own i ((uses.getD i []).map vals) v ++ (Bs ++ R)) ∧
    stepsT P l ρ F Bs phi own tb uses cls tk r (i + 1)
theorem stepsT_get {P : Program} {l : List Oper} {ρ : Env} {F : FH} {Bs : List HP} {phi : Nat → FH → List Value → Value → Prop} {own : Nat → List Value → Value → List HP} {tb : Nat → List HP} {uses cls tk : List (List Nat)} :
    ∀ (r : List Oper) (i : Nat), stepsT P l ρ F Bs phi own tb uses cls tk r i → ∀ (k : Nat) (o : Oper), r[k]? = some o → ∀ (vals : Nat → Value) (F1 : FH) (R : List HP), F ≤ F1 → (∀ j ∈ cls.getD (i + k) [], phi j F1 ((uses.getD j []).map vals) (vals j)) →
      XG P l.toArray o (canon vals (l.take (i + k)) 0 ρ) F1 (takenBy own uses tk vals (i + k) ++ (tb (i + k) ++ (Bs ++ R))) fun v F' L' => phi (i + k) F' ((uses.getD (i + k) []).map vals) v ∧ L' = own (i + k) ((uses.getD (i + k) []).map vals) v ++ (Bs ++ R)
  | [], _, _, k, o, h => by simp at h
  | q :: r, i, ⟨h1, h2⟩, 0, o, h => by simp at h; subst h; exact h1
  | q :: r, i, ⟨h1, h2⟩, k + 1, o, h => by
    have := stepsT_get r (i + 1) h2 k o (by simpa using h)
    rw [show i + (k + 1) = i + 1 + k from by omega]
    exact this
theorem stepsT.nil {P : Program} {l : List Oper} {ρ : Env} {F : FH} {Bs : List HP} {phi : Nat → FH → List Value → Value → Prop} {own : Nat → List Value → Value → List HP} {tb : Nat → List HP} {uses cls tk : List (List Nat)} {i : Nat} : stepsT P l ρ F Bs phi own tb uses cls tk [] i := trivial
theorem stepsT.cons {P : Program} {l : List Oper} {ρ : Env} {F : FH} {Bs : List HP} {phi : Nat → FH → List Value → Value → Prop} {own : Nat → List Value → Value → List HP} {tb : Nat → List HP} {uses cls tk : List (List Nat)} {i : Nat} {o : Oper} {r : List Oper}
    (h : ∀ (vals : Nat → Value) (F1 : FH) (R : List HP), F ≤ F1 → (∀ j ∈ cls.getD i [], phi j F1 ((uses.getD j []).map vals) (vals j)) →
      XG P l.toArray o (canon vals (l.take i) 0 ρ) F1 (takenBy own uses tk vals i ++ (tb i ++ (Bs ++ R))) fun v F' L' => phi i F' ((uses.getD i []).map vals) v ∧ L' = own i ((uses.getD i []).map vals) v ++ (Bs ++ R))
    (k : stepsT P l ρ F Bs phi own tb uses cls tk r (i + 1)) : stepsT P l ρ F Bs phi own tb uses cls tk (o :: r) i := ⟨h, k⟩
/-- The chunks of the base that no executed operation has taken over. -/
def restH (tb : Nat → List HP) (m : Nat) (ex : List Nat) : List HP := ((List.range m).filter fun i => !ex.contains i).flatMap tb
theorem restH_nil {tb : Nat → List HP} {m : Nat} {ex : List Nat} (h : ∀ i, i < m → i ∈ ex) : restH tb m ex = [] := by
  have : (List.range m).filter (fun i => !ex.contains i) = [] := by
    rw [List.filter_eq_nil_iff]
    intro i hi
    simpa using h i (List.mem_range.1 hi)
  rw [restH, this]; rfl
theorem restH_all {tb : Nat → List HP} {m : Nat} : restH tb m [] = (List.range m).flatMap tb := by
  rw [restH, List.filter_eq_self.2 (by simp)]
theorem restH_split {tb : Nat → List HP} {m i : Nat} {ex : List Nat} (hi : i < m) (hn : i ∉ ex) : (restH tb m ex).Perm (tb i ++ restH tb m (i :: ex)) := by
  have hp : ((List.range m).filter fun k => !ex.contains k).Perm (i :: (List.range m).filter fun k => !(i :: ex).contains k) := by
    refine perm_of_mem (List.nodup_range.filter _) (List.nodup_cons.2 ⟨by simp, List.nodup_range.filter _⟩) fun k => ?_
    simp only [List.mem_filter, List.mem_range, List.mem_cons, List.contains_eq_mem, Bool.not_eq_true', decide_eq_false_iff_not]
    constructor
    · rintro ⟨h1, h2⟩
      rcases Classical.em (k = i) with e | e
      · exact .inl e
      · exact .inr ⟨h1, fun h => h.elim e h2⟩
    · rintro (rfl | ⟨h1, h2⟩)
      · exact ⟨hi, hn⟩
      · exact ⟨h1, fun h => h2 (.inr h)⟩
  exact hp.flatMap_right tb
theorem perm3 {α : Type} {A B C : List α} : (A ++ (B ++ C)).Perm (B ++ (A ++ C)) := by
  rw [← List.append_assoc, ← List.append_assoc]
  exact List.perm_append_comm.append_right C
theorem permH {α : Type} {M T W B R S R' Z : List α} (p1 : M.Perm (T ++ W)) (p2 : R.Perm (S ++ R')) : (M ++ (B ++ (R ++ Z))).Perm (T ++ (S ++ (B ++ (W ++ (R' ++ Z))))) := by
  have q1 : (R ++ Z).Perm (S ++ (R' ++ Z)) := by rw [← List.append_assoc]; exact p2.append_right Z
  have q2 : (W ++ (B ++ (S ++ (R' ++ Z)))).Perm (S ++ (B ++ (W ++ (R' ++ Z)))) := by
    have a1 : (W ++ (B ++ (S ++ (R' ++ Z)))).Perm (W ++ (S ++ (B ++ (R' ++ Z)))) := List.Perm.append_left _ perm3
    have a2 : (W ++ (S ++ (B ++ (R' ++ Z)))).Perm (S ++ (W ++ (B ++ (R' ++ Z)))) := perm3
    have a3 : (W ++ (B ++ (R' ++ Z))).Perm (B ++ (W ++ (R' ++ Z))) := perm3
    exact a1.trans (a2.trans (List.Perm.append_left _ a3))
  refine (p1.append_right _).trans ?_
  rw [List.append_assoc]
  exact List.Perm.append_left _ ((List.Perm.append_left _ (List.Perm.append_left _ q1)).trans q2)

theorem X.drawH {P : Program} {n id : Nat} {Q : QX} {ρ : Env} {F : FH} {L : List HP} {l : List Oper} (Bs L0 : List HP) (m : Nat) (uses cls tk : List (List Nat)) (phi : Nat → FH → List Value → Value → Prop) (own : Nat → List Value → Value → List HP) (tb : Nat → List HP)
    (hmix : P.follows .mixedOrders = true) (hL : L = (List.range m).flatMap tb ++ (Bs ++ L0)) (hm : Nat.ble m l.length = true) (hok : drawOk l m uses cls = true) (htk : takeOk l m tk = true)
    (hmono : ∀ i F F' us v, F ≤ F' → phi i F us v → phi i F' us v)
    (hstep : stepsT P l ρ F Bs phi own tb uses cls tk (l.take m) 0)
    (hend : ∀ (vals : Nat → Value) (F1 : FH), F ≤ F1 → (∀ i, i < m → phi i F1 ((uses.getD i []).map vals) (vals i)) → XL P n l.toArray (l.drop m) Q (canon vals (l.take m) 0 ρ) F1 (madeG own uses tk vals (List.range m) ++ (Bs ++ L0))) :
    X P n (.region id l.toArray true) Q ρ F L := by
  subst hL
  have hm' : m ≤ l.length := Nat.le_of_ble_eq_true hm
  have ok := drawOk_spec hok
  obtain ⟨tk1, tk2, tk3⟩ := takeOk_spec htk
  intro cok a w r H
  have cok' : opsOk n l = true := by simpa [cOk] using cok
  refine wp_region_any hmix ?_
  have H1 : Holds F (Bs ++ (restH tb m [] ++ L0)) { w with drawn := w.drawn + 1 } := by
    refine Sub.holds (Sub.perm ?_) H.drew
    rw [restH_all, ← List.append_assoc, ← List.append_assoc]
    exact List.perm_append_comm.append_right L0
  generalize { w with drawn := w.drawn + 1 } = w0 at H1
  -- the tail, in its text's order
  have tailP : ∀ (k : Nat) (fuel : Nat) (listed : Array Bool) (a : Act) (w : World), fuel + k = l.length → m ≤ k → listed.size = l.length → (∀ i, i < k → listed.getD i true = true) → (∀ i, k ≤ i → i < l.length → listed.getD i true = false) →
      wpList P l.toArray (low n F Q) (l.drop k) a w → wpAny P .any l.toArray (low n F Q) fuel listed a w := by
    intro k fuel
    induction fuel generalizing k with
    | zero =>
      intro listed a w hk hmk hsz hin hout h
      have hk' : k = l.length := by omega
      subst hk'
      rw [List.drop_length] at h
      refine ⟨?_, h⟩
      unfold Region.ready
      rw [List.filter_eq_nil_iff]
      intro i hi
      have hi' : i < l.length := by simpa using hi
      simp [hin i hi']
    | succ fuel ih =>
      intro listed a w hk hmk hsz hin hout h
      have hkl : k < l.length := by omega
      obtain ⟨o, ho⟩ : ∃ o, l[k]? = some o := ⟨l[k], List.getElem?_eq_getElem hkl⟩
      have hready : ∀ i, i ∈ Region.ready .any l.toArray listed → i = k := by
        intro i hi
        obtain ⟨hun, oi, hoi, hall⟩ := mem_ready.1 hi
        have hoi' : l[i]? = some oi := by simpa using hoi
        have hil : i < l.length := (List.getElem?_eq_some_iff.1 hoi').1
        have hki : k ≤ i := by
          rcases Nat.lt_or_ge i k with h' | h'
          · have := hin i h'; rw [this] at hun; cases hun
          · exact h'
        rcases Nat.lt_or_ge k i with h' | h'
        · -- k is ahead of i: so some edge of i's leads to k, which is not listed
          exfalso
          have hmem := ok.tail i (by omega) hil k h'
          have key : ∀ (t j : Nat), (∀ oj : Oper, l[j]? = some oj → ∀ e ∈ oj.after, Region.binds .any e = true → listed.getD e.on false = true) → j ≤ t → k ∈ clo l j → (j < l.length) → False := by
            intro t
            induction t with
            | zero =>
              intro j hj hjt hkj hjl
              obtain ⟨e, he, hb, hlt, _⟩ := mem_clo (List.getElem?_eq_getElem hjl) hkj
              omega
            | succ t iht =>
              intro j hj hjt hkj hjl
              obtain ⟨e, he, hb, hlt, hor⟩ := mem_clo (List.getElem?_eq_getElem hjl) hkj
              have hl := hj _ (List.getElem?_eq_getElem hjl) e (by simpa using he) hb
              rcases hor with rfl | hmem
              · have := hout _ (Nat.le_refl _) hkl
                simp only [Array.getD_eq_getD_getElem?] at this hl
                rw [Array.getElem?_eq_getElem (by omega)] at this hl
                simp at this hl
                rw [this] at hl; cases hl
              · have hon : e.on < k := by
                  rcases Nat.lt_or_ge e.on k with h'' | h''
                  · exact h''
                  · have := hout e.on h'' (by omega)
                    simp only [Array.getD_eq_getD_getElem?] at this hl
                    rw [Array.getElem?_eq_getElem (by omega)] at this hl
                    simp at this hl
                    rw [this] at hl; cases hl
                -- below k everything in the closure is below k
                obtain ⟨e2, he2, hb2, hlt2, hor2⟩ := mem_clo (List.getElem?_eq_getElem (show e.on < l.length by omega)) hmem
                have low : ∀ (t j : Nat), j ≤ t → j < k → k ∈ clo l j → False := by
                  intro t
                  induction t with
                  | zero => intro j hjt hjk hkj; obtain ⟨e, _, _, hlt, _⟩ := mem_clo (List.getElem?_eq_getElem (show j < l.length by omega)) hkj; omega
                  | succ t iht2 =>
                    intro j hjt hjk hkj
                    obtain ⟨e, _, _, hlt, hor⟩ := mem_clo (List.getElem?_eq_getElem (show j < l.length by omega)) hkj
                    rcases hor with rfl | hmem
                    · omega
                    · exact iht2 e.on (by omega) (by omega) hmem
                exact low _ _ (Nat.le_refl _) hon hmem
          refine key i i (fun oj hoj e he hb => ?_) (Nat.le_refl _) hmem hil
          rw [hoi'] at hoj; cases hoj
          exact hall e he hb
        · omega
      have hkready : k ∈ Region.ready .any l.toArray listed := by
        refine mem_ready.2 ⟨hout k (Nat.le_refl _) hkl, o, by simpa using ho, fun e he hb => ?_⟩
        have hlt := ok.back k o ho e (by simpa using he) hb
        have := hin e.on hlt
        simp only [Array.getD_eq_getD_getElem?] at this ⊢
        rw [Array.getElem?_eq_getElem (by omega)] at this ⊢
        simpa using this
      refine ⟨fun h0 => (by rw [h0] at hkready; cases hkready), fun i hi => ?_⟩
      obtain rfl := hready i hi
      have hdrop : l.drop i = o :: l.drop (i + 1) := by
        rw [List.drop_eq_getElem_cons hkl]
        have := (List.getElem?_eq_some_iff.1 ho).2
        rw [this]
      rw [hdrop] at h
      unfold wpList at h
      unfold wpOp
      have hoA : l.toArray[i]? = some o := by simpa using ho
      rw [hoA]
      have nxt : ∀ a' w', wpList P l.toArray (low n F Q) (l.drop (i + 1)) a' w' → wpAny P .any l.toArray (low n F Q) fuel (listed.setIfInBounds i true) a' w' := by
        intro a' w' h'
        refine ih (i + 1) (listed.setIfInBounds i true) a' w' (by omega) (by omega) (by simp [hsz]) ?_ ?_ h'
        · intro j hj
          simp only [Array.getD_eq_getD_getElem?, Array.getElem?_setIfInBounds]
          by_cases hij : i = j
          · subst hij; simp [hsz, hkl]
          · simp only [hij, if_false]
            have := hin j (by omega)
            simpa [Array.getD_eq_getD_getElem?] using this
        · intro j hj hjl
          simp only [Array.getD_eq_getD_getElem?, Array.getElem?_setIfInBounds]
          have hij : ¬ i = j := by omega
          simp only [hij, if_false]
          have := hout j (by omega) hjl
          simpa [Array.getD_eq_getD_getElem?] using this
      show (if Region.wanted o (yielded l.toArray a.tmps) = true then _ else _)
      split
      · rename_i hw
        rw [if_pos hw] at h
        exact h.imp (Oper.wp_mono nxt) (fun q => q)
      · rename_i hw
        rw [if_neg hw] at h
        exact nxt _ _ h
  -- all of the head is done
  have finish : ∀ (fuel : Nat) (F1 : FH) (le1 : F ≤ F1) (listed : Array Bool) (ex : List Nat) (vals : Nat → Value) (a : Act) (w : World), fuel + ex.length = l.length → listed.size = l.length → ex.Nodup → (∀ i, i ∈ ex ↔ i < m) →
      (∀ i, i < l.length → (listed.getD i true = true ↔ i ∈ ex)) → (∀ i ∈ ex, phi i F1 ((uses.getD i []).map vals) (vals i)) →
      a.tmps.size = n → a.defers = [] → (∀ i ∈ ex, ∀ o : Oper, l[i]? = some o → ∀ s, o.dst = some s → a.tmps.getD s undef = vals i) → (∀ s, (∀ i ∈ ex, ∀ o : Oper, l[i]? = some o → o.dst ≠ some s) → a.tmps.getD s undef = ρ s) →
      Holds F1 (madeG own uses tk vals ex ++ (Bs ++ (restH tb m ex ++ L0))) w → wpAny P .any l.toArray (low n F Q) fuel listed a w := by
    intro fuel F1 le1 listed ex vals a w hf hsz hnd hmem hlist hphi hsize hdef hs1 hs2 HH
    have hperm : ex.Perm (List.range m) := perm_of_mem hnd List.nodup_range (fun i => by rw [hmem]; simp)
    have hlen : ex.length = m := by rw [hperm.length_eq]; simp
    rw [restH_nil (fun i hi => (hmem i).2 hi), List.nil_append] at HH
    have hX := hend vals F1 le1 (fun i hi => hphi i ((hmem i).2 hi))
    have hone : ∀ (i j : Nat) (o q : Oper), (l.take m)[i]? = some o → (l.take m)[j]? = some q → ∀ d, o.dst = some d → q.dst = some d → i = j := by
      intro i j o q ho hq d hd hqd
      rw [List.getElem?_take] at ho hq
      split at ho
      · split at hq
        · rename_i h1 h2
          exact ok.one i j o q h1 h2 ho hq d hd hqd
        · cases hq
      · cases ho
    have rep : Rep n a (canon vals (l.take m) 0 ρ) := by
      refine ⟨hsize, hdef, fun s => ?_⟩
      obtain ⟨c1, c2⟩ := canon_get vals (l.take m) 0 ρ s hone
      by_cases hw : ∃ i o, i < m ∧ l[i]? = some o ∧ o.dst = some s
      · obtain ⟨i, o, hi, ho, hd⟩ := hw
        rw [hs1 i ((hmem i).2 hi) o ho s hd, c1 i o (by rw [List.getElem?_take, if_pos hi]; exact ho) hd, Nat.zero_add]
      · rw [hs2 s (fun i hi o ho hd => hw ⟨i, o, (hmem i).1 hi, ho, hd⟩), c2 (fun i o ho hd => by
          rw [List.getElem?_take] at ho
          split at ho
          · rename_i hi; exact hw ⟨i, o, hi, ho, hd⟩
          · cases ho)]
    have hsub : Sub (madeG own uses tk vals ex ++ (Bs ++ L0)) (madeG own uses tk vals (List.range m) ++ (Bs ++ L0)) :=
      Sub.append (Sub.perm (madeG_perm hperm)) (Sub.refl _)
    have hwp := wpList_mono (fun _ _ _ => low_le le1) _ _ _ (hX (by
      simp only [opsOk, List.all_eq_true] at cok' ⊢
      exact fun o ho => cok' o (List.mem_of_mem_drop ho)) a w rep (hsub.holds HH))
    exact tailP m fuel listed a w (by omega) (Nat.le_refl _) hsz (fun i hi => (hlist i (by omega)).2 ((hmem i).2 hi)) (fun i hi hil => by
      cases hb : listed.getD i true with
      | false => rfl
      | true => have := (hmem i).1 ((hlist i hil).1 hb); omega) hwp
  -- the head, in any order
  have headP : ∀ (fuel : Nat) (F1 : FH) (le1 : F ≤ F1) (listed : Array Bool) (ex : List Nat) (vals : Nat → Value) (a : Act) (w : World), fuel + ex.length = l.length → listed.size = l.length → ex.Nodup → (∀ i, i ∈ ex → i < m) →
      (∀ i, i < l.length → (listed.getD i true = true ↔ i ∈ ex)) → (∀ i ∈ ex, ∀ j ∈ clo l i, j ∈ ex) → (∀ i ∈ ex, phi i F1 ((uses.getD i []).map vals) (vals i)) →
      a.tmps.size = n → a.defers = [] → (∀ i ∈ ex, ∀ o : Oper, l[i]? = some o → ∀ s, o.dst = some s → a.tmps.getD s undef = vals i) → (∀ s, (∀ i ∈ ex, ∀ o : Oper, l[i]? = some o → o.dst ≠ some s) → a.tmps.getD s undef = ρ s) →
      Holds F1 (madeG own uses tk vals ex ++ (Bs ++ (restH tb m ex ++ L0))) w → wpAny P .any l.toArray (low n F Q) fuel listed a w := by
    intro fuel
    induction fuel with
    | zero =>
      intro F1 le1 listed ex vals a w hf hsz hnd hlt hlist hdown hphi hsize hdef hs1 hs2 HH
      have hall : ∀ i, i ∈ ex ↔ i < m := by
        intro i
        refine ⟨hlt i, fun hi => ?_⟩
        rcases Classical.em (i ∈ ex) with h' | h'
        · exact h'
        · have := nodup_lt m (i :: ex) (List.nodup_cons.2 ⟨h', hnd⟩) (fun k hk => by
            rcases List.mem_cons.1 hk with rfl | hk
            · exact hi
            · exact hlt k hk)
          simp at this
          omega
      exact finish 0 F1 le1 listed ex vals a w hf hsz hnd hall hlist hphi hsize hdef hs1 hs2 HH
    | succ fuel ih =>
      intro F1 le1 listed ex vals a w hf hsz hnd hlt hlist hdown hphi hsize hdef hs1 hs2 HH
      by_cases hcov : ∀ i, i < m → i ∈ ex
      · exact finish (fuel + 1) F1 le1 listed ex vals a w hf hsz hnd (fun i => ⟨hlt i, hcov i⟩) hlist hphi hsize hdef hs1 hs2 HH
      -- an operation that is ready: what stands ahead of it is done
      have ahead : ∀ i ∈ Region.ready .any l.toArray listed, i < l.length ∧ i ∉ ex ∧ ∀ j ∈ clo l i, j ∈ ex := by
        intro i hi
        obtain ⟨hun, o, ho, hall⟩ := mem_ready.1 hi
        have ho' : l[i]? = some o := by simpa using ho
        have hil : i < l.length := (List.getElem?_eq_some_iff.1 ho').1
        refine ⟨hil, fun hm => ?_, fun j hj => ?_⟩
        · rw [(hlist i hil).2 hm] at hun; cases hun
        · obtain ⟨e, he, hb, hlt', hor⟩ := mem_clo ho' hj
          have hl := hall e (by simpa using he) hb
          have hex : e.on ∈ ex := by
            refine (hlist e.on (by omega)).1 ?_
            simp only [Array.getD_eq_getD_getElem?] at hl ⊢
            rw [Array.getElem?_eq_getElem (by omega)] at hl ⊢
            simpa using hl
          rcases hor with rfl | hj'
          · exact hex
          · exact hdown _ hex _ hj'
      have small : ∀ i ∈ Region.ready .any l.toArray listed, i < m := by
        intro i hi
        obtain ⟨hil, _, hc⟩ := ahead i hi
        rcases Nat.lt_or_ge i m with h' | h'
        · exact h'
        · exact absurd (fun j hj => hc j (ok.tail i h' hil j (by omega))) hcov
      refine ⟨fun h0 => ?_, fun i hi => ?_⟩
      · -- not all is done, so something is ready: the least that is not listed
        exfalso
        apply hcov
        intro i
        induction i using Nat.strongRecOn with
        | _ i ihs =>
          intro him
          rcases Classical.em (i ∈ ex) with h' | h'
          · exact h'
          · exfalso
            have hil : i < l.length := by omega
            have : i ∈ Region.ready .any l.toArray listed := by
              refine mem_ready.2 ⟨?_, l[i], by simp [hil], fun e he hb => ?_⟩
              · cases hb : listed.getD i true with
                | false => rfl
                | true => exact absurd ((hlist i hil).1 hb) h'
              · have hlt' := ok.back i l[i] (List.getElem?_eq_getElem hil) e (by simpa using he) hb
                have := (hlist e.on (by omega)).2 (ihs e.on hlt' (by omega))
                simp only [Array.getD_eq_getD_getElem?] at this ⊢
                rw [Array.getElem?_eq_getElem (by omega)] at this ⊢
                simpa using this
            rw [h0] at this
            cases this
      · obtain ⟨hil, hnex, hclo⟩ := ahead i hi
        have him := small i hi
        obtain ⟨o, ho⟩ : ∃ o, l[i]? = some o := ⟨l[i], List.getElem?_eq_getElem hil⟩
        have hG := stepsT_get (l.take m) 0 hstep i o (by rw [List.getElem?_take, if_pos him]; exact ho) vals F1 (madeW own uses tk vals i ex ++ (restH tb m (i :: ex) ++ L0)) le1 (fun j hj => hphi j (hclo j (ok.cls i hil j (by simpa using hj))))
        rw [Nat.zero_add] at hG
        have H2 : Holds F1 (takenBy own uses tk vals i ++ (tb i ++ (Bs ++ (madeW own uses tk vals i ex ++ (restH tb m (i :: ex) ++ L0))))) w :=
          Sub.holds (Sub.perm (permH (madeG_split (own := own) (uses := uses) (vals := vals) hnd (tk3 i him) (fun j hj => hclo j (tk1 i him j hj)) (fun j hj k hk e => hnex (by rw [← tk2 k i (hlt k hk) him j e hj]; exact hk))) (restH_split him hnex))) HH
        have hone : ∀ (k j : Nat) (o q : Oper), (l.take i)[k]? = some o → (l.take i)[j]? = some q → ∀ d, o.dst = some d → q.dst = some d → k = j := by
          intro k j o q ho hq d hd hqd
          rw [List.getElem?_take] at ho hq
          split at ho
          · split at hq
            · rename_i h1 h2
              exact ok.one k j o q (by omega) (by omega) ho hq d hd hqd
            · cases hq
          · cases ho
        have slot : ∀ s ∈ o.looksAt l.toArray, a.tmps.getD s undef = canon vals (l.take i) 0 ρ s := by
          intro s hs
          obtain ⟨c1, c2⟩ := canon_get vals (l.take i) 0 ρ s hone
          by_cases hw : ∃ j q, j < m ∧ l[j]? = some q ∧ q.dst = some s
          · obtain ⟨j, q, hj, hq, hd⟩ := hw
            obtain ⟨hjc, hji⟩ := ok.read i j o q him hj ho hq s hs hd
            rw [hs1 j (hclo j hjc) q hq s hd, c1 j q (by rw [List.getElem?_take, if_pos hji]; exact hq) hd, Nat.zero_add]
          · rw [hs2 s (fun j hj q hq hd => hw ⟨j, q, hlt j hj, hq, hd⟩), c2 (fun j q hq hd => by
              rw [List.getElem?_take] at hq
              split at hq
              · rename_i hj; exact hw ⟨j, q, by omega, hq, hd⟩
              · cases hq)]
        have hev : execOp a.eval o = execOp (evO (canon vals (l.take i) 0 ρ)) o := by
          refine execOp_congr o (ok.sel i o ho) fun x hx => ?_
          cases x with
          | tmp t => exact slot t (List.mem_append_left _ (List.mem_filterMap.2 ⟨.tmp t, by simpa using hx, rfl⟩))
          | _ => rfl
        have hus : ∀ j ∈ uses.getD i [], j ≠ i := fun j hj e => hnex (hclo i (e ▸ ok.uses i hil j hj))
        have husx : ∀ k ∈ ex, i ∉ uses.getD k [] := fun k hk hm => hnex (hdown k hk i (ok.uses k (by have := hlt k hk; omega) i hm))
        have hdo : dOk n o.dst = true := by
          simp only [opsOk, List.all_eq_true] at cok'
          exact cok' o (List.mem_of_getElem? ho)
        have next : ∀ v F2 w', F1 ≤ F2 → Holds F2 (own i ((uses.getD i []).map vals) v ++ (Bs ++ (madeW own uses tk vals i ex ++ (restH tb m (i :: ex) ++ L0)))) w' → phi i F2 ((uses.getD i []).map vals) v → wpAny P .any l.toArray (low n F Q) fuel (listed.setIfInBounds i true) (a.put o.dst v) w' := by
          intro v F2 w' le2 H3 hp
          have hi' : (uses.getD i []).map (fun j => if j = i then v else vals j) = (uses.getD i []).map vals := map_upd (fun h => hus i h rfl)
          have hx' : ∀ k ∈ ex, (uses.getD k []).map (fun j => if j = i then v else vals j) = (uses.getD k []).map vals := fun k hk => map_upd (husx k hk)
          have hki : ∀ k ∈ ex, k ≠ i := fun k hk e => hnex (e ▸ hk)
          have hself : (i :: ex).any (fun k => (tk.getD k []).contains i) = false := by
            rw [List.any_eq_false]
            intro k hk hc
            have hc' : i ∈ tk.getD k [] := by simpa using hc
            rcases List.mem_cons.1 hk with rfl | hk
            · exact clo_irrefl ok (by omega) (tk1 k him k hc')
            · exact hnex (hdown k hk i (tk1 k (hlt k hk) i hc'))
          have hmade : madeG own uses tk (fun j => if j = i then v else vals j) (i :: ex) = own i ((uses.getD i []).map vals) v ++ madeW own uses tk vals i ex := by
            simp only [madeG, madeW, List.flatMap_cons, hi', if_true]
            rw [hself]
            simp only [Bool.false_eq_true, if_false]
            congr 1
            rw [List.flatMap_def, List.flatMap_def]
            congr 1
            apply List.map_congr_left
            intro k hk
            rw [hx' k hk, if_neg (hki k hk), List.any_cons]
          refine ih F2 (FLe.trans le1 le2) (listed.setIfInBounds i true) (i :: ex) (fun j => if j = i then v else vals j) _ w' (by simp; omega) (by simp [hsz]) (List.nodup_cons.2 ⟨hnex, hnd⟩) ?_ ?_ ?_ ?_ ?_ ?_ ?_ ?_ ?_
          · intro k hk; rcases List.mem_cons.1 hk with rfl | hk
            · exact him
            · exact hlt k hk
          · intro k hk
            simp only [Array.getD_eq_getD_getElem?, Array.getElem?_setIfInBounds, List.mem_cons]
            by_cases hik : i = k
            · subst hik; simp [hsz, hil]
            · have := hlist k hk
              simp only [Array.getD_eq_getD_getElem?] at this
              simp only [hik, if_false, this]
              constructor
              · exact fun h => .inr h
              · rintro (rfl | h)
                · exact absurd rfl hik
                · exact h
          · intro k hk j hj
            rcases List.mem_cons.1 hk with rfl | hk
            · exact List.mem_cons_of_mem _ (hclo j hj)
            · exact List.mem_cons_of_mem _ (hdown k hk j hj)
          · intro k hk
            rcases List.mem_cons.1 hk with rfl | hk
            · rw [hi', if_pos rfl]; exact hp
            · rw [hx' k hk, if_neg (hki k hk)]; exact hmono _ _ _ _ _ le2 (hphi k hk)
          · cases o.dst <;> simp [Act.put, hsize]
          · cases o.dst <;> simp [Act.put, hdef]
          · intro k hk q hq s hd
            rcases List.mem_cons.1 hk with rfl | hk
            · rw [ho] at hq; cases hq
              rw [if_pos rfl, hd]
              have hsn : s < n := by rw [hd] at hdo; exact Nat.le_of_ble_eq_true hdo
              simp [Act.put, Array.getD_eq_getD_getElem?, Array.getElem?_setIfInBounds, hsize, hsn]
            · rw [if_neg (hki k hk)]
              have hne : o.dst ≠ some s := fun e => hki k hk (ok.one k i q o (hlt k hk) him hq ho s hd e)
              have := hs1 k hk q hq s hd
              cases hod : o.dst with
              | none => simpa [Act.put] using this
              | some d =>
                have hds : d ≠ s := fun e => hne (by rw [hod, e])
                simp only [Act.put, Array.getD_eq_getD_getElem?, Array.getElem?_setIfInBounds_ne hds] at this ⊢
                exact this
          · intro s hno
            have hne : o.dst ≠ some s := hno i List.mem_cons_self o ho
            have := hs2 s (fun k hk q hq => hno k (List.mem_cons_of_mem _ hk) q hq)
            cases hod : o.dst with
            | none => simpa [Act.put] using this
            | some d =>
              have hds : d ≠ s := fun e => hne (by rw [hod, e])
              simp only [Act.put, Array.getD_eq_getD_getElem?, Array.getElem?_setIfInBounds_ne hds] at this ⊢
              exact this
          · rw [hmade]
            refine Sub.holds (Sub.perm ?_) H3
            rw [List.append_assoc]
            exact List.Perm.append_left _ perm3
        have opwp : XOp P o (canon vals (l.take i) 0 ρ) F1 (takenBy own uses tk vals i ++ (tb i ++ (Bs ++ (madeW own uses tk vals i ex ++ (restH tb m (i :: ex) ++ L0))))) (fun v F' L' => phi i F' ((uses.getD i []).map vals) v ∧ L' = own i ((uses.getD i []).map vals) v ++ (Bs ++ (madeW own uses tk vals i ex ++ (restH tb m (i :: ex) ++ L0)))) →
            o.wp P a w (wpAny P .any l.toArray (low n F Q) fuel (listed.setIfInBounds i true)) (low n F Q) := by
          intro hop
          unfold Oper.wp
          rw [hev]
          rcases hop w H2 with ⟨v, w', F', L', h1, h4, h3, hp, rfl⟩ | ⟨w', F', L', h1, h4, h3, hp, rfl⟩ | ⟨f, args, w', h1, h2⟩
          · rw [h1]; exact next v F' w' h4 h3 hp
          · rw [h1]; exact next undef F' w' h4 h3 hp
          · rw [h1]
            refine h2.mono fun e w'' ⟨v, F', L', he, h4, hH, hk⟩ => ?_
            obtain ⟨hp, rfl⟩ := hk
            subst he
            exact next v F' w'' h4 hH hp
        unfold wpOp
        have hoA : l.toArray[i]? = some o := by simpa using ho
        rw [hoA]
        show (if Region.wanted o (yielded l.toArray a.tmps) = true then _ else _)
        unfold XG at hG
        cases hg : o.guard with
        | none =>
          rw [hg] at hG
          rw [if_pos (by simp [Region.wanted, hg])]
          exact .inl (opwp hG)
        | some gw =>
          obtain ⟨j, want⟩ := gw
          rw [hg] at hG
          obtain ⟨t, b, ht, hv, hif⟩ := hG
          have hy : yielded l.toArray a.tmps j = some b := by
            unfold yielded
            rw [ht]
            have hts := slot t (List.mem_append_right _ (by simp only [hg]; simpa using ht))
            rw [hv, Array.getD_eq_getD_getElem?] at hts
            cases hx : a.tmps[t]? with
            | none => rw [hx] at hts; simp [undef] at hts
            | some x => rw [hx] at hts; simp at hts; subst hts; simp [hx]
          by_cases hb : b = want
          · rw [if_pos hb] at hif
            rw [if_pos (by simp [Region.wanted, hg, hy, hb])]
            exact .inl (opwp hif)
          · rw [if_neg hb] at hif
            rw [if_neg (by simp [Region.wanted, hg, hy, hb])]
            obtain ⟨hp, hL'⟩ := hif
            exact next undef F1 w (FLe.refl _) (by rw [← hL']; exact H2) hp
  refine headP l.toArray.size F (FLe.refl F) (Array.replicate l.toArray.size false) [] (fun _ => undef) a w0 (by simp) (by simp) List.nodup_nil (by simp) ?_ (by simp) (by simp) r.size r.defers (by simp) (fun s _ => r.get s) H1
  intro i hi
  simp only [Array.getD_eq_getD_getElem?, Array.getElem?_replicate]
  simp [hi]

end Go.Proofs.Ytiaanelimbmniaa.X
