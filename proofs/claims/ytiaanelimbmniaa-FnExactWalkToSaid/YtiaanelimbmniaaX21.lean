/-
  A walk that was handed back, opened: its outer slice is owned again, what it holds stays frozen.
-/
import Derived.Test.YtiaanelimbmniaaX20
set_option linter.unusedSimpArgs false
set_option linter.unusedVariables false
namespace Go.Proofs.Ytiaanelimbmniaa.X
open Go

section
variable {F F' G F1 F2 : FH} {D D' : HP} {L M : List HP} {P : Program} {o : Oper} {ρ : Env} {K : Post} {e E : TypeId}
theorem Fresh.perm {A B : List HP} (h : Fresh F F' (star A)) (p : A.Perm B) : Fresh F F' (star B) := by
  obtain ⟨m, hm, nd, hp⟩ := h
  obtain ⟨l, hl, pl⟩ := star_perm p m hm
  exact ⟨l, hl, ((pl.map Prod.fst).nodup_iff).2 nd, fun q hq => hp q (pl.mem_iff.1 hq)⟩
theorem Fresh.flat {s : Nat} {α : Type} {R : List Value → α → List HP → Prop} {v : Value} {xs : List α} (h : Fresh F F' (star (M ++ [deepH s R E v xs]))) : ∃ cs Ls, DeepL s R cs xs Ls ∧ Fresh F F' (star (slH E s v xs.length cs :: (M ++ Ls))) := by
  obtain ⟨m, hm, nd, hp⟩ := h
  obtain ⟨x, y, hx, ⟨z, _, hz, rfl, rfl⟩, rfl⟩ := star_append.1 hm
  obtain ⟨cs, Ls, hd, p, q, h1, h2, rfl⟩ := hz
  have hpm : (p ++ (x ++ q)).Perm (x ++ ((p ++ q) ++ [])) := by
    rw [List.append_nil, ← List.append_assoc, ← List.append_assoc]
    exact List.perm_append_comm.append_right q
  exact ⟨cs, Ls, hd, p ++ (x ++ q), ⟨p, x ++ q, h1, star_append.2 ⟨x, q, hx, h2, rfl⟩, rfl⟩, ((hpm.map Prod.fst).nodup_iff).2 nd, fun w hw => hp w (hpm.mem_iff.1 hw)⟩
/-- The outer slice last of all, beside what else is fresh. -/
theorem Fresh.deepM {s n : Nat} {α : Type} {R : List Value → α → List HP → Prop} {v : Value} {cs : List Value} {xs : List α} {Ls : List HP} (hd : DeepL s R cs xs Ls) (h : Fresh F G (star (M ++ Ls))) (le0 : F ≤ G) (k : Fresh G F' (slH E s v n cs)) (hn : n = xs.length) (le : G ≤ F') : Fresh F F' (star (M ++ [deepH s R E v xs])) := by
  subst hn
  obtain ⟨m, hm, nd, hp⟩ := Fresh.cons h le0 k le
  obtain ⟨p, r, h1, h2, rfl⟩ := hm
  obtain ⟨x, q, hx, hq, rfl⟩ := star_append.1 h2
  have hpm : (p ++ (x ++ q)).Perm (x ++ ((p ++ q) ++ [])) := by
    rw [List.append_nil, ← List.append_assoc, ← List.append_assoc]
    exact List.perm_append_comm.append_right q
  exact ⟨x ++ ((p ++ q) ++ []), star_append.2 ⟨x, (p ++ q) ++ [], hx, ⟨p ++ q, [], ⟨cs, Ls, hd, p, q, h1, hq, rfl⟩, rfl, rfl⟩, rfl⟩, ((hpm.map Prod.fst).nodup_iff).1 nd, fun w hw => hp w (hpm.mem_iff.2 hw)⟩
theorem Fresh.left {A B : List HP} (h : Fresh F F' (star (A ++ B))) : Fresh F F' (star A) := h.none
theorem Fresh.right {A B : List HP} (h : Fresh F F' (star (A ++ B))) : Fresh F F' (star B) := (h.perm List.perm_append_comm).none
theorem Fresh.un (h : Fresh F F' (star [D])) : Fresh F F' D := h.imp fun l hl => by
  obtain ⟨a, b, ha, rfl, rfl⟩ := hl
  simpa using ha
/-- Of what an operation leaves fresh, D is owned from then on; R stays frozen. -/
theorem Holds.openF {D : HP} {R L' : List HP} {w : World} (H : Holds F' L' w) (le : F ≤ F') (h : Fresh F F' (star (D :: R))) : ∃ F2, F ≤ F2 ∧ Fresh F F2 (star R) ∧ Holds F2 (D :: L') w := by
  have h1 : Holds F (D :: star R :: L') w := Sub.holds (fun l hl => by
    obtain ⟨a, b, ha, hb, rfl⟩ := hl
    obtain ⟨x, y, hx, hy, rfl⟩ := ha
    exact ⟨x ++ (y ++ b), [], ⟨x, y ++ b, hx, ⟨y, b, hy, hb, rfl⟩, rfl⟩, by simp⟩) (H.thaw le h)
  obtain ⟨F2, le2, hz, H2, _⟩ := Holds.lendF (A := [D]) (h := star R) (B := L') h1
  exact ⟨F2, le2, hz, H2⟩
theorem XOp.openF (H : XOp P o ρ F L fun v F' L' => ∃ D R, Fresh F F' (star (D :: R)) ∧ ∀ F2, F ≤ F2 → Fresh F F2 (star R) → K v F2 (D :: L')) : XOp P o ρ F L K := by
  intro w Hw
  rcases H w Hw with ⟨v, w', F', L', h1, h2, h3, D, R, h4, h5⟩ | ⟨w', F', L', h1, h2, h3, D, R, h4, h5⟩ | ⟨f, args, w', h1, h2⟩
  · obtain ⟨F2, le2, hz, H2⟩ := h3.openF h2 h4
    exact .inl ⟨v, w', F2, _, h1, le2, H2, h5 F2 le2 hz⟩
  · obtain ⟨F2, le2, hz, H2⟩ := h3.openF h2 h4
    exact .inr (.inl ⟨w', F2, _, h1, le2, H2, h5 F2 le2 hz⟩)
  · refine .inr (.inr ⟨f, args, w', h1, h2.mono fun e w'' ⟨v, F', L', a, b, c, D, R, d1, d2⟩ => ?_⟩)
    obtain ⟨F2, le2, hz, H2⟩ := c.openF b d1
    exact ⟨v, F2, _, a, le2, H2, d2 F2 le2 hz⟩
theorem Fresh.openW {a b : Value} {f : List Int} {ss : List StepT} (h : Fresh F F' (star [intsH e a f, stepsD e E b ss])) : ∃ cs Ls, DeepL 3 (StepO e) cs ss Ls ∧ Fresh F F' (star (slH E 3 b ss.length cs :: ([intsH e a f] ++ Ls))) := Fresh.flat (M := [intsH e a f]) h
theorem StepsC.get {F : FH} {cs : List Value} {xs : List StepT} (h : StepsC F cs xs) {i : Nat} (hi : i < xs.length) :
    ∃ a, IntsF F a (xs.getD i (0, 0, [])).2.2 ∧ cs[i * 3]? = some (.int .i64 (xs.getD i (0, 0, [])).1) ∧ cs[i * 3 + 1]? = some (.int .i64 (xs.getD i (0, 0, [])).2.1) ∧ cs[i * 3 + 2]? = some a := by
  obtain ⟨es, _, ⟨a, rfl, ha⟩, hg⟩ := CO.get h hi
  exact ⟨a, ha, by simpa using hg 0 _ rfl, hg 1 _ rfl, hg 2 _ rfl⟩
theorem nilLoop {e E R : TypeId} : star [intsH e (.slice none 0 0) [], stepsD e E (.slice none 0 0) [], rowsD e R (.slice none 0 0) []] [] := (star_append (A := [_, _])).2 ⟨[], [], nilWalk, nilRowsD, rfl⟩
/-- what was made between two heaps -/
def FreshsF (F0 F : FH) (D : HP) : Prop := Fresh F0 F D
theorem FreshsF.mono {F0 F F' : FH} {D : HP} (h : FreshsF F0 F D) (le : F ≤ F') : FreshsF F0 F' D := Fresh.mono h le
/-- A deep slice's leaves are frozen, its own cells stay owned. -/
theorem Holds.openD {α : Type} {s : Nat} {R : List Value → α → List HP → Prop} {v : Value} {xs : List α} {A B : List HP} {w : World} (H : Holds F (A ++ deepH s R E v xs :: B) w) :
    ∃ cs Ls F2, F ≤ F2 ∧ DeepL s R cs xs Ls ∧ Fresh F F2 (star Ls) ∧ Holds F2 (A ++ slH E s v xs.length cs :: B) w := by
  obtain ⟨h1, h2, h3, h4, l, hl, nd, hp⟩ := H
  obtain ⟨a, m, c, ha, ⟨cs, Ls, hd, x, y, hx, hy, rfl⟩, hc, rfl⟩ := star_mid.1 hl
  have H2 : Holds F ((A ++ [slH E s v xs.length cs]) ++ star Ls :: B) w := ⟨h1, h2, h3, h4, (a ++ x) ++ (y ++ c), star_append.2 ⟨a ++ x, y ++ c, star_append.2 ⟨a, x, ha, ⟨x, [], hx, rfl, by simp⟩, rfl⟩, ⟨y, c, hy, hc, rfl⟩, rfl⟩, by simpa using nd, fun p hq => hp p (by simpa using hq)⟩
  obtain ⟨F2, le, hz, H3, _⟩ := H2.lendF
  exact ⟨cs, Ls, F2, le, hd, hz, by simpa using H3⟩
theorem X.openD {n : Nat} {c : Code} {Q : QX} {α : Type} {s : Nat} {R : List Value → α → List HP → Prop} {v : Value} {xs : List α} (A B : List HP) (hL : L = A ++ deepH s R E v xs :: B)
    (H : ∀ cs Ls F2, F ≤ F2 → DeepL s R cs xs Ls → Fresh F F2 (star Ls) → X P n c Q ρ F2 (A ++ slH E s v xs.length cs :: B)) : X P n c Q ρ F L := by
  subst hL
  intro ok a w r Hw
  obtain ⟨cs, Ls, F2, le, hd, hz, H'⟩ := Hw.openD
  exact Code.wp_mono (fun _ _ _ q => low_le le q) (H cs Ls F2 le hd hz ok a w r H')
theorem XL.openD {n : Nat} {ops : Array Oper} {l : List Oper} {Q : QX} {α : Type} {s : Nat} {R : List Value → α → List HP → Prop} {v : Value} {xs : List α} (A B : List HP) (hL : L = A ++ deepH s R E v xs :: B)
    (H : ∀ cs Ls F2, F ≤ F2 → DeepL s R cs xs Ls → Fresh F F2 (star Ls) → XL P n ops l Q ρ F2 (A ++ slH E s v xs.length cs :: B)) : XL P n ops l Q ρ F L := by
  subst hL
  intro ok a w r Hw
  obtain ⟨cs, Ls, F2, le, hd, hz, H'⟩ := Hw.openD
  exact wpList_mono (fun _ _ _ q => low_le le q) _ _ _ (H cs Ls F2 le hd hz ok a w r H')
end
end Go.Proofs.Ytiaanelimbmniaa.X
