/-
  Walks, one after the other (part 3).
-/
import Derived.Test.YtiaanelimbmniaaQqB1
import Derived.Test.YtiaanelimbmniaaP7
import Derived.Test.YtiaanelimbmniaaX13
import Derived.Test.YtiaanelimbmniaaP8
import Derived.Test.YtiaanelimbmniaaP9
import Derived.Test.YtiaanelimbmniaaP11
import Derived.Test.YtiaanelimbmniaaX18
import Derived.Test.YtiaanelimbmniaaP19
import Derived.Test.YtiaanelimbmniaaX19
set_option linter.unusedSimpArgs false
set_option linter.unusedVariables false
namespace Go.Proofs.Ytiaanelimbmniaa
open Go X M

/- laws.szInt64S -/
theorem szInt64S_spec {F : FH} {L : List HP} {xsv : Value} {xs : List Int} (hxs : IntsF F xsv xs) {z : Int} (hz : 0 ≤ z ∧ z ≤ 4000000) (hlx : xs.length ≤ 9223372036854775807) :
    Does Try.prog 76 [xsv, .int .i64 (z)] F (L) (fun v F' L' => (.int .i64 (dec z xs.length) : Value) = v ∧ F = F' ∧ L = L') := by
 refine Does.of_X Try.func76 rfl rfl rfl ?_
 refine X.seq ?_
 refine X.region ?_
 refine XL.cons (XOp.assign (.int .i64 (0)) rfl ?_)
 refine XL.nil ?_
 refine X.seq ?_
 refine X.region ?_
 refine XL.cons (XOp.move (.int .i64 (z)) rfl ?_)
 refine XL.cons (XOp.move (xsv) rfl ?_)
 refine XL.cons (XOp.lenS (v := xsv) (n := (xs).length) Try.runUnderlying22 rfl hxs.slv ?_)
 refine XL.cons (XOp.subR (a := z) (b := (((xs).length : Nat) : Int)) (z - ((((xs).length : Nat) : Int))) rfl rfl (by omega) (by omega) ?_)
 refine XL.cons (XOp.assign (.int .i64 (z - ((((xs).length : Nat) : Int)))) rfl ?_)
 refine XL.nil ?_
 refine X.seq ?_
 refine X.seq ?_
 refine X.region ?_
 refine XL.cons (XOp.move (.int .i64 (z - ((((xs).length : Nat) : Int)))) rfl ?_)
 refine XL.cons (XOp.lss (a := z - ((((xs).length : Nat) : Int))) (b := 0) rfl rfl ?_)
 refine XL.nil ?_
 refine X.condD (p := (z - ((((xs).length : Nat) : Int)) : Int) < 0) rfl (fun h1 => ?_) (fun h1 => ?_)
 ·refine X.seq ?_
  refine X.region ?_
  refine XL.cons (XOp.assign (.int .i64 (-1)) rfl ?_)
  refine XL.nil ?_
  refine X.ret (thenQ_ret (retEnd (L' := L) [.int .i64 (-1)] (.int .i64 (-1)) (.tmp rfl .nil) rfl (FLe.refl _) (FLe.refl _) (Sub.refl _) ?_))
  exact ⟨(congrArg (Value.int .i64) (dec_neg (by omega))), rfl, rfl⟩
 ·refine X.skip ?_
  refine X.seq ?_
  refine X.region ?_
  refine XL.cons (XOp.move (.int .i64 (z - ((((xs).length : Nat) : Int)))) rfl ?_)
  refine XL.cons (XOp.assign (.int .i64 (z - ((((xs).length : Nat) : Int)))) rfl ?_)
  refine XL.nil ?_
  refine X.ret (retEnd (L' := L) [.int .i64 (z - ((((xs).length : Nat) : Int)))] (.int .i64 (z - ((((xs).length : Nat) : Int)))) (.tmp rfl .nil) rfl (FLe.refl _) (FLe.refl _) (Sub.refl _) ?_)
  exact ⟨(congrArg (Value.int .i64) (dec_pos (by omega))), rfl, rfl⟩

/- laws.szSig -/
theorem szSig_spec {F : FH} {L : List HP} {xsv : Value} {xs : List Int} (hxs : IntsF F xsv xs) {z : Int} (hz : 0 ≤ z ∧ z ≤ 4000000) (hlx : xs.length ≤ 9223372036854775807) :
    Does Try.prog 37 [.agg #[xsv], .int .i64 (z)] F (L) (fun v F' L' => (.int .i64 (dec z xs.length) : Value) = v ∧ F = F' ∧ L = L') := by
 refine Does.of_X Try.func37 rfl rfl rfl ?_
 have hdr := dec_range z xs.length
 refine X.seq ?_
 refine X.region ?_
 refine XL.cons (XOp.box [xsv] rfl rfl ?_)
 intro b1
 refine XL.cons (XOp.assign (.int .i64 (0)) rfl ?_)
 refine XL.nil ?_
 refine X.seq ?_
 refine X.region ?_
 refine XL.cons (XOp.fieldP (b := b1) (0) Try.runUnderlying24 rfl Try.sizeOf22 (by decide) rfl rfl ?_)
 refine XL.cons (XOp.load1 (v := xsv) Try.isAgg22 rfl (Rd.own [] rfl rfl) ?_)
 refine XL.cons (XOp.move (.int .i64 (z)) rfl ?_)
 refine XL.cons (XOp.call (args := [xsv, .int .i64 (z)]) Try.call76 rfl (szInt64S_spec (z := z) hxs (hz := (by first | assumption | rfl | omega | (left; simp; done) | (right; simp; done))) (hlx := (by first | assumption | rfl | omega | (left; simp; done) | (right; simp; done)))) ?_)
 rintro _ _ _ _ ⟨rfl, rfl, rfl⟩
 refine XL.cons (XOp.assign (.int .i64 (dec z xs.length)) rfl ?_)
 refine XL.nil ?_
 refine X.seq ?_
 refine X.seq ?_
 refine X.region ?_
 refine XL.cons (XOp.move (.int .i64 (dec z xs.length)) rfl ?_)
 refine XL.cons (XOp.lss (a := dec z xs.length) (b := 0) rfl rfl ?_)
 refine XL.nil ?_
 refine X.condD (p := (dec z xs.length : Int) < 0) rfl (fun h1 => ?_) (fun h1 => ?_)
 ·refine X.seq ?_
  refine X.region ?_
  refine XL.cons (XOp.assign (.int .i64 (-1)) rfl ?_)
  refine XL.nil ?_
  refine X.ret (thenQ_ret (retEnd (L' := L) [.int .i64 (-1)] (.int .i64 (-1)) (.tmp rfl .nil) rfl (FLe.refl _) (FLe.refl _) (Sub.drop (Sub.refl _)) ?_))
  exact ⟨(congrArg (Value.int .i64) (by omega)), rfl, rfl⟩
 ·refine X.skip ?_
  refine X.seq ?_
  refine X.region ?_
  refine XL.cons (XOp.move (.int .i64 (dec z xs.length)) rfl ?_)
  refine XL.cons (XOp.assign (.int .i64 (dec z xs.length)) rfl ?_)
  refine XL.nil ?_
  refine X.ret (retEnd (L' := L) [.int .i64 (dec z xs.length)] (.int .i64 (dec z xs.length)) (.tmp rfl .nil) rfl (FLe.refl _) (FLe.refl _) (Sub.drop (Sub.refl _)) ?_)
  exact ⟨rfl, rfl, rfl⟩

/- laws.szRule -/
theorem szRule_spec {F : FH} {L : List HP} {lv : Value} {l : List Int} (hl : IntsF F lv l) {rv : Value} {r : List Int} (hr : IntsF F rv r) {z : Int} (hz : 0 ≤ z ∧ z ≤ 4000000) (hll : l.length ≤ 9223372036854775807) (hlr : r.length ≤ 9223372036854775807) :
    Does Try.prog 77 [.agg #[lv, rv], .int .i64 (z)] F (L) (fun v F' L' => (.int .i64 (dec z (l.length + r.length)) : Value) = v ∧ F = F' ∧ L = L') := by
 refine Does.of_X Try.func77 rfl rfl rfl ?_
 have hdr := dec_range z l.length
 refine X.seq ?_
 refine X.region ?_
 refine XL.cons (XOp.box [lv, rv] rfl rfl ?_)
 intro b1
 refine XL.cons (XOp.assign (.int .i64 (0)) rfl ?_)
 refine XL.nil ?_
 refine X.seq ?_
 refine X.region ?_
 refine XL.cons (XOp.fieldP (b := b1) (0) Try.runUnderlying103 rfl Try.sizeOf22 (by decide) rfl rfl ?_)
 refine XL.cons (XOp.load1 (v := lv) Try.isAgg22 rfl (Rd.own [] rfl rfl) ?_)
 refine XL.cons (XOp.move (.int .i64 (z)) rfl ?_)
 refine XL.cons (XOp.call (args := [lv, .int .i64 (z)]) Try.call76 rfl (szInt64S_spec (z := z) hl (hz := (by first | assumption | rfl | omega | (left; simp; done) | (right; simp; done))) (hlx := (by first | assumption | rfl | omega | (left; simp; done) | (right; simp; done)))) ?_)
 rintro _ _ _ _ ⟨rfl, rfl, rfl⟩
 refine XL.cons (XOp.assign (.int .i64 (dec z l.length)) rfl ?_)
 refine XL.nil ?_
 refine X.seq ?_
 refine X.seq ?_
 refine X.region ?_
 refine XL.cons (XOp.move (.int .i64 (dec z l.length)) rfl ?_)
 refine XL.cons (XOp.lss (a := dec z l.length) (b := 0) rfl rfl ?_)
 refine XL.nil ?_
 refine X.condD (p := (dec z l.length : Int) < 0) rfl (fun h1 => ?_) (fun h1 => ?_)
 ·refine X.seq ?_
  refine X.region ?_
  refine XL.cons (XOp.assign (.int .i64 (-1)) rfl ?_)
  refine XL.nil ?_
  refine X.ret (thenQ_ret (retEnd (L' := L) [.int .i64 (-1)] (.int .i64 (-1)) (.tmp rfl .nil) rfl (FLe.refl _) (FLe.refl _) (Sub.drop (Sub.refl _)) ?_))
  exact ⟨(congrArg (Value.int .i64) (dec_out (by omega))), rfl, rfl⟩
 ·refine X.skip ?_
  refine X.seq ?_
  refine X.region ?_
  refine XL.cons (XOp.fieldP (b := b1) (1) Try.runUnderlying103 rfl Try.sizeOf22 (by decide) rfl rfl ?_)
  refine XL.cons (XOp.load1 (v := rv) Try.isAgg22 rfl (Rd.own [] rfl rfl) ?_)
  refine XL.cons (XOp.move (.int .i64 (dec z l.length)) rfl ?_)
  refine XL.cons (XOp.call (args := [rv, .int .i64 (dec z l.length)]) Try.call76 rfl (szInt64S_spec (z := dec z l.length) hr (hz := (by first | assumption | rfl | omega | (left; simp; done) | (right; simp; done))) (hlx := (by first | assumption | rfl | omega | (left; simp; done) | (right; simp; done)))) ?_)
  rintro _ _ _ _ ⟨rfl, rfl, rfl⟩
  refine XL.cons (XOp.assign (.int .i64 (dec (dec z l.length) r.length)) rfl ?_)
  refine XL.nil ?_
  refine X.seq ?_
  refine X.seq ?_
  refine X.region ?_
  refine XL.cons (XOp.move (.int .i64 (dec (dec z l.length) r.length)) rfl ?_)
  refine XL.cons (XOp.lss (a := dec (dec z l.length) r.length) (b := 0) rfl rfl ?_)
  refine XL.nil ?_
  refine X.condD (p := (dec (dec z l.length) r.length : Int) < 0) rfl (fun h2 => ?_) (fun h2 => ?_)
  ·refine X.seq ?_
   refine X.region ?_
   refine XL.cons (XOp.assign (.int .i64 (-1)) rfl ?_)
   refine XL.nil ?_
   refine X.ret (thenQ_ret (retEnd (L' := L) [.int .i64 (-1)] (.int .i64 (-1)) (.tmp rfl .nil) rfl (FLe.refl _) (FLe.refl _) (Sub.drop (Sub.refl _)) ?_))
   exact ⟨(congrArg (Value.int .i64) (by rw [← dec_dec (by omega)]; have := (dec_range (dec z l.length) r.length).1; omega)), rfl, rfl⟩
  ·refine X.skip ?_
   refine X.seq ?_
   refine X.region ?_
   refine XL.cons (XOp.move (.int .i64 (dec (dec z l.length) r.length)) rfl ?_)
   refine XL.cons (XOp.assign (.int .i64 (dec (dec z l.length) r.length)) rfl ?_)
   refine XL.nil ?_
   refine X.ret (retEnd (L' := L) [.int .i64 (dec (dec z l.length) r.length)] (.int .i64 (dec (dec z l.length) r.length)) (.tmp rfl .nil) rfl (FLe.refl _) (FLe.refl _) (Sub.drop (Sub.refl _)) ?_)
   exact ⟨(congrArg (Value.int .i64) ((dec_dec (by omega)).symm)), rfl, rfl⟩

/- laws.eqSig -/
theorem eqSig_spec {F : FH} {L : List HP} {av : Value} {a : List Int} (ha : IntsF F av a) {bv : Value} {b : List Int} (hb : IntsF F bv b) (hbd : a.length ≤ 9223372036854775807 ∨ b.length ≤ 9223372036854775807) :
    Does Try.prog 46 [.agg #[av], .agg #[bv]] F (L) (fun v F' L' => (.bool (decide (a = b)) : Value) = v ∧ F = F' ∧ L = L') := by
 refine Does.of_X Try.func46 rfl rfl rfl ?_
 refine X.seq ?_
 refine X.region ?_
 refine XL.cons (XOp.box [av] rfl rfl ?_)
 intro b1
 refine XL.cons (XOp.box [bv] rfl rfl ?_)
 intro b2
 refine XL.cons (XOp.assign (.bool (false)) rfl ?_)
 refine XL.nil ?_
 refine X.seq ?_
 refine X.seq ?_
 refine X.region ?_
 refine XL.cons (XOp.fieldP (b := b1) (0) Try.runUnderlying30 rfl Try.sizeOf22 (by decide) rfl rfl ?_)
 refine XL.cons (XOp.load1 (v := av) Try.isAgg22 rfl (Rd.own [_] rfl rfl) ?_)
 refine XL.cons (XOp.fieldP (b := b2) (0) Try.runUnderlying30 rfl Try.sizeOf22 (by decide) rfl rfl ?_)
 refine XL.cons (XOp.load1 (v := bv) Try.isAgg22 rfl (Rd.own [] rfl rfl) ?_)
 refine XL.cons (XOp.call (args := [av, bv]) Try.call16 rfl (eqInt64S_spec ha hb (hbd := (by first | assumption | rfl | omega | (left; simp; done) | (right; simp; done)))) ?_)
 rintro _ _ _ _ ⟨rfl, rfl, rfl⟩
 refine XL.cons (XOp.notD (p := a = b) rfl ?_)
 refine XL.nil ?_
 refine X.condD (p := ¬(a = b)) rfl (fun h1 => ?_) (fun h1 => ?_)
 ·refine X.seq ?_
  refine X.region ?_
  refine XL.cons (XOp.assign (.bool (false)) rfl ?_)
  refine XL.nil ?_
  refine X.ret (thenQ_ret (retEnd (L' := L) [.bool (false)] (.bool (false)) (.tmp rfl .nil) rfl (FLe.refl _) (FLe.refl _) (Sub.drop (Sub.drop (Sub.refl _))) ?_))
  exact ⟨(congrArg Value.bool (decide_eq_false (by assumption))), rfl, rfl⟩
 ·refine X.skip ?_
  refine X.seq ?_
  refine X.region ?_
  refine XL.cons (XOp.assign (.bool (true)) rfl ?_)
  refine XL.nil ?_
  refine X.ret (retEnd (L' := L) [.bool (true)] (.bool (true)) (.tmp rfl .nil) rfl (FLe.refl _) (FLe.refl _) (Sub.drop (Sub.drop (Sub.refl _))) ?_)
  exact ⟨(congrArg Value.bool (decide_eq_true (by first | assumption | exact Classical.not_not.1 (by assumption)))), rfl, rfl⟩

/- laws.eqRule -/
theorem eqRule_spec {F : FH} {L : List HP} {av : Value} {a : List Int} (ha : IntsF F av a) {bv : Value} {b : List Int} (hb : IntsF F bv b) {cv : Value} {c : List Int} (hc : IntsF F cv c) {dv : Value} {d : List Int} (hd : IntsF F dv d) (hbd : a.length ≤ 9223372036854775807 ∨ c.length ≤ 9223372036854775807) (hbe : b.length ≤ 9223372036854775807 ∨ d.length ≤ 9223372036854775807) :
    Does Try.prog 80 [.agg #[av, bv], .agg #[cv, dv]] F (L) (fun v F' L' => (.bool (decide ((a, b) = (c, d))) : Value) = v ∧ F = F' ∧ L = L') := by
 refine Does.of_X Try.func80 rfl rfl rfl ?_
 refine X.seq ?_
 refine X.region ?_
 refine XL.cons (XOp.box [av, bv] rfl rfl ?_)
 intro b1
 refine XL.cons (XOp.box [cv, dv] rfl rfl ?_)
 intro b2
 refine XL.cons (XOp.assign (.bool (false)) rfl ?_)
 refine XL.nil ?_
 refine X.seq ?_
 refine X.seq ?_
 refine X.region ?_
 refine XL.cons (XOp.fieldP (b := b1) (0) Try.runUnderlying105 rfl Try.sizeOf22 (by decide) rfl rfl ?_)
 refine XL.cons (XOp.load1 (v := av) Try.isAgg22 rfl (Rd.own [_] rfl rfl) ?_)
 refine XL.cons (XOp.fieldP (b := b2) (0) Try.runUnderlying105 rfl Try.sizeOf22 (by decide) rfl rfl ?_)
 refine XL.cons (XOp.load1 (v := cv) Try.isAgg22 rfl (Rd.own [] rfl rfl) ?_)
 refine XL.cons (XOp.call (args := [av, cv]) Try.call16 rfl (eqInt64S_spec ha hc (hbd := (by first | assumption | rfl | omega | (left; simp; done) | (right; simp; done)))) ?_)
 rintro _ _ _ _ ⟨rfl, rfl, rfl⟩
 refine XL.cons (XOp.notD (p := a = c) rfl ?_)
 refine XL.nil ?_
 refine X.condD (p := ¬(a = c)) rfl (fun h1 => ?_) (fun h1 => ?_)
 ·refine X.seq ?_
  refine X.region ?_
  refine XL.cons (XOp.assign (.bool (false)) rfl ?_)
  refine XL.nil ?_
  refine X.ret (thenQ_ret (retEnd (L' := L) [.bool (false)] (.bool (false)) (.tmp rfl .nil) rfl (FLe.refl _) (FLe.refl _) (Sub.drop (Sub.drop (Sub.refl _))) ?_))
  exact ⟨(congrArg Value.bool (decide_eq_false (by intro e; simp_all))), rfl, rfl⟩
 ·refine X.skip ?_
  refine X.seq ?_
  refine X.seq ?_
  refine X.region ?_
  refine XL.cons (XOp.fieldP (b := b1) (1) Try.runUnderlying105 rfl Try.sizeOf22 (by decide) rfl rfl ?_)
  refine XL.cons (XOp.load1 (v := bv) Try.isAgg22 rfl (Rd.own [_] rfl rfl) ?_)
  refine XL.cons (XOp.fieldP (b := b2) (1) Try.runUnderlying105 rfl Try.sizeOf22 (by decide) rfl rfl ?_)
  refine XL.cons (XOp.load1 (v := dv) Try.isAgg22 rfl (Rd.own [] rfl rfl) ?_)
  refine XL.cons (XOp.call (args := [bv, dv]) Try.call16 rfl (eqInt64S_spec hb hd (hbd := (by first | assumption | rfl | omega | (left; simp; done) | (right; simp; done)))) ?_)
  rintro _ _ _ _ ⟨rfl, rfl, rfl⟩
  refine XL.cons (XOp.notD (p := b = d) rfl ?_)
  refine XL.nil ?_
  refine X.condD (p := ¬(b = d)) rfl (fun h2 => ?_) (fun h2 => ?_)
  ·refine X.seq ?_
   refine X.region ?_
   refine XL.cons (XOp.assign (.bool (false)) rfl ?_)
   refine XL.nil ?_
   refine X.ret (thenQ_ret (retEnd (L' := L) [.bool (false)] (.bool (false)) (.tmp rfl .nil) rfl (FLe.refl _) (FLe.refl _) (Sub.drop (Sub.drop (Sub.refl _))) ?_))
   exact ⟨(congrArg Value.bool (decide_eq_false (by intro e; simp_all))), rfl, rfl⟩
  ·refine X.skip ?_
   refine X.seq ?_
   refine X.region ?_
   refine XL.cons (XOp.assign (.bool (true)) rfl ?_)
   refine XL.nil ?_
   refine X.ret (retEnd (L' := L) [.bool (true)] (.bool (true)) (.tmp rfl .nil) rfl (FLe.refl _) (FLe.refl _) (Sub.drop (Sub.drop (Sub.refl _))) ?_)
   exact ⟨(congrArg Value.bool (decide_eq_true (by simp_all))), rfl, rfl⟩

/- laws.szRuleS -/
theorem szRuleS_spec {F : FH} {L : List HP} {rsv : Value} {rs : List (List Int × List Int)} (hrs : PairsF F rsv rs) {z : Int} (hz : 0 ≤ z ∧ z ≤ 4000000) (hrl : rs.length ≤ 9223372036854775807) (hrb : ∀ i, i < rs.length → (rs.getD i ([], [])).1.length ≤ 9223372036854775807 ∧ (rs.getD i ([], [])).2.length ≤ 9223372036854775807) :
    Does Try.prog 38 [rsv, .int .i64 (z)] F (L) (fun v F' L' => (.int .i64 (dec z (szR rs)) : Value) = v ∧ F = F' ∧ L = L') := by
 refine Does.of_X Try.func38 rfl rfl rfl ?_
 refine X.seq ?_
 refine X.region ?_
 refine XL.cons (XOp.assign (.int .i64 (0)) rfl ?_)
 refine XL.nil ?_
 refine X.seq ?_
 refine X.region ?_
 refine XL.cons (XOp.move (.int .i64 (z)) rfl ?_)
 refine XL.cons (XOp.move (rsv) rfl ?_)
 refine XL.cons (XOp.lenS (v := rsv) (n := (rs).length) Try.runUnderlying25 rfl hrs.slv ?_)
 refine XL.cons (XOp.subR (a := z) (b := (((rs).length : Nat) : Int)) (z - ((((rs).length : Nat) : Int))) rfl rfl (by omega) (by omega) ?_)
 refine XL.cons (XOp.assign (.int .i64 (z - ((((rs).length : Nat) : Int)))) rfl ?_)
 refine XL.nil ?_
 refine X.seq ?_
 refine X.seq ?_
 refine X.region ?_
 refine XL.cons (XOp.move (.int .i64 (z - ((((rs).length : Nat) : Int)))) rfl ?_)
 refine XL.cons (XOp.lss (a := z - ((((rs).length : Nat) : Int))) (b := 0) rfl rfl ?_)
 refine XL.nil ?_
 refine X.condD (p := (z - ((((rs).length : Nat) : Int)) : Int) < 0) rfl (fun h1 => ?_) (fun h1 => ?_)
 ·refine X.seq ?_
  refine X.region ?_
  refine XL.cons (XOp.assign (.int .i64 (-1)) rfl ?_)
  refine XL.nil ?_
  refine X.ret (thenQ_ret (retEnd (L' := L) [.int .i64 (-1)] (.int .i64 (-1)) (.tmp rfl .nil) rfl (FLe.refl _) (FLe.refl _) (Sub.refl _) ?_))
  exact ⟨(congrArg (Value.int .i64) (dec_mono (n := rs.length) (by rw [dec_neg (by omega)]; omega) (by unfold szR; omega))), rfl, rfl⟩
 ·refine X.skip ?_
  refine X.seq ?_
  refine X.seq ?_
  refine X.region ?_
  refine XL.cons (XOp.assign (.int .i64 (0)) rfl ?_)
  refine XL.nil ?_
  refine X.block ?_
  refine X.loop (α := Nat) (fun k => [(0, rsv), (1, .int .i64 (dec z (rs.length + szTo rs k))), (5, .int .i64 (((k : Nat) : Int)))]) (fun k => L) (fun k F' => F = F' ∧ (k ≤ rs.length) ∧ (0 ≤ dec z (rs.length + szTo rs k))) (fun k => rs.length - k) 0 ⟨rfl, (congrArg (Value.int .i64) (by show z - rs.length = dec z (rs.length + 0); rw [Nat.add_zero, dec_pos (by omega)])), rfl, trivial⟩ (Sub.refl _) ⟨rfl, (by (try dsimp only) <;> omega), (by show 0 ≤ dec z (rs.length + 0); rw [Nat.add_zero, dec_pos (by omega)]; omega)⟩ ?_
  rintro k rE _ _ ⟨rfl, hk, hnn⟩
  show X _ _ _ _ (envs [(0, rsv), (1, .int .i64 (dec z (rs.length + szTo rs k))), (5, .int .i64 (((k : Nat) : Int)))] rE) _ (L)
  have hdr := dec_range z (rs.length + szTo rs k)
  have hrk := hrb k
  refine X.seq ?_
  refine X.seq ?_
  refine X.region ?_
  refine XL.cons (XOp.move (.int .i64 (((k : Nat) : Int))) rfl ?_)
  refine XL.cons (XOp.move (rsv) rfl ?_)
  refine XL.cons (XOp.lenS (v := rsv) (n := (rs).length) Try.runUnderlying25 rfl hrs.slv ?_)
  refine XL.cons (XOp.lss (a := ((k : Nat) : Int)) (b := (((rs).length : Nat) : Int)) rfl rfl ?_)
  refine XL.nil ?_
  refine X.condD (p := (((k : Nat) : Int) : Int) < (((rs).length : Nat) : Int)) rfl (fun h2 => ?_) (fun h2 => ?_)
  ·refine X.skip ?_
   refine X.seq ?_
   refine X.block ?_
   refine X.seq ?_
   refine X.region ?_
   refine XL.cons (XOp.move (rsv) rfl ?_)
   refine XL.cons (XOp.move (.int .i64 (((k : Nat) : Int))) rfl ?_)
   refine XL.cons (XOp.indexS (v := rsv) (i := ((k : Nat) : Int)) (n := (rs).length) k Try.runUnderlying25 Try.sizeOf103 rfl rfl rfl hrs.slv (by omega) rfl ?_)
   obtain ⟨a1, a2, ha1, ha2, hr1, hr2⟩ := hrs.rd (i := k) (by omega)
   refine XL.cons (XOp.loadN [a1, a2] Try.isAgg103 Try.sizeOf103 rfl rfl (Rd.two (hr1 _) (hr2 _)) ?_)
   refine XL.cons (XOp.move (.int .i64 (dec z (rs.length + szTo rs k))) rfl ?_)
   refine XL.cons (XOp.call (args := [.agg #[a1, a2], .int .i64 (dec z (rs.length + szTo rs k))]) Try.call77 rfl (szRule_spec (z := dec z (rs.length + szTo rs k)) ha1 ha2 (hz := (by first | assumption | rfl | omega | (left; simp; done) | (right; simp; done))) (hll := (by first | assumption | rfl | omega | (left; simp; done) | (right; simp; done))) (hlr := (by first | assumption | rfl | omega | (left; simp; done) | (right; simp; done)))) ?_)
   rintro _ _ _ _ ⟨rfl, rfl, rfl⟩
   refine XL.cons (XOp.assign (.int .i64 (dec (dec z (rs.length + szTo rs k)) (((rs.getD k ([], [])).1).length + ((rs.getD k ([], [])).2).length))) rfl ?_)
   refine XL.nil ?_
   refine X.seq ?_
   refine X.region ?_
   refine XL.cons (XOp.move (.int .i64 (dec (dec z (rs.length + szTo rs k)) (((rs.getD k ([], [])).1).length + ((rs.getD k ([], [])).2).length))) rfl ?_)
   refine XL.cons (XOp.lss (a := dec (dec z (rs.length + szTo rs k)) (((rs.getD k ([], [])).1).length + ((rs.getD k ([], [])).2).length)) (b := 0) rfl rfl ?_)
   refine XL.nil ?_
   refine X.condD (p := (dec (dec z (rs.length + szTo rs k)) (((rs.getD k ([], [])).1).length + ((rs.getD k ([], [])).2).length) : Int) < 0) rfl (fun h3 => ?_) (fun h3 => ?_)
   ·refine X.seq ?_
    refine X.region ?_
    refine XL.cons (XOp.assign (.int .i64 (-1)) rfl ?_)
    refine XL.nil ?_
    refine X.ret (blockQ_ret (thenQ_ret (thenQ_ret (blockQ_ret (thenQ_ret (retEnd (L' := L) [.int .i64 (-1)] (.int .i64 (-1)) (.tmp rfl .nil) rfl (FLe.refl _) (FLe.refl _) (Sub.refl _) ?_))))))
    exact ⟨(congrArg (Value.int .i64) (by have h9 := szTo_le (rs := rs) (k + 1) rs.length (by omega) (Nat.le_refl _); refine dec_mono (n := rs.length + szTo rs (k + 1)) ?_ (by unfold szR; omega); rw [← szTo_succ (by omega), ← Nat.add_assoc, ← dec_dec (by omega)]; omega)), rfl, rfl⟩
   ·refine X.skip ?_
    refine X.region ?_
    refine XL.cons (XOp.move (.int .i64 (((k : Nat) : Int))) rfl ?_)
    refine XL.cons (XOp.addR (a := ((k : Nat) : Int)) (b := 1) (((k + 1 : Nat) : Int)) rfl rfl (by omega) (by omega) ?_)
    refine XL.cons (XOp.assign (.int .i64 (((k + 1 : Nat) : Int))) rfl ?_)
    refine XL.nil ?_
    exact ⟨k + 1, _, FLe.refl _, (FLe.refl _), ⟨rfl, (congrArg (Value.int .i64) (by rw [dec_dec (by omega), Nat.add_assoc, szTo_succ (by omega)])), rfl, trivial⟩, (Sub.refl _), ⟨rfl, (by (try dsimp only) <;> omega), (by (try dsimp only); rw [← szTo_succ (by omega), ← Nat.add_assoc, ← dec_dec (by omega)]; omega)⟩, (by omega)⟩
  ·refine X.exit (thenQ_exit (thenQ_exit (blockQ_exit ?_)))
   refine X.seq ?_
   refine X.region ?_
   refine XL.cons (XOp.move (.int .i64 (dec z (rs.length + szTo rs k))) rfl ?_)
   refine XL.cons (XOp.assign (.int .i64 (dec z (rs.length + szTo rs k))) rfl ?_)
   refine XL.nil ?_
   refine X.ret (retEnd (L' := L) [.int .i64 (dec z (rs.length + szTo rs k))] (.int .i64 (dec z (rs.length + szTo rs k))) (.tmp rfl .nil) rfl (FLe.refl _) (FLe.refl _) (Sub.refl _) ?_)
   exact ⟨(congrArg (Value.int .i64) (by rw [szR, show k = rs.length from by omega])), rfl, rfl⟩

/- laws.szSystem -/
theorem szSystem_spec {F : FH} {L : List HP} {arv : Value} {ar : List Int} (har : IntsF F arv ar) {rsv : Value} {rs : List (List Int × List Int)} (hrs : PairsF F rsv rs) {z : Int} (hz : 0 ≤ z ∧ z ≤ 4000000) (hal : ar.length ≤ 9223372036854775807) (hrl : rs.length ≤ 9223372036854775807) (hrb : ∀ i, i < rs.length → (rs.getD i ([], [])).1.length ≤ 9223372036854775807 ∧ (rs.getD i ([], [])).2.length ≤ 9223372036854775807) :
    Does Try.prog 10 [.agg #[arv, rsv], .int .i64 (z)] F (L) (fun v F' L' => (.int .i64 (dec z (ar.length + szR rs)) : Value) = v ∧ F = F' ∧ L = L') := by
 refine Does.of_X Try.func10 rfl rfl rfl ?_
 have hdr := dec_range z ar.length
 refine X.seq ?_
 refine X.region ?_
 refine XL.cons (XOp.box [arv, rsv] rfl rfl ?_)
 intro b1
 refine XL.cons (XOp.assign (.int .i64 (0)) rfl ?_)
 refine XL.nil ?_
 refine X.seq ?_
 refine X.region ?_
 refine XL.cons (XOp.fieldP (b := b1) (0) Try.runUnderlying27 rfl Try.sizeOf24 (by decide) rfl rfl ?_)
 refine XL.cons (XOp.loadN [arv] Try.isAgg24 Try.sizeOf24 rfl rfl (Rd.ownN [] rfl rfl) ?_)
 refine XL.cons (XOp.move (.int .i64 (z)) rfl ?_)
 refine XL.cons (XOp.call (args := [.agg #[arv], .int .i64 (z)]) Try.call37 rfl (szSig_spec (z := z) har (hz := (by first | assumption | rfl | omega | (left; simp; done) | (right; simp; done))) (hlx := (by first | assumption | rfl | omega | (left; simp; done) | (right; simp; done)))) ?_)
 rintro _ _ _ _ ⟨rfl, rfl, rfl⟩
 refine XL.cons (XOp.assign (.int .i64 (dec z ar.length)) rfl ?_)
 refine XL.nil ?_
 refine X.seq ?_
 refine X.seq ?_
 refine X.region ?_
 refine XL.cons (XOp.move (.int .i64 (dec z ar.length)) rfl ?_)
 refine XL.cons (XOp.lss (a := dec z ar.length) (b := 0) rfl rfl ?_)
 refine XL.nil ?_
 refine X.condD (p := (dec z ar.length : Int) < 0) rfl (fun h1 => ?_) (fun h1 => ?_)
 ·refine X.seq ?_
  refine X.region ?_
  refine XL.cons (XOp.assign (.int .i64 (-1)) rfl ?_)
  refine XL.nil ?_
  refine X.ret (thenQ_ret (retEnd (L' := L) [.int .i64 (-1)] (.int .i64 (-1)) (.tmp rfl .nil) rfl (FLe.refl _) (FLe.refl _) (Sub.drop (Sub.refl _)) ?_))
  exact ⟨(congrArg (Value.int .i64) (dec_out (by omega))), rfl, rfl⟩
 ·refine X.skip ?_
  refine X.seq ?_
  refine X.region ?_
  refine XL.cons (XOp.fieldP (b := b1) (1) Try.runUnderlying27 rfl Try.sizeOf25 (by decide) rfl rfl ?_)
  refine XL.cons (XOp.load1 (v := rsv) Try.isAgg25 rfl (Rd.own [] rfl rfl) ?_)
  refine XL.cons (XOp.move (.int .i64 (dec z ar.length)) rfl ?_)
  refine XL.cons (XOp.call (args := [rsv, .int .i64 (dec z ar.length)]) Try.call38 rfl (szRuleS_spec (z := dec z ar.length) hrs (hz := (by first | assumption | rfl | omega | (left; simp; done) | (right; simp; done))) (hrl := (by first | assumption | rfl | omega | (left; simp; done) | (right; simp; done))) (hrb := (by first | assumption | rfl | omega | (left; simp; done) | (right; simp; done)))) ?_)
  rintro _ _ _ _ ⟨rfl, rfl, rfl⟩
  refine XL.cons (XOp.assign (.int .i64 (dec (dec z ar.length) (szR rs))) rfl ?_)
  refine XL.nil ?_
  refine X.seq ?_
  refine X.seq ?_
  refine X.region ?_
  refine XL.cons (XOp.move (.int .i64 (dec (dec z ar.length) (szR rs))) rfl ?_)
  refine XL.cons (XOp.lss (a := dec (dec z ar.length) (szR rs)) (b := 0) rfl rfl ?_)
  refine XL.nil ?_
  refine X.condD (p := (dec (dec z ar.length) (szR rs) : Int) < 0) rfl (fun h2 => ?_) (fun h2 => ?_)
  ·refine X.seq ?_
   refine X.region ?_
   refine XL.cons (XOp.assign (.int .i64 (-1)) rfl ?_)
   refine XL.nil ?_
   refine X.ret (thenQ_ret (retEnd (L' := L) [.int .i64 (-1)] (.int .i64 (-1)) (.tmp rfl .nil) rfl (FLe.refl _) (FLe.refl _) (Sub.drop (Sub.refl _)) ?_))
   exact ⟨(congrArg (Value.int .i64) (by rw [← dec_dec (by omega)]; have := (dec_range (dec z ar.length) (szR rs)).1; omega)), rfl, rfl⟩
  ·refine X.skip ?_
   refine X.seq ?_
   refine X.region ?_
   refine XL.cons (XOp.move (.int .i64 (dec (dec z ar.length) (szR rs))) rfl ?_)
   refine XL.cons (XOp.assign (.int .i64 (dec (dec z ar.length) (szR rs))) rfl ?_)
   refine XL.nil ?_
   refine X.ret (retEnd (L' := L) [.int .i64 (dec (dec z ar.length) (szR rs))] (.int .i64 (dec (dec z ar.length) (szR rs))) (.tmp rfl .nil) rfl (FLe.refl _) (FLe.refl _) (Sub.drop (Sub.refl _)) ?_)
   exact ⟨(congrArg (Value.int .i64) ((dec_dec (by omega)).symm)), rfl, rfl⟩

/- laws.eqRuleS -/
theorem eqRuleS_spec {F : FH} {L : List HP} {av : Value} {a : List (List Int × List Int)} (ha : PairsF F av a) {bv : Value} {b : List (List Int × List Int)} (hb : PairsF F bv b) (hal : a.length ≤ 9223372036854775807) (hbd : ∀ i, i < a.length → (a.getD i ([], [])).1.length ≤ 9223372036854775807 ∧ (a.getD i ([], [])).2.length ≤ 9223372036854775807) :
    Does Try.prog 47 [av, bv] F (L) (fun v F' L' => (.bool (decide (a = b)) : Value) = v ∧ F = F' ∧ L = L') := by
 refine Does.of_X Try.func47 rfl rfl rfl ?_
 refine X.seq ?_
 refine X.region ?_
 refine XL.cons (XOp.assign (.bool (false)) rfl ?_)
 refine XL.nil ?_
 refine X.seq ?_
 refine X.seq ?_
 refine X.region ?_
 refine XL.cons (XOp.move (av) rfl ?_)
 refine XL.cons (XOp.lenS (v := av) (n := (a).length) Try.runUnderlying31 rfl ha.slv ?_)
 refine XL.cons (XOp.move (bv) rfl ?_)
 refine XL.cons (XOp.lenS (v := bv) (n := (b).length) Try.runUnderlying31 rfl hb.slv ?_)
 refine XL.cons (XOp.neq (a := (((a).length : Nat) : Int)) (b := (((b).length : Nat) : Int)) rfl rfl ?_)
 refine XL.nil ?_
 refine X.condD (p := ((((a).length : Nat) : Int) : Int) ≠ (((b).length : Nat) : Int)) rfl (fun h1 => ?_) (fun h1 => ?_)
 ·refine X.seq ?_
  refine X.region ?_
  refine XL.cons (XOp.assign (.bool (false)) rfl ?_)
  refine XL.nil ?_
  refine X.ret (thenQ_ret (retEnd (L' := L) [.bool (false)] (.bool (false)) (.tmp rfl .nil) rfl (FLe.refl _) (FLe.refl _) (Sub.refl _) ?_))
  exact ⟨(congrArg Value.bool (decide_eq_false (fun e => by rw [e] at h1; omega))), rfl, rfl⟩
 ·refine X.skip ?_
  refine X.seq ?_
  refine X.seq ?_
  refine X.region ?_
  refine XL.cons (XOp.assign (.int .i64 (0)) rfl ?_)
  refine XL.nil ?_
  refine X.block ?_
  refine X.loop (α := Nat) (fun k => [(0, av), (1, bv), (5, .int .i64 (((k : Nat) : Int)))]) (fun k => L) (fun k F' => F = F' ∧ (k ≤ a.length) ∧ (∀ i, i < k → a.getD i ([], []) = b.getD i ([], []))) (fun k => a.length - k) 0 ⟨rfl, rfl, rfl, trivial⟩ (Sub.refl _) ⟨rfl, (by (try dsimp only) <;> omega), (fun i hi => absurd hi (by omega))⟩ ?_
  rintro k rE _ _ ⟨rfl, hk, hall⟩
  show X _ _ _ _ (envs [(0, av), (1, bv), (5, .int .i64 (((k : Nat) : Int)))] rE) _ (L)
  have hbk := hbd k
  refine X.seq ?_
  refine X.seq ?_
  refine X.region ?_
  refine XL.cons (XOp.move (.int .i64 (((k : Nat) : Int))) rfl ?_)
  refine XL.cons (XOp.move (av) rfl ?_)
  refine XL.cons (XOp.lenS (v := av) (n := (a).length) Try.runUnderlying31 rfl ha.slv ?_)
  refine XL.cons (XOp.lss (a := ((k : Nat) : Int)) (b := (((a).length : Nat) : Int)) rfl rfl ?_)
  refine XL.nil ?_
  refine X.condD (p := (((k : Nat) : Int) : Int) < (((a).length : Nat) : Int)) rfl (fun h2 => ?_) (fun h2 => ?_)
  ·refine X.skip ?_
   refine X.seq ?_
   refine X.block ?_
   refine X.seq ?_
   obtain ⟨a1, a2, ha1, ha2, hr1, hr2⟩ := ha.rd (i := k) (by omega)
   obtain ⟨a3, a4, ha3, ha4, hr3, hr4⟩ := hb.rd (i := k) (by omega)
   refine X.draw [] L 8 [[], [], [], [], [], [], [], []] [[], [], [0, 1], [2], [], [], [4, 5], [6]] (phiL [fun us v => v = av, fun us v => v = (.int .i64 (((k : Nat) : Int)) : Value), fun us v => v = (.pointer (some (elemA av (k * 2))) : Value), fun us v => v = (.agg #[a1, a2] : Value), fun us v => v = bv, fun us v => v = (.int .i64 (((k : Nat) : Int)) : Value), fun us v => v = (.pointer (some (elemA bv (k * 2))) : Value), fun us v => v = (.agg #[a3, a4] : Value)]) (ownL [fun us v => [], fun us v => [], fun us v => [], fun us v => [], fun us v => [], fun us v => [], fun us v => [], fun us v => []]) mixed rfl rfl (by kernel_rfl) ?_ ?_
   ·refine stepsP.cons (fun vals R hpZ => ?_) ?_
    ·refine XG.op (XOp.move (av) rfl ?_)
     exact ⟨rfl, rfl, rfl⟩
    refine stepsP.cons (fun vals R hpZ => ?_) ?_
    ·refine XG.op (XOp.move (.int .i64 (((k : Nat) : Int))) rfl ?_)
     exact ⟨rfl, rfl, rfl⟩
    refine stepsP.cons (fun vals R hpZ => ?_) ?_
    ·rw [(envs_of_sat (l := [(0, av), (1, (.int .i64 (((k : Nat) : Int)) : Value))]) ⟨hpZ 0 (by decide), hpZ 1 (by decide), trivial⟩).symm]
     refine XG.op (XOp.indexS (v := av) (i := ((k : Nat) : Int)) (n := (a).length) k Try.runUnderlying31 Try.sizeOf105 rfl rfl rfl ha.slv (by omega) rfl ?_)
     exact ⟨rfl, rfl, rfl⟩
    refine stepsP.cons (fun vals R hpZ => ?_) ?_
    ·rw [(envs_of_sat (l := [(2, (.pointer (some (elemA av (k * 2))) : Value))]) ⟨hpZ 2 (by decide), trivial⟩).symm]
     refine XG.op (XOp.loadN [a1, a2] Try.isAgg105 Try.sizeOf105 rfl rfl (Rd.two (hr1 _) (hr2 _)) ?_)
     exact ⟨rfl, rfl, rfl⟩
    refine stepsP.cons (fun vals R hpZ => ?_) ?_
    ·refine XG.op (XOp.move (bv) rfl ?_)
     exact ⟨rfl, rfl, rfl⟩
    refine stepsP.cons (fun vals R hpZ => ?_) ?_
    ·refine XG.op (XOp.move (.int .i64 (((k : Nat) : Int))) rfl ?_)
     exact ⟨rfl, rfl, rfl⟩
    refine stepsP.cons (fun vals R hpZ => ?_) ?_
    ·rw [(envs_of_sat (l := [(4, bv), (5, (.int .i64 (((k : Nat) : Int)) : Value))]) ⟨hpZ 4 (by decide), hpZ 5 (by decide), trivial⟩).symm]
     refine XG.op (XOp.indexS (v := bv) (i := ((k : Nat) : Int)) (n := (b).length) k Try.runUnderlying31 Try.sizeOf105 rfl rfl rfl hb.slv (by omega) rfl ?_)
     exact ⟨rfl, rfl, rfl⟩
    refine stepsP.cons (fun vals R hpZ => ?_) ?_
    ·rw [(envs_of_sat (l := [(6, (.pointer (some (elemA bv (k * 2))) : Value))]) ⟨hpZ 6 (by decide), trivial⟩).symm]
     refine XG.op (XOp.loadN [a3, a4] Try.isAgg105 Try.sizeOf105 rfl rfl (Rd.two (hr3 _) (hr4 _)) ?_)
     exact ⟨rfl, rfl, rfl⟩
    exact stepsP.nil
   ·intro vals hphi
    have e0 : vals 0 = av := hphi 0 (by decide)
    have e1 : vals 1 = (.int .i64 (((k : Nat) : Int)) : Value) := hphi 1 (by decide)
    have e2 : vals 2 = (.pointer (some (elemA av (k * 2))) : Value) := hphi 2 (by decide)
    have e3 : vals 3 = (.agg #[a1, a2] : Value) := hphi 3 (by decide)
    have e4 : vals 4 = bv := hphi 4 (by decide)
    have e5 : vals 5 = (.int .i64 (((k : Nat) : Int)) : Value) := hphi 5 (by decide)
    have e6 : vals 6 = (.pointer (some (elemA bv (k * 2))) : Value) := hphi 6 (by decide)
    have e7 : vals 7 = (.agg #[a3, a4] : Value) := hphi 7 (by decide)
    rw [(envs_of_sat (l := [(0, av), (1, (.int .i64 (((k : Nat) : Int)) : Value)), (2, (.pointer (some (elemA av (k * 2))) : Value)), (3, (.agg #[a1, a2] : Value)), (4, bv), (5, (.int .i64 (((k : Nat) : Int)) : Value)), (6, (.pointer (some (elemA bv (k * 2))) : Value)), (7, (.agg #[a3, a4] : Value))]) ⟨e0, e1, e2, e3, e4, e5, e6, e7, trivial⟩).symm]
    show XL _ _ _ _ _ _ _ (L)
    refine XL.cons (XOp.call (args := [.agg #[a1, a2], .agg #[a3, a4]]) Try.call80 rfl (eqRule_spec ha1 ha2 ha3 ha4 (hbd := (.inl (hbk (by omega)).1)) (hbe := (.inl (hbk (by omega)).2))) ?_)
    rintro _ _ _ _ ⟨rfl, rfl, rfl⟩
    refine XL.cons (XOp.notD (p := (((a.getD k ([], [])).1), ((a.getD k ([], [])).2)) = (((b.getD k ([], [])).1), ((b.getD k ([], [])).2))) rfl ?_)
    refine XL.nil ?_
    refine X.condD (p := ¬((((a.getD k ([], [])).1), ((a.getD k ([], [])).2)) = (((b.getD k ([], [])).1), ((b.getD k ([], [])).2)))) rfl (fun h3 => ?_) (fun h3 => ?_)
    ·refine X.seq ?_
     refine X.region ?_
     refine XL.cons (XOp.assign (.bool (false)) rfl ?_)
     refine XL.nil ?_
     refine X.ret (blockQ_ret (thenQ_ret (thenQ_ret (blockQ_ret (thenQ_ret (retEnd (L' := L) [.bool (false)] (.bool (false)) (.tmp rfl .nil) rfl (FLe.refl _) (FLe.refl _) (Sub.refl _) ?_))))))
     exact ⟨(congrArg Value.bool (decide_eq_false (fun e => by subst e; simp at *))), rfl, rfl⟩
    ·refine X.skip ?_
     refine X.region ?_
     refine XL.cons (XOp.move (.int .i64 (((k : Nat) : Int))) rfl ?_)
     refine XL.cons (XOp.addR (a := ((k : Nat) : Int)) (b := 1) (((k + 1 : Nat) : Int)) rfl rfl (by omega) (by omega) ?_)
     refine XL.cons (XOp.assign (.int .i64 (((k + 1 : Nat) : Int))) rfl ?_)
     refine XL.nil ?_
     exact ⟨k + 1, _, FLe.refl _, (FLe.refl _), ⟨rfl, rfl, rfl, trivial⟩, (Sub.refl _), ⟨rfl, (by (try dsimp only) <;> omega), (fun i hi => (Nat.lt_or_ge i k).elim (fun h => hall i h) (fun h => by obtain rfl : i = k := (by omega); first | assumption | exact Classical.not_not.1 (by assumption)))⟩, (by omega)⟩
  ·refine X.exit (thenQ_exit (thenQ_exit (blockQ_exit ?_)))
   refine X.seq ?_
   refine X.region ?_
   refine XL.cons (XOp.assign (.bool (true)) rfl ?_)
   refine XL.nil ?_
   refine X.ret (retEnd (L' := L) [.bool (true)] (.bool (true)) (.tmp rfl .nil) rfl (FLe.refl _) (FLe.refl _) (Sub.refl _) ?_)
   exact ⟨(congrArg Value.bool (decide_eq_true (ext_pair (by omega) (fun i hi => hall i (by omega))))), rfl, rfl⟩

/- laws.eqSystem -/
theorem eqSystem_spec {F : FH} {L : List HP} {cv : Value} {c : List Int} (hc : IntsF F cv c) {av : Value} {a : List (List Int × List Int)} (ha : PairsF F av a) {dv : Value} {d : List Int} (hd : IntsF F dv d) {bv : Value} {b : List (List Int × List Int)} (hb : PairsF F bv b) (hcl : c.length ≤ 9223372036854775807) (hal : a.length ≤ 9223372036854775807) (hbd : ∀ i, i < a.length → (a.getD i ([], [])).1.length ≤ 9223372036854775807 ∧ (a.getD i ([], [])).2.length ≤ 9223372036854775807) :
    Does Try.prog 15 [.agg #[cv, av], .agg #[dv, bv]] F (L) (fun v F' L' => (.bool (decide (c = d ∧ a = b)) : Value) = v ∧ F = F' ∧ L = L') := by
 refine Does.of_X Try.func15 rfl rfl rfl ?_
 refine X.seq ?_
 refine X.region ?_
 refine XL.cons (XOp.box [cv, av] rfl rfl ?_)
 intro b1
 refine XL.cons (XOp.box [dv, bv] rfl rfl ?_)
 intro b2
 refine XL.cons (XOp.assign (.bool (false)) rfl ?_)
 refine XL.nil ?_
 refine X.seq ?_
 refine X.seq ?_
 refine X.region ?_
 refine XL.cons (XOp.fieldP (b := b1) (0) Try.runUnderlying33 rfl Try.sizeOf30 (by decide) rfl rfl ?_)
 refine XL.cons (XOp.loadN [cv] Try.isAgg30 Try.sizeOf30 rfl rfl (Rd.ownN [_] rfl rfl) ?_)
 refine XL.cons (XOp.fieldP (b := b2) (0) Try.runUnderlying33 rfl Try.sizeOf30 (by decide) rfl rfl ?_)
 refine XL.cons (XOp.loadN [dv] Try.isAgg30 Try.sizeOf30 rfl rfl (Rd.ownN [] rfl rfl) ?_)
 refine XL.cons (XOp.call (args := [.agg #[cv], .agg #[dv]]) Try.call46 rfl (eqSig_spec hc hd (hbd := (.inl hcl))) ?_)
 rintro _ _ _ _ ⟨rfl, rfl, rfl⟩
 refine XL.cons (XOp.notD (p := c = d) rfl ?_)
 refine XL.nil ?_
 refine X.condD (p := ¬(c = d)) rfl (fun h1 => ?_) (fun h1 => ?_)
 ·refine X.seq ?_
  refine X.region ?_
  refine XL.cons (XOp.assign (.bool (false)) rfl ?_)
  refine XL.nil ?_
  refine X.ret (thenQ_ret (retEnd (L' := L) [.bool (false)] (.bool (false)) (.tmp rfl .nil) rfl (FLe.refl _) (FLe.refl _) (Sub.drop (Sub.drop (Sub.refl _))) ?_))
  exact ⟨(congrArg Value.bool (decide_eq_false (by intro e; simp_all))), rfl, rfl⟩
 ·refine X.skip ?_
  refine X.seq ?_
  refine X.seq ?_
  refine X.region ?_
  refine XL.cons (XOp.fieldP (b := b1) (1) Try.runUnderlying33 rfl Try.sizeOf31 (by decide) rfl rfl ?_)
  refine XL.cons (XOp.load1 (v := av) Try.isAgg31 rfl (Rd.own [_] rfl rfl) ?_)
  refine XL.cons (XOp.fieldP (b := b2) (1) Try.runUnderlying33 rfl Try.sizeOf31 (by decide) rfl rfl ?_)
  refine XL.cons (XOp.load1 (v := bv) Try.isAgg31 rfl (Rd.own [] rfl rfl) ?_)
  refine XL.cons (XOp.call (args := [av, bv]) Try.call47 rfl (eqRuleS_spec ha hb (hal := (by first | assumption | rfl | omega | (left; simp; done) | (right; simp; done))) (hbd := (by first | assumption | rfl | omega | (left; simp; done) | (right; simp; done)))) ?_)
  rintro _ _ _ _ ⟨rfl, rfl, rfl⟩
  refine XL.cons (XOp.notD (p := a = b) rfl ?_)
  refine XL.nil ?_
  refine X.condD (p := ¬(a = b)) rfl (fun h2 => ?_) (fun h2 => ?_)
  ·refine X.seq ?_
   refine X.region ?_
   refine XL.cons (XOp.assign (.bool (false)) rfl ?_)
   refine XL.nil ?_
   refine X.ret (thenQ_ret (retEnd (L' := L) [.bool (false)] (.bool (false)) (.tmp rfl .nil) rfl (FLe.refl _) (FLe.refl _) (Sub.drop (Sub.drop (Sub.refl _))) ?_))
   exact ⟨(congrArg Value.bool (decide_eq_false (by intro e; simp_all))), rfl, rfl⟩
  ·refine X.skip ?_
   refine X.seq ?_
   refine X.region ?_
   refine XL.cons (XOp.assign (.bool (true)) rfl ?_)
   refine XL.nil ?_
   refine X.ret (retEnd (L' := L) [.bool (true)] (.bool (true)) (.tmp rfl .nil) rfl (FLe.refl _) (FLe.refl _) (Sub.drop (Sub.drop (Sub.refl _))) ?_)
   exact ⟨(congrArg Value.bool (decide_eq_true (by simp_all))), rfl, rfl⟩

/- laws.toInt64S -/
theorem toInt64S_spec {F : FH} {L : List HP} {xsv : Value} {xs : List Int} (hxs : IntsF F xsv xs) (hlx : xs.length ≤ 4000000) :
    Does Try.prog 13 [xsv] F (L) (fun v F' L' => F = F' ∧ IsSl v ∧ intsH 2 v xs :: L = L') := by
 refine Does.of_X Try.func13 rfl rfl rfl ?_
 refine X.seq ?_
 refine X.region ?_
 refine XL.cons (XOp.assign ((.slice none 0 0)) rfl ?_)
 refine XL.nil ?_
 refine X.seq ?_
 refine X.region ?_
 refine XL.cons (XOp.move (xsv) rfl ?_)
 refine XL.cons (XOp.lenS (v := xsv) (n := (xs).length) Try.runUnderlying22 rfl hxs.slv ?_)
 refine XL.cons (XOp.makeSlice (n := (xs).length) (bytes := 8) [.int .i64 (0)] Try.runUnderlying22 Try.sizeOf2 Try.typeInfo2 rfl Try.zeroValue2 rfl rfl rfl rfl (by omega) (by omega) ?_)
 intro v1 hv1
 rw [intsH_zeros]
 refine XL.cons (XOp.assign (v1) rfl ?_)
 refine XL.nil ?_
 refine X.seq ?_
 refine X.seq ?_
 refine X.region ?_
 refine XL.cons (XOp.assign (.int .i64 (0)) rfl ?_)
 refine XL.nil ?_
 refine X.block ?_
 refine X.loop (α := Nat × List Int) (fun xQ => [(0, xsv), (3, v1), (4, .int .i64 (((xQ.1 : Nat) : Int)))]) (fun xQ => intsH 2 v1 xQ.2 :: L) (fun xQ F' => F = F' ∧ (xQ.1 ≤ xs.length) ∧ (xQ.2.length = xs.length) ∧ (xQ.2.take xQ.1 = xs.take xQ.1)) (fun xQ => xs.length - xQ.1) (0, (List.replicate xs.length 0)) ⟨rfl, rfl, rfl, trivial⟩ (Sub.cons (Sub.refl _)) ⟨rfl, (by (try dsimp only) <;> omega), (by simp), (rfl)⟩ ?_
 rintro ⟨k, os⟩ rE _ _ ⟨rfl, hk, hol, hos⟩
 show X _ _ _ _ (envs [(0, xsv), (3, v1), (4, .int .i64 (((k : Nat) : Int)))] rE) _ (intsH 2 v1 os :: L)
 dsimp only at hk hol hos
 refine X.seq ?_
 refine X.seq ?_
 refine X.region ?_
 refine XL.cons (XOp.move (.int .i64 (((k : Nat) : Int))) rfl ?_)
 refine XL.cons (XOp.move (xsv) rfl ?_)
 refine XL.cons (XOp.lenS (v := xsv) (n := (xs).length) Try.runUnderlying22 rfl hxs.slv ?_)
 refine XL.cons (XOp.lss (a := ((k : Nat) : Int)) (b := (((xs).length : Nat) : Int)) rfl rfl ?_)
 refine XL.nil ?_
 refine X.condD (p := (((k : Nat) : Int) : Int) < (((xs).length : Nat) : Int)) rfl (fun h1 => ?_) (fun h1 => ?_)
 ·refine X.skip ?_
  refine X.seq ?_
  refine X.block ?_
  refine X.region ?_
  refine XL.cons (XOp.move (v1) rfl ?_)
  refine XL.cons (XOp.move (.int .i64 (((k : Nat) : Int))) rfl ?_)
  refine XL.cons (XOp.move (xsv) rfl ?_)
  refine XL.cons (XOp.move (.int .i64 (((k : Nat) : Int))) rfl ?_)
  refine XL.cons (XOp.indexS (v := xsv) (i := ((k : Nat) : Int)) (n := (xs).length) k Try.runUnderlying22 Try.sizeOf2 rfl rfl rfl hxs.slv (by omega) (Nat.mul_one _) ?_)
  refine XL.cons (XOp.load1 (v := .int .i64 (xs.getD k 0)) Try.isAgg2 rfl (hxs.rd (by omega)) ?_)
  refine XL.cons (XOp.indexS (v := v1) (i := ((k : Nat) : Int)) (n := os.length) k Try.runUnderlying22 Try.sizeOf2 rfl rfl rfl (intsH.slv [] rfl) (by omega) (Nat.mul_one _) ?_)
  refine XL.cons (intsH.storeX (i := k) (v := v1) [] _ (os.set k (xs.getD k 0)) Try.sizeOf2 rfl rfl rfl (by omega) rfl ?_)
  refine XL.nil ?_
  refine X.region ?_
  refine XL.cons (XOp.move (.int .i64 (((k : Nat) : Int))) rfl ?_)
  refine XL.cons (XOp.addR (a := ((k : Nat) : Int)) (b := 1) (((k + 1 : Nat) : Int)) rfl rfl (by omega) (by omega) ?_)
  refine XL.cons (XOp.assign (.int .i64 (((k + 1 : Nat) : Int))) rfl ?_)
  refine XL.nil ?_
  exact ⟨(k + 1, (os.set k (xs.getD k 0))), _, FLe.refl _, (FLe.refl _), ⟨rfl, rfl, rfl, trivial⟩, (Sub.cons (Sub.refl _)), ⟨rfl, (by (try dsimp only) <;> omega), (by dsimp only; rw [List.length_set]; exact hol), (by dsimp only; rw [take_set_next (by omega) (by omega), hos, take_succ_getD 0 (by omega)])⟩, (by omega)⟩
 ·refine X.exit (thenQ_exit (thenQ_exit (blockQ_exit ?_)))
  refine X.seq ?_
  refine X.region ?_
  refine XL.cons (XOp.move (v1) rfl ?_)
  refine XL.cons (XOp.assign (v1) rfl ?_)
  refine XL.nil ?_
  refine X.ret (retEnd (L' := intsH 2 v1 os :: L) [v1] (v1) (.tmp rfl .nil) rfl (FLe.refl _) (FLe.refl _) (Sub.cons (Sub.refl _)) ?_)
  refine ⟨rfl, (isSl_lit hv1), ?_⟩
  have hxs : (xs : List Int) = os := by rw [← List.take_of_length_le (l := xs) (i := k) (by omega), ← hos, List.take_of_length_le (by omega)]
  exact congrArg (fun z => intsH 2 _ z :: L) hxs
end Go.Proofs.Ytiaanelimbmniaa
set_option linter.unusedSimpArgs false
set_option linter.unusedVariables false
namespace Go.Proofs.Ytiaanelimbmniaa
open Go X M

/- laws.toSig -/
theorem toSig_spec {F : FH} {L : List HP} {xsv : Value} {xs : List Int} (hxs : IntsF F xsv xs) (hlx : xs.length ≤ 4000000) :
    Does Try.prog 41 [.agg #[xsv]] F (L) (fun v F' L' => ∃ (a : Value), (.agg #[a] : Value) = v ∧ (IntsF F' a xs) ∧ (Fresh F F' (star [intsH 2 a xs])) ∧ L = L') := by
 refine Does.of_X Try.func41 rfl rfl rfl ?_
 refine X.seq ?_
 refine X.region ?_
 refine XL.cons (XOp.box [xsv] rfl rfl ?_)
 intro b1
 refine XL.cons (XOp.alloc [(.slice none 0 0)] Try.zeroValue30 rfl ?_)
 intro b2
 refine XL.nil ?_
 refine X.seq ?_
 refine X.region ?_
 refine XL.cons (XOp.alloc [(.slice none 0 0)] Try.zeroValue30 rfl ?_)
 intro b3
 refine XL.nil ?_
 refine X.seq ?_
 refine X.region ?_
 refine XL.cons (XOp.fieldP (b := b1) (0) Try.runUnderlying24 rfl Try.sizeOf22 (by decide) rfl rfl ?_)
 refine XL.cons (XOp.load1 (v := xsv) Try.isAgg22 rfl (Rd.own [_, _] rfl rfl) ?_)
 refine XL.cons (XOp.frzF <| XOp.call (args := [xsv]) Try.call13 rfl (toInt64S_spec hxs (hlx := (by first | assumption | rfl | omega | (left; simp; done) | (right; simp; done)))) ?_)
 rintro v1 _ _ _ ⟨rfl, hs1, rfl⟩
 refine ⟨_, _, rfl, fun F1 le1 hz1 => ?_⟩
 replace hxs := hxs.mono le1
 have hf1 : IntsF F1 v1 ((xs)) := intsH.fz (xs := (xs)) hz1.fz
 refine XL.cons (XOp.fieldP (b := b3) (0) Try.runUnderlying30 rfl Try.sizeOf22 (by decide) rfl rfl ?_)
 refine XL.cons (XOp.store1 (v := v1) [] _ [v1] Try.sizeOf22 rfl rfl (one_sl (IntsF.isSl hf1)) rfl rfl rfl ?_)
 refine XL.nil ?_
 refine X.seq ?_
 refine X.region ?_
 refine XL.cons (XOp.loadN [v1] Try.isAgg30 Try.sizeOf30 rfl rfl (Rd.ownN [] rfl rfl) ?_)
 refine XL.cons (XOp.storeN (vs := [v1]) [_] _ [v1] Try.sizeOf30 rfl rfl rfl (ones_cons (one_sl (IntsF.isSl hf1)) ones_nil) rfl rfl rfl ?_)
 refine XL.nil ?_
 refine X.ret (retEnd (L' := L) [.agg #[v1]] (.agg #[v1]) (.cell rfl (loadNV [v1] Try.isAgg30 Try.sizeOf30 rfl (Rd.ownN [_] rfl rfl)) .nil) rfl le1 (FLe.refl _) (Sub.drop (Sub.drop (Sub.drop (Sub.refl _)))) ?_)
 exact ⟨_, rfl, hf1, (Fresh.one hz1), rfl⟩

/- laws.toRule -/
theorem toRule_spec {F : FH} {L : List HP} {lv : Value} {l : List Int} (hl : IntsF F lv l) {rv : Value} {r : List Int} (hr : IntsF F rv r) (hll : l.length ≤ 4000000) (hlr : r.length ≤ 4000000) :
    Does Try.prog 79 [.agg #[lv, rv]] F (L) (fun v F' L' => ∃ (a : Value), ∃ (b : Value), (.agg #[a, b] : Value) = v ∧ (IntsF F' a l) ∧ (IntsF F' b r) ∧ (Fresh F F' (star [intsH 2 a l, intsH 2 b r])) ∧ L = L') := by
 refine Does.of_X Try.func79 rfl rfl rfl ?_
 refine X.seq ?_
 refine X.region ?_
 refine XL.cons (XOp.box [lv, rv] rfl rfl ?_)
 intro b1
 refine XL.cons (XOp.alloc [(.slice none 0 0), (.slice none 0 0)] Try.zeroValue105 rfl ?_)
 intro b2
 refine XL.nil ?_
 refine X.seq ?_
 refine X.region ?_
 refine XL.cons (XOp.alloc [(.slice none 0 0), (.slice none 0 0)] Try.zeroValue105 rfl ?_)
 intro b3
 refine XL.nil ?_
 refine X.seq ?_
 refine X.region ?_
 refine XL.cons (XOp.fieldP (b := b1) (0) Try.runUnderlying103 rfl Try.sizeOf22 (by decide) rfl rfl ?_)
 refine XL.cons (XOp.load1 (v := lv) Try.isAgg22 rfl (Rd.own [_, _] rfl rfl) ?_)
 refine XL.cons (XOp.frzF <| XOp.call (args := [lv]) Try.call13 rfl (toInt64S_spec hl (hlx := (by first | assumption | rfl | omega | (left; simp; done) | (right; simp; done)))) ?_)
 rintro v1 _ _ _ ⟨rfl, hs1, rfl⟩
 refine ⟨_, _, rfl, fun F1 le1 hz1 => ?_⟩
 replace hl := hl.mono le1
 replace hr := hr.mono le1
 have hf1 : IntsF F1 v1 ((l)) := intsH.fz (xs := (l)) hz1.fz
 refine XL.cons (XOp.fieldP (b := b3) (0) Try.runUnderlying105 rfl Try.sizeOf22 (by decide) rfl rfl ?_)
 refine XL.cons (XOp.store1 (v := v1) [] _ [v1, (.slice none 0 0)] Try.sizeOf22 rfl rfl (one_sl (IntsF.isSl hf1)) rfl rfl rfl ?_)
 refine XL.nil ?_
 refine X.seq ?_
 refine X.region ?_
 refine XL.cons (XOp.fieldP (b := b1) (1) Try.runUnderlying103 rfl Try.sizeOf22 (by decide) rfl rfl ?_)
 refine XL.cons (XOp.load1 (v := rv) Try.isAgg22 rfl (Rd.own [_, _] rfl rfl) ?_)
 refine XL.cons (XOp.frzF <| XOp.call (args := [rv]) Try.call13 rfl (toInt64S_spec hr (hlx := (by first | assumption | rfl | omega | (left; simp; done) | (right; simp; done)))) ?_)
 rintro v2 _ _ _ ⟨rfl, hs2, rfl⟩
 refine ⟨_, _, rfl, fun F2 le2 hz2 => ?_⟩
 replace hl := hl.mono le2
 replace hr := hr.mono le2
 replace hf1 := hf1.mono le2
 have hf2 : IntsF F2 v2 ((r)) := intsH.fz (xs := (r)) hz2.fz
 refine XL.cons (XOp.fieldP (b := b3) (1) Try.runUnderlying105 rfl Try.sizeOf22 (by decide) rfl rfl ?_)
 refine XL.cons (XOp.store1 (v := v2) [] _ [v1, v2] Try.sizeOf22 rfl rfl (one_sl (IntsF.isSl hf2)) rfl rfl rfl ?_)
 refine XL.nil ?_
 refine X.seq ?_
 refine X.region ?_
 refine XL.cons (XOp.loadN [v1, v2] Try.isAgg105 Try.sizeOf105 rfl rfl (Rd.ownN [] rfl rfl) ?_)
 refine XL.cons (XOp.storeN (vs := [v1, v2]) [_] _ [v1, v2] Try.sizeOf105 rfl rfl rfl (ones_cons (one_sl (IntsF.isSl hf1)) (ones_cons (one_sl (IntsF.isSl hf2)) ones_nil)) rfl rfl rfl ?_)
 refine XL.nil ?_
 refine X.ret (retEnd (L' := L) [.agg #[v1, v2]] (.agg #[v1, v2]) (.cell rfl (loadNV [v1, v2] Try.isAgg105 Try.sizeOf105 rfl (Rd.ownN [_] rfl rfl)) .nil) rfl (FLe.trans le1 le2) (FLe.refl _) (Sub.drop (Sub.drop (Sub.drop (Sub.refl _)))) ?_)
 exact ⟨_, _, rfl, hf1, hf2, (Fresh.app (Fresh.one hz1) le1 (Fresh.one hz2) le2), rfl⟩

/- laws.toRuleS -/
theorem toRuleS_spec {F : FH} {L : List HP} {xv : Value} {x : List (List Int × List Int)} (hx : PairsF F xv x) (hlx : x.length ≤ 4000000) (hrb : ∀ i, i < x.length → (x.getD i ([], [])).1.length ≤ 4000000 ∧ (x.getD i ([], [])).2.length ≤ 4000000) :
    Does Try.prog 42 [xv] F (L) (fun v F' L' => ∃ (a : Value), (a : Value) = v ∧ (PairsF F' a x) ∧ (Fresh F F' (star [pairsD 2 105 a x])) ∧ L = L') := by
 refine Does.of_X Try.func42 rfl rfl rfl ?_
 refine X.seq ?_
 refine X.region ?_
 refine XL.cons (XOp.assign ((.slice none 0 0)) rfl ?_)
 refine XL.nil ?_
 refine X.seq ?_
 refine X.region ?_
 refine XL.cons (XOp.move (xv) rfl ?_)
 refine XL.cons (XOp.lenS (v := xv) (n := (x).length) Try.runUnderlying25 rfl hx.slv ?_)
 refine XL.cons (XOp.makeSlice (n := (x).length) (bytes := 48) [(.slice none 0 0), (.slice none 0 0)] Try.runUnderlying31 Try.sizeOf105 Try.typeInfo105 rfl Try.zeroValue105 rfl rfl rfl rfl (by omega) (by omega) ?_)
 intro v1 hv1
 obtain ⟨cs1, hq1, hc1⟩ : ∃ cs, ((List.range (((x).length) * 2)).map fun i => [Value.slice none 0 0, Value.slice none 0 0].toArray[i % [Value.slice none 0 0, Value.slice none 0 0].toArray.size]!) = cs ∧ PairsC F cs (List.replicate ((x).length) ([], []) : List (List Int × List Int)) := ⟨_, rfl, PairsC.nils _⟩
 rw [hq1]
 refine XL.cons (XOp.assign (v1) rfl ?_)
 refine XL.nil ?_
 refine X.seq ?_
 refine X.seq ?_
 refine X.region ?_
 refine XL.cons (XOp.assign (.int .i64 (0)) rfl ?_)
 refine XL.nil ?_
 refine X.block ?_
 obtain ⟨L0, hD0, hS0⟩ := deepNils2 2 x.length
 rw [hq1] at hD0
 refine X.loop (α := Nat × List (List Int × List Int) × List Value × List HP × FH) (fun xQ => [(0, xv), (3, v1), (4, .int .i64 (((xQ.1 : Nat) : Int)))]) (fun xQ => slH 105 2 v1 x.length xQ.2.2.1 :: L) (fun xQ F' => xQ.2.2.2.2 = F' ∧ F ≤ xQ.2.2.2.2 ∧ (PairsC xQ.2.2.2.2 xQ.2.2.1 xQ.2.1) ∧ (xQ.1 ≤ x.length) ∧ (xQ.2.1.length = x.length) ∧ (xQ.2.1.take xQ.1 = x.take xQ.1) ∧ (DeepL 2 (PairO 2) xQ.2.2.1 xQ.2.1 xQ.2.2.2.1) ∧ (Fresh F xQ.2.2.2.2 (star xQ.2.2.2.1))) (fun xQ => x.length - xQ.1) (0, (List.replicate ((x).length) ([], []) : List (List Int × List Int)), cs1, L0, F) ⟨rfl, rfl, rfl, trivial⟩ (Sub.cons (Sub.refl _)) ⟨rfl, FLe.refl _, (hc1), (by (try dsimp only) <;> omega), (by simp), (rfl), (hD0), (Fresh.empty hS0)⟩ ?_
 rintro ⟨k, os, cs, Ls, G1⟩ rE _ _ ⟨rfl, leG, hC, hk, hol, hos, hD, hZ⟩
 show X _ _ _ _ (envs [(0, xv), (3, v1), (4, .int .i64 (((k : Nat) : Int)))] rE) _ (slH 105 2 v1 x.length cs :: L)
 replace leG : F ≤ G1 := leG
 dsimp only at hC hk hol hos hD hZ
 have hrk := hrb k
 have leG1 := leG
 replace hx := hx.mono leG1
 replace hc1 := hc1.mono leG1
 refine X.seq ?_
 refine X.seq ?_
 refine X.region ?_
 refine XL.cons (XOp.move (.int .i64 (((k : Nat) : Int))) rfl ?_)
 refine XL.cons (XOp.move (xv) rfl ?_)
 refine XL.cons (XOp.lenS (v := xv) (n := (x).length) Try.runUnderlying25 rfl hx.slv ?_)
 refine XL.cons (XOp.lss (a := ((k : Nat) : Int)) (b := (((x).length : Nat) : Int)) rfl rfl ?_)
 refine XL.nil ?_
 refine X.condD (p := (((k : Nat) : Int) : Int) < (((x).length : Nat) : Int)) rfl (fun h1 => ?_) (fun h1 => ?_)
 ·refine X.skip ?_
  refine X.seq ?_
  refine X.block ?_
  refine X.region ?_
  refine XL.cons (XOp.move (v1) rfl ?_)
  refine XL.cons (XOp.move (.int .i64 (((k : Nat) : Int))) rfl ?_)
  refine XL.cons (XOp.move (xv) rfl ?_)
  refine XL.cons (XOp.move (.int .i64 (((k : Nat) : Int))) rfl ?_)
  refine XL.cons (XOp.indexS (v := xv) (i := ((k : Nat) : Int)) (n := (x).length) k Try.runUnderlying25 Try.sizeOf103 rfl rfl rfl hx.slv (by omega) rfl ?_)
  obtain ⟨a1, a2, ha1, ha2, hr1, hr2⟩ := hx.rd (i := k) (by omega)
  refine XL.cons (XOp.loadN [a1, a2] Try.isAgg103 Try.sizeOf103 rfl rfl (Rd.two (hr1 _) (hr2 _)) ?_)
  refine XL.cons (XOp.call (args := [.agg #[a1, a2]]) Try.call79 rfl (toRule_spec ha1 ha2 (hll := (by first | assumption | rfl | omega | (left; simp; done) | (right; simp; done))) (hlr := (by first | assumption | rfl | omega | (left; simp; done) | (right; simp; done)))) ?_)
  rintro _ F1 _ le1 ⟨x1, x2, rfl, hr3, hr4, hr5, rfl⟩
  replace hx := hx.mono le1
  replace hc1 := hc1.mono le1
  replace hC := hC.mono le1
  replace ha1 := ha1.mono le1
  replace ha2 := ha2.mono le1
  replace hr1 := Rd.monoA hr1 le1
  replace hr2 := Rd.monoA hr2 le1
  refine XL.cons (XOp.indexS (v := v1) (i := ((k : Nat) : Int)) (n := x.length) k Try.runUnderlying31 Try.sizeOf105 rfl rfl rfl (SlV.own [] rfl) (by omega) rfl ?_)
  refine XL.cons (XOp.storeSN (i := k * 2) (m := 2) (vs := [x1, x2]) (cs := cs) [] _ Try.sizeOf105 rfl rfl rfl (ones_cons (one_sl (IntsF.isSl hr3)) (ones_cons (one_sl (IntsF.isSl hr4)) ones_nil)) rfl (show k * 2 + 2 ≤ _ from by have h9 := CO.len hC; (try simp only [List.length_set, List.length_replicate] at h9); omega) (Nat.succ_pos _) ?_)
  have hc2 := hC.set (j := k) (by (try simp only [List.length_set, List.length_replicate]); omega) hr3 hr4
  refine XL.nil ?_
  refine X.region ?_
  refine XL.cons (XOp.move (.int .i64 (((k : Nat) : Int))) rfl ?_)
  refine XL.cons (XOp.addR (a := ((k : Nat) : Int)) (b := 1) (((k + 1 : Nat) : Int)) rfl rfl (by omega) (by omega) ?_)
  refine XL.cons (XOp.assign (.int .i64 (((k + 1 : Nat) : Int))) rfl ?_)
  refine XL.nil ?_
  obtain ⟨A, K, B, es, hLs, hel, hR, hg, hput⟩ := hD.at (d := ([], [])) (k := k) (by omega)
  rw [hLs] at hZ
  have hDn := hput _ (((x.getD k ([], [])).1), ((x.getD k ([], [])).2)) [intsH 2 x1 (((x.getD k ([], [])).1)), intsH 2 x2 (((x.getD k ([], [])).2))] rfl ⟨_, _,  rfl, rfl⟩
  exact ⟨(k + 1, (os.set k (((x.getD k ([], [])).1), ((x.getD k ([], [])).2))), (cs.take (k * 2) ++ [x1, x2] ++ cs.drop (k * 2 + 2)), A ++ ([intsH 2 x1 (((x.getD k ([], [])).1)), intsH 2 x2 (((x.getD k ([], [])).2))] ++ B), F1), _, (FLe.trans leG1 le1), (FLe.refl _), ⟨rfl, rfl, rfl, trivial⟩, (Sub.cons (Sub.refl _)), ⟨rfl, (FLe.trans leG1 le1), (hc2), (by (try dsimp only) <;> omega), (by dsimp only; rw [List.length_set]; exact hol), (by dsimp only; rw [take_set_any (by omega), hos, take_succ_getD ([], []) (by omega)]), (hDn), ((Fresh.swap hZ leG1 hr5 le1))⟩, (by omega)⟩
 ·refine X.exit (thenQ_exit (thenQ_exit (blockQ_exit ?_)))
  refine X.seq ?_
  refine X.region ?_
  refine XL.cons (XOp.move (v1) rfl ?_)
  refine XL.cons (XOp.assign (v1) rfl ?_)
  refine XL.nil ?_
  refine X.freezeF [] _ _ rfl (fun F2 le2 hz1 => ?_)
  replace hx := hx.mono le2
  replace hc1 := hc1.mono le2
  replace hC := hC.mono le2
  have hf1 : PairsF F2 v1 os := CO.fz hC (by first | rfl | simp | omega) hz1.fz
  refine X.ret (retEnd (L' := L) [v1] (v1) (.tmp rfl .nil) rfl (FLe.trans leG1 le2) (FLe.refl _) (Sub.refl _) ?_)
  have e : os = x := by rw [← List.take_of_length_le (l := x) (i := k) (by omega), ← hos, List.take_of_length_le (by omega)]
  subst e
  exact ⟨_, rfl, hf1, Fresh.one (Fresh.deep hD hZ leG1 hz1 rfl le2), rfl⟩

/- laws.toSystem -/
theorem toSystem_spec {F : FH} {L : List HP} {arv : Value} {ar : List Int} (har : IntsF F arv ar) {rsv : Value} {rs : List (List Int × List Int)} (hrs : PairsF F rsv rs) (hla : ar.length ≤ 4000000) (hrl : rs.length ≤ 4000000) (hrb : ∀ i, i < rs.length → (rs.getD i ([], [])).1.length ≤ 4000000 ∧ (rs.getD i ([], [])).2.length ≤ 4000000) :
    Does Try.prog 12 [.agg #[arv, rsv]] F (L) (fun v F' L' => ∃ (a : Value), ∃ (b : Value), (.agg #[a, b] : Value) = v ∧ (IntsF F' a ar) ∧ (PairsF F' b rs) ∧ (Fresh F F' (star [intsH 2 a ar, pairsD 2 105 b rs])) ∧ L = L') := by
 refine Does.of_X Try.func12 rfl rfl rfl ?_
 refine X.seq ?_
 refine X.region ?_
 refine XL.cons (XOp.box [arv, rsv] rfl rfl ?_)
 intro b1
 refine XL.cons (XOp.alloc [(.slice none 0 0), (.slice none 0 0)] Try.zeroValue33 rfl ?_)
 intro b2
 refine XL.nil ?_
 refine X.seq ?_
 refine X.region ?_
 refine XL.cons (XOp.alloc [(.slice none 0 0), (.slice none 0 0)] Try.zeroValue33 rfl ?_)
 intro b3
 refine XL.nil ?_
 refine X.seq ?_
 refine X.region ?_
 refine XL.cons (XOp.fieldP (b := b1) (0) Try.runUnderlying27 rfl Try.sizeOf24 (by decide) rfl rfl ?_)
 refine XL.cons (XOp.loadN [arv] Try.isAgg24 Try.sizeOf24 rfl rfl (Rd.ownN [_, _] rfl rfl) ?_)
 refine XL.cons (XOp.call (args := [.agg #[arv]]) Try.call41 rfl (toSig_spec har (hlx := (by first | assumption | rfl | omega | (left; simp; done) | (right; simp; done)))) ?_)
 rintro _ F1 _ le1 ⟨x1, rfl, hr1, hr2, rfl⟩
 replace har := har.mono le1
 replace hrs := hrs.mono le1
 refine XL.cons (XOp.fieldP (b := b3) (0) Try.runUnderlying33 rfl Try.sizeOf30 (by decide) rfl rfl ?_)
 refine XL.cons (XOp.storeN (vs := [x1]) [] _ [x1, (.slice none 0 0)] Try.sizeOf30 rfl rfl rfl (ones_cons (one_sl (IntsF.isSl hr1)) ones_nil) rfl rfl rfl ?_)
 refine XL.nil ?_
 refine X.seq ?_
 refine X.region ?_
 refine XL.cons (XOp.fieldP (b := b1) (1) Try.runUnderlying27 rfl Try.sizeOf25 (by decide) rfl rfl ?_)
 refine XL.cons (XOp.load1 (v := rsv) Try.isAgg25 rfl (Rd.own [_, _] rfl rfl) ?_)
 refine XL.cons (XOp.call (args := [rsv]) Try.call42 rfl (toRuleS_spec hrs (hlx := (by first | assumption | rfl | omega | (left; simp; done) | (right; simp; done))) (hrb := (by first | assumption | rfl | omega | (left; simp; done) | (right; simp; done)))) ?_)
 rintro _ F2 _ le2 ⟨x2, rfl, hr3, hr4, rfl⟩
 replace har := har.mono le2
 replace hrs := hrs.mono le2
 replace hr1 := hr1.mono le2
 refine XL.cons (XOp.fieldP (b := b3) (1) Try.runUnderlying33 rfl Try.sizeOf31 (by decide) rfl rfl ?_)
 refine XL.cons (XOp.store1 (v := x2) [] _ [x1, x2] Try.sizeOf31 rfl rfl (one_sl (PairsF.isSl hr3)) rfl rfl rfl ?_)
 refine XL.nil ?_
 refine X.seq ?_
 refine X.region ?_
 refine XL.cons (XOp.loadN [x1, x2] Try.isAgg33 Try.sizeOf33 rfl rfl (Rd.ownN [] rfl rfl) ?_)
 refine XL.cons (XOp.storeN (vs := [x1, x2]) [_] _ [x1, x2] Try.sizeOf33 rfl rfl rfl (ones_cons (one_sl (IntsF.isSl hr1)) (ones_cons (one_sl (PairsF.isSl hr3)) ones_nil)) rfl rfl rfl ?_)
 refine XL.nil ?_
 refine X.ret (retEnd (L' := L) [.agg #[x1, x2]] (.agg #[x1, x2]) (.cell rfl (loadNV [x1, x2] Try.isAgg33 Try.sizeOf33 rfl (Rd.ownN [_] rfl rfl)) .nil) rfl (FLe.trans le1 le2) (FLe.refl _) (Sub.drop (Sub.drop (Sub.drop (Sub.refl _)))) ?_)
 exact ⟨_, _, rfl, hr1, hr3, (Fresh.app hr2 le1 hr4 le2), rfl⟩
end Go.Proofs.Ytiaanelimbmniaa
set_option linter.unusedSimpArgs false
set_option linter.unusedVariables false
namespace Go.Proofs.Ytiaanelimbmniaa
open Go X M

/- laws.markInt64S -/
theorem markInt64S_spec {F : FH} {L : List HP} {xv : Value} {x : List Int} {z : Int} (hz : 0 ≤ z ∧ z + (((x)).length : Int) ≤ 9000000000) :
    Does Try.prog 23 [xv, .int .i64 (z)] F (intsH 2 xv x :: L) (fun v F' L' => ∃ x' : List Int, ((x')) = iota z ((x)).length ∧ (.int .i64 (z + (((x)).length : Int)) : Value) = v ∧ F = F' ∧ intsH 2 xv x' :: L = L') := by
 refine Does.of_X Try.func23 rfl rfl rfl ?_
 refine X.seq ?_
 refine X.region ?_
 refine XL.cons (XOp.assign (.int .i64 (0)) rfl ?_)
 refine XL.nil ?_
 refine X.seq ?_
 refine X.seq ?_
 refine X.region ?_
 refine XL.cons (XOp.assign (.int .i64 (0)) rfl ?_)
 refine XL.nil ?_
 refine X.block ?_
 refine X.loop (α := Nat × List Int) (fun xQ => [(0, xv), (1, .int .i64 (z + ((xQ.1 : Nat) : Int))), (5, .int .i64 (((xQ.1 : Nat) : Int)))]) (fun xQ => intsH 2 xv xQ.2 :: L) (fun xQ F' => F = F' ∧ (xQ.1 ≤ x.length) ∧ (xQ.2 = iota z xQ.1 ++ x.drop xQ.1) ∧ (xQ.2.length = x.length)) (fun xQ => x.length - xQ.1) (0, x) ⟨rfl, (show Value.int .i64 z = .int .i64 (z + ((0 : Nat) : Int)) from congrArg (Value.int .i64) (by omega)), rfl, trivial⟩ (Sub.cons (Sub.refl _)) ⟨rfl, (by (try dsimp only) <;> omega), (by rw [iota_zero]; rfl), (rfl)⟩ ?_
 rintro ⟨k, os⟩ rE _ _ ⟨rfl, hk, hos, hol⟩
 show X _ _ _ _ (envs [(0, xv), (1, .int .i64 (z + ((k : Nat) : Int))), (5, .int .i64 (((k : Nat) : Int)))] rE) _ (intsH 2 xv os :: L)
 dsimp only at hk hos hol
 refine X.seq ?_
 refine X.seq ?_
 refine X.region ?_
 refine XL.cons (XOp.move (.int .i64 (((k : Nat) : Int))) rfl ?_)
 refine XL.cons (XOp.move (xv) rfl ?_)
 refine XL.cons (XOp.lenS (v := xv) (n := os.length) Try.runUnderlying22 rfl (intsH.slv [] rfl) ?_)
 refine XL.cons (XOp.lss (a := ((k : Nat) : Int)) (b := ((os.length : Nat) : Int)) rfl rfl ?_)
 refine XL.nil ?_
 refine X.condD (p := (((k : Nat) : Int) : Int) < ((os.length : Nat) : Int)) rfl (fun h1 => ?_) (fun h1 => ?_)
 ·refine X.skip ?_
  refine X.seq ?_
  refine X.block ?_
  refine X.seq ?_
  refine X.region ?_
  refine XL.cons (XOp.move (xv) rfl ?_)
  refine XL.cons (XOp.move (.int .i64 (((k : Nat) : Int))) rfl ?_)
  refine XL.cons (XOp.move (.int .i64 (z + ((k : Nat) : Int))) rfl ?_)
  refine XL.cons (XOp.indexS (v := xv) (i := ((k : Nat) : Int)) (n := os.length) k Try.runUnderlying22 Try.sizeOf2 rfl rfl rfl (intsH.slv [] rfl) (by omega) (Nat.mul_one _) ?_)
  refine XL.cons (intsH.storeX (i := k) (v := xv) [] _ (os.set k (z + ((k : Nat) : Int))) Try.sizeOf2 rfl rfl rfl (by omega) rfl ?_)
  refine XL.nil ?_
  refine X.region ?_
  refine XL.cons (XOp.move (.int .i64 (z + ((k : Nat) : Int))) rfl ?_)
  refine XL.cons (XOp.addR (a := z + ((k : Nat) : Int)) (b := 1) ((z + ((k : Nat) : Int)) + 1) rfl rfl (by omega) (by omega) ?_)
  refine XL.cons (XOp.assign (.int .i64 ((z + ((k : Nat) : Int)) + 1)) rfl ?_)
  refine XL.nil ?_
  refine X.region ?_
  refine XL.cons (XOp.move (.int .i64 (((k : Nat) : Int))) rfl ?_)
  refine XL.cons (XOp.addR (a := ((k : Nat) : Int)) (b := 1) (((k + 1 : Nat) : Int)) rfl rfl (by omega) (by omega) ?_)
  refine XL.cons (XOp.assign (.int .i64 (((k + 1 : Nat) : Int))) rfl ?_)
  refine XL.nil ?_
  exact ⟨(k + 1, (os.set k (z + ((k : Nat) : Int)))), _, FLe.refl _, (FLe.refl _), ⟨rfl, (congrArg (Value.int .i64) (by omega)), rfl, trivial⟩, (Sub.cons (Sub.refl _)), ⟨rfl, (by (try dsimp only) <;> omega), (by dsimp only; rw [hos]; exact iota_set (by omega)), (by dsimp only; rw [List.length_set]; exact hol)⟩, (by omega)⟩
 ·refine X.exit (thenQ_exit (thenQ_exit (blockQ_exit ?_)))
  refine X.seq ?_
  refine X.region ?_
  refine XL.cons (XOp.move (.int .i64 (z + ((k : Nat) : Int))) rfl ?_)
  refine XL.cons (XOp.assign (.int .i64 (z + ((k : Nat) : Int))) rfl ?_)
  refine XL.nil ?_
  refine X.ret (retEnd (L' := intsH 2 xv os :: L) [.int .i64 (z + ((k : Nat) : Int))] (.int .i64 (z + ((k : Nat) : Int))) (.tmp rfl .nil) rfl (FLe.refl _) (FLe.refl _) (Sub.cons (Sub.refl _)) ?_)
  have hkl : k = x.length := by omega
  subst hkl
  exact ⟨os, by rw [hos, List.drop_eq_nil_of_le (Nat.le_refl _), List.append_nil], rfl, rfl, rfl⟩

/- laws.heldInt64S -/
theorem heldInt64S_spec {F : FH} {L : List HP} {xv : Value} {x : List Int} (hx : IntsF F xv x) {z : Int} (hzb : 0 ≤ z ∧ z + (x.length : Int) ≤ 9000000000) :
    Does Try.prog 62 [xv, .int .i64 (z)] F (L) (fun v F' L' => (.int .i64 (heldF x z) : Value) = v ∧ F = F' ∧ L = L') := by
 refine Does.of_X Try.func62 rfl rfl rfl ?_
 refine X.seq ?_
 refine X.region ?_
 refine XL.cons (XOp.assign (.int .i64 (0)) rfl ?_)
 refine XL.nil ?_
 refine X.seq ?_
 refine X.seq ?_
 refine X.region ?_
 refine XL.cons (XOp.assign (.int .i64 (0)) rfl ?_)
 refine XL.nil ?_
 refine X.block ?_
 refine X.loop (α := Nat) (fun k => [(0, xv), (1, .int .i64 (z + ((k : Nat) : Int))), (5, .int .i64 (((k : Nat) : Int)))]) (fun k => L) (fun k F' => F = F' ∧ (k ≤ x.length) ∧ (x.take k = iota z k)) (fun k => x.length - k) 0 ⟨rfl, (show Value.int .i64 z = .int .i64 (z + ((0 : Nat) : Int)) from congrArg (Value.int .i64) (by omega)), rfl, trivial⟩ (Sub.refl _) ⟨rfl, (by (try dsimp only) <;> omega), (rfl)⟩ ?_
 rintro k rE _ _ ⟨rfl, hk, hos⟩
 show X _ _ _ _ (envs [(0, xv), (1, .int .i64 (z + ((k : Nat) : Int))), (5, .int .i64 (((k : Nat) : Int)))] rE) _ (L)
 refine X.seq ?_
 refine X.seq ?_
 refine X.region ?_
 refine XL.cons (XOp.move (.int .i64 (((k : Nat) : Int))) rfl ?_)
 refine XL.cons (XOp.move (xv) rfl ?_)
 refine XL.cons (XOp.lenS (v := xv) (n := (x).length) Try.runUnderlying22 rfl hx.slv ?_)
 refine XL.cons (XOp.lss (a := ((k : Nat) : Int)) (b := (((x).length : Nat) : Int)) rfl rfl ?_)
 refine XL.nil ?_
 refine X.condD (p := (((k : Nat) : Int) : Int) < (((x).length : Nat) : Int)) rfl (fun h1 => ?_) (fun h1 => ?_)
 ·refine X.skip ?_
  refine X.seq ?_
  refine X.block ?_
  refine X.seq ?_
  refine X.seq ?_
  refine X.region ?_
  refine XL.cons (XOp.move (xv) rfl ?_)
  refine XL.cons (XOp.move (.int .i64 (((k : Nat) : Int))) rfl ?_)
  refine XL.cons (XOp.indexS (v := xv) (i := ((k : Nat) : Int)) (n := (x).length) k Try.runUnderlying22 Try.sizeOf2 rfl rfl rfl hx.slv (by omega) (Nat.mul_one _) ?_)
  refine XL.cons (XOp.load1 (v := .int .i64 (x.getD k 0)) Try.isAgg2 rfl (hx.rd (by omega)) ?_)
  refine XL.cons (XOp.move (.int .i64 (z + ((k : Nat) : Int))) rfl ?_)
  refine XL.cons (XOp.neq (a := x.getD k 0) (b := z + ((k : Nat) : Int)) rfl rfl ?_)
  refine XL.nil ?_
  refine X.condD (p := (x.getD k 0 : Int) ≠ z + ((k : Nat) : Int)) rfl (fun h2 => ?_) (fun h2 => ?_)
  ·refine X.seq ?_
   refine X.region ?_
   refine XL.cons (XOp.assign (.int .i64 (-1)) rfl ?_)
   refine XL.nil ?_
   refine X.ret (thenQ_ret (blockQ_ret (thenQ_ret (thenQ_ret (blockQ_ret (thenQ_ret (retEnd (L' := L) [.int .i64 (-1)] (.int .i64 (-1)) (.tmp rfl .nil) rfl (FLe.refl _) (FLe.refl _) (Sub.refl _) ?_)))))))
   exact ⟨(congrArg (Value.int .i64) (heldF_snoc_no (i := k) (by omega) (by assumption))), rfl, rfl⟩
  ·refine X.skip ?_
   refine X.region ?_
   refine XL.cons (XOp.move (.int .i64 (z + ((k : Nat) : Int))) rfl ?_)
   refine XL.cons (XOp.addR (a := z + ((k : Nat) : Int)) (b := 1) ((z + ((k : Nat) : Int)) + 1) rfl rfl (by omega) (by omega) ?_)
   refine XL.cons (XOp.assign (.int .i64 ((z + ((k : Nat) : Int)) + 1)) rfl ?_)
   refine XL.nil ?_
   refine X.region ?_
   refine XL.cons (XOp.move (.int .i64 (((k : Nat) : Int))) rfl ?_)
   refine XL.cons (XOp.addR (a := ((k : Nat) : Int)) (b := 1) (((k + 1 : Nat) : Int)) rfl rfl (by omega) (by omega) ?_)
   refine XL.cons (XOp.assign (.int .i64 (((k + 1 : Nat) : Int))) rfl ?_)
   refine XL.nil ?_
   exact ⟨k + 1, _, FLe.refl _, (FLe.refl _), ⟨rfl, (congrArg (Value.int .i64) (by omega)), rfl, trivial⟩, (Sub.refl _), ⟨rfl, (by (try dsimp only) <;> omega), (by (try dsimp only); rw [take_succ_getD 0 (by omega), hos, iota_succ]; congr 2; first | assumption | exact Classical.not_not.1 (by assumption) | omega)⟩, (by omega)⟩
 ·refine X.exit (thenQ_exit (thenQ_exit (blockQ_exit ?_)))
  refine X.seq ?_
  refine X.region ?_
  refine XL.cons (XOp.move (.int .i64 (z + ((k : Nat) : Int))) rfl ?_)
  refine XL.cons (XOp.assign (.int .i64 (z + ((k : Nat) : Int))) rfl ?_)
  refine XL.nil ?_
  refine X.ret (retEnd (L' := L) [.int .i64 (z + ((k : Nat) : Int))] (.int .i64 (z + ((k : Nat) : Int))) (.tmp rfl .nil) rfl (FLe.refl _) (FLe.refl _) (Sub.refl _) ?_)
  exact ⟨(congrArg (Value.int .i64) (held_all (by omega) hos)), rfl, rfl⟩

/- laws.markSig -/
theorem markSig_spec {F : FH} {L : List HP} {xv : Value} {x : List Int} {z : Int} (hz : 0 ≤ z ∧ z + (((x)).length : Int) ≤ 9000000000) :
    Does Try.prog 59 [.agg #[xv], .int .i64 (z)] F (intsH 2 xv x :: L) (fun v F' L' => ∃ x' : List Int, ((x')) = iota z ((x)).length ∧ (.int .i64 (z + (((x)).length : Int)) : Value) = v ∧ F = F' ∧ intsH 2 xv x' :: L = L') := by
 refine Does.of_X Try.func59 rfl rfl rfl ?_
 refine X.seq ?_
 refine X.region ?_
 refine XL.cons (XOp.box [xv] rfl rfl ?_)
 intro b1
 refine XL.cons (XOp.assign (.int .i64 (0)) rfl ?_)
 refine XL.nil ?_
 refine X.seq ?_
 refine X.region ?_
 refine XL.cons (XOp.fieldP (b := b1) (0) Try.runUnderlying30 rfl Try.sizeOf22 (by decide) rfl rfl ?_)
 refine XL.cons (XOp.load1 (v := xv) Try.isAgg22 rfl (Rd.own [] rfl rfl) ?_)
 refine XL.cons (XOp.move (.int .i64 (z)) rfl ?_)
 refine XL.weaken (Sub.front (A := [_])) ?_
 show XL _ _ _ _ _ _ _ (intsH 2 xv x :: cellsH b1 [xv] 30 :: L)
 refine XL.cons (XOp.call (args := [xv, .int .i64 (z)]) Try.call23 rfl (markInt64S_spec (by omega)) ?_)
 rintro _ _ _ _ ⟨m1, hm1, rfl, rfl, rfl⟩
 have hml1 := congrArg List.length hm1
 rw [iota_len] at hml1
 try simp only [List.length_append] at hml1
 refine XL.cons (XOp.assign (.int .i64 (z + (((x)).length : Int))) rfl ?_)
 refine XL.nil ?_
 refine X.seq ?_
 refine X.region ?_
 refine XL.cons (XOp.move (.int .i64 (z + (((x)).length : Int))) rfl ?_)
 refine XL.cons (XOp.assign (.int .i64 (z + (((x)).length : Int))) rfl ?_)
 refine XL.nil ?_
 refine X.ret (retEnd (L' := intsH 2 xv m1 :: L) [.int .i64 (z + (((x)).length : Int))] (.int .i64 (z + (((x)).length : Int))) (.tmp rfl .nil) rfl (FLe.refl _) (FLe.refl _) (Sub.cons (Sub.drop (Sub.refl _))) ?_)
 exact ⟨m1, hm1, congrArg (Value.int .i64) (by first | rfl | (simp only [List.length_append]; omega)), rfl, rfl⟩

/- laws.markRuleS -/
theorem markRuleS_spec {F : FH} {L : List HP} {xv : Value} {x : List (List Int × List Int)} {z : Int} (hz : 0 ≤ z ∧ z + (((x.flatMap flatPair)).length : Int) ≤ 9000000000) (hnx : x.length ≤ 4000000) :
    Does Try.prog 60 [xv, .int .i64 (z)] F (pairsD 2 105 xv x :: L) (fun v F' L' => ∃ x' : List (List Int × List Int), ((x'.flatMap flatPair)) = iota z ((x.flatMap flatPair)).length ∧ x'.length = x.length ∧ (.int .i64 (z + (((x.flatMap flatPair)).length : Int)) : Value) = v ∧ F = F' ∧ pairsD 2 105 xv x' :: L = L') := by
 refine Does.of_X Try.func60 rfl rfl rfl ?_
 refine X.openDeep (fun cs Ls hd => ?_)
 refine X.weaken (Sub.front (A := [_])) ?_
 show X _ _ _ _ _ _ (star Ls :: slH 105 2 xv x.length cs :: L)
 refine X.seq ?_
 refine X.region ?_
 refine XL.cons (XOp.assign (.int .i64 (0)) rfl ?_)
 refine XL.nil ?_
 refine X.seq ?_
 refine X.seq ?_
 refine X.region ?_
 refine XL.cons (XOp.assign (.int .i64 (0)) rfl ?_)
 refine XL.nil ?_
 refine X.block ?_
 refine X.loop (α := Nat × List (List Int × List Int) × List HP) (fun xQ => [(0, xv), (1, .int .i64 (z + ((((x.take xQ.1).flatMap flatPair).length : Nat) : Int))), (5, .int .i64 (((xQ.1 : Nat) : Int)))]) (fun xQ => star xQ.2.2 :: slH 105 2 xv x.length cs :: L) (fun xQ F' => F = F' ∧ (DeepL 2 (PairO 2) cs (xQ.2.1 ++ x.drop xQ.1) xQ.2.2) ∧ (xQ.1 ≤ x.length) ∧ (xQ.2.1.length = xQ.1) ∧ (xQ.2.1.flatMap flatPair = iota z ((x.take xQ.1).flatMap flatPair).length)) (fun xQ => x.length - xQ.1) (0, [], Ls) ⟨rfl, (show Value.int .i64 z = .int .i64 (z + ((((x.take 0).flatMap flatPair).length : Nat) : Int)) from congrArg (Value.int .i64) (by simp)), rfl, trivial⟩ (Sub.cons (Sub.cons (Sub.refl _))) ⟨rfl, (hd), (by (try dsimp only) <;> omega), (rfl), (rfl)⟩ ?_
 rintro ⟨k, os, Ls⟩ rE _ _ ⟨rfl, hd, hk, hol, hfl⟩
 show X _ _ _ _ (envs [(0, xv), (1, .int .i64 (z + ((((x.take k).flatMap flatPair).length : Nat) : Int))), (5, .int .i64 (((k : Nat) : Int)))] rE) _ (star Ls :: slH 105 2 xv x.length cs :: L)
 dsimp only at hd hk hol hfl
 have htl := fun (h : k < x.length) => flat_take_le (f := flatPair) (l := x) ([], []) h
 have hlen : (os ++ x.drop k).length = x.length := by rw [List.length_append, List.length_drop]; omega
 refine X.seq ?_
 refine X.seq ?_
 refine X.region ?_
 refine XL.cons (XOp.move (.int .i64 (((k : Nat) : Int))) rfl ?_)
 refine XL.cons (XOp.move (xv) rfl ?_)
 refine XL.cons (XOp.lenS (v := xv) (n := x.length) Try.runUnderlying31 rfl (SlV.own [_] rfl) ?_)
 refine XL.cons (XOp.lss (a := ((k : Nat) : Int)) (b := ((x.length : Nat) : Int)) rfl rfl ?_)
 refine XL.nil ?_
 refine X.condD (p := (((k : Nat) : Int) : Int) < ((x.length : Nat) : Int)) rfl (fun h1 => ?_) (fun h1 => ?_)
 ·refine X.skip ?_
  refine X.seq ?_
  refine X.block ?_
  refine X.seq ?_
  refine X.region ?_
  have hkx : k < x.length := by omega
  have htl2 := htl hkx
  obtain ⟨A, K, B, es, hLs, hel, hR, hg, hput⟩ := hd.at (d := ([], [])) (k := k) (by omega)
  rw [app_getD hol] at hR
  have hself := splice_self hel hg (hd.bound (k := k) (by omega))
  obtain ⟨a, b, he, hK⟩ := hR
  subst he hK
  have hfp : (flatPair (x.getD k ([], []))).length = (x.getD k ([], [])).1.length + (x.getD k ([], [])).2.length := by unfold flatPair; rw [List.length_append]
  subst hLs
  refine XL.weaken (Sub.pull (A := A)) ?_
  show XL _ _ _ _ _ _ _ (intsH 2 a ((x.getD k ([], [])).1) :: intsH 2 b ((x.getD k ([], [])).2) :: star (A ++ B) :: slH 105 2 xv x.length cs :: L)
  skip
  refine XL.cons (XOp.move (xv) rfl ?_)
  refine XL.cons (XOp.move (.int .i64 (((k : Nat) : Int))) rfl ?_)
  refine XL.cons (XOp.indexS (v := xv) (i := ((k : Nat) : Int)) (n := x.length) k Try.runUnderlying31 Try.sizeOf105 rfl rfl rfl (SlV.own [_, _, _] rfl) (by omega) rfl ?_)
  refine XL.cons (XOp.fieldE (v := xv) (k * 2) Try.runUnderlying105 rfl Try.sizeOf22 (by decide) rfl rfl ?_)
  refine XL.cons (XOp.load1 (v := a) Try.isAgg22 rfl (Rd.sl [_, _, _] rfl (hg 0 _ rfl)) ?_)
  refine XL.cons (XOp.move (.int .i64 (z + ((((x.take k).flatMap flatPair).length : Nat) : Int))) rfl ?_)
  refine XL.cons (XOp.call (args := [a, .int .i64 (z + ((((x.take k).flatMap flatPair).length : Nat) : Int))]) Try.call23 rfl (markInt64S_spec (by omega)) ?_)
  rintro _ _ _ _ ⟨m1, hm1, rfl, rfl, rfl⟩
  have hml1 := congrArg List.length hm1
  rw [iota_len] at hml1
  try simp only [List.length_append] at hml1
  refine XL.cons (XOp.assign (.int .i64 ((z + ((((x.take k).flatMap flatPair).length : Nat) : Int)) + (((((x.getD k ([], [])).1))).length : Int))) rfl ?_)
  refine XL.nil ?_
  refine X.region ?_
  refine XL.cons (XOp.move (xv) rfl ?_)
  refine XL.cons (XOp.move (.int .i64 (((k : Nat) : Int))) rfl ?_)
  refine XL.cons (XOp.indexS (v := xv) (i := ((k : Nat) : Int)) (n := x.length) k Try.runUnderlying31 Try.sizeOf105 rfl rfl rfl (SlV.own [_, _, _] rfl) (by omega) rfl ?_)
  refine XL.cons (XOp.fieldE (v := xv) (k * 2 + 1) Try.runUnderlying105 rfl Try.sizeOf22 (by decide) rfl rfl ?_)
  refine XL.cons (XOp.load1 (v := b) Try.isAgg22 rfl (Rd.sl [_, _, _] rfl (hg 1 _ rfl)) ?_)
  refine XL.cons (XOp.move (.int .i64 ((z + ((((x.take k).flatMap flatPair).length : Nat) : Int)) + (((((x.getD k ([], [])).1))).length : Int))) rfl ?_)
  refine XL.weaken (Sub.front (A := [_])) ?_
  show XL _ _ _ _ _ _ _ (intsH 2 b ((x.getD k ([], [])).2) :: intsH 2 a m1 :: star (A ++ B) :: slH 105 2 xv x.length cs :: L)
  refine XL.cons (XOp.call (args := [b, .int .i64 ((z + ((((x.take k).flatMap flatPair).length : Nat) : Int)) + (((((x.getD k ([], [])).1))).length : Int))]) Try.call23 rfl (markInt64S_spec (by omega)) ?_)
  rintro _ _ _ _ ⟨m2, hm2, rfl, rfl, rfl⟩
  have hml2 := congrArg List.length hm2
  rw [iota_len] at hml2
  try simp only [List.length_append] at hml2
  refine XL.cons (XOp.assign (.int .i64 (((z + ((((x.take k).flatMap flatPair).length : Nat) : Int)) + (((((x.getD k ([], [])).1))).length : Int)) + (((((x.getD k ([], [])).2))).length : Int))) rfl ?_)
  refine XL.nil ?_
  refine X.region ?_
  refine XL.weaken (Sub.trans (Sub.front (A := [_, _, _])) (Sub.trans (Sub.front (A := [_, _, _])) (Sub.trans (Sub.front (A := [_, _])) (Sub.trans (Sub.front (A := [_, _, _])) (Sub.cons (Sub.cons (Sub.cons (Sub.cons (Sub.refl _))))))))) ?_
  refine XL.weaken (Sub.push (A := A) (K := [intsH 2 a m1, intsH 2 b m2]) (B := B)) ?_
  show XL _ _ _ _ _ _ _ (star (A ++ ([intsH 2 a m1, intsH 2 b m2] ++ B)) :: slH 105 2 xv x.length cs :: L)
  have hdn := hput [a, b] (m1, m2) _ rfl ⟨a, b, rfl, rfl⟩
  rw [hself, app_set hol hkx] at hdn
  have hfx : flatPair (m1, m2) = iota (z + ((((x.take k).flatMap flatPair).length : Nat) : Int)) (flatPair (x.getD k ([], []))).length := by rw [hfp, iota_add]; show m1 ++ m2 = _; rw [hm1, hm2]
  have hnext : (z + ((((x.take k).flatMap flatPair).length : Nat) : Int)) + ((x.getD k ([], [])).1.length : Int) + ((x.getD k ([], [])).2.length : Int) = z + ((((x.take (k + 1)).flatMap flatPair).length : Nat) : Int) := by rw [flatMap_take_succ flatPair ([], []) hkx, List.length_append, hfp]; omega
  skip
  refine XL.cons (XOp.move (.int .i64 (((k : Nat) : Int))) rfl ?_)
  refine XL.cons (XOp.addR (a := ((k : Nat) : Int)) (b := 1) (((k + 1 : Nat) : Int)) rfl rfl (by omega) (by omega) ?_)
  refine XL.cons (XOp.assign (.int .i64 (((k + 1 : Nat) : Int))) rfl ?_)
  refine XL.nil ?_
  exact ⟨(k + 1, os ++ [(m1, m2)], A ++ ([intsH 2 a m1, intsH 2 b m2] ++ B)), _, FLe.refl _, (FLe.refl _), ⟨rfl, (congrArg (Value.int .i64) hnext), rfl, trivial⟩, (Sub.cons (Sub.cons (Sub.refl _))), ⟨rfl, (hdn), (by (try dsimp only) <;> omega), (by simp [hol]), (marked (d := ([], [])) (by omega) hfl hfx)⟩, (by omega)⟩
 ·refine X.exit (thenQ_exit (thenQ_exit (blockQ_exit ?_)))
  refine X.seq ?_
  refine X.region ?_
  refine XL.cons (XOp.move (.int .i64 (z + ((((x.take k).flatMap flatPair).length : Nat) : Int))) rfl ?_)
  refine XL.cons (XOp.assign (.int .i64 (z + ((((x.take k).flatMap flatPair).length : Nat) : Int))) rfl ?_)
  refine XL.nil ?_
  refine X.ret (retEnd (L' := pairsD 2 105 xv os :: L) [.int .i64 (z + ((((x.take k).flatMap flatPair).length : Nat) : Int))] (.int .i64 (z + ((((x.take k).flatMap flatPair).length : Nat) : Int))) (.tmp rfl .nil) rfl (FLe.refl _) (FLe.refl _) (Sub.trans (Sub.front (A := [_])) (Sub.closeDeep (by rw [app_all (by omega)] at hd; exact hd) (by omega))) ?_)
  rw [app_all (by omega)] at hd
  have hkl : k = x.length := by omega
  exact ⟨os, by rw [hfl, hkl, List.take_length], by omega, by rw [hkl, List.take_length], rfl, rfl⟩

/- laws.markInt64SS -/
theorem markInt64SS_spec {F : FH} {L : List HP} {xv : Value} {x : List (List Int)} {z : Int} (hz : 0 ≤ z ∧ z + (((x.flatMap flatRow)).length : Int) ≤ 9000000000) (hnx : x.length ≤ 4000000) :
    Does Try.prog 29 [xv, .int .i64 (z)] F (rowsD 2 22 xv x :: L) (fun v F' L' => ∃ x' : List (List Int), ((x'.flatMap flatRow)) = iota z ((x.flatMap flatRow)).length ∧ x'.length = x.length ∧ (.int .i64 (z + (((x.flatMap flatRow)).length : Int)) : Value) = v ∧ F = F' ∧ rowsD 2 22 xv x' :: L = L') := by
 refine Does.of_X Try.func29 rfl rfl rfl ?_
 refine X.openDeep (fun cs Ls hd => ?_)
 refine X.weaken (Sub.front (A := [_])) ?_
 show X _ _ _ _ _ _ (star Ls :: slH 22 1 xv x.length cs :: L)
 refine X.seq ?_
 refine X.region ?_
 refine XL.cons (XOp.assign (.int .i64 (0)) rfl ?_)
 refine XL.nil ?_
 refine X.seq ?_
 refine X.seq ?_
 refine X.region ?_
 refine XL.cons (XOp.assign (.int .i64 (0)) rfl ?_)
 refine XL.nil ?_
 refine X.block ?_
 refine X.loop (α := Nat × List (List Int) × List HP) (fun xQ => [(0, xv), (1, .int .i64 (z + ((((x.take xQ.1).flatMap flatRow).length : Nat) : Int))), (5, .int .i64 (((xQ.1 : Nat) : Int)))]) (fun xQ => star xQ.2.2 :: slH 22 1 xv x.length cs :: L) (fun xQ F' => F = F' ∧ (DeepL 1 (RowO 2) cs (xQ.2.1 ++ x.drop xQ.1) xQ.2.2) ∧ (xQ.1 ≤ x.length) ∧ (xQ.2.1.length = xQ.1) ∧ (xQ.2.1.flatMap flatRow = iota z ((x.take xQ.1).flatMap flatRow).length)) (fun xQ => x.length - xQ.1) (0, [], Ls) ⟨rfl, (show Value.int .i64 z = .int .i64 (z + ((((x.take 0).flatMap flatRow).length : Nat) : Int)) from congrArg (Value.int .i64) (by simp)), rfl, trivial⟩ (Sub.cons (Sub.cons (Sub.refl _))) ⟨rfl, (hd), (by (try dsimp only) <;> omega), (rfl), (rfl)⟩ ?_
 rintro ⟨k, os, Ls⟩ rE _ _ ⟨rfl, hd, hk, hol, hfl⟩
 show X _ _ _ _ (envs [(0, xv), (1, .int .i64 (z + ((((x.take k).flatMap flatRow).length : Nat) : Int))), (5, .int .i64 (((k : Nat) : Int)))] rE) _ (star Ls :: slH 22 1 xv x.length cs :: L)
 dsimp only at hd hk hol hfl
 have htl := fun (h : k < x.length) => flat_take_le (f := flatRow) (l := x) [] h
 have hlen : (os ++ x.drop k).length = x.length := by rw [List.length_append, List.length_drop]; omega
 refine X.seq ?_
 refine X.seq ?_
 refine X.region ?_
 refine XL.cons (XOp.move (.int .i64 (((k : Nat) : Int))) rfl ?_)
 refine XL.cons (XOp.move (xv) rfl ?_)
 refine XL.cons (XOp.lenS (v := xv) (n := x.length) Try.runUnderlying49 rfl (SlV.own [_] rfl) ?_)
 refine XL.cons (XOp.lss (a := ((k : Nat) : Int)) (b := ((x.length : Nat) : Int)) rfl rfl ?_)
 refine XL.nil ?_
 refine X.condD (p := (((k : Nat) : Int) : Int) < ((x.length : Nat) : Int)) rfl (fun h1 => ?_) (fun h1 => ?_)
 ·refine X.skip ?_
  refine X.seq ?_
  refine X.block ?_
  refine X.region ?_
  have hkx : k < x.length := by omega
  have htl2 := htl hkx
  obtain ⟨A, K, B, es, hLs, hel, hR, hg, hput⟩ := hd.at (d := []) (k := k) (by omega)
  rw [app_getD hol] at hR
  have hself := splice_self hel hg (hd.bound (k := k) (by omega))
  obtain ⟨a, he, hK⟩ := hR
  subst he hK
  have hfp : (flatRow (x.getD k [])).length = (x.getD k []).length := rfl
  subst hLs
  refine XL.weaken (Sub.pull (A := A)) ?_
  show XL _ _ _ _ _ _ _ (intsH 2 a ((x.getD k [])) :: star (A ++ B) :: slH 22 1 xv x.length cs :: L)
  skip
  refine XL.cons (XOp.move (xv) rfl ?_)
  refine XL.cons (XOp.move (.int .i64 (((k : Nat) : Int))) rfl ?_)
  refine XL.cons (XOp.indexS (v := xv) (i := ((k : Nat) : Int)) (n := x.length) k Try.runUnderlying49 Try.sizeOf22 rfl rfl rfl (SlV.own [_, _] rfl) (by omega) (Nat.mul_one _) ?_)
  refine XL.cons (XOp.load1 (v := a) Try.isAgg22 rfl (Rd.sl [_, _] rfl (by simpa using hg 0 _ rfl)) ?_)
  refine XL.cons (XOp.move (.int .i64 (z + ((((x.take k).flatMap flatRow).length : Nat) : Int))) rfl ?_)
  refine XL.cons (XOp.call (args := [a, .int .i64 (z + ((((x.take k).flatMap flatRow).length : Nat) : Int))]) Try.call23 rfl (markInt64S_spec (by omega)) ?_)
  rintro _ _ _ _ ⟨m1, hm1, rfl, rfl, rfl⟩
  have hml1 := congrArg List.length hm1
  rw [iota_len] at hml1
  try simp only [List.length_append] at hml1
  refine XL.cons (XOp.assign (.int .i64 ((z + ((((x.take k).flatMap flatRow).length : Nat) : Int)) + (((((x.getD k [])))).length : Int))) rfl ?_)
  refine XL.nil ?_
  refine X.region ?_
  refine XL.weaken (Sub.cons (Sub.cons (Sub.cons (Sub.refl _)))) ?_
  refine XL.weaken (Sub.push (A := A) (K := [intsH 2 a m1]) (B := B)) ?_
  show XL _ _ _ _ _ _ _ (star (A ++ ([intsH 2 a m1] ++ B)) :: slH 22 1 xv x.length cs :: L)
  have hdn := hput [a] m1 _ rfl ⟨a, rfl, rfl⟩
  rw [hself, app_set hol hkx] at hdn
  have hfx : flatRow m1 = iota (z + ((((x.take k).flatMap flatRow).length : Nat) : Int)) (flatRow (x.getD k [])).length := by rw [hfp]; exact hm1
  have hnext : (z + ((((x.take k).flatMap flatRow).length : Nat) : Int)) + ((x.getD k []).length : Int) = z + ((((x.take (k + 1)).flatMap flatRow).length : Nat) : Int) := by rw [flatMap_take_succ flatRow [] hkx, List.length_append, hfp]; omega
  skip
  refine XL.cons (XOp.move (.int .i64 (((k : Nat) : Int))) rfl ?_)
  refine XL.cons (XOp.addR (a := ((k : Nat) : Int)) (b := 1) (((k + 1 : Nat) : Int)) rfl rfl (by omega) (by omega) ?_)
  refine XL.cons (XOp.assign (.int .i64 (((k + 1 : Nat) : Int))) rfl ?_)
  refine XL.nil ?_
  exact ⟨(k + 1, os ++ [m1], A ++ ([intsH 2 a m1] ++ B)), _, FLe.refl _, (FLe.refl _), ⟨rfl, (congrArg (Value.int .i64) hnext), rfl, trivial⟩, (Sub.cons (Sub.cons (Sub.refl _))), ⟨rfl, (hdn), (by (try dsimp only) <;> omega), (by simp [hol]), (marked (d := []) (by omega) hfl hfx)⟩, (by omega)⟩
 ·refine X.exit (thenQ_exit (thenQ_exit (blockQ_exit ?_)))
  refine X.seq ?_
  refine X.region ?_
  refine XL.cons (XOp.move (.int .i64 (z + ((((x.take k).flatMap flatRow).length : Nat) : Int))) rfl ?_)
  refine XL.cons (XOp.assign (.int .i64 (z + ((((x.take k).flatMap flatRow).length : Nat) : Int))) rfl ?_)
  refine XL.nil ?_
  refine X.ret (retEnd (L' := rowsD 2 22 xv os :: L) [.int .i64 (z + ((((x.take k).flatMap flatRow).length : Nat) : Int))] (.int .i64 (z + ((((x.take k).flatMap flatRow).length : Nat) : Int))) (.tmp rfl .nil) rfl (FLe.refl _) (FLe.refl _) (Sub.trans (Sub.front (A := [_])) (Sub.closeDeep (by rw [app_all (by omega)] at hd; exact hd) (by omega))) ?_)
  rw [app_all (by omega)] at hd
  have hkl : k = x.length := by omega
  exact ⟨os, by rw [hfl, hkl, List.take_length], by omega, by rw [hkl, List.take_length], rfl, rfl⟩

/- laws.markSystem -/
theorem markSystem_spec {F : FH} {L : List HP} {xv : Value} {x : List Int} {yv : Value} {y : List (List Int × List Int)} {z : Int} (hz : 0 ≤ z ∧ z + (((x) ++ (y.flatMap flatPair)).length : Int) ≤ 9000000000) (hny : y.length ≤ 4000000) :
    Does Try.prog 22 [.agg #[xv, yv], .int .i64 (z)] F (intsH 2 xv x :: pairsD 2 105 yv y :: L) (fun v F' L' => ∃ x' : List Int, ∃ y' : List (List Int × List Int), ((x') ++ (y'.flatMap flatPair)) = iota z ((x) ++ (y.flatMap flatPair)).length ∧ y'.length = y.length ∧ (.int .i64 (z + (((x) ++ (y.flatMap flatPair)).length : Int)) : Value) = v ∧ F = F' ∧ intsH 2 xv x' :: pairsD 2 105 yv y' :: L = L') := by
 refine Does.of_X Try.func22 rfl rfl rfl ?_
 have hlx : ((x) ++ (y.flatMap flatPair)).length = x.length + (y.flatMap flatPair).length := List.length_append
 refine X.seq ?_
 refine X.region ?_
 refine XL.cons (XOp.box [xv, yv] rfl rfl ?_)
 intro b1
 refine XL.cons (XOp.assign (.int .i64 (0)) rfl ?_)
 refine XL.nil ?_
 refine X.seq ?_
 refine X.region ?_
 refine XL.cons (XOp.fieldP (b := b1) (0) Try.runUnderlying33 rfl Try.sizeOf30 (by decide) rfl rfl ?_)
 refine XL.cons (XOp.loadN [xv] Try.isAgg30 Try.sizeOf30 rfl rfl (Rd.ownN [] rfl rfl) ?_)
 refine XL.cons (XOp.move (.int .i64 (z)) rfl ?_)
 refine XL.weaken (Sub.front (A := [_])) ?_
 show XL _ _ _ _ _ _ _ (intsH 2 xv x :: cellsH b1 [xv, yv] 33 :: pairsD 2 105 yv y :: L)
 refine XL.cons (XOp.call (args := [.agg #[xv], .int .i64 (z)]) Try.call59 rfl (markSig_spec (by omega)) ?_)
 rintro _ _ _ _ ⟨m1, hm1, rfl, rfl, rfl⟩
 have hml1 := congrArg List.length hm1
 rw [iota_len] at hml1
 try simp only [List.length_append] at hml1
 refine XL.cons (XOp.assign (.int .i64 (z + (((x)).length : Int))) rfl ?_)
 refine XL.nil ?_
 refine X.seq ?_
 refine X.region ?_
 refine XL.cons (XOp.fieldP (b := b1) (1) Try.runUnderlying33 rfl Try.sizeOf31 (by decide) rfl rfl ?_)
 refine XL.cons (XOp.load1 (v := yv) Try.isAgg31 rfl (Rd.own [_] rfl rfl) ?_)
 refine XL.cons (XOp.move (.int .i64 (z + (((x)).length : Int))) rfl ?_)
 refine XL.weaken (Sub.front (A := [_, _])) ?_
 show XL _ _ _ _ _ _ _ (pairsD 2 105 yv y :: intsH 2 xv m1 :: cellsH b1 [xv, yv] 33 :: L)
 refine XL.cons (XOp.call (args := [yv, .int .i64 (z + (((x)).length : Int))]) Try.call60 rfl (markRuleS_spec (by omega) (by omega)) ?_)
 rintro _ _ _ _ ⟨m2, hm2, hk1, rfl, rfl, rfl⟩
 have hml2 := congrArg List.length hm2
 rw [iota_len] at hml2
 try simp only [List.length_append] at hml2
 refine XL.cons (XOp.assign (.int .i64 ((z + (((x)).length : Int)) + (((y.flatMap flatPair)).length : Int))) rfl ?_)
 refine XL.nil ?_
 refine X.seq ?_
 refine X.region ?_
 refine XL.cons (XOp.move (.int .i64 ((z + (((x)).length : Int)) + (((y.flatMap flatPair)).length : Int))) rfl ?_)
 refine XL.cons (XOp.assign (.int .i64 ((z + (((x)).length : Int)) + (((y.flatMap flatPair)).length : Int))) rfl ?_)
 refine XL.nil ?_
 refine X.ret (retEnd (L' := intsH 2 xv m1 :: pairsD 2 105 yv m2 :: L) [.int .i64 ((z + (((x)).length : Int)) + (((y.flatMap flatPair)).length : Int))] (.int .i64 ((z + (((x)).length : Int)) + (((y.flatMap flatPair)).length : Int))) (.tmp rfl .nil) rfl (FLe.refl _) (FLe.refl _) (Sub.trans (Sub.front (A := [_])) (Sub.cons (Sub.cons (Sub.drop (Sub.refl _))))) ?_)
 exact ⟨m1, m2, by rw [List.length_append, iota_add, hm1, hm2], (by assumption), congrArg (Value.int .i64) (by first | rfl | (simp only [List.length_append]; omega)), rfl, rfl⟩
end Go.Proofs.Ytiaanelimbmniaa
set_option linter.unusedSimpArgs false
set_option linter.unusedVariables false
namespace Go.Proofs.Ytiaanelimbmniaa
open Go X M

/- laws.eqInt64SS -/
theorem eqInt64SS_spec {F : FH} {L : List HP} {av : Value} {a : List (List Int)} (ha : RowsF F av a) {bv : Value} {b : List (List Int)} (hb : RowsF F bv b) (hal : a.length ≤ 9223372036854775807) (hbd : ∀ i, i < a.length → (a.getD i []).length ≤ 9223372036854775807) :
    Does Try.prog 28 [av, bv] F (L) (fun v F' L' => (.bool (decide (a = b)) : Value) = v ∧ F = F' ∧ L = L') := by
 refine Does.of_X Try.func28 rfl rfl rfl ?_
 refine X.seq ?_
 refine X.region ?_
 refine XL.cons (XOp.assign (.bool (false)) rfl ?_)
 refine XL.nil ?_
 refine X.seq ?_
 refine X.seq ?_
 refine X.region ?_
 refine XL.cons (XOp.move (av) rfl ?_)
 refine XL.cons (XOp.lenS (v := av) (n := (a).length) Try.runUnderlying49 rfl ha.slv ?_)
 refine XL.cons (XOp.move (bv) rfl ?_)
 refine XL.cons (XOp.lenS (v := bv) (n := (b).length) Try.runUnderlying49 rfl hb.slv ?_)
 refine XL.cons (XOp.neq (a := (((a).length : Nat) : Int)) (b := (((b).length : Nat) : Int)) rfl rfl ?_)
 refine XL.nil ?_
 refine X.condD (p := ((((a).length : Nat) : Int) : Int) ≠ (((b).length : Nat) : Int)) rfl (fun h1 => ?_) (fun h1 => ?_)
 ·refine X.seq ?_
  refine X.region ?_
  refine XL.cons (XOp.assign (.bool (false)) rfl ?_)
  refine XL.nil ?_
  refine X.ret (thenQ_ret (retEnd (L' := L) [.bool (false)] (.bool (false)) (.tmp rfl .nil) rfl (FLe.refl _) (FLe.refl _) (Sub.refl _) ?_))
  exact ⟨(congrArg Value.bool (decide_eq_false (fun e => by rw [e] at h1; omega))), rfl, rfl⟩
 ·refine X.skip ?_
  refine X.seq ?_
  refine X.seq ?_
  refine X.region ?_
  refine XL.cons (XOp.assign (.int .i64 (0)) rfl ?_)
  refine XL.nil ?_
  refine X.block ?_
  refine X.loop (α := Nat) (fun k => [(0, av), (1, bv), (5, .int .i64 (((k : Nat) : Int)))]) (fun k => L) (fun k F' => F = F' ∧ (k ≤ a.length) ∧ (∀ i, i < k → a.getD i ([] : List Int) = b.getD i ([] : List Int))) (fun k => a.length - k) 0 ⟨rfl, rfl, rfl, trivial⟩ (Sub.refl _) ⟨rfl, (by (try dsimp only) <;> omega), (fun i hi => absurd hi (by omega))⟩ ?_
  rintro k rE _ _ ⟨rfl, hk, hall⟩
  show X _ _ _ _ (envs [(0, av), (1, bv), (5, .int .i64 (((k : Nat) : Int)))] rE) _ (L)
  have hbk := hbd k
  refine X.seq ?_
  refine X.seq ?_
  refine X.region ?_
  refine XL.cons (XOp.move (.int .i64 (((k : Nat) : Int))) rfl ?_)
  refine XL.cons (XOp.move (av) rfl ?_)
  refine XL.cons (XOp.lenS (v := av) (n := (a).length) Try.runUnderlying49 rfl ha.slv ?_)
  refine XL.cons (XOp.lss (a := ((k : Nat) : Int)) (b := (((a).length : Nat) : Int)) rfl rfl ?_)
  refine XL.nil ?_
  refine X.condD (p := (((k : Nat) : Int) : Int) < (((a).length : Nat) : Int)) rfl (fun h2 => ?_) (fun h2 => ?_)
  ·refine X.skip ?_
   refine X.seq ?_
   refine X.block ?_
   refine X.seq ?_
   obtain ⟨a1, ha1, hr1⟩ := ha.rd (i := k) (by omega)
   obtain ⟨a2, ha2, hr2⟩ := hb.rd (i := k) (by omega)
   refine X.draw [] L 8 [[], [], [], [], [], [], [], []] [[], [], [0, 1], [2], [], [], [4, 5], [6]] (phiL [fun us v => v = av, fun us v => v = (.int .i64 (((k : Nat) : Int)) : Value), fun us v => v = (.pointer (some (elemA av (k))) : Value), fun us v => v = a1, fun us v => v = bv, fun us v => v = (.int .i64 (((k : Nat) : Int)) : Value), fun us v => v = (.pointer (some (elemA bv (k))) : Value), fun us v => v = a2]) (ownL [fun us v => [], fun us v => [], fun us v => [], fun us v => [], fun us v => [], fun us v => [], fun us v => [], fun us v => []]) mixed rfl rfl (by kernel_rfl) ?_ ?_
   ·refine stepsP.cons (fun vals R hpZ => ?_) ?_
    ·refine XG.op (XOp.move (av) rfl ?_)
     exact ⟨rfl, rfl, rfl⟩
    refine stepsP.cons (fun vals R hpZ => ?_) ?_
    ·refine XG.op (XOp.move (.int .i64 (((k : Nat) : Int))) rfl ?_)
     exact ⟨rfl, rfl, rfl⟩
    refine stepsP.cons (fun vals R hpZ => ?_) ?_
    ·rw [(envs_of_sat (l := [(0, av), (1, (.int .i64 (((k : Nat) : Int)) : Value))]) ⟨hpZ 0 (by decide), hpZ 1 (by decide), trivial⟩).symm]
     refine XG.op (XOp.indexS (v := av) (i := ((k : Nat) : Int)) (n := (a).length) k Try.runUnderlying49 Try.sizeOf22 rfl rfl rfl ha.slv (by omega) (Nat.mul_one _) ?_)
     exact ⟨rfl, rfl, rfl⟩
    refine stepsP.cons (fun vals R hpZ => ?_) ?_
    ·rw [(envs_of_sat (l := [(2, (.pointer (some (elemA av (k))) : Value))]) ⟨hpZ 2 (by decide), trivial⟩).symm]
     refine XG.op (XOp.load1 (v := a1) Try.isAgg22 rfl (hr1 _) ?_)
     exact ⟨rfl, rfl, rfl⟩
    refine stepsP.cons (fun vals R hpZ => ?_) ?_
    ·refine XG.op (XOp.move (bv) rfl ?_)
     exact ⟨rfl, rfl, rfl⟩
    refine stepsP.cons (fun vals R hpZ => ?_) ?_
    ·refine XG.op (XOp.move (.int .i64 (((k : Nat) : Int))) rfl ?_)
     exact ⟨rfl, rfl, rfl⟩
    refine stepsP.cons (fun vals R hpZ => ?_) ?_
    ·rw [(envs_of_sat (l := [(4, bv), (5, (.int .i64 (((k : Nat) : Int)) : Value))]) ⟨hpZ 4 (by decide), hpZ 5 (by decide), trivial⟩).symm]
     refine XG.op (XOp.indexS (v := bv) (i := ((k : Nat) : Int)) (n := (b).length) k Try.runUnderlying49 Try.sizeOf22 rfl rfl rfl hb.slv (by omega) (Nat.mul_one _) ?_)
     exact ⟨rfl, rfl, rfl⟩
    refine stepsP.cons (fun vals R hpZ => ?_) ?_
    ·rw [(envs_of_sat (l := [(6, (.pointer (some (elemA bv (k))) : Value))]) ⟨hpZ 6 (by decide), trivial⟩).symm]
     refine XG.op (XOp.load1 (v := a2) Try.isAgg22 rfl (hr2 _) ?_)
     exact ⟨rfl, rfl, rfl⟩
    exact stepsP.nil
   ·intro vals hphi
    have e0 : vals 0 = av := hphi 0 (by decide)
    have e1 : vals 1 = (.int .i64 (((k : Nat) : Int)) : Value) := hphi 1 (by decide)
    have e2 : vals 2 = (.pointer (some (elemA av (k))) : Value) := hphi 2 (by decide)
    have e3 : vals 3 = a1 := hphi 3 (by decide)
    have e4 : vals 4 = bv := hphi 4 (by decide)
    have e5 : vals 5 = (.int .i64 (((k : Nat) : Int)) : Value) := hphi 5 (by decide)
    have e6 : vals 6 = (.pointer (some (elemA bv (k))) : Value) := hphi 6 (by decide)
    have e7 : vals 7 = a2 := hphi 7 (by decide)
    rw [(envs_of_sat (l := [(0, av), (1, (.int .i64 (((k : Nat) : Int)) : Value)), (2, (.pointer (some (elemA av (k))) : Value)), (3, a1), (4, bv), (5, (.int .i64 (((k : Nat) : Int)) : Value)), (6, (.pointer (some (elemA bv (k))) : Value)), (7, a2)]) ⟨e0, e1, e2, e3, e4, e5, e6, e7, trivial⟩).symm]
    show XL _ _ _ _ _ _ _ (L)
    refine XL.cons (XOp.call (args := [a1, a2]) Try.call16 rfl (eqInt64S_spec ha1 ha2 (hbd := (.inl (hbk (by omega))))) ?_)
    rintro _ _ _ _ ⟨rfl, rfl, rfl⟩
    refine XL.cons (XOp.notD (p := ((a.getD k [])) = ((b.getD k []))) rfl ?_)
    refine XL.nil ?_
    refine X.condD (p := ¬(((a.getD k [])) = ((b.getD k [])))) rfl (fun h3 => ?_) (fun h3 => ?_)
    ·refine X.seq ?_
     refine X.region ?_
     refine XL.cons (XOp.assign (.bool (false)) rfl ?_)
     refine XL.nil ?_
     refine X.ret (blockQ_ret (thenQ_ret (thenQ_ret (blockQ_ret (thenQ_ret (retEnd (L' := L) [.bool (false)] (.bool (false)) (.tmp rfl .nil) rfl (FLe.refl _) (FLe.refl _) (Sub.refl _) ?_))))))
     exact ⟨(congrArg Value.bool (decide_eq_false (fun e => by subst e; simp at *))), rfl, rfl⟩
    ·refine X.skip ?_
     refine X.region ?_
     refine XL.cons (XOp.move (.int .i64 (((k : Nat) : Int))) rfl ?_)
     refine XL.cons (XOp.addR (a := ((k : Nat) : Int)) (b := 1) (((k + 1 : Nat) : Int)) rfl rfl (by omega) (by omega) ?_)
     refine XL.cons (XOp.assign (.int .i64 (((k + 1 : Nat) : Int))) rfl ?_)
     refine XL.nil ?_
     exact ⟨k + 1, _, FLe.refl _, (FLe.refl _), ⟨rfl, rfl, rfl, trivial⟩, (Sub.refl _), ⟨rfl, (by (try dsimp only) <;> omega), (fun i hi => (Nat.lt_or_ge i k).elim (fun h => hall i h) (fun h => by obtain rfl : i = k := (by omega); first | assumption | exact Classical.not_not.1 (by assumption)))⟩, (by omega)⟩
  ·refine X.exit (thenQ_exit (thenQ_exit (blockQ_exit ?_)))
   refine X.seq ?_
   refine X.region ?_
   refine XL.cons (XOp.assign (.bool (true)) rfl ?_)
   refine XL.nil ?_
   refine X.ret (retEnd (L' := L) [.bool (true)] (.bool (true)) (.tmp rfl .nil) rfl (FLe.refl _) (FLe.refl _) (Sub.refl _) ?_)
   exact ⟨(congrArg Value.bool (decide_eq_true (ext_any ([] : List Int) (by omega) (fun i hi => hall i (by omega))))), rfl, rfl⟩

/- laws.heldInt64SS -/
theorem heldInt64SS_spec {F : FH} {L : List HP} {xv : Value} {x : List (List Int)} (hx : RowsF F xv x) {z : Int} (hzb : 0 ≤ z ∧ z + ((x.flatMap flatRow).length : Int) ≤ 9000000000) (hxl : x.length ≤ 4000000) :
    Does Try.prog 30 [xv, .int .i64 (z)] F (L) (fun v F' L' => (.int .i64 (heldF (x.flatMap flatRow) z) : Value) = v ∧ F = F' ∧ L = L') := by
 refine Does.of_X Try.func30 rfl rfl rfl ?_
 refine X.seq ?_
 refine X.region ?_
 refine XL.cons (XOp.assign (.int .i64 (0)) rfl ?_)
 refine XL.nil ?_
 refine X.seq ?_
 refine X.seq ?_
 refine X.region ?_
 refine XL.cons (XOp.assign (.int .i64 (0)) rfl ?_)
 refine XL.nil ?_
 refine X.block ?_
 refine X.loop (α := Nat) (fun k => [(0, xv), (1, .int .i64 (heldF ((x.take k).flatMap flatRow) z)), (5, .int .i64 (((k : Nat) : Int)))]) (fun k => L) (fun k F' => F = F' ∧ (k ≤ x.length) ∧ (0 ≤ heldF ((x.take k).flatMap flatRow) z)) (fun k => x.length - k) 0 ⟨rfl, (show Value.int .i64 z = .int .i64 (heldF ((x.take 0).flatMap flatRow) z) from congrArg (Value.int .i64) (by simp [heldF_nil])), rfl, trivial⟩ (Sub.refl _) ⟨rfl, (by (try dsimp only) <;> omega), (by simp [heldF_nil]; omega)⟩ ?_
 rintro k rE _ _ ⟨rfl, hk, hnn⟩
 show X _ _ _ _ (envs [(0, xv), (1, .int .i64 (heldF ((x.take k).flatMap flatRow) z)), (5, .int .i64 (((k : Nat) : Int)))] rE) _ (L)
 have hhp := heldF_pos (a := (x.take k).flatMap flatRow) (k := z) (by omega)
 have htl := fun (h : k < x.length) => flat_take_le (f := flatRow) (l := x) ([] : List Int) h
 have hnx := fun (h : k < x.length) => held_next (f := flatRow) (l := x) (k := k) ([] : List Int) hzb.1 h (by omega)
 have hsx : k < x.length → (flatRow (x.getD k [])).length = (x.getD k []).length := fun _ => rfl
 have hun : k < x.length → heldF (flatRow (x.getD k [])) (heldF ((x.take k).flatMap flatRow) z) = heldF (x.getD k []) (heldF ((x.take k).flatMap flatRow) z) := fun _ => rfl
 refine X.seq ?_
 refine X.seq ?_
 refine X.region ?_
 refine XL.cons (XOp.move (.int .i64 (((k : Nat) : Int))) rfl ?_)
 refine XL.cons (XOp.move (xv) rfl ?_)
 refine XL.cons (XOp.lenS (v := xv) (n := (x).length) Try.runUnderlying49 rfl hx.slv ?_)
 refine XL.cons (XOp.lss (a := ((k : Nat) : Int)) (b := (((x).length : Nat) : Int)) rfl rfl ?_)
 refine XL.nil ?_
 refine X.condD (p := (((k : Nat) : Int) : Int) < (((x).length : Nat) : Int)) rfl (fun h1 => ?_) (fun h1 => ?_)
 ·refine X.skip ?_
  refine X.seq ?_
  refine X.block ?_
  refine X.seq ?_
  refine X.region ?_
  refine XL.cons (XOp.move (xv) rfl ?_)
  refine XL.cons (XOp.move (.int .i64 (((k : Nat) : Int))) rfl ?_)
  refine XL.cons (XOp.indexS (v := xv) (i := ((k : Nat) : Int)) (n := (x).length) k Try.runUnderlying49 Try.sizeOf22 rfl rfl rfl hx.slv (by omega) (Nat.mul_one _) ?_)
  obtain ⟨a1, ha1, hr1⟩ := hx.rd (i := k) (by omega)
  refine XL.cons (XOp.load1 (v := a1) Try.isAgg22 rfl (hr1 _) ?_)
  refine XL.cons (XOp.move (.int .i64 (heldF ((x.take k).flatMap flatRow) z)) rfl ?_)
  refine XL.cons (XOp.call (args := [a1, .int .i64 (heldF ((x.take k).flatMap flatRow) z)]) Try.call62 rfl (heldInt64S_spec (z := heldF ((x.take k).flatMap flatRow) z) ha1 (hzb := (by first | assumption | rfl | omega | (left; simp; done) | (right; simp; done)))) ?_)
  rintro _ _ _ _ ⟨rfl, rfl, rfl⟩
  refine XL.cons (XOp.assign (.int .i64 (heldF ((x.getD k [])) (heldF ((x.take k).flatMap flatRow) z))) rfl ?_)
  refine XL.nil ?_
  refine X.seq ?_
  refine X.region ?_
  refine XL.cons (XOp.move (.int .i64 (heldF ((x.getD k [])) (heldF ((x.take k).flatMap flatRow) z))) rfl ?_)
  refine XL.cons (XOp.lss (a := heldF ((x.getD k [])) (heldF ((x.take k).flatMap flatRow) z)) (b := 0) rfl rfl ?_)
  refine XL.nil ?_
  refine X.condD (p := (heldF ((x.getD k [])) (heldF ((x.take k).flatMap flatRow) z) : Int) < 0) rfl (fun h2 => ?_) (fun h2 => ?_)
  ·refine X.seq ?_
   refine X.region ?_
   refine XL.cons (XOp.assign (.int .i64 (-1)) rfl ?_)
   refine XL.nil ?_
   refine X.ret (blockQ_ret (thenQ_ret (thenQ_ret (blockQ_ret (thenQ_ret (retEnd (L' := L) [.int .i64 (-1)] (.int .i64 (-1)) (.tmp rfl .nil) rfl (FLe.refl _) (FLe.refl _) (Sub.refl _) ?_))))))
   exact ⟨(congrArg (Value.int .i64) (by exact held_fail (k := k) ([] : List Int) hzb.1 (by omega) (by rw [hnx (by omega), hun (by omega)]; omega))), rfl, rfl⟩
  ·refine X.skip ?_
   refine X.region ?_
   refine XL.cons (XOp.move (.int .i64 (((k : Nat) : Int))) rfl ?_)
   refine XL.cons (XOp.addR (a := ((k : Nat) : Int)) (b := 1) (((k + 1 : Nat) : Int)) rfl rfl (by omega) (by omega) ?_)
   refine XL.cons (XOp.assign (.int .i64 (((k + 1 : Nat) : Int))) rfl ?_)
   refine XL.nil ?_
   exact ⟨k + 1, _, FLe.refl _, (FLe.refl _), ⟨rfl, (congrArg (Value.int .i64) (by rw [hnx (by omega), hun (by omega)])), rfl, trivial⟩, (Sub.refl _), ⟨rfl, (by (try dsimp only) <;> omega), (by (try dsimp only); rw [hnx (by omega), hun (by omega)]; omega)⟩, (by omega)⟩
 ·refine X.exit (thenQ_exit (thenQ_exit (blockQ_exit ?_)))
  refine X.seq ?_
  refine X.region ?_
  refine XL.cons (XOp.move (.int .i64 (heldF ((x.take k).flatMap flatRow) z)) rfl ?_)
  refine XL.cons (XOp.assign (.int .i64 (heldF ((x.take k).flatMap flatRow) z)) rfl ?_)
  refine XL.nil ?_
  refine X.ret (retEnd (L' := L) [.int .i64 (heldF ((x.take k).flatMap flatRow) z)] (.int .i64 (heldF ((x.take k).flatMap flatRow) z)) (.tmp rfl .nil) rfl (FLe.refl _) (FLe.refl _) (Sub.refl _) ?_)
  exact ⟨(congrArg (Value.int .i64) (by rw [List.take_of_length_le (by omega)])), rfl, rfl⟩
end Go.Proofs.Ytiaanelimbmniaa
set_option linter.unusedSimpArgs false
set_option linter.unusedVariables false
namespace Go.Proofs.Ytiaanelimbmniaa
open Go X M
end Go.Proofs.Ytiaanelimbmniaa
set_option linter.unusedSimpArgs false
set_option linter.unusedVariables false
namespace Go.Proofs.Ytiaanelimbmniaa
open Go X M
end Go.Proofs.Ytiaanelimbmniaa
set_option linter.unusedSimpArgs false
set_option linter.unusedVariables false
namespace Go.Proofs.Ytiaanelimbmniaa
open Go X M

/- impl.redexSteps -/
theorem redexSteps_spec {F : FH} {L : List HP} {arv : Value} {ar : List Int} (har : IntsF F arv ar) {rsv : Value} {rs : List (List Int × List Int)} (hrs : PairsF F rsv rs) {tv : Value} {t : List Int} (ht : IntsF F tv t) :
    Does Try.prog 107 [.agg #[arv, rsv], tv] F (L) (fun v F' L' => ∃ (bt bs : Nat), (.func (.func 133) #[] #[ptr bt 0, ptr bs 0] : Value) = v ∧ FzC F' bt [tv] ∧ FzC F' bs [arv, rsv] ∧ L = L') := by
 refine Does.of_X Try.func107 rfl rfl rfl ?_
 refine X.seq ?_
 refine X.region ?_
 refine XL.cons (XOp.box [arv, rsv] rfl rfl ?_)
 intro b1
 refine XL.cons (XOp.box [tv] rfl (cells_one (IntsF.isSl ht)) ?_)
 intro b2
 refine XL.cons (XOp.assign (.nilFunc) rfl ?_)
 refine XL.nil ?_
 refine X.seq ?_
 refine X.region ?_
 refine XL.cons (XOp.makeFuncL [] [ptr b2 0, ptr b1 0] rfl rfl ?_)
 refine XL.cons (XOp.assign (.func (.func 133) #[] #[ptr b2 0, ptr b1 0]) rfl ?_)
 refine XL.nil ?_
 refine X.freeze [] _ _ rfl (fun F1 le1 hz1 => ?_)
 replace har := har.mono le1
 replace hrs := hrs.mono le1
 replace ht := ht.mono le1
 have hf1 : FzC F1 b2 [tv] := Fz.cells hz1
 refine X.freeze [] _ _ rfl (fun F2 le2 hz2 => ?_)
 replace har := har.mono le2
 replace hrs := hrs.mono le2
 replace ht := ht.mono le2
 replace hf1 := hf1.mono le2
 have hf2 : FzC F2 b1 [arv, rsv] := Fz.cells hz2
 refine X.ret (retEnd (L' := L) [.func (.func 133) #[] #[ptr b2 0, ptr b1 0]] (.func (.func 133) #[] #[ptr b2 0, ptr b1 0]) (.tmp rfl .nil) rfl (FLe.trans le1 le2) (FLe.refl _) (Sub.refl _) ?_)
 exact ⟨_, _, rfl, hf1, hf2, rfl⟩

/- impl.redexSteps$1 -/
theorem redexIt_spec {F : FH} {L : List HP} {l bo bl bt bs : Nat} {R : Loop} {arv : Value} {ar : List Int} (har : IntsF F arv ar) {rsv : Value} {rs : List (List Int × List Int)} (hrs : PairsF F rsv rs) {tv : Value} {t : List Int} (ht : IntsF F tv t) (hbt : FzC F bt [tv]) (hbs : FzC F bs [arv, rsv]) (hsys : sysOk ar rs = true) (ho : termOk ar t = true) (hyes : ∀ (Fy : FH) (sv : Value) (ss : List StepT) (cs : List Value) (m : Nat) (lb : Bool) (i j : Int) (tov : Value) (to : List Int), F ≤ Fy → IsSl sv → StepsC Fy cs ss → m = ss.length → ss.length ≤ 4000000 → IntsF Fy tov to → Yld Try.prog l [.agg #[.int .i64 i, .int .i64 j, tov], .bool true] Fy (objH l (.loop R) :: cellsH bo [sv] 39 :: slH 77 3 sv m cs :: cellsH bl [.bool (lb)] 4 :: L) (fun v F' L' => .bool true = v ∧ Fy = F' ∧ ∃ sw, IsSl sw ∧ objH l (.loop R) :: cellsH bo [sw] 39 :: slH 77 3 sw (m + 1) (cs ++ [.int .i64 i, .int .i64 j, tov]) :: cellsH bl [.bool (lb)] 4 :: L = L')) (hno : ∀ (Fy : FH) (sv : Value) (cs : List Value) (m : Nat) (lb : Bool) (i j : Int) (tov : Value), F ≤ Fy → IsSl sv → IsSl tov → Yld Try.prog l [.agg #[.int .i64 i, .int .i64 j, tov], .bool false] Fy (objH l (.loop R) :: cellsH bo [sv] 39 :: slH 77 3 sv m cs :: cellsH bl [.bool (lb)] 4 :: L) (fun v F' L' => .bool true = v ∧ Fy = F' ∧ objH l (.loop R) :: cellsH bo [sv] 39 :: slH 77 3 sv m cs :: cellsH bl [.bool (true)] 4 :: L = L')) :
    Does Try.prog 133 [(.func (.yield l) #[] #[]), ptr bt 0, ptr bs 0] F (objH l (.loop R) :: cellsH bo [(.slice none 0 0)] 39 :: cellsH bl [.bool (false)] 4 :: L) (fun v F' L' => ∃ (sv : Value) (cs : List Value) (Ls : List HP), IsSl sv ∧ StepsC F' cs (stepsL ar rs t) ∧ DeepL 3 (StepO 2) cs (stepsL ar rs t) Ls ∧ Fresh F F' (star Ls) ∧ objH l (.loop R) :: cellsH bo [sv] 39 :: slH 77 3 sv ((stepsL ar rs t).length) cs :: cellsH bl [.bool (longL ar rs t)] 4 :: L = L') := by
 refine Does.of_X Try.func133 rfl rfl rfl ?_
 have hnn := notNil_of_pos ht (by have := termOk_len ho; omega)
 have htl := termOk_len ho
 have hrl := (sysOk_iff.1 hsys).2.1
 have hsig := (sysOk_iff.1 hsys).1
 have hsl := sigOk_spec hsig
 refine X.seq ?_
 refine X.region ?_
 refine XL.cons (XOp.load1 (v := tv) Try.isAgg22 rfl (FzC.rd1 hbt rfl) ?_)
 refine XL.cons (XOp.lenS (v := tv) (n := (t).length) Try.runUnderlying22 rfl ht.slv ?_)
 refine XL.cons (XOp.move (.int .i64 (0)) rfl ?_)
 refine XL.nil ?_
 refine X.block ?_
 refine X.loop (α := Nat × Value × List StepT × List Value × List HP × Nat × Bool × FH) (fun xQ => [(0, (.func (.yield l) #[] #[])), (1, ptr bt 0), (2, ptr bs 0), (9, tv), (10, .int .i64 ((((t).length : Nat) : Int))), (11, .int .i64 (((xQ.1 : Nat) : Int)))]) (fun xQ => slH 77 3 xQ.2.1 xQ.2.2.2.2.2.1 xQ.2.2.2.1 :: objH l (.loop R) :: cellsH bo [xQ.2.1] 39 :: cellsH bl [.bool (xQ.2.2.2.2.2.2.1)] 4 :: L) (fun xQ F' => xQ.2.2.2.2.2.2.2 = F' ∧ F ≤ xQ.2.2.2.2.2.2.2 ∧ (xQ.1 ≤ t.length) ∧ (IsSl xQ.2.1) ∧ (StepsC xQ.2.2.2.2.2.2.2 xQ.2.2.2.1 xQ.2.2.1) ∧ (xQ.2.2.2.2.2.1 = xQ.2.2.1.length) ∧ (DeepL 3 (StepO 2) xQ.2.2.2.1 xQ.2.2.1 xQ.2.2.2.2.1) ∧ (Fresh F xQ.2.2.2.2.2.2.2 (star xQ.2.2.2.2.1)) ∧ (xQ.2.2.1 = stepsTo ar rs t xQ.1) ∧ (xQ.2.2.2.2.2.2.1 = longTo ar rs t xQ.1)) (fun xQ => t.length - xQ.1) (0, (.slice none 0 0), [], [], [], 0, false, F) ⟨rfl, rfl, rfl, rfl, rfl, rfl, trivial⟩ (Sub.trans (Sub.addNil 77 3 _ _) (Sub.cons (Sub.cons (Sub.cons (Sub.cons (Sub.refl _)))))) ⟨rfl, FLe.refl _, (by (try dsimp only) <;> omega), (⟨_, _, _, rfl⟩), (CO.nil), (rfl), (DeepL.nil), (Fresh.nilL), (rfl), (rfl)⟩ ?_
 rintro ⟨k, sv, ss, cs, Ls, m, lb, G1⟩ rE _ _ ⟨rfl, leG, hk, hsv, hC, hm, hD, hZ, hss, hlb⟩
 show X _ _ _ _ (envs [(0, (.func (.yield l) #[] #[])), (1, ptr bt 0), (2, ptr bs 0), (9, tv), (10, .int .i64 ((((t).length : Nat) : Int))), (11, .int .i64 (((k : Nat) : Int)))] rE) _ (slH 77 3 sv m cs :: objH l (.loop R) :: cellsH bo [sv] 39 :: cellsH bl [.bool (lb)] 4 :: L)
 replace leG : F ≤ G1 := leG
 dsimp only at hk hsv hC hm hD hZ hss hlb
 have hsl1 := stepsTo_len (ar := ar) (t := t) (rs := rs) hrl k
 have hZo := hZ
 have hss0 := hss
 have hlb0 := hlb
 have leG1 := leG
 replace har := har.mono leG1
 replace hrs := hrs.mono leG1
 replace ht := ht.mono leG1
 replace hbt := hbt.mono leG1
 replace hbs := hbs.mono leG1
 refine X.seq ?_
 refine X.region ?_
 refine XL.cons (XOp.lss (a := ((k : Nat) : Int)) (b := (((t).length : Nat) : Int)) rfl rfl ?_)
 refine XL.nil ?_
 refine X.seq ?_
 refine X.condD (p := (((k : Nat) : Int) : Int) < (((t).length : Nat) : Int)) rfl (fun h1 => ?_) (fun h1 => ?_)
 ·refine X.skip ?_
  refine X.seq ?_
  refine X.block ?_
  refine X.seq ?_
  refine X.region ?_
  refine XL.cons (XOp.move (.int .i64 (((k : Nat) : Int))) rfl ?_)
  refine XL.cons (XOp.indexS (v := tv) (i := ((k : Nat) : Int)) (n := (t).length) k Try.runUnderlying22 Try.sizeOf2 rfl rfl rfl ht.slv (by omega) (Nat.mul_one _) ?_)
  refine XL.cons (XOp.load1 (v := .int .i64 (t.getD k 0)) Try.isAgg2 rfl (ht.rd (by omega)) ?_)
  refine XL.cons (XOp.assign (.int .i64 (((k : Nat) : Int))) rfl ?_)
  refine XL.cons (XOp.assign (.int .i64 (t.getD k 0)) rfl ?_)
  refine XL.nil ?_
  refine X.seq ?_
  refine X.region ?_
  refine XL.cons (XOp.fieldP (b := bs) (1) Try.runUnderlying33 rfl Try.sizeOf31 (by decide) rfl rfl ?_)
  refine XL.cons (XOp.load1 (v := rsv) Try.isAgg31 rfl (FzC.rd1 hbs rfl) ?_)
  refine XL.cons (XOp.lenS (v := rsv) (n := (rs).length) Try.runUnderlying31 rfl hrs.slv ?_)
  refine XL.cons (XOp.move (.int .i64 (0)) rfl ?_)
  refine XL.nil ?_
  refine X.block ?_
  refine X.loop (α := Nat × Value × List StepT × List Value × List HP × Nat × Bool × FH) (fun xQ => [(0, (.func (.yield l) #[] #[])), (1, ptr bt 0), (2, ptr bs 0), (4, .int .i64 (((k : Nat) : Int))), (5, .int .i64 (t.getD k 0)), (9, tv), (10, .int .i64 ((((t).length : Nat) : Int))), (11, .int .i64 (((k : Nat) : Int))), (18, .int .i64 ((((rs).length : Nat) : Int))), (19, .int .i64 (((xQ.1 : Nat) : Int)))]) (fun xQ => slH 77 3 xQ.2.1 xQ.2.2.2.2.2.1 xQ.2.2.2.1 :: objH l (.loop R) :: cellsH bo [xQ.2.1] 39 :: cellsH bl [.bool (xQ.2.2.2.2.2.2.1)] 4 :: L) (fun xQ F' => xQ.2.2.2.2.2.2.2 = F' ∧ G1 ≤ xQ.2.2.2.2.2.2.2 ∧ (xQ.1 ≤ rs.length) ∧ (IsSl xQ.2.1) ∧ (StepsC xQ.2.2.2.2.2.2.2 xQ.2.2.2.1 xQ.2.2.1) ∧ (xQ.2.2.2.2.2.1 = xQ.2.2.1.length) ∧ (DeepL 3 (StepO 2) xQ.2.2.2.1 xQ.2.2.1 xQ.2.2.2.2.1) ∧ (Fresh F xQ.2.2.2.2.2.2.2 (star xQ.2.2.2.2.1)) ∧ (xQ.2.2.1 = stepsTo ar rs t k ++ stepsRow ar rs t k xQ.1) ∧ (xQ.2.2.2.2.2.2.1 = (longTo ar rs t k || longRow ar rs t k xQ.1))) (fun xQ => rs.length - xQ.1) (0, sv, ss, cs, Ls, m, lb, G1) ⟨rfl, rfl, rfl, rfl, rfl, rfl, rfl, rfl, rfl, rfl, trivial⟩ (Sub.cons (Sub.cons (Sub.cons (Sub.cons (Sub.refl _))))) ⟨rfl, FLe.refl _, (by (try dsimp only) <;> omega), (hsv), (hC), (hm), (hD), (hZ), (by (try dsimp only); rw [hss0]; simp [stepsRow]), (by (try dsimp only); rw [hlb0]; simp [longRow])⟩ ?_
  rintro ⟨r, sv, ss, cs, Ls, m, lb, G2⟩ rE _ _ ⟨rfl, leG, hr, hsvi, hCi, hmi, hDi, hZi, hssi, hlbi⟩
  show X _ _ _ _ (envs [(0, (.func (.yield l) #[] #[])), (1, ptr bt 0), (2, ptr bs 0), (4, .int .i64 (((k : Nat) : Int))), (5, .int .i64 (t.getD k 0)), (9, tv), (10, .int .i64 ((((t).length : Nat) : Int))), (11, .int .i64 (((k : Nat) : Int))), (18, .int .i64 ((((rs).length : Nat) : Int))), (19, .int .i64 (((r : Nat) : Int)))] rE) _ (slH 77 3 sv m cs :: objH l (.loop R) :: cellsH bo [sv] 39 :: cellsH bl [.bool (lb)] 4 :: L)
  replace leG : G1 ≤ G2 := leG
  dsimp only at hr hsvi hCi hmi hDi hZi hssi hlbi
  have hsl2 := stepsRow_len (ar := ar) (rs := rs) (t := t) (p := k) r
  have hssl : ss.length ≤ 1000 := by rw [hssi, List.length_append]; omega
  have leG2 := leG
  replace har := har.mono leG2
  replace hrs := hrs.mono leG2
  replace ht := ht.mono leG2
  replace hbt := hbt.mono leG2
  replace hbs := hbs.mono leG2
  replace hC := hC.mono leG2
  refine X.seq ?_
  refine X.region ?_
  refine XL.cons (XOp.lss (a := ((r : Nat) : Int)) (b := (((rs).length : Nat) : Int)) rfl rfl ?_)
  refine XL.nil ?_
  refine X.seq ?_
  refine X.condD (p := (((r : Nat) : Int) : Int) < (((rs).length : Nat) : Int)) rfl (fun h2 => ?_) (fun h2 => ?_)
  ·refine X.skip ?_
   refine X.seq ?_
   refine X.block ?_
   refine X.seq ?_
   refine X.region ?_
   refine XL.cons (XOp.move (.int .i64 (((r : Nat) : Int))) rfl ?_)
   refine XL.cons (XOp.assign (.int .i64 (((r : Nat) : Int))) rfl ?_)
   refine XL.nil ?_
   refine X.seq ?_
   refine X.seq ?_
   refine X.region ?_
   refine XL.cons (XOp.move (.int .i64 (t.getD k 0)) rfl ?_)
   refine XL.cons (XOp.lss (a := t.getD k 0) (b := 0) rfl rfl ?_)
   refine XL.cons (XOp.move (.bool (decide ((t.getD k 0 : Int) < 0))) rfl ?_)
   by_cases h3 : (t.getD k 0 : Int) < 0
   ·have hone := one_none (isRedex_var (p := k) (r := r) hsys ho (by omega) (by omega) (show r < rs.length by omega))
    refine XL.no (t := 24) rfl (congrArg Value.bool (decide_eq_true h3)) ?_
    refine XL.no (t := 24) rfl (congrArg Value.bool (decide_eq_true h3)) ?_
    refine XL.no (t := 24) rfl (congrArg Value.bool (decide_eq_true h3)) ?_
    refine XL.no (t := 24) rfl (congrArg Value.bool (decide_eq_true h3)) ?_
    refine XL.no (t := 24) rfl (congrArg Value.bool (decide_eq_true h3)) ?_
    refine XL.no (t := 24) rfl (congrArg Value.bool (decide_eq_true h3)) ?_
    refine XL.cons (XOp.pickT (.bool (true)) (congrArg Value.bool (decide_eq_true h3)) rfl ?_)
    refine XL.nil ?_
    refine X.condT rfl ?_
    refine X.exit (thenQ_exit (blockQ_exit ?_))
    refine X.region ?_
    refine XL.cons (XOp.addR (a := ((r : Nat) : Int)) (b := 1) (((r + 1 : Nat) : Int)) rfl rfl (by omega) (by omega) ?_)
    refine XL.cons (XOp.move (.int .i64 (((r + 1 : Nat) : Int))) rfl ?_)
    refine XL.nil ?_
    exact ⟨(r + 1, sv, ss, cs, Ls, m, lb, G2), _, leG2, (FLe.refl _), ⟨rfl, rfl, rfl, rfl, rfl, rfl, rfl, rfl, rfl, rfl, trivial⟩, (Sub.cons (Sub.cons (Sub.cons (Sub.cons (Sub.refl _))))), ⟨rfl, leG2, (by (try dsimp only) <;> omega), (hsvi), (hCi), (by (try dsimp only); (try rw [List.length_append, List.length_singleton]); omega), (hDi), (hZi), (by (try dsimp only); rw [hssi, stepsRow_succ, hone.1]; simp), (by (try dsimp only); rw [longRow_succ, hone.2]; (try rw [hlbi]); simp)⟩, (by omega)⟩
   ·refine XL.yes (t := 24) rfl (congrArg Value.bool (decide_eq_false h3)) (XOp.loadN [arv, rsv] Try.isAgg33 Try.sizeOf33 rfl rfl (FzC.rd hbs rfl) ?_)
    refine XL.yes (t := 24) rfl (congrArg Value.bool (decide_eq_false h3)) (XOp.load1 (v := tv) Try.isAgg22 rfl (FzC.rd1 hbt rfl) ?_)
    refine XL.yes (t := 24) rfl (congrArg Value.bool (decide_eq_false h3)) (XOp.move (.int .i64 (((k : Nat) : Int))) rfl ?_)
    refine XL.yes (t := 24) rfl (congrArg Value.bool (decide_eq_false h3)) (XOp.move (.int .i64 (((r : Nat) : Int))) rfl ?_)
    refine XL.yes (t := 24) rfl (congrArg Value.bool (decide_eq_false h3)) (XOp.call (args := [.agg #[arv, rsv], tv, .int .i64 ((k : Nat) : Int), .int .i64 ((r : Nat) : Int)]) Try.call123 rfl (redex_spec (p := k) (r := r) har hrs ht (hsys := (by first | assumption | rfl | omega | (left; simp; done) | (right; simp; done))) (ho := (by first | assumption | rfl | omega | (left; simp; done) | (right; simp; done))) (hp := (by first | assumption | rfl | omega | (left; simp; done) | (right; simp; done))) (hr := (by first | assumption | rfl | omega | (left; simp; done) | (right; simp; done)))) ?_)
    rintro _ _ _ _ ⟨rfl, rfl, rfl⟩
    refine XL.yes (t := 24) rfl (congrArg Value.bool (decide_eq_false h3)) (XOp.notB (b := isRedex ar rs t k r) rfl ?_)
    refine XL.cons (XOp.pickF (.bool (!(isRedex ar rs t k r))) (congrArg Value.bool (decide_eq_false h3)) rfl ?_)
    refine XL.nil ?_
    refine X.cond (t := !(isRedex ar rs t k r)) rfl (fun h4 => ?_) (fun h4 => ?_)
    ·have hone := one_none (show isRedex ar rs t k r = false by simpa using h4)
     refine X.exit (thenQ_exit (blockQ_exit ?_))
     refine X.region ?_
     refine XL.cons (XOp.addR (a := ((r : Nat) : Int)) (b := 1) (((r + 1 : Nat) : Int)) rfl rfl (by omega) (by omega) ?_)
     refine XL.cons (XOp.move (.int .i64 (((r + 1 : Nat) : Int))) rfl ?_)
     refine XL.nil ?_
     exact ⟨(r + 1, sv, ss, cs, Ls, m, lb, G2), _, leG2, (FLe.refl _), ⟨rfl, rfl, rfl, rfl, rfl, rfl, rfl, rfl, rfl, rfl, trivial⟩, (Sub.cons (Sub.cons (Sub.cons (Sub.cons (Sub.refl _))))), ⟨rfl, leG2, (by (try dsimp only) <;> omega), (hsvi), (hCi), (by (try dsimp only); (try rw [List.length_append, List.length_singleton]); omega), (hDi), (hZi), (by (try dsimp only); rw [hssi, stepsRow_succ, hone.1]; simp), (by (try dsimp only); rw [longRow_succ, hone.2]; (try rw [hlbi]); simp)⟩, (by omega)⟩
    ·have hrx : isRedex ar rs t k r = true := by simpa using h4
     refine X.skip ?_
     refine X.seq ?_
     refine X.region ?_
     refine XL.cons (XOp.loadN [arv, rsv] Try.isAgg33 Try.sizeOf33 rfl rfl (FzC.rd hbs rfl) ?_)
     refine XL.cons (XOp.load1 (v := tv) Try.isAgg22 rfl (FzC.rd1 hbt rfl) ?_)
     refine XL.cons (XOp.move (.int .i64 (((k : Nat) : Int))) rfl ?_)
     refine XL.cons (XOp.move (.int .i64 (((r : Nat) : Int))) rfl ?_)
     refine XL.cons (XOp.call (args := [.agg #[arv, rsv], tv, .int .i64 ((k : Nat) : Int), .int .i64 ((r : Nat) : Int)]) Try.call119 rfl (step_spec (p := k) (r := r) har hrs ht (hsys := (by first | assumption | rfl | omega | (left; simp; done) | (right; simp; done))) (ho := (by first | assumption | rfl | omega | (left; simp; done) | (right; simp; done))) (hp := (by first | assumption | rfl | omega | (left; simp; done) | (right; simp; done))) (hr := (by first | assumption | rfl | omega | (left; simp; done) | (right; simp; done)))) ?_)
     rintro _ F1 _ le1 ⟨x1, rfl, hr1, hr2, hr3, rfl⟩
     replace har := har.mono le1
     replace hrs := hrs.mono le1
     replace ht := ht.mono le1
     replace hbt := hbt.mono le1
     replace hbs := hbs.mono le1
     replace hC := hC.mono le1
     replace hCi := hCi.mono le1
     refine XL.cons (XOp.move (.tuple #[x1, .bool ((stepL ar rs t k r).isSome)]) rfl ?_)
     refine XL.cons (XOp.extract (x1) rfl rfl ?_)
     refine XL.cons (XOp.extract (.bool ((stepL ar rs t k r).isSome)) rfl rfl ?_)
     refine XL.cons (XOp.assign (x1) rfl ?_)
     refine XL.cons (XOp.assign (.bool ((stepL ar rs t k r).isSome)) rfl ?_)
     refine XL.nil ?_
     refine X.seq ?_
     refine X.ofI (by kernel_rfl) ?_
     refine XI.region ?_
     refine XIL.cons (XOp.move ((.func (.yield l) #[] #[])) rfl ?_)
     refine XIL.cons (XOp.move (.int .i64 (((k : Nat) : Int))) rfl ?_)
     refine XIL.cons (XOp.move (.int .i64 (((r : Nat) : Int))) rfl ?_)
     refine XIL.cons (XOp.move (x1) rfl ?_)
     refine XIL.cons (XOp.build [.int .i64 (((k : Nat) : Int)), .int .i64 (((r : Nat) : Int)), x1] [.int .i64 (0), .int .i64 (0), (.slice none 0 0)] [(0, 1), (1, 1), (2, 1)] [(0, [.int .i64 (((k : Nat) : Int))]), (1, [.int .i64 (((r : Nat) : Int))]), (2, [x1])] Try.runUnderlying77 Try.zeroValue77 rfl (.cons rfl Try.sizeOf2 (.cons rfl Try.sizeOf2 (.cons rfl Try.sizeOf22 PlacesAre.nil))) rfl (.cons rfl (.cons rfl (.cons (cells_one (IntsF.isSl hr1)) CellsAre.nil))) ?_)
     refine XIL.cons (XOp.move (.bool ((stepL ar rs t k r).isSome)) rfl ?_)
     by_cases h5 : ((stepL ar rs t k r).isSome) = true
     ·refine XIL.yield (k := l) (args := [.agg #[.int .i64 (((k : Nat) : Int)), .int .i64 (((r : Nat) : Int)), x1], .bool true]) rfl (by rw [← h5]; rfl) ?_
      refine Yld.weaken (Sub.trans (Sub.front (A := [_, _, _])) (Sub.trans (Sub.front (A := [_])) (Sub.trans (Sub.front (A := [_, _, _])) (Sub.trans (Sub.front (A := [_, _, _])) (Sub.cons (Sub.cons (Sub.cons (Sub.cons (Sub.refl _))))))))) ?_
      have hone := one_some h5
      refine (hyes _ _ _ _ _ _ _ _ _ _ (FLe.trans (FLe.trans leG1 leG2) le1) hsvi hCi hmi (by omega) hr1).mono ?_
      rintro _ _ _ _ ⟨rfl, rfl, sw1, hs1, rfl⟩
      have hc1 := StepsC.snoc hCi (i := ((k : Nat) : Int)) (j := ((r : Nat) : Int)) hr1
      show XIL _ _ _ _ _ _ _ _ _ (objH l (.loop R) :: cellsH bo [sw1] 39 :: slH 77 3 sw1 (m + 1) ((cs ++ [.int .i64 (((k : Nat) : Int)), .int .i64 (((r : Nat) : Int)), x1])) :: cellsH bl [.bool (lb)] 4 :: L)
      refine XIL.cons (XOp.notB (b := true) rfl ?_)
      refine XIL.nil ?_
      refine X.condF rfl ?_
      refine X.skip ?_
      refine X.region ?_
      refine XL.cons (XOp.addR (a := ((r : Nat) : Int)) (b := 1) (((r + 1 : Nat) : Int)) rfl rfl (by omega) (by omega) ?_)
      refine XL.cons (XOp.move (.int .i64 (((r + 1 : Nat) : Int))) rfl ?_)
      refine XL.nil ?_
      exact ⟨(r + 1, sw1, (ss ++ [(((k : Nat) : Int), ((r : Nat) : Int), (stepL ar rs t k r).getD [])]), (cs ++ [.int .i64 (((k : Nat) : Int)), .int .i64 (((r : Nat) : Int)), x1]), Ls ++ [intsH 2 x1 ((stepL ar rs t k r).getD [])], m + 1, lb, F1), _, (FLe.trans leG2 le1), (FLe.refl _), ⟨rfl, rfl, rfl, rfl, rfl, rfl, rfl, rfl, rfl, rfl, trivial⟩, (Sub.trans (Sub.front (A := [_, _, _])) (Sub.trans (Sub.front (A := [_, _])) (Sub.trans (Sub.front (A := [_, _])) (Sub.trans (Sub.front (A := [_, _, _])) (Sub.cons (Sub.cons (Sub.cons (Sub.cons (Sub.refl _))))))))), ⟨rfl, (FLe.trans leG2 le1), (by (try dsimp only) <;> omega), (hs1), (hc1), (by (try dsimp only); (try rw [List.length_append, List.length_singleton]); omega), (DeepL.snoc hDi rfl ⟨_, rfl, rfl⟩), ((Fresh.app hZi (FLe.trans leG1 leG2) (Fresh.one hr3) le1)), (by (try dsimp only); rw [hssi, stepsRow_succ, hone.1]; simp), (by (try dsimp only); rw [longRow_succ, hone.2]; (try rw [hlbi]); simp)⟩, (by omega)⟩
     ·rw [Bool.not_eq_true] at h5
      refine XIL.yield (k := l) (args := [.agg #[.int .i64 (((k : Nat) : Int)), .int .i64 (((r : Nat) : Int)), x1], .bool false]) rfl (by rw [← h5]; rfl) ?_
      refine Yld.weaken (Sub.trans (Sub.front (A := [_, _, _])) (Sub.trans (Sub.front (A := [_])) (Sub.trans (Sub.front (A := [_, _, _])) (Sub.trans (Sub.front (A := [_, _, _])) (Sub.cons (Sub.cons (Sub.cons (Sub.cons (Sub.refl _))))))))) ?_
      have hone := one_long hrx h5
      refine (hno _ _ _ _ _ _ _ _ (FLe.trans (FLe.trans leG1 leG2) le1) hsvi (IntsF.isSl hr1)).mono ?_
      rintro _ _ _ _ ⟨rfl, rfl, rfl⟩
      show XIL _ _ _ _ _ _ _ _ _ (objH l (.loop R) :: cellsH bo [sv] 39 :: slH 77 3 sv m cs :: cellsH bl [.bool (true)] 4 :: L)
      refine XIL.cons (XOp.notB (b := true) rfl ?_)
      refine XIL.nil ?_
      refine X.condF rfl ?_
      refine X.skip ?_
      refine X.region ?_
      refine XL.cons (XOp.addR (a := ((r : Nat) : Int)) (b := 1) (((r + 1 : Nat) : Int)) rfl rfl (by omega) (by omega) ?_)
      refine XL.cons (XOp.move (.int .i64 (((r + 1 : Nat) : Int))) rfl ?_)
      refine XL.nil ?_
      exact ⟨(r + 1, sv, ss, cs, Ls, m, true, F1), _, (FLe.trans leG2 le1), (FLe.refl _), ⟨rfl, rfl, rfl, rfl, rfl, rfl, rfl, rfl, rfl, rfl, trivial⟩, (Sub.trans (Sub.front (A := [_, _, _])) (Sub.trans (Sub.front (A := [_, _])) (Sub.trans (Sub.front (A := [_, _])) (Sub.trans (Sub.front (A := [_, _, _])) (Sub.cons (Sub.cons (Sub.cons (Sub.cons (Sub.refl _))))))))), ⟨rfl, (FLe.trans leG2 le1), (by (try dsimp only) <;> omega), (hsvi), (hCi), (by (try dsimp only); (try rw [List.length_append, List.length_singleton]); omega), (hDi), ((hZi.mono le1)), (by (try dsimp only); rw [hssi, stepsRow_succ, hone.1]; simp), (by (try dsimp only); rw [longRow_succ, hone.2]; (try rw [hlbi]); simp)⟩, (by omega)⟩
  ·refine X.exit (thenQ_exit (thenQ_exit (blockQ_exit ?_)))
   refine X.region ?_
   refine XL.cons (XOp.addR (a := ((k : Nat) : Int)) (b := 1) (((k + 1 : Nat) : Int)) rfl rfl (by omega) (by omega) ?_)
   refine XL.cons (XOp.move (.int .i64 (((k + 1 : Nat) : Int))) rfl ?_)
   refine XL.nil ?_
   exact ⟨(k + 1, sv, ss, cs, Ls, m, lb, G2), _, (FLe.trans leG1 leG2), (FLe.refl _), ⟨rfl, rfl, rfl, rfl, rfl, rfl, trivial⟩, (Sub.cons (Sub.cons (Sub.cons (Sub.cons (Sub.refl _))))), ⟨rfl, (FLe.trans leG1 leG2), (by (try dsimp only) <;> omega), (hsvi), (hCi), (hmi), (hDi), (hZi), (by dsimp only; rw [hssi, stepsTo_succ, show r = rs.length from by omega]), (by dsimp only; rw [hlbi, longTo_succ, show r = rs.length from by omega])⟩, (by omega)⟩
 ·refine X.exit (thenQ_exit (thenQ_exit (blockQ_exit ?_)))
  refine id (retEndN (L' := objH l (.loop R) :: cellsH bo [sv] 39 :: slH 77 3 sv m cs :: cellsH bl [.bool (lb)] 4 :: L) [] (.tuple #[]) (by exact .nil) rfl leG1 (FLe.refl _) (Sub.trans (Sub.front (A := [_, _, _])) (Sub.trans (Sub.front (A := [_])) (Sub.trans (Sub.front (A := [_, _, _])) (Sub.trans (Sub.front (A := [_, _, _])) (Sub.cons (Sub.cons (Sub.cons (Sub.cons (Sub.refl _))))))))) ?_)
  have hkl : k = t.length := by omega
  have e1 : stepsL ar rs t = ss := by rw [hss, hkl]; rfl
  have e2 : longL ar rs t = lb := by rw [hlb, hkl]; rfl
  rw [e1, e2]
  subst hm
  exact ⟨sv, cs, Ls, hsv, hC, hD, hZ, rfl⟩

/- impl.stepsFrom -/
set_option maxRecDepth 20000 in
theorem stepsFrom_spec {F : FH} {L : List HP} {arv : Value} {ar : List Int} (har : IntsF F arv ar) {rsv : Value} {rs : List (List Int × List Int)} (hrs : PairsF F rsv rs) {tv : Value} {t : List Int} (ht : IntsF F tv t) (hsys : sysOk ar rs = true) (ho : termOk ar t = true) :
    Does Try.prog 84 [.agg #[arv, rsv], tv] F (L) (fun v F' L' => ∃ (a : Value), (.tuple #[a, .bool (longL ar rs t)] : Value) = v ∧ FrStepsF F F' 2 a (stepsL ar rs t) ∧ L = L') := by
 refine Does.of_XF Try.func84 rfl (by kernel_rfl) rfl ?_
 have hnn := notNil_of_pos ht (by have := termOk_len ho; omega)
 have htl := termOk_len ho
 have hrl := (sysOk_iff.1 hsys).2.1
 have hsig := (sysOk_iff.1 hsys).1
 have hsl := sigOk_spec hsig
 refine XF.seq ?_
 refine X.region ?_
 refine XL.cons (XOp.box [arv, rsv] rfl rfl ?_)
 intro b1
 refine XL.cons (XOp.assign ((.slice none 0 0)) rfl ?_)
 refine XL.cons (XOp.assign (.bool (false)) rfl ?_)
 refine XL.nil ?_
 refine XF.seq ?_
 refine X.region ?_
 refine XL.cons (XOp.alloc [(.slice none 0 0)] Try.zeroValue39 rfl ?_)
 intro b2
 refine XL.nil ?_
 refine XF.seq ?_
 refine X.region ?_
 refine XL.cons (XOp.alloc [.bool (false)] Try.zeroValue4 rfl ?_)
 intro b3
 refine XL.cons (XOp.store1 (v := .bool (false)) [] _ [.bool (false)] Try.sizeOf4 rfl rfl rfl rfl rfl rfl ?_)
 refine XL.nil ?_
 refine XF.ofR ?_
 refine XR.seq ?_
 refine X.region ?_
 refine XL.cons (XOp.loadN [arv, rsv] Try.isAgg33 Try.sizeOf33 rfl rfl (Rd.ownN [_, _] rfl rfl) ?_)
 refine XL.cons (XOp.move (tv) rfl ?_)
 refine XL.cons (XOp.call (args := [.agg #[arv, rsv], tv]) Try.call107 rfl (redexSteps_spec har hrs ht) ?_)
 rintro _ F1 _ le1 ⟨x1, x2, rfl, hb1, hb2, rfl⟩
 replace har := har.mono le1
 replace hrs := hrs.mono le1
 replace ht := ht.mono le1
 refine XL.nil ?_
 refine XR.rangeB (gf := 133) (lb := [ptr x1 0, ptr x2 0]) rfl Try.call133 (fun l D R hRs hRp hRps hRa hRb hRz hRg => ?_)
 have hR0 : ({ R with state := .ready, pending := none } : Loop) = R := by
  cases R
  simp only at hRs hRp
  subst hRs hRp
  rfl
 have hyes : ∀ (Fy : FH) (sv : Value) (ss : List StepT) (cs : List Value) (m : Nat) (lb : Bool) (i j : Int) (tov : Value) (to : List Int), F1 ≤ Fy → IsSl sv → StepsC Fy cs ss → m = ss.length → ss.length ≤ 4000000 → IntsF Fy tov to → Yld Try.prog l [.agg #[.int .i64 i, .int .i64 j, tov], .bool true] Fy (objH l (.loop R) :: cellsH b2 [sv] 39 :: slH 77 3 sv m cs :: cellsH b3 [.bool (lb)] 4 :: objH D (.deferred (some [])) :: L) (fun v F' L' => .bool true = v ∧ Fy = F' ∧ ∃ sw, IsSl sw ∧ objH l (.loop R) :: cellsH b2 [sw] 39 :: slH 77 3 sw (m + 1) (cs ++ [.int .i64 i, .int .i64 j, tov]) :: cellsH b3 [.bool (lb)] 4 :: objH D (.deferred (some [])) :: L = L') := by
  intro Fy sv ss cs m lb i j tov to leF hsv hC hm hsb hto
  refine Yld.of_round hRs hRp hRps hRa hRb hRz hRg rfl (by kernel_rfl) (by kernel_rfl) (by kernel_rfl) ?_
  refine XI.slots [(13, .agg #[.int .i64 (i), .int .i64 (j), tov]), (14, .bool (true)), (6, ptr b2 0), (7, ptr b3 0)] ⟨rfl, rfl, rfl, rfl, trivial⟩ (fun rE => ?_)
  refine XI.seq ?_
  refine XI.region ?_
  refine XIL.cons (XOp.alloc [.int .i64 (0), .int .i64 (0), (.slice none 0 0)] Try.zeroValue77 rfl ?_)
  intro b4
  refine XIL.cons (XOp.storeN (vs := [.int .i64 (i), .int .i64 (j), tov]) [] _ [.int .i64 (i), .int .i64 (j), tov] Try.sizeOf77 rfl rfl rfl (ones_cons rfl (ones_cons rfl (ones_cons (one_sl (IntsF.isSl hto)) ones_nil))) rfl rfl rfl ?_)
  refine XIL.nil ?_
  refine XI.region ?_
  refine XIL.cons (XOp.assign (.bool (true)) rfl ?_)
  refine XIL.nil ?_
  refine ⟨cellsH b4 [.int .i64 (i), .int .i64 (j), tov] 77 :: cellsH b2 [sv] 39 :: slH 77 3 sv m cs :: cellsH b3 [.bool (lb)] 4 :: objH D (.deferred (some [])) :: L, (Sub.trans (Sub.front (A := [_, _, _, _])) (Sub.trans (Sub.front (A := [_, _, _, _])) (Sub.trans (Sub.front (A := [_, _, _, _])) (Sub.trans (Sub.front (A := [_, _, _])) (Sub.trans (Sub.front (A := [_, _, _, _])) (Sub.cons (Sub.cons (Sub.cons (Sub.cons (Sub.cons (Sub.refl _))))))))))), ?_⟩
  refine XI.block ?_
  refine XI.seq ?_
  refine XI.region ?_
  refine XIL.cons (XOp.move (.bool (true)) rfl ?_)
  refine XIL.nil ?_
  refine XI.condT rfl ?_
  refine XI.region ?_
  refine XIL.cons (XOp.load1 (v := sv) Try.isAgg39 rfl (Rd.own [_, _] rfl rfl) ?_)
  refine XIL.cons (XOp.loadN [.int .i64 (i), .int .i64 (j), tov] Try.isAgg77 Try.sizeOf77 rfl rfl (Rd.ownN [_] rfl rfl) ?_)
  refine XIL.cons (XOp.buildSlice (s := 3) [.int .i64 (i), .int .i64 (j), tov] [.int .i64 (0), .int .i64 (0), (.slice none 0 0)] [(0, [.int .i64 (i), .int .i64 (j), tov])] Try.runUnderlying39 Try.sizeOf77 Try.zeroValue77 rfl (by decide) rfl (.cons rfl CellsAre.nil) rfl ?_)
  intro v1 hv1
  refine XIL.cons (XOp.append (m := 1) (bytes := 40) (cs := cs) [_, _, _, _] _ [.int .i64 (i), .int .i64 (j), tov] Try.runUnderlying39 Try.typeInfo77 rfl rfl rfl rfl rfl rfl rfl (SlV.own [] rfl) rfl (Rd.lit [] rfl) (ones_cons rfl (ones_cons rfl (ones_cons (one_sl (IntsF.isSl hto)) ones_nil))) (by (try simp only [List.length_append, List.length_nil, List.length_cons, List.length_singleton]); omega) (by (try simp only [List.length_append, List.length_nil, List.length_cons, List.length_singleton]); omega) ?_)
  intro v2 hs1 hn1 hm1
  have hc1 := StepsC.snoc hC (i := i) (j := j) hto
  refine XIL.cons (XOp.store1 (v := v2) [_, _, _] _ [v2] Try.sizeOf39 rfl rfl (one_sl hs1) rfl rfl rfl ?_)
  refine XIL.nil ?_
  refine ⟨rfl, ?_⟩
  refine ⟨cellsH b2 [v2] 39 :: slH 77 3 v2 ((m) + 1) (cs ++ [.int .i64 (i), .int .i64 (j), tov]) :: cellsH b3 [.bool (lb)] 4 :: objH D (.deferred (some [])) :: L, (Sub.drop (Sub.cons (Sub.drop (Sub.cons (Sub.cons (Sub.cons (Sub.refl _))))))), ?_⟩
  rw [hR0]
  exact ⟨rfl, rfl, _, hs1, rfl⟩
 have hno : ∀ (Fy : FH) (sv : Value) (cs : List Value) (m : Nat) (lb : Bool) (i j : Int) (tov : Value), F1 ≤ Fy → IsSl sv → IsSl tov → Yld Try.prog l [.agg #[.int .i64 i, .int .i64 j, tov], .bool false] Fy (objH l (.loop R) :: cellsH b2 [sv] 39 :: slH 77 3 sv m cs :: cellsH b3 [.bool (lb)] 4 :: objH D (.deferred (some [])) :: L) (fun v F' L' => .bool true = v ∧ Fy = F' ∧ objH l (.loop R) :: cellsH b2 [sv] 39 :: slH 77 3 sv m cs :: cellsH b3 [.bool (true)] 4 :: objH D (.deferred (some [])) :: L = L') := by
  intro Fy sv cs m lb i j tov leF hsv htv
  refine Yld.of_round hRs hRp hRps hRa hRb hRz hRg rfl (by kernel_rfl) (by kernel_rfl) (by kernel_rfl) ?_
  refine XI.slots [(13, .agg #[.int .i64 (i), .int .i64 (j), tov]), (14, .bool (false)), (6, ptr b2 0), (7, ptr b3 0)] ⟨rfl, rfl, rfl, rfl, trivial⟩ (fun rE => ?_)
  refine XI.seq ?_
  refine XI.region ?_
  refine XIL.cons (XOp.alloc [.int .i64 (0), .int .i64 (0), (.slice none 0 0)] Try.zeroValue77 rfl ?_)
  intro b5
  refine XIL.cons (XOp.storeN (vs := [.int .i64 (i), .int .i64 (j), tov]) [] _ [.int .i64 (i), .int .i64 (j), tov] Try.sizeOf77 rfl rfl rfl (ones_cons rfl (ones_cons rfl (ones_cons (one_sl htv) ones_nil))) rfl rfl rfl ?_)
  refine XIL.nil ?_
  refine XI.region ?_
  refine XIL.cons (XOp.assign (.bool (false)) rfl ?_)
  refine XIL.nil ?_
  refine ⟨cellsH b5 [.int .i64 (i), .int .i64 (j), tov] 77 :: cellsH b2 [sv] 39 :: slH 77 3 sv m cs :: cellsH b3 [.bool (lb)] 4 :: objH D (.deferred (some [])) :: L, (Sub.trans (Sub.front (A := [_, _, _, _])) (Sub.trans (Sub.front (A := [_, _, _, _])) (Sub.trans (Sub.front (A := [_, _, _, _])) (Sub.trans (Sub.front (A := [_, _, _])) (Sub.trans (Sub.front (A := [_, _, _, _])) (Sub.cons (Sub.cons (Sub.cons (Sub.cons (Sub.cons (Sub.refl _))))))))))), ?_⟩
  refine XI.block ?_
  refine XI.seq ?_
  refine XI.region ?_
  refine XIL.cons (XOp.move (.bool (false)) rfl ?_)
  refine XIL.nil ?_
  refine XI.condF rfl ?_
  refine XI.region ?_
  refine XIL.cons (XOp.store1 (v := .bool (true)) [_, _, _, _] _ [.bool (true)] Try.sizeOf4 rfl rfl rfl rfl rfl rfl ?_)
  refine XIL.nil ?_
  refine ⟨rfl, ?_⟩
  refine ⟨cellsH b2 [sv] 39 :: slH 77 3 sv m cs :: cellsH b3 [.bool (true)] 4 :: objH D (.deferred (some [])) :: L, (Sub.cons (Sub.drop (Sub.cons (Sub.cons (Sub.cons (Sub.refl _)))))), ?_⟩
  rw [hR0]
  exact ⟨rfl, rfl, rfl⟩
 refine (Does.weaken (Sub.trans (Sub.front (A := [_])) (Sub.trans (Sub.front (A := [_, _])) (Sub.trans (Sub.front (A := [_, _, _])) (Sub.trans (Sub.front (A := [_, _, _])) (Sub.cons (Sub.cons (Sub.cons (Sub.cons (Sub.drop (Sub.refl _)))))))))) (redexIt_spec har hrs ht hb1 hb2 hsys ho hyes hno)).mono ?_
 rintro _ F9 _ le9 ⟨sv, cs, Ls, hsv, hC, hD, hZ, rfl⟩
 replace har := har.mono le9
 replace hrs := hrs.mono le9
 replace ht := ht.mono le9
 replace hb1 := hb1.mono le9
 replace hb2 := hb2.mono le9
 refine ⟨R, cellsH b2 [sv] 39 :: slH 77 3 sv ((stepsL ar rs t).length) cs :: cellsH b3 [.bool (longL ar rs t)] 4 :: L, by rw [hRs]; simp, hRp, (Sub.trans (Sub.front (A := [_, _, _])) (Sub.trans (Sub.front (A := [_, _, _])) (Sub.trans (Sub.front (A := [_, _, _])) (Sub.trans (Sub.front (A := [_, _, _, _])) (Sub.trans (Sub.front (A := [_, _, _, _])) (Sub.cons (Sub.cons (Sub.cons (Sub.cons (Sub.cons (Sub.refl _))))))))))), ?_⟩
 refine XI.seq ?_
 refine XI.draw [objH D (.deferred (some [])), cellsH b2 [sv] 39, slH 77 3 sv ((stepsL ar rs t).length) cs, cellsH b3 [.bool (longL ar rs t)] 4] L 3 [[], [], []] [[], [], [0]] (phiL [fun us v => v = sv, fun us v => v = (.bool (longL ar rs t) : Value), fun us v => v = sv]) (ownL [fun us v => [], fun us v => [], fun us v => []]) mixed rfl rfl (by kernel_rfl) ?_ ?_
 ·refine stepsP.cons (fun vals R hpZ => ?_) ?_
  ·refine XG.op (XOp.load1 (v := sv) Try.isAgg39 rfl (Rd.own [_] rfl rfl) ?_)
   exact ⟨rfl, rfl, rfl⟩
  refine stepsP.cons (fun vals R hpZ => ?_) ?_
  ·refine XG.op (XOp.load1 (v := .bool (longL ar rs t)) Try.isAgg4 rfl (Rd.own [_, _, _] rfl rfl) ?_)
   exact ⟨rfl, rfl, rfl⟩
  refine stepsP.cons (fun vals R hpZ => ?_) ?_
  ·rw [(envs_of_sat (l := [(0, sv)]) ⟨hpZ 0 (by decide), trivial⟩).symm]
   refine XG.op (XOp.assign (sv) rfl ?_)
   exact ⟨rfl, rfl, rfl⟩
  exact stepsP.nil
 ·intro vals hphi
  have e0 : vals 0 = sv := hphi 0 (by decide)
  have e1 : vals 1 = (.bool (longL ar rs t) : Value) := hphi 1 (by decide)
  have e2 : vals 2 = sv := hphi 2 (by decide)
  rw [(envs_of_sat (l := [(0, sv), (1, (.bool (longL ar rs t) : Value)), (2, sv)]) ⟨e0, e1, e2, trivial⟩).symm]
  show XIL _ _ _ _ _ _ _ _ _ (objH D (.deferred (some [])) :: cellsH b2 [sv] 39 :: slH 77 3 sv ((stepsL ar rs t).length) cs :: cellsH b3 [.bool (longL ar rs t)] 4 :: L)
  refine XIL.cons (XOp.assign (.bool (longL ar rs t)) rfl ?_)
  refine XIL.nil ?_
  refine XI.freezeF [_, _] _ _ rfl (fun F2 le2 hz1 => ?_)
  replace har := har.mono le2
  replace hrs := hrs.mono le2
  replace ht := ht.mono le2
  replace hb1 := hb1.mono le2
  replace hb2 := hb2.mono le2
  replace hC := hC.mono le2
  have hf1 : StepsF F2 sv ((stepsL ar rs t)) := CO.fz hC (by first | rfl | simp | omega) hz1.fz
  refine XI.ret (retEndD (L' := L) [sv, .bool (longL ar rs t)] (.tuple #[sv, .bool (longL ar rs t)]) (fun _ _ => (.tmp rfl (.tmp rfl .nil))) rfl (FLe.trans (FLe.trans le1 le9) le2) (FLe.refl _) (Sub.cons (Sub.drop (Sub.drop (Sub.refl _)))) ?_)
  exact ⟨_, rfl, ⟨cs, Ls, StepsC.fzx hC rfl hz1.fz, hD, ((hZ.mono le2).base le1)⟩, rfl⟩
end Go.Proofs.Ytiaanelimbmniaa
set_option linter.unusedSimpArgs false
set_option linter.unusedVariables false
namespace Go.Proofs.Ytiaanelimbmniaa
open Go X M

/- impl.found$1 -/
theorem found1_spec {F : FH} {L : List HP} {xv : Value} {x : List Int} (hx : IntsF F xv x) {i1 : Int} {i2 : Int} {i3 : Int} {yv : Value} {y : List Int} (hy : IntsF F yv y) {i4 : Int} {uv : Value} {u : List Int} (hu : IntsF F uv u) {bt : Nat} (hzbt : FzC F bt [uv]) (hlu : u.length ≤ 4000000) :
    Does Try.prog 121 [.agg #[xv, .int .i64 (i1), .int .i64 (i2), .int .i64 (i3), yv, .int .i64 (i4)], ptr bt 0] F (L) (fun v F' L' => (.bool (decide (x = u)) : Value) = v ∧ F = F' ∧ L = L') := by
 refine Does.of_X Try.func121 rfl rfl rfl ?_
 refine X.seq ?_
 refine X.region ?_
 refine XL.cons (XOp.box [xv, .int .i64 (i1), .int .i64 (i2), .int .i64 (i3), yv, .int .i64 (i4)] rfl rfl ?_)
 intro b1
 refine XL.cons (XOp.assign (.bool (false)) rfl ?_)
 refine XL.nil ?_
 refine X.seq ?_
 refine X.region ?_
 refine XL.cons (XOp.fieldP (b := b1) (0) Try.runUnderlying91 rfl Try.sizeOf22 (by decide) rfl rfl ?_)
 refine XL.cons (XOp.load1 (v := xv) Try.isAgg22 rfl (Rd.own [] rfl rfl) ?_)
 refine XL.cons (XOp.load1 (v := uv) Try.isAgg22 rfl (FzC.rd1 hzbt rfl) ?_)
 refine XL.cons (XOp.call (args := [xv, uv]) Try.call122 rfl (Equal_spec hx hu (hbd := (by first | assumption | rfl | omega | (left; simp; done) | (right; simp; done)))) ?_)
 rintro _ _ _ _ ⟨rfl, rfl, rfl⟩
 refine XL.cons (XOp.assign (.bool (decide (x = u))) rfl ?_)
 refine XL.nil ?_
 refine X.ret (retEnd (L' := L) [.bool (decide (x = u))] (.bool (decide (x = u))) (.tmp rfl .nil) rfl (FLe.refl _) (FLe.refl _) (Sub.drop (Sub.refl _)) ?_)
 exact ⟨rfl, rfl, rfl⟩

/- slices.IndexFunc[[]impl.reached,impl.reached] -/
theorem IndexFuncFound_spec {F : FH} {L : List HP} {alv : Value} {al : List FoundT} {alcs : List Value} (hal : FoundsF F alv al alcs) {uv : Value} {u : List Int} (hu : IntsF F uv u) {bt : Nat} (hzbt : FzC F bt [uv]) (hlt : al.length ≤ 4000000) (hlu : u.length ≤ 4000000) :
    Does Try.prog 120 [alv, .func (.func 121) #[] #[ptr bt 0]] F (L) (fun v F' L' => (.int .i64 (foundI al u) : Value) = v ∧ F = F' ∧ L = L') := by
 refine Does.of_X Try.func120 rfl rfl rfl ?_
 refine X.seq ?_
 refine X.region ?_
 refine XL.cons (XOp.assign (.int .i64 (0)) rfl ?_)
 refine XL.nil ?_
 refine X.seq ?_
 refine X.seq ?_
 refine X.region ?_
 refine XL.cons (XOp.move (alv) rfl ?_)
 refine XL.cons (XOp.lenS (v := alv) (n := (al).length) Try.runUnderlying87 rfl hal.slv ?_)
 refine XL.cons (XOp.move (.int .i64 (0)) rfl ?_)
 refine XL.nil ?_
 refine X.block ?_
 refine X.loop (α := Nat) (fun k => [(0, alv), (1, .func (.func 121) #[] #[ptr bt 0]), (7, .int .i64 ((((al).length : Nat) : Int))), (8, .int .i64 (((k : Nat) : Int)))]) (fun k => L) (fun k F' => F = F' ∧ (k ≤ al.length) ∧ (∀ i, i < k → (EL al i).1 ≠ u)) (fun k => al.length - k) 0 ⟨rfl, rfl, rfl, rfl, trivial⟩ (Sub.refl _) ⟨rfl, (by (try dsimp only) <;> omega), (fun i hi => absurd hi (by omega))⟩ ?_
 rintro k rE _ _ ⟨rfl, hk, hall⟩
 show X _ _ _ _ (envs [(0, alv), (1, .func (.func 121) #[] #[ptr bt 0]), (7, .int .i64 ((((al).length : Nat) : Int))), (8, .int .i64 (((k : Nat) : Int)))] rE) _ (L)
 refine X.seq ?_
 refine X.region ?_
 refine XL.cons (XOp.lss (a := ((k : Nat) : Int)) (b := (((al).length : Nat) : Int)) rfl rfl ?_)
 refine XL.nil ?_
 refine X.seq ?_
 refine X.condD (p := (((k : Nat) : Int) : Int) < (((al).length : Nat) : Int)) rfl (fun h1 => ?_) (fun h1 => ?_)
 ·refine X.skip ?_
  refine X.seq ?_
  refine X.block ?_
  refine X.seq ?_
  refine X.region ?_
  refine XL.cons (XOp.move (.int .i64 (((k : Nat) : Int))) rfl ?_)
  refine XL.cons (XOp.assign (.int .i64 (((k : Nat) : Int))) rfl ?_)
  refine XL.nil ?_
  refine X.seq ?_
  refine X.region ?_
  refine XL.cons (XOp.move (.func (.func 121) #[] #[ptr bt 0]) rfl ?_)
  refine XL.cons (XOp.move (alv) rfl ?_)
  refine XL.cons (XOp.move (.int .i64 (((k : Nat) : Int))) rfl ?_)
  refine XL.cons (XOp.indexS (v := alv) (i := ((k : Nat) : Int)) (n := (al).length) k Try.runUnderlying87 Try.sizeOf91 rfl rfl rfl hal.slv (by omega) rfl ?_)
  obtain ⟨a1, a2, ha1, ha2, hr1, hq1⟩ := hal.rd (i := k) (by omega)
  refine XL.cons (XOp.loadN [a1, .int .i64 ((al.getD k ([], 0, (0, 0, []), 0)).2.1), .int .i64 ((al.getD k ([], 0, (0, 0, []), 0)).2.2.1.1), .int .i64 ((al.getD k ([], 0, (0, 0, []), 0)).2.2.1.2.1), a2, .int .i64 ((al.getD k ([], 0, (0, 0, []), 0)).2.2.2)] Try.isAgg91 Try.sizeOf91 rfl rfl (Rd.all (hr1 _)) ?_)
  refine XL.cons (XOp.callV (first := []) (captured := [ptr bt 0]) (args := [.agg #[a1, .int .i64 ((al.getD k ([], 0, (0, 0, []), 0)).2.1), .int .i64 ((al.getD k ([], 0, (0, 0, []), 0)).2.2.1.1), .int .i64 ((al.getD k ([], 0, (0, 0, []), 0)).2.2.1.2.1), a2, .int .i64 ((al.getD k ([], 0, (0, 0, []), 0)).2.2.2)], ptr bt 0]) Try.call121 rfl rfl (found1_spec ha1 ha2 hu hzbt (hlu := (by first | assumption | rfl | omega | (left; simp; done) | (right; simp; done)))) ?_)
  rintro _ _ _ _ ⟨rfl, rfl, rfl⟩
  refine XL.nil ?_
  refine X.cond (t := decide (((al.getD k ([], 0, (0, 0, []), 0)).1) = u)) rfl (fun h2 => ?_) (fun h2 => ?_)
  ·refine X.seq ?_
   refine X.region ?_
   refine XL.cons (XOp.move (.int .i64 (((k : Nat) : Int))) rfl ?_)
   refine XL.cons (XOp.assign (.int .i64 (((k : Nat) : Int))) rfl ?_)
   refine XL.nil ?_
   refine X.ret (blockQ_ret (thenQ_ret (thenQ_ret (blockQ_ret (thenQ_ret (retEnd (L' := L) [.int .i64 (((k : Nat) : Int))] (.int .i64 (((k : Nat) : Int))) (.tmp rfl .nil) rfl (FLe.refl _) (FLe.refl _) (Sub.refl _) ?_))))))
   exact ⟨(congrArg (Value.int .i64) (foundI_at (k := k) (by omega) (by unfold EL; simp_all) hall)), rfl, rfl⟩
  ·refine X.skip ?_
   refine X.region ?_
   refine XL.cons (XOp.addR (a := ((k : Nat) : Int)) (b := 1) (((k + 1 : Nat) : Int)) rfl rfl (by omega) (by omega) ?_)
   refine XL.cons (XOp.move (.int .i64 (((k + 1 : Nat) : Int))) rfl ?_)
   refine XL.nil ?_
   exact ⟨k + 1, _, FLe.refl _, (FLe.refl _), ⟨rfl, rfl, rfl, rfl, trivial⟩, (Sub.refl _), ⟨rfl, (by (try dsimp only) <;> omega), (fun i hi => (Nat.lt_or_ge i k).elim (fun h => hall i h) (fun h => by obtain rfl : i = k := (by omega); unfold EL; simp_all))⟩, (by omega)⟩
 ·refine X.exit (thenQ_exit (thenQ_exit (blockQ_exit ?_)))
  refine X.seq ?_
  refine X.region ?_
  refine XL.cons (XOp.assign (.int .i64 (-1)) rfl ?_)
  refine XL.nil ?_
  refine X.ret (retEnd (L' := L) [.int .i64 (-1)] (.int .i64 (-1)) (.tmp rfl .nil) rfl (FLe.refl _) (FLe.refl _) (Sub.refl _) ?_)
  exact ⟨(congrArg (Value.int .i64) (foundI_none (fun i hi => hall i (by omega)))), rfl, rfl⟩

/- impl.found -/
theorem found_spec {F : FH} {L : List HP} {alv : Value} {al : List FoundT} {alcs : List Value} (hal : FoundsF F alv al alcs) {uv : Value} {u : List Int} (hu : IntsF F uv u) (hlt : al.length ≤ 4000000) (hlu : u.length ≤ 4000000) :
    Does Try.prog 99 [alv, uv] F (L) (fun v F' L' => (.int .i64 (foundI al u) : Value) = v ∧ F = F' ∧ L = L') := by
 refine Does.of_X Try.func99 rfl rfl rfl ?_
 refine X.seq ?_
 refine X.region ?_
 refine XL.cons (XOp.box [uv] rfl (cells_one (IntsF.isSl hu)) ?_)
 intro b1
 refine XL.cons (XOp.assign (.int .i64 (0)) rfl ?_)
 refine XL.nil ?_
 refine X.seq ?_
 refine X.region ?_
 refine XL.cons (XOp.move (alv) rfl ?_)
 refine XL.cons (XOp.makeFuncL [] [ptr b1 0] rfl rfl ?_)
 refine XL.freeze [] _ _ rfl (fun F1 le1 hz1 => ?_)
 replace hal := hal.mono le1
 replace hu := hu.mono le1
 have hf1 : FzC F1 b1 [uv] := Fz.cells hz1
 refine XL.cons (XOp.call (args := [alv, .func (.func 121) #[] #[ptr b1 0]]) Try.call120 rfl (IndexFuncFound_spec hal hu hf1 (hlt := (by first | assumption | rfl | omega | (left; simp; done) | (right; simp; done))) (hlu := (by first | assumption | rfl | omega | (left; simp; done) | (right; simp; done)))) ?_)
 rintro _ _ _ _ ⟨rfl, rfl, rfl⟩
 refine XL.cons (XOp.assign (.int .i64 (foundI al u)) rfl ?_)
 refine XL.nil ?_
 refine X.ret (retEnd (L' := L) [.int .i64 (foundI al u)] (.int .i64 (foundI al u)) (.tmp rfl .nil) rfl (FLe.refl _) le1 (Sub.refl _) ?_)
 exact ⟨rfl, rfl, rfl⟩

/- impl.reach -/
set_option maxRecDepth 20000 in
theorem reach_spec {F : FH} {L : List HP} {arv : Value} {ar : List Int} (har : IntsF F arv ar) {rsv : Value} {rs : List (List Int × List Int)} (hrs : PairsF F rsv rs) {tv : Value} {t : List Int} (ht : IntsF F tv t) {n : Int} (hsys : sysOk ar rs = true) (ho : termOk ar t = true) (hn20 : 0 ≤ n ∧ n ≤ 20) :
    Does Try.prog 66 [.agg #[arv, rsv], tv, .int .i64 (n)] F (L) (fun v F' L' => ∃ (a : Value) (acs : List Value) (Ls : List HP), (.tuple #[a, .bool (reachL ar rs t n).2] : Value) = v ∧ FoundsF F' a (reachL ar rs t n).1 acs ∧ DeepL 6 (FoundO 2) acs (reachL ar rs t n).1 Ls ∧ Fresh F F' (star Ls) ∧ L = L') := by
 refine Does.of_X Try.func66 rfl rfl rfl ?_
 have hnn := notNil_of_pos ht (by have := termOk_len ho; omega)
 have htl := termOk_len ho
 have hrl := (sysOk_iff.1 hsys).2.1
 have hsig := (sysOk_iff.1 hsys).1
 have hsl := sigOk_spec hsig
 refine X.seq ?_
 refine X.region ?_
 refine XL.cons (XOp.box [arv, rsv] rfl rfl ?_)
 intro b1
 refine XL.cons (XOp.assign ((.slice none 0 0)) rfl ?_)
 refine XL.cons (XOp.assign (.bool (false)) rfl ?_)
 refine XL.nil ?_
 refine X.seq ?_
 refine X.region ?_
 refine XL.cons (XOp.move (tv) rfl ?_)
 refine XL.cons (XOp.frzF <| XOp.call (args := [tv]) Try.call94 rfl (Clone_spec ht (hlt := (by first | assumption | rfl | omega | (left; simp; done) | (right; simp; done)))) ?_)
 rintro v1 _ _ _ ⟨rfl, hs1, rfl⟩
 refine ⟨_, _, rfl, fun F1 le1 hz1 => ?_⟩
 replace har := har.mono le1
 replace hrs := hrs.mono le1
 replace ht := ht.mono le1
 have hf1 : IntsF F1 v1 ((t)) := intsH.fz (xs := (t)) hz1.fz
 skip
 refine XL.cons (XOp.build [v1, .int .i64 (-1), .int .i64 (0), .int .i64 (0), (.slice none 0 0), .int .i64 (0)] [(.slice none 0 0), .int .i64 (0), .int .i64 (0), .int .i64 (0), (.slice none 0 0), .int .i64 (0)] [(0, 1), (1, 1), (2, 3), (5, 1)] [(0, [v1]), (1, [.int .i64 (-1)])] Try.runUnderlying91 Try.zeroValue91 rfl (.cons rfl Try.sizeOf22 (.cons rfl Try.sizeOf3 (.cons rfl Try.sizeOf77 (.cons rfl Try.sizeOf2 PlacesAre.nil)))) rfl (.cons (cells_one (IntsF.isSl hf1)) (.cons rfl CellsAre.nil)) ?_)
 refine XL.cons (XOp.buildSlice (s := 6) [v1, .int .i64 (-1), .int .i64 (0), .int .i64 (0), (.slice none 0 0), .int .i64 (0)] [(.slice none 0 0), .int .i64 (0), .int .i64 (0), .int .i64 (0), (.slice none 0 0), .int .i64 (0)] [(0, [v1, .int .i64 (-1), .int .i64 (0), .int .i64 (0), (.slice none 0 0), .int .i64 (0)])] Try.runUnderlying87 Try.sizeOf91 Try.zeroValue91 rfl (by decide) rfl (.cons rfl CellsAre.nil) rfl ?_)
 intro v2 hv1
 refine XL.cons (XOp.assign (v2) rfl ?_)
 refine XL.nil ?_
 refine X.seq ?_
 refine X.seq ?_
 refine X.region ?_
 refine XL.cons (XOp.assign (.int .i64 (0)) rfl ?_)
 refine XL.nil ?_
 refine X.block ?_
 have hc1 : FoundsC F1 [v1, .int .i64 (-1), .int .i64 (0), .int .i64 (0), (.slice none 0 0), .int .i64 (0)] ([((t), -1, (0, 0, []), 0)] : List FoundT) := (FoundsC.snoc (CO.nil : FoundsC F1 [] []) (y0 := (t)) (y1 := -1) (y2 := 0) (y3 := 0) (y4 := []) (y5 := 0) hf1 IntsF.nilV)
 refine X.loop (α := Nat × Value × List FoundT × List Value × List HP × Nat × FH) (fun xQ => [(2, .int .i64 (n)), (3, ptr b1 0), (8, xQ.2.1), (9, .int .i64 (((xQ.1 : Nat) : Int)))]) (fun xQ => slH 91 6 xQ.2.1 xQ.2.2.2.2.2.1 xQ.2.2.2.1 :: cellsH b1 [arv, rsv] 33 :: L) (fun xQ F' => xQ.2.2.2.2.2.2 = F' ∧ F1 ≤ xQ.2.2.2.2.2.2 ∧ (IsSl xQ.2.1) ∧ (FoundsC xQ.2.2.2.2.2.2 xQ.2.2.2.1 xQ.2.2.1) ∧ (xQ.2.2.2.2.2.1 = xQ.2.2.1.length) ∧ (DeepL 6 (FoundO 2) xQ.2.2.2.1 xQ.2.2.1 xQ.2.2.2.2.1) ∧ (Fresh F xQ.2.2.2.2.2.2 (star xQ.2.2.2.2.1)) ∧ (xQ.1 ≤ xQ.2.2.1.length) ∧ (xQ.2.2.1.length ≤ 60) ∧ (AllOk ar xQ.2.2.1) ∧ (DeepOk n xQ.2.2.1) ∧ (reachL ar rs t n = reachGo ar rs n (60 - xQ.1) xQ.1 xQ.2.2.1)) (fun xQ => 60 - xQ.1) (0, v2, ([((t), -1, (0, 0, []), 0)] : List FoundT), [v1, .int .i64 (-1), .int .i64 (0), .int .i64 (0), (.slice none 0 0), .int .i64 (0)], [intsH 2 v1 t], 1, F1) ⟨rfl, rfl, rfl, rfl, trivial⟩ (Sub.cons (Sub.cons (Sub.refl _))) ⟨rfl, FLe.refl _, ((isSl_lit hv1)), (hc1), (rfl), ((DeepL.snoc .nil rfl ⟨_, _, rfl, rfl⟩ : DeepL 6 (FoundO 2) ([] ++ _) ([] ++ _) ([] ++ _))), ((Fresh.one hz1)), (by simp), (by simp), (AllOk.start ho), (DeepOk.start hn20.1), (rfl)⟩ ?_
 rintro ⟨k, ov, os, ocs, Ts, on, G1⟩ rE _ _ ⟨rfl, leG, hov, hC, hn, hD, hZ, hk, hl, hok, hdo, hgo⟩
 show X _ _ _ _ (envs [(2, .int .i64 (n)), (3, ptr b1 0), (8, ov), (9, .int .i64 (((k : Nat) : Int)))] rE) _ (slH 91 6 ov on ocs :: cellsH b1 [arv, rsv] 33 :: L)
 replace leG : F1 ≤ G1 := leG
 dsimp only at hov hC hn hD hZ hk hl hok hdo hgo
 have hdk : k < os.length → termOk ar (os.getD k ([], 0, (0, 0, []), 0)).1 = true := fun h => hok k h
 have hdl : k < os.length → 1 ≤ (os.getD k ([], 0, (0, 0, []), 0)).1.length ∧ (os.getD k ([], 0, (0, 0, []), 0)).1.length ≤ 60 := fun h => termOk_len (hok k h)
 have leG1 := leG
 replace har := har.mono leG1
 replace hrs := hrs.mono leG1
 replace ht := ht.mono leG1
 replace hf1 := hf1.mono leG1
 replace hc1 := hc1.mono leG1
 refine X.seq ?_
 refine X.seq ?_
 refine X.region ?_
 refine XL.cons (XOp.move (.int .i64 (((k : Nat) : Int))) rfl ?_)
 refine XL.cons (XOp.move (ov) rfl ?_)
 refine XL.cons (XOp.lenS (v := ov) (n := on) Try.runUnderlying87 rfl (SlV.own [] rfl) ?_)
 refine XL.cons (XOp.lss (a := ((k : Nat) : Int)) (b := ((on : Nat) : Int)) rfl rfl ?_)
 refine XL.nil ?_
 refine X.condD (p := (((k : Nat) : Int) : Int) < ((on : Nat) : Int)) rfl (fun h1 => ?_) (fun h1 => ?_)
 ·refine X.skip ?_
  refine X.seq ?_
  refine X.block ?_
  refine X.seq ?_
  refine X.seq ?_
  refine X.region ?_
  refine XL.cons (XOp.move (ov) rfl ?_)
  refine XL.cons (XOp.move (.int .i64 (((k : Nat) : Int))) rfl ?_)
  refine XL.cons (XOp.indexS (v := ov) (i := ((k : Nat) : Int)) (n := on) k Try.runUnderlying87 Try.sizeOf91 rfl rfl rfl (SlV.own [] rfl) (by omega) rfl ?_)
  refine XL.cons (XOp.fieldE (v := ov) (k * 6 + 5) Try.runUnderlying91 rfl Try.sizeOf2 (by decide) rfl rfl ?_)
  obtain ⟨a1, a2, ha1, ha2, hq1⟩ := hC.get (i := k) (by omega)
  refine XL.cons (XOp.load1 (v := .int .i64 ((os.getD k ([], 0, (0, 0, []), 0)).2.2.2)) Try.isAgg2 rfl (Rd.sl [] rfl (hq1 5 _ rfl)) ?_)
  refine XL.cons (XOp.move (.int .i64 (n)) rfl ?_)
  refine XL.cons (XOp.eql (a := (os.getD k ([], 0, (0, 0, []), 0)).2.2.2) (b := n) rfl rfl ?_)
  refine XL.nil ?_
  refine X.condD (p := ((os.getD k ([], 0, (0, 0, []), 0)).2.2.2 : Int) = n) rfl (fun h2 => ?_) (fun h2 => ?_)
  ·have hdeep : (EL os k).2.2.2 = n := h2
   refine X.exit (thenQ_exit (blockQ_exit ?_))
   refine X.region ?_
   refine XL.cons (XOp.move (.int .i64 (((k : Nat) : Int))) rfl ?_)
   refine XL.cons (XOp.addR (a := ((k : Nat) : Int)) (b := 1) (((k + 1 : Nat) : Int)) rfl rfl (by omega) (by omega) ?_)
   refine XL.cons (XOp.assign (.int .i64 (((k + 1 : Nat) : Int))) rfl ?_)
   refine XL.nil ?_
   exact ⟨(k + 1, ov, os, ocs, Ts, on, G1), _, leG1, (FLe.refl _), ⟨rfl, rfl, rfl, rfl, trivial⟩, (Sub.cons (Sub.cons (Sub.refl _))), ⟨rfl, leG1, (hov), (hC), (hn), (hD), (hZ), (by (try dsimp only) <;> omega), (by (try dsimp only) <;> omega), (hok), (hdo), (by (try dsimp only); exact hgo.trans (reach_same (f := 60 - k - 1) (by omega) (by omega) hdeep))⟩, (by (try dsimp only); omega)⟩
  ·have hdeep : (EL os k).2.2.2 ≠ n := h2
   refine X.skip ?_
   refine X.seq ?_
   refine X.drawG [slH 91 6 ov on ocs, cellsH b1 [arv, rsv] 33] L 11 [[], [], [], [], [], [], [], [6], [6], [], [6]] [[], [], [], [1, 2], [3], [4], [0, 5], [6], [6, 7], [6, 7], [6, 8]] [[], [], [], [], [], [], [], [], [], [], []] (phiG [fun FF us v => v = (.agg #[arv, rsv] : Value), fun FF us v => v = ov, fun FF us v => v = (.int .i64 (((k : Nat) : Int)) : Value), fun FF us v => v = (.pointer (some (elemA ov (k * 6))) : Value), fun FF us v => v = (.pointer (some (elemA ov (k * 6))) : Value), fun FF us v => v = a1, fun FF us v => (.tuple #[((tupAt v 0)), .bool (longL ar rs ((os.getD k ([], 0, (0, 0, []), 0)).1))] : Value) = v ∧ (FrStepsF G1 FF 2 ((tupAt v 0)) (stepsL ar rs ((os.getD k ([], 0, (0, 0, []), 0)).1))), fun FF us v => v = (.tuple #[((tupAt (us.getD 0 undef) 0)), .bool (longL ar rs ((os.getD k ([], 0, (0, 0, []), 0)).1))] : Value), fun FF us v => v = ((tupAt (us.getD 0 undef) 0)), fun FF us v => v = (.bool (longL ar rs ((os.getD k ([], 0, (0, 0, []), 0)).1)) : Value), fun FF us v => v = ((tupAt (us.getD 0 undef) 0))]) (ownL [fun us v => [], fun us v => [], fun us v => [], fun us v => [], fun us v => [], fun us v => [], fun us v => [], fun us v => [], fun us v => [], fun us v => [], fun us v => []]) mixed rfl rfl (by kernel_rfl) (by kernel_rfl) (MonoG.get (MonoG.cons (fun le h => h) (MonoG.cons (fun le h => h) (MonoG.cons (fun le h => h) (MonoG.cons (fun le h => h) (MonoG.cons (fun le h => h) (MonoG.cons (fun le h => h) (MonoG.cons (fun le h => ⟨h.1, h.2.mono le⟩) (MonoG.cons (fun le h => h) (MonoG.cons (fun le h => h) (MonoG.cons (fun le h => h) (MonoG.cons (fun le h => h) MonoG.nil)))))))))))) ?_ ?_
   ·refine stepsG.cons (fun vals Fs R leFs hpZ => ?_) ?_
    ·replace har := har.mono leFs
     replace hrs := hrs.mono leFs
     replace ht := ht.mono leFs
     replace hf1 := hf1.mono leFs
     replace hc1 := hc1.mono leFs
     replace hC := hC.mono leFs
     replace ha1 := ha1.mono leFs
     replace ha2 := ha2.mono leFs
     refine XG.op (XOp.loadN [arv, rsv] Try.isAgg33 Try.sizeOf33 rfl rfl (Rd.ownN [_] rfl rfl) ?_)
     exact ⟨rfl, rfl⟩
    refine stepsG.cons (fun vals Fs R leFs hpZ => ?_) ?_
    ·refine XG.op (XOp.move (ov) rfl ?_)
     exact ⟨rfl, rfl⟩
    refine stepsG.cons (fun vals Fs R leFs hpZ => ?_) ?_
    ·refine XG.op (XOp.move (.int .i64 (((k : Nat) : Int))) rfl ?_)
     exact ⟨rfl, rfl⟩
    refine stepsG.cons (fun vals Fs R leFs hpZ => ?_) ?_
    ·have e1 : vals 1 = ov := hpZ 1 (by decide)
     have e2 : vals 2 = (.int .i64 (((k : Nat) : Int)) : Value) := hpZ 2 (by decide)
     replace har := har.mono leFs
     replace hrs := hrs.mono leFs
     replace ht := ht.mono leFs
     replace hf1 := hf1.mono leFs
     replace hc1 := hc1.mono leFs
     replace hC := hC.mono leFs
     replace ha1 := ha1.mono leFs
     replace ha2 := ha2.mono leFs
     rw [(envs_of_sat (l := [(1, ov), (2, (.int .i64 (((k : Nat) : Int)) : Value))]) ⟨e1, e2, trivial⟩).symm]
     refine XG.op (XOp.indexS (v := ov) (i := ((k : Nat) : Int)) (n := on) k Try.runUnderlying87 Try.sizeOf91 rfl rfl rfl (SlV.own [] rfl) (by omega) rfl ?_)
     exact ⟨rfl, rfl⟩
    refine stepsG.cons (fun vals Fs R leFs hpZ => ?_) ?_
    ·have e3 : vals 3 = (.pointer (some (elemA ov (k * 6))) : Value) := hpZ 3 (by decide)
     rw [(envs_of_sat (l := [(3, (.pointer (some (elemA ov (k * 6))) : Value))]) ⟨e3, trivial⟩).symm]
     refine XG.op (XOp.fieldE (v := ov) (k * 6) Try.runUnderlying91 rfl Try.sizeOf22 (by decide) rfl rfl ?_)
     exact ⟨rfl, rfl⟩
    refine stepsG.cons (fun vals Fs R leFs hpZ => ?_) ?_
    ·have e4 : vals 4 = (.pointer (some (elemA ov (k * 6))) : Value) := hpZ 4 (by decide)
     replace har := har.mono leFs
     replace hrs := hrs.mono leFs
     replace ht := ht.mono leFs
     replace hf1 := hf1.mono leFs
     replace hc1 := hc1.mono leFs
     replace hC := hC.mono leFs
     replace ha1 := ha1.mono leFs
     replace ha2 := ha2.mono leFs
     rw [(envs_of_sat (l := [(4, (.pointer (some (elemA ov (k * 6))) : Value))]) ⟨e4, trivial⟩).symm]
     refine XG.op (XOp.load1 (v := a1) Try.isAgg22 rfl (Rd.sl [] rfl (hq1 0 _ rfl)) ?_)
     exact ⟨rfl, rfl⟩
    refine stepsG.cons (fun vals Fs R leFs hpZ => ?_) ?_
    ·have e0 : vals 0 = (.agg #[arv, rsv] : Value) := hpZ 0 (by decide)
     have e5 : vals 5 = a1 := hpZ 5 (by decide)
     replace har := har.mono leFs
     replace hrs := hrs.mono leFs
     replace ht := ht.mono leFs
     replace hf1 := hf1.mono leFs
     replace hc1 := hc1.mono leFs
     replace hC := hC.mono leFs
     replace ha1 := ha1.mono leFs
     replace ha2 := ha2.mono leFs
     rw [(envs_of_sat (l := [(0, (.agg #[arv, rsv] : Value)), (5, a1)]) ⟨e0, e5, trivial⟩).symm]
     refine XG.op (XOp.call (args := [.agg #[arv, rsv], a1]) Try.call84 rfl (stepsFrom_spec har hrs ha1 (hsys := (hsys)) (ho := (hdk (by omega)))) ?_)
     rintro _ F3 _ le3 ⟨x2, rfl, hx2, rfl⟩
     replace har := har.mono le3
     replace hrs := hrs.mono le3
     replace ht := ht.mono le3
     replace hf1 := hf1.mono le3
     replace hc1 := hc1.mono le3
     replace hC := hC.mono le3
     replace ha1 := ha1.mono le3
     replace ha2 := ha2.mono le3
     exact ⟨⟨rfl, (hx2.base leFs)⟩, rfl⟩
    refine stepsG.cons (fun vals Fs R leFs hpZ => ?_) ?_
    ·obtain ⟨e6, f6_1hx⟩ := hpZ 6 (by decide)
     rw [(envs_of_sat (l := [(6, (.tuple #[((tupAt (vals 6) 0)), .bool (longL ar rs ((os.getD k ([], 0, (0, 0, []), 0)).1))] : Value))]) ⟨(e6).symm, trivial⟩).symm]
     refine XG.op (XOp.move (.tuple #[((tupAt (vals 6) 0)), .bool (longL ar rs ((os.getD k ([], 0, (0, 0, []), 0)).1))]) rfl ?_)
     exact ⟨rfl, rfl⟩
    refine stepsG.cons (fun vals Fs R leFs hpZ => ?_) ?_
    ·obtain ⟨e6, f6_1hx⟩ := hpZ 6 (by decide)
     have e7 : vals 7 = (.tuple #[((tupAt (vals 6) 0)), .bool (longL ar rs ((os.getD k ([], 0, (0, 0, []), 0)).1))] : Value) := hpZ 7 (by decide)
     rw [(envs_of_sat (l := [(6, (.tuple #[((tupAt (vals 6) 0)), .bool (longL ar rs ((os.getD k ([], 0, (0, 0, []), 0)).1))] : Value)), (7, (.tuple #[((tupAt (vals 6) 0)), .bool (longL ar rs ((os.getD k ([], 0, (0, 0, []), 0)).1))] : Value))]) ⟨(e6).symm, e7, trivial⟩).symm]
     refine XG.op (XOp.extract (((tupAt (vals 6) 0))) rfl rfl ?_)
     exact ⟨rfl, rfl⟩
    refine stepsG.cons (fun vals Fs R leFs hpZ => ?_) ?_
    ·obtain ⟨e6, f6_1hx⟩ := hpZ 6 (by decide)
     have e7 : vals 7 = (.tuple #[((tupAt (vals 6) 0)), .bool (longL ar rs ((os.getD k ([], 0, (0, 0, []), 0)).1))] : Value) := hpZ 7 (by decide)
     rw [(envs_of_sat (l := [(6, (.tuple #[((tupAt (vals 6) 0)), .bool (longL ar rs ((os.getD k ([], 0, (0, 0, []), 0)).1))] : Value)), (7, (.tuple #[((tupAt (vals 6) 0)), .bool (longL ar rs ((os.getD k ([], 0, (0, 0, []), 0)).1))] : Value))]) ⟨(e6).symm, e7, trivial⟩).symm]
     refine XG.op (XOp.extract (.bool (longL ar rs ((os.getD k ([], 0, (0, 0, []), 0)).1))) rfl rfl ?_)
     exact ⟨rfl, rfl⟩
    refine stepsG.cons (fun vals Fs R leFs hpZ => ?_) ?_
    ·obtain ⟨e6, f6_1hx⟩ := hpZ 6 (by decide)
     have e8 : vals 8 = ((tupAt (vals 6) 0)) := hpZ 8 (by decide)
     rw [(envs_of_sat (l := [(6, (.tuple #[((tupAt (vals 6) 0)), .bool (longL ar rs ((os.getD k ([], 0, (0, 0, []), 0)).1))] : Value)), (8, ((tupAt (vals 6) 0)))]) ⟨(e6).symm, e8, trivial⟩).symm]
     refine XG.op (XOp.assign (((tupAt (vals 6) 0))) rfl ?_)
     exact ⟨rfl, rfl⟩
    exact stepsG.nil
   ·intro vals F4 le4 hphi
    have e0 : vals 0 = (.agg #[arv, rsv] : Value) := hphi 0 (by decide)
    have e1 : vals 1 = ov := hphi 1 (by decide)
    have e2 : vals 2 = (.int .i64 (((k : Nat) : Int)) : Value) := hphi 2 (by decide)
    have e3 : vals 3 = (.pointer (some (elemA ov (k * 6))) : Value) := hphi 3 (by decide)
    have e4 : vals 4 = (.pointer (some (elemA ov (k * 6))) : Value) := hphi 4 (by decide)
    have e5 : vals 5 = a1 := hphi 5 (by decide)
    obtain ⟨e6, f6_1hx⟩ := hphi 6 (by decide)
    have e7 : vals 7 = (.tuple #[((tupAt (vals 6) 0)), .bool (longL ar rs ((os.getD k ([], 0, (0, 0, []), 0)).1))] : Value) := hphi 7 (by decide)
    have e8 : vals 8 = ((tupAt (vals 6) 0)) := hphi 8 (by decide)
    have e9 : vals 9 = (.bool (longL ar rs ((os.getD k ([], 0, (0, 0, []), 0)).1)) : Value) := hphi 9 (by decide)
    have e10 : vals 10 = ((tupAt (vals 6) 0)) := hphi 10 (by decide)
    generalize hu1 : ((tupAt (vals 6) 0)) = u1 at e0 e1 e2 e3 e4 e5 e6 f6_1hx e7 e8 e9 e10
    rw [(envs_of_sat (l := [(0, (.agg #[arv, rsv] : Value)), (1, ov), (2, (.int .i64 (((k : Nat) : Int)) : Value)), (3, (.pointer (some (elemA ov (k * 6))) : Value)), (4, (.pointer (some (elemA ov (k * 6))) : Value)), (5, a1), (6, (.tuple #[u1, .bool (longL ar rs ((os.getD k ([], 0, (0, 0, []), 0)).1))] : Value)), (7, (.tuple #[u1, .bool (longL ar rs ((os.getD k ([], 0, (0, 0, []), 0)).1))] : Value)), (8, u1), (9, (.bool (longL ar rs ((os.getD k ([], 0, (0, 0, []), 0)).1)) : Value)), (10, u1)]) ⟨e0, e1, e2, e3, e4, e5, (e6).symm, e7, e8, e9, e10, trivial⟩).symm]
    replace har := har.mono le4
    replace hrs := hrs.mono le4
    replace ht := ht.mono le4
    replace hf1 := hf1.mono le4
    replace hc1 := hc1.mono le4
    replace hC := hC.mono le4
    replace ha1 := ha1.mono le4
    replace ha2 := ha2.mono le4
    show XL _ _ _ _ _ _ _ (slH 91 6 ov on ocs :: cellsH b1 [arv, rsv] 33 :: L)
    refine XL.cons (XOp.assign (.bool (longL ar rs ((os.getD k ([], 0, (0, 0, []), 0)).1))) rfl ?_)
    refine XL.nil ?_
    refine X.seq ?_
    refine X.region ?_
    obtain ⟨cso1, Lso1, hXo1, hDo1, hZo1⟩ := f6_1hx
    skip
    refine XL.cons (XOp.move (u1) rfl ?_)
    refine XL.cons (XOp.lenS (v := u1) (n := ((stepsL ar rs ((os.getD k ([], 0, (0, 0, []), 0)).1))).length) Try.runUnderlying39 rfl hXo1.slv ?_)
    refine XL.cons (XOp.move (.int .i64 (0)) rfl ?_)
    refine XL.nil ?_
    refine X.block ?_
    refine X.loop (α := Nat × Value × List FoundT × List Value × List HP × Nat × FH) (fun xQ => [(2, .int .i64 (n)), (3, ptr b1 0), (8, xQ.2.1), (9, .int .i64 (((k : Nat) : Int))), (41, u1), (42, .int .i64 (((((stepsL ar rs ((os.getD k ([], 0, (0, 0, []), 0)).1))).length : Nat) : Int))), (43, .int .i64 (((xQ.1 : Nat) : Int)))]) (fun xQ => slH 91 6 xQ.2.1 xQ.2.2.2.2.2.1 xQ.2.2.2.1 :: cellsH b1 [arv, rsv] 33 :: L) (fun xQ F' => xQ.2.2.2.2.2.2 = F' ∧ F4 ≤ xQ.2.2.2.2.2.2 ∧ (IsSl xQ.2.1) ∧ (FoundsC xQ.2.2.2.2.2.2 xQ.2.2.2.1 xQ.2.2.1) ∧ (xQ.2.2.2.2.2.1 = xQ.2.2.1.length) ∧ (DeepL 6 (FoundO 2) xQ.2.2.2.1 xQ.2.2.1 xQ.2.2.2.2.1) ∧ (Fresh F xQ.2.2.2.2.2.2 (star (xQ.2.2.2.2.1 ++ Lso1.drop xQ.1))) ∧ (xQ.1 ≤ (stepsL ar rs (os.getD k ([], 0, (0, 0, []), 0)).1).length) ∧ (xQ.2.2.1.length ≤ 60) ∧ (AllOk ar xQ.2.2.1) ∧ (DeepOk n xQ.2.2.1) ∧ (k < xQ.2.2.1.length) ∧ (EL xQ.2.2.1 k = EL os k) ∧ (addGo (k : Int) (EL os k).2.2.2 (stepsL ar rs (os.getD k ([], 0, (0, 0, []), 0)).1) os = addGo (k : Int) (EL os k).2.2.2 ((stepsL ar rs (os.getD k ([], 0, (0, 0, []), 0)).1).drop xQ.1) xQ.2.2.1)) (fun xQ => (stepsL ar rs (os.getD k ([], 0, (0, 0, []), 0)).1).length - xQ.1) (0, ov, os, ocs, Ts, on, F4) ⟨rfl, rfl, rfl, rfl, rfl, rfl, rfl, trivial⟩ (Sub.cons (Sub.cons (Sub.refl _))) ⟨rfl, FLe.refl _, (hov), (hC), (hn), (hD), ((Fresh.app hZ (FLe.trans le1 leG1) hZo1 le4)), (by (try dsimp only) <;> omega), (hl), (hok), (hdo), (by dsimp only; omega), (rfl), (rfl)⟩ ?_
    rintro ⟨q, pv, ps, pcs, Us, pn, G2⟩ rE _ _ ⟨rfl, leG, hpv, hCi, hni, hDi, hZi, hq, hli, hoki, hdi, hkp, hel, hgoi⟩
    show X _ _ _ _ (envs [(2, .int .i64 (n)), (3, ptr b1 0), (8, pv), (9, .int .i64 (((k : Nat) : Int))), (41, u1), (42, .int .i64 (((((stepsL ar rs ((os.getD k ([], 0, (0, 0, []), 0)).1))).length : Nat) : Int))), (43, .int .i64 (((q : Nat) : Int)))] rE) _ (slH 91 6 pv pn pcs :: cellsH b1 [arv, rsv] 33 :: L)
    replace leG : F4 ≤ G2 := leG
    dsimp only at hpv hCi hni hDi hZi hq hli hoki hdi hkp hel hgoi
    have hnl : (stepsL ar rs (os.getD k ([], 0, (0, 0, []), 0)).1).length ≤ 1000 := by have h9 := stepsTo_len (ar := ar) (t := (os.getD k ([], 0, (0, 0, []), 0)).1) (rs := rs) hrl (os.getD k ([], 0, (0, 0, []), 0)).1.length; have h8 := hdl (by omega); show (stepsTo ar rs (os.getD k ([], 0, (0, 0, []), 0)).1 (os.getD k ([], 0, (0, 0, []), 0)).1.length).length ≤ 1000; omega
    have hsok : q < (stepsL ar rs (os.getD k ([], 0, (0, 0, []), 0)).1).length → 1 ≤ ((stepsL ar rs (os.getD k ([], 0, (0, 0, []), 0)).1).getD q (0, 0, [])).2.2.length ∧ ((stepsL ar rs (os.getD k ([], 0, (0, 0, []), 0)).1).getD q (0, 0, [])).2.2.length ≤ 60 := fun h => termOk_len (steps_ok hsys (hdk (by omega)) h)
    have hdn : 0 ≤ (ps.getD k ([], 0, (0, 0, []), 0)).2.2.2 ∧ (ps.getD k ([], 0, (0, 0, []), 0)).2.2.2 ≤ 1000 := by have h8 : (EL ps k).2.2.2 = (EL os k).2.2.2 := (by rw [hel]); have h9 := hdo k (by omega); have h7 : (ps.getD k ([], 0, (0, 0, []), 0)).2.2.2 = (EL ps k).2.2.2 := rfl; omega
    have leG2 := leG
    replace har := har.mono leG2
    replace hrs := hrs.mono leG2
    replace ht := ht.mono leG2
    replace hf1 := hf1.mono leG2
    replace hc1 := hc1.mono leG2
    replace hC := hC.mono leG2
    replace ha1 := ha1.mono leG2
    replace ha2 := ha2.mono leG2
    replace hXo1 := hXo1.mono leG2
    refine X.seq ?_
    refine X.region ?_
    refine XL.cons (XOp.lss (a := ((q : Nat) : Int)) (b := ((((stepsL ar rs ((os.getD k ([], 0, (0, 0, []), 0)).1))).length : Nat) : Int)) rfl rfl ?_)
    refine XL.nil ?_
    refine X.seq ?_
    refine X.condD (p := (((q : Nat) : Int) : Int) < ((((stepsL ar rs ((os.getD k ([], 0, (0, 0, []), 0)).1))).length : Nat) : Int)) rfl (fun h3 => ?_) (fun h3 => ?_)
    ·refine X.skip ?_
     refine X.seq ?_
     refine X.block ?_
     refine X.seq ?_
     refine X.region ?_
     refine XL.cons (XOp.indexS (v := u1) (i := ((q : Nat) : Int)) (n := ((stepsL ar rs ((os.getD k ([], 0, (0, 0, []), 0)).1))).length) q Try.runUnderlying39 Try.sizeOf77 rfl rfl rfl hXo1.slv (by omega) rfl ?_)
     obtain ⟨a3, ha3, hr1, hr2, hr3, hq2⟩ := hXo1.rd (i := q) (by omega)
     refine XL.cons (XOp.loadN [.int .i64 ((((stepsL ar rs ((os.getD k ([], 0, (0, 0, []), 0)).1))).getD q (0, 0, [])).1), .int .i64 ((((stepsL ar rs ((os.getD k ([], 0, (0, 0, []), 0)).1))).getD q (0, 0, [])).2.1), a3] Try.isAgg77 Try.sizeOf77 rfl rfl (Rd.three (hr1 _) (hr2 _) (hr3 _)) ?_)
     refine XL.cons (XOp.alloc [.int .i64 (0), .int .i64 (0), (.slice none 0 0)] Try.zeroValue77 rfl ?_)
     intro b2
     refine XL.cons (XOp.storeN (vs := [.int .i64 ((((stepsL ar rs ((os.getD k ([], 0, (0, 0, []), 0)).1))).getD q (0, 0, [])).1), .int .i64 ((((stepsL ar rs ((os.getD k ([], 0, (0, 0, []), 0)).1))).getD q (0, 0, [])).2.1), a3]) [] _ [.int .i64 ((((stepsL ar rs ((os.getD k ([], 0, (0, 0, []), 0)).1))).getD q (0, 0, [])).1), .int .i64 ((((stepsL ar rs ((os.getD k ([], 0, (0, 0, []), 0)).1))).getD q (0, 0, [])).2.1), a3] Try.sizeOf77 rfl rfl rfl (ones_cons rfl (ones_cons rfl (ones_cons (one_sl (IntsF.isSl ha3)) ones_nil))) rfl rfl rfl ?_)
     refine XL.nil ?_
     refine X.seq ?_
     refine X.seq ?_
     refine X.region ?_
     refine XL.cons (XOp.move (pv) rfl ?_)
     refine XL.cons (XOp.fieldP (b := b2) (2) Try.runUnderlying77 rfl Try.sizeOf22 (by decide) rfl rfl ?_)
     refine XL.cons (XOp.load1 (v := a3) Try.isAgg22 rfl (Rd.own [] rfl rfl) ?_)
     refine XL.cons (XOp.lend [_] _ _ rfl (fun F5 le5 hz2 => ?_))
     have hf2 : FoundsF _ pv ps pcs := (FoundsC.fz (FoundsC.mono hCi (FLe.trans le5 (FLe.refl _))) (by first | rfl | assumption | omega | (rw [List.length_append]; simp only [List.length_singleton]; omega)) hz2 : FoundsF _ pv ps pcs)
     refine id (XOp.call (args := [pv, a3]) Try.call99 rfl (found_spec hf2 ((ha3.mono le5)) (hlt := (by omega)) (hlu := (by have := hsok (by omega); omega))) ?_)
     rintro _ _ _ _ ⟨rfl, rfl, rfl⟩
     show XL _ _ _ _ _ _ _ (slH 91 6 pv pn pcs :: cellsH b2 [.int .i64 ((((stepsL ar rs ((os.getD k ([], 0, (0, 0, []), 0)).1))).getD q (0, 0, [])).1), .int .i64 ((((stepsL ar rs ((os.getD k ([], 0, (0, 0, []), 0)).1))).getD q (0, 0, [])).2.1), a3] 77 :: cellsH b1 [arv, rsv] 33 :: L)
     refine XL.cons (XOp.geq (a := foundI ps ((((stepsL ar rs ((os.getD k ([], 0, (0, 0, []), 0)).1))).getD q (0, 0, [])).2.2)) (b := 0) rfl rfl ?_)
     refine XL.nil ?_
     refine X.condD (p := (foundI ps ((((stepsL ar rs ((os.getD k ([], 0, (0, 0, []), 0)).1))).getD q (0, 0, [])).2.2) : Int) ≥ 0) rfl (fun h4 => ?_) (fun h4 => ?_)
     ·have hin : isIn ps ((stepsL ar rs (os.getD k ([], 0, (0, 0, []), 0)).1).getD q (0, 0, [])).2.2 = true := foundI_iff.1 h4
      refine X.exit (thenQ_exit (blockQ_exit ?_))
      refine X.region ?_
      refine XL.cons (XOp.addR (a := ((q : Nat) : Int)) (b := 1) (((q + 1 : Nat) : Int)) rfl rfl (by omega) (by omega) ?_)
      refine XL.cons (XOp.move (.int .i64 (((q + 1 : Nat) : Int))) rfl ?_)
      refine XL.nil ?_
      exact ⟨(q + 1, pv, ps, pcs, Us, pn, G2), _, leG2, (FLe.refl _), ⟨rfl, rfl, rfl, rfl, rfl, rfl, rfl, trivial⟩, (Sub.cons (Sub.drop (Sub.cons (Sub.refl _)))), ⟨rfl, leG2, (hpv), (hCi), (hni), (hDi), ((Fresh.skipLeaf hZi ((hDo1.leaves).2 q a3 (by omega) hq2))), (by (try dsimp only) <;> omega), (by (try dsimp only) <;> omega), (hoki), (hdi), (by (try dsimp only) <;> omega), (hel), (by (try dsimp only); exact hgoi.trans (add_in (by omega) hin))⟩, (by omega)⟩
     ·have hnin : isIn ps ((stepsL ar rs (os.getD k ([], 0, (0, 0, []), 0)).1).getD q (0, 0, [])).2.2 = false := by rw [Bool.eq_false_iff]; exact fun h9 => h4 (foundI_iff.2 h9)
      refine X.skip ?_
      refine X.seq ?_
      refine X.seq ?_
      refine X.region ?_
      refine XL.cons (XOp.move (pv) rfl ?_)
      refine XL.cons (XOp.lenS (v := pv) (n := pn) Try.runUnderlying87 rfl (SlV.own [] rfl) ?_)
      refine XL.cons (XOp.eql (a := ((pn : Nat) : Int)) (b := 60) rfl rfl ?_)
      refine XL.nil ?_
      refine X.condD (p := (((pn : Nat) : Int) : Int) = 60) rfl (fun h5 => ?_) (fun h5 => ?_)
      ·refine X.seq ?_
       refine X.region ?_
       refine XL.cons (XOp.move (pv) rfl ?_)
       refine XL.cons (XOp.assign (pv) rfl ?_)
       refine XL.cons (XOp.assign (.bool (false)) rfl ?_)
       refine XL.nil ?_
       refine X.freezeF [] _ _ rfl (fun F6 le6 hz3 => ?_)
       replace har := har.mono le6
       replace hrs := hrs.mono le6
       replace ht := ht.mono le6
       replace hf1 := hf1.mono le6
       replace hc1 := hc1.mono le6
       replace hC := hC.mono le6
       replace ha1 := ha1.mono le6
       replace ha2 := ha2.mono le6
       replace hXo1 := hXo1.mono le6
       replace hCi := hCi.mono le6
       replace ha3 := ha3.mono le6
       replace hr1 := Rd.monoA hr1 le6
       replace hr2 := Rd.monoA hr2 le6
       replace hr3 := Rd.monoA hr3 le6
       have hf3 : FoundsF F6 pv ps pcs := FoundsC.fz hCi (by first | rfl | simp | omega) hz3.fz
       refine X.ret (thenQ_ret (blockQ_ret (thenQ_ret (thenQ_ret (blockQ_ret (blockQ_ret (thenQ_ret (thenQ_ret (blockQ_ret (thenQ_ret (retEnd (L' := L) [pv, .bool (false)] (.tuple #[pv, .bool (false)]) (.tmp rfl (.tmp rfl .nil)) rfl (FLe.trans (FLe.trans (FLe.trans (FLe.trans le1 leG1) le4) leG2) le6) (FLe.refl _) (Sub.drop (Sub.drop (Sub.refl _))) ?_)))))))))))
       have h9 := hgoi.trans (add_full (by omega) hnin (by omega))
       have h8 := reach_stop (ar := ar) (rs := rs) (n := n) (f := 60 - k - 1) (show k < os.length by omega) (by omega) hdeep (by rw [h9])
       have e9 : reachL ar rs t n = (ps, false) := (hgo.trans h8).trans h9
       rw [e9]
       exact ⟨_, _, _, rfl, hf3, hDi, ((Fresh.noMore hZi).mono le6), rfl⟩
      ·refine X.skip ?_
       obtain ⟨a4, a5, ha4, ha5, hq3⟩ := hCi.get (i := k) (by omega)
       refine X.draw [slH 91 6 pv pn pcs, cellsH b2 [.int .i64 ((((stepsL ar rs ((os.getD k ([], 0, (0, 0, []), 0)).1))).getD q (0, 0, [])).1), .int .i64 ((((stepsL ar rs ((os.getD k ([], 0, (0, 0, []), 0)).1))).getD q (0, 0, [])).2.1), a3] 77, cellsH b1 [arv, rsv] 33] L 13 [[], [], [], [], [], [], [], [], [], [], [], [], []] [[], [], [1], [], [], [], [], [5, 6], [7], [8], [9], [2, 3, 4, 10], [11]] (phiL [fun us v => v = pv, fun us v => v = ptr b2 2, fun us v => v = a3, fun us v => v = (.int .i64 (((k : Nat) : Int)) : Value), fun us v => v = (.agg #[.int .i64 ((((stepsL ar rs ((os.getD k ([], 0, (0, 0, []), 0)).1))).getD q (0, 0, [])).1), .int .i64 ((((stepsL ar rs ((os.getD k ([], 0, (0, 0, []), 0)).1))).getD q (0, 0, [])).2.1), a3] : Value), fun us v => v = pv, fun us v => v = (.int .i64 (((k : Nat) : Int)) : Value), fun us v => v = (.pointer (some (elemA pv (k * 6))) : Value), fun us v => v = (.pointer (some (elemA pv (k * 6 + 5))) : Value), fun us v => v = (.int .i64 ((ps.getD k ([], 0, (0, 0, []), 0)).2.2.2) : Value), fun us v => v = (.int .i64 (((ps.getD k ([], 0, (0, 0, []), 0)).2.2.2) + 1) : Value), fun us v => v = (.agg #[a3, .int .i64 (((k : Nat) : Int)), .int .i64 ((((stepsL ar rs ((os.getD k ([], 0, (0, 0, []), 0)).1))).getD q (0, 0, [])).1), .int .i64 ((((stepsL ar rs ((os.getD k ([], 0, (0, 0, []), 0)).1))).getD q (0, 0, [])).2.1), a3, .int .i64 (((ps.getD k ([], 0, (0, 0, []), 0)).2.2.2) + 1)] : Value), fun us v => ∃ b, v = .slice (some ⟨b, 0, none⟩) 1 1]) (ownL [fun us v => [], fun us v => [], fun us v => [], fun us v => [], fun us v => [], fun us v => [], fun us v => [], fun us v => [], fun us v => [], fun us v => [], fun us v => [], fun us v => [], fun us v => [slH 91 6 v 1 [a3, .int .i64 (((k : Nat) : Int)), .int .i64 ((((stepsL ar rs ((os.getD k ([], 0, (0, 0, []), 0)).1))).getD q (0, 0, [])).1), .int .i64 ((((stepsL ar rs ((os.getD k ([], 0, (0, 0, []), 0)).1))).getD q (0, 0, [])).2.1), a3, .int .i64 (((ps.getD k ([], 0, (0, 0, []), 0)).2.2.2) + 1)]]]) mixed rfl rfl (by kernel_rfl) ?_ ?_
       ·refine stepsP.cons (fun vals R hpZ => ?_) ?_
        ·refine XG.op (XOp.move (pv) rfl ?_)
         exact ⟨rfl, rfl, rfl⟩
        refine stepsP.cons (fun vals R hpZ => ?_) ?_
        ·refine XG.op (XOp.fieldP (b := b2) (2) Try.runUnderlying77 rfl Try.sizeOf22 (by decide) rfl rfl ?_)
         exact ⟨rfl, rfl, rfl⟩
        refine stepsP.cons (fun vals R hpZ => ?_) ?_
        ·rw [(envs_of_sat (l := [(1, ptr b2 2)]) ⟨hpZ 1 (by decide), trivial⟩).symm]
         refine XG.op (XOp.load1 (v := a3) Try.isAgg22 rfl (Rd.own [_] rfl rfl) ?_)
         exact ⟨rfl, rfl, rfl⟩
        refine stepsP.cons (fun vals R hpZ => ?_) ?_
        ·refine XG.op (XOp.move (.int .i64 (((k : Nat) : Int))) rfl ?_)
         exact ⟨rfl, rfl, rfl⟩
        refine stepsP.cons (fun vals R hpZ => ?_) ?_
        ·refine XG.op (XOp.loadN [.int .i64 ((((stepsL ar rs ((os.getD k ([], 0, (0, 0, []), 0)).1))).getD q (0, 0, [])).1), .int .i64 ((((stepsL ar rs ((os.getD k ([], 0, (0, 0, []), 0)).1))).getD q (0, 0, [])).2.1), a3] Try.isAgg77 Try.sizeOf77 rfl rfl (Rd.ownN [_] rfl rfl) ?_)
         exact ⟨rfl, rfl, rfl⟩
        refine stepsP.cons (fun vals R hpZ => ?_) ?_
        ·refine XG.op (XOp.move (pv) rfl ?_)
         exact ⟨rfl, rfl, rfl⟩
        refine stepsP.cons (fun vals R hpZ => ?_) ?_
        ·refine XG.op (XOp.move (.int .i64 (((k : Nat) : Int))) rfl ?_)
         exact ⟨rfl, rfl, rfl⟩
        refine stepsP.cons (fun vals R hpZ => ?_) ?_
        ·rw [(envs_of_sat (l := [(5, pv), (6, (.int .i64 (((k : Nat) : Int)) : Value))]) ⟨hpZ 5 (by decide), hpZ 6 (by decide), trivial⟩).symm]
         refine XG.op (XOp.indexS (v := pv) (i := ((k : Nat) : Int)) (n := pn) k Try.runUnderlying87 Try.sizeOf91 rfl rfl rfl (SlV.own [] rfl) (by omega) rfl ?_)
         exact ⟨rfl, rfl, rfl⟩
        refine stepsP.cons (fun vals R hpZ => ?_) ?_
        ·rw [(envs_of_sat (l := [(7, (.pointer (some (elemA pv (k * 6))) : Value))]) ⟨hpZ 7 (by decide), trivial⟩).symm]
         refine XG.op (XOp.fieldE (v := pv) (k * 6 + 5) Try.runUnderlying91 rfl Try.sizeOf2 (by decide) rfl rfl ?_)
         exact ⟨rfl, rfl, rfl⟩
        refine stepsP.cons (fun vals R hpZ => ?_) ?_
        ·rw [(envs_of_sat (l := [(8, (.pointer (some (elemA pv (k * 6 + 5))) : Value))]) ⟨hpZ 8 (by decide), trivial⟩).symm]
         refine XG.op (XOp.load1 (v := .int .i64 ((ps.getD k ([], 0, (0, 0, []), 0)).2.2.2)) Try.isAgg2 rfl (Rd.sl [] rfl (hq3 5 _ rfl)) ?_)
         exact ⟨rfl, rfl, rfl⟩
        refine stepsP.cons (fun vals R hpZ => ?_) ?_
        ·rw [(envs_of_sat (l := [(9, (.int .i64 ((ps.getD k ([], 0, (0, 0, []), 0)).2.2.2) : Value))]) ⟨hpZ 9 (by decide), trivial⟩).symm]
         refine XG.op (XOp.addR (a := (ps.getD k ([], 0, (0, 0, []), 0)).2.2.2) (b := 1) (((ps.getD k ([], 0, (0, 0, []), 0)).2.2.2) + 1) rfl rfl (by omega) (by omega) ?_)
         exact ⟨rfl, rfl, rfl⟩
        refine stepsP.cons (fun vals R hpZ => ?_) ?_
        ·rw [(envs_of_sat (l := [(2, a3), (3, (.int .i64 (((k : Nat) : Int)) : Value)), (4, (.agg #[.int .i64 ((((stepsL ar rs ((os.getD k ([], 0, (0, 0, []), 0)).1))).getD q (0, 0, [])).1), .int .i64 ((((stepsL ar rs ((os.getD k ([], 0, (0, 0, []), 0)).1))).getD q (0, 0, [])).2.1), a3] : Value)), (10, (.int .i64 (((ps.getD k ([], 0, (0, 0, []), 0)).2.2.2) + 1) : Value))]) ⟨hpZ 2 (by decide), hpZ 3 (by decide), hpZ 4 (by decide), hpZ 10 (by decide), trivial⟩).symm]
         refine XG.op (XOp.build [a3, .int .i64 (((k : Nat) : Int)), .int .i64 ((((stepsL ar rs ((os.getD k ([], 0, (0, 0, []), 0)).1))).getD q (0, 0, [])).1), .int .i64 ((((stepsL ar rs ((os.getD k ([], 0, (0, 0, []), 0)).1))).getD q (0, 0, [])).2.1), a3, .int .i64 (((ps.getD k ([], 0, (0, 0, []), 0)).2.2.2) + 1)] [(.slice none 0 0), .int .i64 (0), .int .i64 (0), .int .i64 (0), (.slice none 0 0), .int .i64 (0)] [(0, 1), (1, 1), (2, 3), (5, 1)] [(0, [a3]), (1, [.int .i64 (((k : Nat) : Int))]), (2, [.int .i64 ((((stepsL ar rs ((os.getD k ([], 0, (0, 0, []), 0)).1))).getD q (0, 0, [])).1), .int .i64 ((((stepsL ar rs ((os.getD k ([], 0, (0, 0, []), 0)).1))).getD q (0, 0, [])).2.1), a3]), (3, [.int .i64 (((ps.getD k ([], 0, (0, 0, []), 0)).2.2.2) + 1)])] Try.runUnderlying91 Try.zeroValue91 rfl (.cons rfl Try.sizeOf22 (.cons rfl Try.sizeOf3 (.cons rfl Try.sizeOf77 (.cons rfl Try.sizeOf2 PlacesAre.nil)))) rfl (.cons (cells_one (IntsF.isSl ha3)) (.cons rfl (.cons rfl (.cons rfl CellsAre.nil)))) ?_)
         exact ⟨rfl, rfl, rfl⟩
        refine stepsP.cons (fun vals R hpZ => ?_) ?_
        ·rw [(envs_of_sat (l := [(11, (.agg #[a3, .int .i64 (((k : Nat) : Int)), .int .i64 ((((stepsL ar rs ((os.getD k ([], 0, (0, 0, []), 0)).1))).getD q (0, 0, [])).1), .int .i64 ((((stepsL ar rs ((os.getD k ([], 0, (0, 0, []), 0)).1))).getD q (0, 0, [])).2.1), a3, .int .i64 (((ps.getD k ([], 0, (0, 0, []), 0)).2.2.2) + 1)] : Value))]) ⟨hpZ 11 (by decide), trivial⟩).symm]
         refine XG.op (XOp.buildSlice (s := 6) [a3, .int .i64 (((k : Nat) : Int)), .int .i64 ((((stepsL ar rs ((os.getD k ([], 0, (0, 0, []), 0)).1))).getD q (0, 0, [])).1), .int .i64 ((((stepsL ar rs ((os.getD k ([], 0, (0, 0, []), 0)).1))).getD q (0, 0, [])).2.1), a3, .int .i64 (((ps.getD k ([], 0, (0, 0, []), 0)).2.2.2) + 1)] [(.slice none 0 0), .int .i64 (0), .int .i64 (0), .int .i64 (0), (.slice none 0 0), .int .i64 (0)] [(0, [a3, .int .i64 (((k : Nat) : Int)), .int .i64 ((((stepsL ar rs ((os.getD k ([], 0, (0, 0, []), 0)).1))).getD q (0, 0, [])).1), .int .i64 ((((stepsL ar rs ((os.getD k ([], 0, (0, 0, []), 0)).1))).getD q (0, 0, [])).2.1), a3, .int .i64 (((ps.getD k ([], 0, (0, 0, []), 0)).2.2.2) + 1)])] Try.runUnderlying87 Try.sizeOf91 Try.zeroValue91 rfl (by decide) rfl (.cons rfl CellsAre.nil) rfl ?_)
         intro v4 hv3
         exact ⟨rfl, hv3, rfl⟩
        exact stepsP.nil
       ·intro vals hphi
        have e0 : vals 0 = pv := hphi 0 (by decide)
        have e1 : vals 1 = ptr b2 2 := hphi 1 (by decide)
        have e2 : vals 2 = a3 := hphi 2 (by decide)
        have e3 : vals 3 = (.int .i64 (((k : Nat) : Int)) : Value) := hphi 3 (by decide)
        have e4 : vals 4 = (.agg #[.int .i64 ((((stepsL ar rs ((os.getD k ([], 0, (0, 0, []), 0)).1))).getD q (0, 0, [])).1), .int .i64 ((((stepsL ar rs ((os.getD k ([], 0, (0, 0, []), 0)).1))).getD q (0, 0, [])).2.1), a3] : Value) := hphi 4 (by decide)
        have e5 : vals 5 = pv := hphi 5 (by decide)
        have e6 : vals 6 = (.int .i64 (((k : Nat) : Int)) : Value) := hphi 6 (by decide)
        have e7 : vals 7 = (.pointer (some (elemA pv (k * 6))) : Value) := hphi 7 (by decide)
        have e8 : vals 8 = (.pointer (some (elemA pv (k * 6 + 5))) : Value) := hphi 8 (by decide)
        have e9 : vals 9 = (.int .i64 ((ps.getD k ([], 0, (0, 0, []), 0)).2.2.2) : Value) := hphi 9 (by decide)
        have e10 : vals 10 = (.int .i64 (((ps.getD k ([], 0, (0, 0, []), 0)).2.2.2) + 1) : Value) := hphi 10 (by decide)
        have e11 : vals 11 = (.agg #[a3, .int .i64 (((k : Nat) : Int)), .int .i64 ((((stepsL ar rs ((os.getD k ([], 0, (0, 0, []), 0)).1))).getD q (0, 0, [])).1), .int .i64 ((((stepsL ar rs ((os.getD k ([], 0, (0, 0, []), 0)).1))).getD q (0, 0, [])).2.1), a3, .int .i64 (((ps.getD k ([], 0, (0, 0, []), 0)).2.2.2) + 1)] : Value) := hphi 11 (by decide)
        have f12 : ∃ b, (vals 12) = .slice (some ⟨b, 0, none⟩) 1 1 := hphi 12 (by decide)
        generalize hu12 : vals 12 = u2 at f12
        rw [(envs_of_sat (l := [(0, pv), (1, ptr b2 2), (2, a3), (3, (.int .i64 (((k : Nat) : Int)) : Value)), (4, (.agg #[.int .i64 ((((stepsL ar rs ((os.getD k ([], 0, (0, 0, []), 0)).1))).getD q (0, 0, [])).1), .int .i64 ((((stepsL ar rs ((os.getD k ([], 0, (0, 0, []), 0)).1))).getD q (0, 0, [])).2.1), a3] : Value)), (5, pv), (6, (.int .i64 (((k : Nat) : Int)) : Value)), (7, (.pointer (some (elemA pv (k * 6))) : Value)), (8, (.pointer (some (elemA pv (k * 6 + 5))) : Value)), (9, (.int .i64 ((ps.getD k ([], 0, (0, 0, []), 0)).2.2.2) : Value)), (10, (.int .i64 (((ps.getD k ([], 0, (0, 0, []), 0)).2.2.2) + 1) : Value)), (11, (.agg #[a3, .int .i64 (((k : Nat) : Int)), .int .i64 ((((stepsL ar rs ((os.getD k ([], 0, (0, 0, []), 0)).1))).getD q (0, 0, [])).1), .int .i64 ((((stepsL ar rs ((os.getD k ([], 0, (0, 0, []), 0)).1))).getD q (0, 0, [])).2.1), a3, .int .i64 (((ps.getD k ([], 0, (0, 0, []), 0)).2.2.2) + 1)] : Value)), (12, u2)]) ⟨e0, e1, e2, e3, e4, e5, e6, e7, e8, e9, e10, e11, hu12, trivial⟩).symm]
        show XL _ _ _ _ _ _ _ (slH 91 6 u2 1 [a3, .int .i64 (((k : Nat) : Int)), .int .i64 ((((stepsL ar rs ((os.getD k ([], 0, (0, 0, []), 0)).1))).getD q (0, 0, [])).1), .int .i64 ((((stepsL ar rs ((os.getD k ([], 0, (0, 0, []), 0)).1))).getD q (0, 0, [])).2.1), a3, .int .i64 (((ps.getD k ([], 0, (0, 0, []), 0)).2.2.2) + 1)] :: slH 91 6 pv pn pcs :: cellsH b2 [.int .i64 ((((stepsL ar rs ((os.getD k ([], 0, (0, 0, []), 0)).1))).getD q (0, 0, [])).1), .int .i64 ((((stepsL ar rs ((os.getD k ([], 0, (0, 0, []), 0)).1))).getD q (0, 0, [])).2.1), a3] 77 :: cellsH b1 [arv, rsv] 33 :: L)
        refine XL.cons (XOp.append (m := 1) (bytes := 80) (cs := pcs) [_] _ [a3, .int .i64 (((k : Nat) : Int)), .int .i64 ((((stepsL ar rs ((os.getD k ([], 0, (0, 0, []), 0)).1))).getD q (0, 0, [])).1), .int .i64 ((((stepsL ar rs ((os.getD k ([], 0, (0, 0, []), 0)).1))).getD q (0, 0, [])).2.1), a3, .int .i64 (((ps.getD k ([], 0, (0, 0, []), 0)).2.2.2) + 1)] Try.runUnderlying87 Try.typeInfo91 rfl rfl rfl rfl rfl rfl rfl (SlV.own [] rfl) rfl (Rd.lit [] rfl) (ones_cons (one_sl (IntsF.isSl ha3)) (ones_cons rfl (ones_cons rfl (ones_cons rfl (ones_cons (one_sl (IntsF.isSl ha3)) (ones_cons rfl ones_nil)))))) (by (try simp only [List.length_append, List.length_nil, List.length_cons, List.length_singleton]); omega) (by (try simp only [List.length_append, List.length_nil, List.length_cons, List.length_singleton]); omega) ?_)
        intro v5 hs2 hn1 hm1
        have hc2 := FoundsC.snoc hCi (y0 := (((stepsL ar rs ((os.getD k ([], 0, (0, 0, []), 0)).1))).getD q (0, 0, [])).2.2) (y1 := ((k : Nat) : Int)) (y2 := (((stepsL ar rs ((os.getD k ([], 0, (0, 0, []), 0)).1))).getD q (0, 0, [])).1) (y3 := (((stepsL ar rs ((os.getD k ([], 0, (0, 0, []), 0)).1))).getD q (0, 0, [])).2.1) (y4 := (((stepsL ar rs ((os.getD k ([], 0, (0, 0, []), 0)).1))).getD q (0, 0, [])).2.2) (y5 := ((ps.getD k ([], 0, (0, 0, []), 0)).2.2.2) + 1) ha3 ha3
        refine XL.cons (XOp.assign (v5) rfl ?_)
        refine XL.nil ?_
        refine X.region ?_
        refine XL.cons (XOp.addR (a := ((q : Nat) : Int)) (b := 1) (((q + 1 : Nat) : Int)) rfl rfl (by omega) (by omega) ?_)
        refine XL.cons (XOp.move (.int .i64 (((q + 1 : Nat) : Int))) rfl ?_)
        refine XL.nil ?_
        exact ⟨(q + 1, v5, ps ++ [((((stepsL ar rs ((os.getD k ([], 0, (0, 0, []), 0)).1))).getD q (0, 0, [])).2.2, ((k : Nat) : Int), ((((stepsL ar rs ((os.getD k ([], 0, (0, 0, []), 0)).1))).getD q (0, 0, [])).1, (((stepsL ar rs ((os.getD k ([], 0, (0, 0, []), 0)).1))).getD q (0, 0, [])).2.1, (((stepsL ar rs ((os.getD k ([], 0, (0, 0, []), 0)).1))).getD q (0, 0, [])).2.2), ((ps.getD k ([], 0, (0, 0, []), 0)).2.2.2) + 1)], pcs ++ [a3, .int .i64 (((k : Nat) : Int)), .int .i64 ((((stepsL ar rs ((os.getD k ([], 0, (0, 0, []), 0)).1))).getD q (0, 0, [])).1), .int .i64 ((((stepsL ar rs ((os.getD k ([], 0, (0, 0, []), 0)).1))).getD q (0, 0, [])).2.1), a3, .int .i64 (((ps.getD k ([], 0, (0, 0, []), 0)).2.2.2) + 1)], Us ++ [intsH 2 a3 ((stepsL ar rs (os.getD k ([], 0, (0, 0, []), 0)).1).getD q (0, 0, [])).2.2], (pn) + 1, G2), _, leG2, (FLe.refl _), ⟨rfl, rfl, rfl, rfl, rfl, rfl, rfl, trivial⟩, (Sub.drop (Sub.cons (Sub.drop (Sub.cons (Sub.refl _))))), ⟨rfl, leG2, (hs2), (hc2), (by (try dsimp only); rw [List.length_append, List.length_singleton]; omega), (DeepL.snoc hDi rfl ⟨_, _, rfl, rfl⟩), ((Fresh.keepLeaf hZi ((hDo1.leaves).2 q a3 (by omega) hq2))), (by (try dsimp only) <;> omega), (by (try dsimp only); rw [List.length_append, List.length_singleton]; omega), (hoki.snoc (steps_ok hsys (hdk (by omega)) (by omega))), (hdi.snoc (by have h9 := hdo k (by omega); have h8 : (EL ps k).2.2.2 = (EL os k).2.2.2 := (by rw [hel]); have h7 : (EL ps k).2.2.2 = (ps.getD k ([], 0, (0, 0, []), 0)).2.2.2 := rfl; have h6 : (EL os k).2.2.2 = (os.getD k ([], 0, (0, 0, []), 0)).2.2.2 := rfl; dsimp only; omega)), (by (try dsimp only); rw [List.length_append, List.length_singleton]; omega), (by (try dsimp only); rw [EL_snoc (by omega)]; exact hel), (by (try dsimp only); rw [show (ps.getD k ([], 0, (0, 0, []), 0)) = EL os k from hel]; exact hgoi.trans (add_new (by omega) hnin (by omega)))⟩, (by omega)⟩
    ·refine X.exit (thenQ_exit (thenQ_exit (blockQ_exit ?_)))
     refine X.region ?_
     refine XL.cons (XOp.move (.int .i64 (((k : Nat) : Int))) rfl ?_)
     refine XL.cons (XOp.addR (a := ((k : Nat) : Int)) (b := 1) (((k + 1 : Nat) : Int)) rfl rfl (by omega) (by omega) ?_)
     refine XL.cons (XOp.assign (.int .i64 (((k + 1 : Nat) : Int))) rfl ?_)
     refine XL.nil ?_
     exact ⟨(k + 1, pv, ps, pcs, Us, pn, G2), _, (FLe.trans (FLe.trans leG1 le4) leG2), (FLe.refl _), ⟨rfl, rfl, rfl, rfl, trivial⟩, (Sub.cons (Sub.cons (Sub.refl _))), ⟨rfl, (FLe.trans (FLe.trans leG1 le4) leG2), (hpv), (hCi), (hni), (hDi), ((Fresh.noMore hZi)), (by (try dsimp only); omega), (by (try dsimp only) <;> omega), (hoki), (hdi), (by (try dsimp only); have h9 := hgoi.trans (add_end (by omega)); have h8 := reach_more (ar := ar) (rs := rs) (n := n) (f := 60 - k - 1) (show k < os.length by omega) (by omega) hdeep (by rw [h9]); rw [h9] at h8; exact hgo.trans h8)⟩, (by (try dsimp only); omega)⟩
 ·refine X.exit (thenQ_exit (thenQ_exit (blockQ_exit ?_)))
  refine X.seq ?_
  refine X.region ?_
  refine XL.cons (XOp.move (ov) rfl ?_)
  refine XL.cons (XOp.assign (ov) rfl ?_)
  refine XL.cons (XOp.assign (.bool (true)) rfl ?_)
  refine XL.nil ?_
  refine X.freezeF [] _ _ rfl (fun F7 le7 hz4 => ?_)
  replace har := har.mono le7
  replace hrs := hrs.mono le7
  replace ht := ht.mono le7
  replace hf1 := hf1.mono le7
  replace hc1 := hc1.mono le7
  replace hC := hC.mono le7
  have hf4 : FoundsF F7 ov os ocs := FoundsC.fz hC (by first | rfl | simp | omega) hz4.fz
  refine X.ret (retEnd (L' := L) [ov, .bool (true)] (.tuple #[ov, .bool (true)]) (.tmp rfl (.tmp rfl .nil)) rfl (FLe.trans (FLe.trans le1 leG1) le7) (FLe.refl _) (Sub.drop (Sub.refl _)) ?_)
  have e9 : reachL ar rs t n = (os, true) := hgo.trans (reach_done (by omega) hl)
  rw [e9]
  exact ⟨_, _, _, rfl, hf4, hD, (hZ.mono le7), rfl⟩

/- impl.reachOk -/
theorem reachOk_spec {F : FH} {L : List HP} {arv : Value} {ar : List Int} (har : IntsF F arv ar) {rsv : Value} {rs : List (List Int × List Int)} (hrs : PairsF F rsv rs) {n : Int} {tsv : Value} {ts : List (List Int)} (hts : RowsF F tsv ts) (hlt : ts.length ≤ 4000000) :
    Does Try.prog 51 [.agg #[arv, rsv], .int .i64 (n), tsv] F (L) (fun v F' L' => (.bool (reachOkL ar rs n ts) : Value) = v ∧ F = F' ∧ L = L') := by
 refine Does.of_X Try.func51 rfl rfl rfl ?_
 refine X.seq ?_
 refine X.region ?_
 refine XL.cons (XOp.box [arv, rsv] rfl rfl ?_)
 intro b1
 refine XL.cons (XOp.assign (.bool (false)) rfl ?_)
 refine XL.nil ?_
 refine X.seq ?_
 refine X.seq ?_
 refine X.region ?_
 refine XL.cons (XOp.loadN [arv, rsv] Try.isAgg33 Try.sizeOf33 rfl rfl (Rd.ownN [] rfl rfl) ?_)
 refine XL.cons (XOp.call (args := [.agg #[arv, rsv]]) Try.call55 rfl (SystemOk_spec har hrs) ?_)
 rintro _ _ _ _ ⟨rfl, rfl, rfl⟩
 refine XL.cons (XOp.notB (b := sysOk ar rs) rfl ?_)
 refine XL.cons (XOp.move (.bool (!(sysOk ar rs))) rfl ?_)
 by_cases h1 : (!(sysOk ar rs)) = true
 ·refine XL.no (t := 12) rfl (congrArg Value.bool h1) ?_
  refine XL.no (t := 12) rfl (congrArg Value.bool h1) ?_
  refine XL.cons (XOp.pickT (.bool (true)) (congrArg Value.bool h1) rfl ?_)
  refine XL.cons (XOp.move (.bool (true)) rfl ?_)
  refine XL.no (t := 16) rfl rfl ?_
  refine XL.no (t := 16) rfl rfl ?_
  refine XL.cons (XOp.pickT (.bool (true)) rfl rfl ?_)
  refine XL.nil ?_
  refine X.condT rfl ?_
  refine X.seq ?_
  refine X.region ?_
  refine XL.cons (XOp.assign (.bool (false)) rfl ?_)
  refine XL.nil ?_
  refine X.ret (thenQ_ret (retEnd (L' := L) [.bool (false)] (.bool (false)) (.tmp rfl .nil) rfl (FLe.refl _) (FLe.refl _) (Sub.drop (Sub.refl _)) ?_))
  exact ⟨(congrArg Value.bool (by unfold reachOkL; simp_all <;> omega)), rfl, rfl⟩
 ·rw [Bool.not_eq_true] at h1
  refine XL.yes (t := 12) rfl (congrArg Value.bool h1) (XOp.move (.int .i64 (n)) rfl ?_)
  refine XL.yes (t := 12) rfl (congrArg Value.bool h1) (XOp.lss (a := n) (b := 0) rfl rfl ?_)
  refine XL.cons (XOp.pickF (.bool (decide ((n : Int) < 0))) (congrArg Value.bool h1) rfl ?_)
  refine XL.cons (XOp.move (.bool (decide ((n : Int) < 0))) rfl ?_)
  by_cases h2 : (n : Int) < 0
  ·refine XL.no (t := 16) rfl (congrArg Value.bool (decide_eq_true h2)) ?_
   refine XL.no (t := 16) rfl (congrArg Value.bool (decide_eq_true h2)) ?_
   refine XL.cons (XOp.pickT (.bool (true)) (congrArg Value.bool (decide_eq_true h2)) rfl ?_)
   refine XL.nil ?_
   refine X.condT rfl ?_
   refine X.seq ?_
   refine X.region ?_
   refine XL.cons (XOp.assign (.bool (false)) rfl ?_)
   refine XL.nil ?_
   refine X.ret (thenQ_ret (retEnd (L' := L) [.bool (false)] (.bool (false)) (.tmp rfl .nil) rfl (FLe.refl _) (FLe.refl _) (Sub.drop (Sub.refl _)) ?_))
   exact ⟨(congrArg Value.bool (by unfold reachOkL; simp_all <;> omega)), rfl, rfl⟩
  ·refine XL.yes (t := 16) rfl (congrArg Value.bool (decide_eq_false h2)) (XOp.move (.int .i64 (n)) rfl ?_)
   refine XL.yes (t := 16) rfl (congrArg Value.bool (decide_eq_false h2)) (XOp.gtr (a := n) (b := 20) rfl rfl ?_)
   refine XL.cons (XOp.pickF (.bool (decide ((n : Int) > 20))) (congrArg Value.bool (decide_eq_false h2)) rfl ?_)
   refine XL.nil ?_
   refine X.condD (p := (n : Int) > 20) rfl (fun h3 => ?_) (fun h3 => ?_)
   ·refine X.seq ?_
    refine X.region ?_
    refine XL.cons (XOp.assign (.bool (false)) rfl ?_)
    refine XL.nil ?_
    refine X.ret (thenQ_ret (retEnd (L' := L) [.bool (false)] (.bool (false)) (.tmp rfl .nil) rfl (FLe.refl _) (FLe.refl _) (Sub.drop (Sub.refl _)) ?_))
    exact ⟨(congrArg Value.bool (by unfold reachOkL; simp_all <;> omega)), rfl, rfl⟩
   ·refine X.skip ?_
    refine X.seq ?_
    refine X.seq ?_
    refine X.region ?_
    refine XL.cons (XOp.move (tsv) rfl ?_)
    refine XL.cons (XOp.lenS (v := tsv) (n := (ts).length) Try.runUnderlying49 rfl hts.slv ?_)
    refine XL.cons (XOp.move (.int .i64 (0)) rfl ?_)
    refine XL.nil ?_
    refine X.block ?_
    refine X.loop (α := Nat) (fun k => [(3, ptr b1 0), (20, tsv), (21, .int .i64 ((((ts).length : Nat) : Int))), (22, .int .i64 (((k : Nat) : Int)))]) (fun k => cellsH b1 [arv, rsv] 33 :: L) (fun k F' => F = F' ∧ (k ≤ ts.length) ∧ (∀ i, i < k → termOk ar (ts.getD i []) = true)) (fun k => ts.length - k) 0 ⟨rfl, rfl, rfl, rfl, trivial⟩ (Sub.cons (Sub.refl _)) ⟨rfl, (by (try dsimp only) <;> omega), (fun i hi => absurd hi (by omega))⟩ ?_
    rintro k rE _ _ ⟨rfl, hk, hall⟩
    show X _ _ _ _ (envs [(3, ptr b1 0), (20, tsv), (21, .int .i64 ((((ts).length : Nat) : Int))), (22, .int .i64 (((k : Nat) : Int)))] rE) _ (cellsH b1 [arv, rsv] 33 :: L)
    refine X.seq ?_
    refine X.region ?_
    refine XL.cons (XOp.lss (a := ((k : Nat) : Int)) (b := (((ts).length : Nat) : Int)) rfl rfl ?_)
    refine XL.nil ?_
    refine X.seq ?_
    refine X.condD (p := (((k : Nat) : Int) : Int) < (((ts).length : Nat) : Int)) rfl (fun h4 => ?_) (fun h4 => ?_)
    ·refine X.skip ?_
     refine X.seq ?_
     refine X.block ?_
     refine X.seq ?_
     refine X.region ?_
     refine XL.cons (XOp.indexS (v := tsv) (i := ((k : Nat) : Int)) (n := (ts).length) k Try.runUnderlying49 Try.sizeOf22 rfl rfl rfl hts.slv (by omega) (Nat.mul_one _) ?_)
     obtain ⟨a1, ha1, hr1⟩ := hts.rd (i := k) (by omega)
     refine XL.cons (XOp.load1 (v := a1) Try.isAgg22 rfl (hr1 _) ?_)
     refine XL.cons (XOp.assign (a1) rfl ?_)
     refine XL.nil ?_
     refine X.seq ?_
     refine X.region ?_
     refine XL.cons (XOp.fieldP (b := b1) (0) Try.runUnderlying33 rfl Try.sizeOf30 (by decide) rfl rfl ?_)
     refine XL.cons (XOp.loadN [arv] Try.isAgg30 Try.sizeOf30 rfl rfl (Rd.ownN [] rfl rfl) ?_)
     refine XL.cons (XOp.move (a1) rfl ?_)
     refine XL.cons (XOp.call (args := [.agg #[arv], a1]) Try.call56 rfl (TermOk_spec har ha1) ?_)
     rintro _ _ _ _ ⟨rfl, rfl, rfl⟩
     refine XL.cons (XOp.notB (b := termOk ar ((ts.getD k []))) rfl ?_)
     refine XL.nil ?_
     refine X.cond (t := !(termOk ar ((ts.getD k [])))) rfl (fun h5 => ?_) (fun h5 => ?_)
     ·refine X.seq ?_
      refine X.region ?_
      refine XL.cons (XOp.assign (.bool (false)) rfl ?_)
      refine XL.nil ?_
      refine X.ret (blockQ_ret (thenQ_ret (thenQ_ret (blockQ_ret (thenQ_ret (retEnd (L' := L) [.bool (false)] (.bool (false)) (.tmp rfl .nil) rfl (FLe.refl _) (FLe.refl _) (Sub.drop (Sub.refl _)) ?_))))))
      exact ⟨(congrArg Value.bool (reachOk_fail (k := k) (by omega) (by simp_all))), rfl, rfl⟩
     ·refine X.skip ?_
      refine X.region ?_
      refine XL.cons (XOp.addR (a := ((k : Nat) : Int)) (b := 1) (((k + 1 : Nat) : Int)) rfl rfl (by omega) (by omega) ?_)
      refine XL.cons (XOp.move (.int .i64 (((k + 1 : Nat) : Int))) rfl ?_)
      refine XL.nil ?_
      exact ⟨k + 1, _, FLe.refl _, (FLe.refl _), ⟨rfl, rfl, rfl, rfl, trivial⟩, (Sub.cons (Sub.refl _)), ⟨rfl, (by (try dsimp only) <;> omega), (fun i hi => (Nat.lt_or_ge i k).elim (fun h => hall i h) (fun h => by obtain rfl : i = k := (by omega); simp_all))⟩, (by omega)⟩
    ·refine X.exit (thenQ_exit (thenQ_exit (blockQ_exit ?_)))
     refine X.seq ?_
     refine X.region ?_
     refine XL.cons (XOp.assign (.bool (true)) rfl ?_)
     refine XL.nil ?_
     refine X.ret (retEnd (L' := L) [.bool (true)] (.bool (true)) (.tmp rfl .nil) rfl (FLe.refl _) (FLe.refl _) (Sub.drop (Sub.refl _)) ?_)
     exact ⟨(congrArg Value.bool (reachOk_all (by simp_all) (by omega) (fun i hi => hall i (by omega)))), rfl, rfl⟩
end Go.Proofs.Ytiaanelimbmniaa
