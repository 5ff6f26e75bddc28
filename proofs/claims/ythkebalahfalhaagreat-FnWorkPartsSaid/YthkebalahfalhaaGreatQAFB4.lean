/-
  Walks, one after the other (part 5).
-/
import Derived.Test.YthkebalahfalhaaGreatQAFL1
import Derived.Test.YthkebalahfalhaaGreatQAFB3
set_option linter.unusedSimpArgs false
set_option linter.unusedVariables false
namespace Go.Proofs.YthkebalahfalhaaGreat
open Go X M Tryz

/- spec.l21Known -/
set_option maxHeartbeats 1000000 in
set_option maxRecDepth 20000 in
theorem l21Known_spec {F : FH} {L : List HP} {k : Int} :
    Does prog 25 [ii (k)] F (L) (fun v F' L' => ∃ (a : Value), ∃ (b : Value), ∃ (c : Value), ∃ (ar : List Int), ∃ (es : List (List Int × List Int)), ∃ (rk : List Int), (.tuple #[.agg #[a], b, c] : Value) = v ∧ (IntsF F' a ar) ∧ (PairsF F' b es) ∧ (IntsF F' c rk) ∧ (ar.length ≤ 20) ∧ (es.length ≤ 4) ∧ (smallR es) ∧ (rk.length ≤ 20) ∧ L = L') := by
 refine qH func25 rfl rfl rfl (qc (qa (cX (je [sN] yl rfl ?_))))
 intro b1
 refine qh (sN) rfl (qh (sN) rfl (qb (qc (qa (cX (qD (s := 1) [ii (2), ii (1), ii (0)] [ii (0)] [(0, [ii (2)]), (1, [ii (1)]), (2, [ii (0)])] qf qC jj rfl (by decide) rfl (.cons rfl (.cons rfl (.cons rfl CellsAre.nil))) rfl ?_))))))
 intro v1 hv1
 refine cX (qZ [v1] [sN] [(0, 1)] [(0, [v1])] jk yl rfl (.cons rfl qr PlacesAre.nil) rfl (.cons (cells_one (js hv1)) CellsAre.nil) (cX (je [sN] yl rfl ?_)))
 intro b2
 refine cX (qI [] _ [v1] qB rfl rfl rfl (qm (qy (js hv1)) qO) rfl rfl rfl (qb (qc (qa (cX (qD (s := 1) [ii (1), ii (2), ii (0)] [ii (0)] [(0, [ii (1)]), (1, [ii (2)]), (2, [ii (0)])] qf qC jj rfl (by decide) rfl (.cons rfl (.cons rfl (.cons rfl CellsAre.nil))) rfl ?_))))))
 intro v2 hv2
 refine qh (v2) rfl (qb (qc (qc (qa (qd (ii (k)) rfl (qb (qJ (qc (qa (cX (jo rfl rfl (qh (.bool (decide ((k : Int) = 0))) rfl (qb ?_)))))))))))))
 refine qE (p := (k : Int) = 0) rfl (fun h1 => ?_) (fun h1 => ?_)
 ·refine qc (qa (cX (qv [v1] qU qB rfl rfl (Rd.ownN [_] rfl rfl) (cX (qD (s := 1) [ii (0), ii (2), ii (-1)] [ii (0)] [(0, [ii (0)]), (1, [ii (2)]), (2, [ii (-1)])] qf qC jj rfl (by decide) rfl (.cons rfl (.cons rfl (.cons rfl CellsAre.nil))) rfl ?_)))))
  intro v3 hv3
  refine cX (qD (s := 1) [ii (-1)] [ii (0)] [(0, [ii (-1)])] qf qC jj rfl (by decide) rfl (.cons rfl CellsAre.nil) rfl ?_)
  intro v4 hv4
  refine cX (qZ [v3, v4] [sN, sN] [(0, 1), (1, 1)] [(0, [v3]), (1, [v4])] jd jw rfl (.cons rfl qr (.cons rfl qr PlacesAre.nil)) rfl (.cons (cells_one (js hv3)) (.cons (cells_one (js hv4)) CellsAre.nil)) (cX (qD (s := 1) [ii (0), ii (1), ii (-1), ii (-1)] [ii (0)] [(0, [ii (0)]), (1, [ii (1)]), (2, [ii (-1)]), (3, [ii (-1)])] qf qC jj rfl (by decide) rfl (.cons rfl (.cons rfl (.cons rfl (.cons rfl CellsAre.nil)))) rfl ?_)))
  intro v5 hv5
  refine cX (qD (s := 1) [ii (2)] [ii (0)] [(0, [ii (2)])] qf qC jj rfl (by decide) rfl (.cons rfl CellsAre.nil) rfl ?_)
  intro v6 hv6
  refine cX (qZ [v5, v6] [sN, sN] [(0, 1), (1, 1)] [(0, [v5]), (1, [v6])] jd jw rfl (.cons rfl qr (.cons rfl qr PlacesAre.nil)) rfl (.cons (cells_one (js hv5)) (.cons (cells_one (js hv6)) CellsAre.nil)) (cX (qD (s := 1) [ii (0), ii (0), ii (-1), ii (-2), ii (-3)] [ii (0)] [(0, [ii (0)]), (1, [ii (0)]), (2, [ii (-1)]), (3, [ii (-2)]), (4, [ii (-3)])] qf qC jj rfl (by decide) rfl (.cons rfl (.cons rfl (.cons rfl (.cons rfl (.cons rfl CellsAre.nil))))) rfl ?_)))
  intro v7 hv7
  refine cX (qD (s := 1) [ii (0), ii (-1), ii (0), ii (-2), ii (-3)] [ii (0)] [(0, [ii (0)]), (1, [ii (-1)]), (2, [ii (0)]), (3, [ii (-2)]), (4, [ii (-3)])] qf qC jj rfl (by decide) rfl (.cons rfl (.cons rfl (.cons rfl (.cons rfl (.cons rfl CellsAre.nil))))) rfl ?_)
  intro v8 hv8
  refine cX (qZ [v7, v8] [sN, sN] [(0, 1), (1, 1)] [(0, [v7]), (1, [v8])] jd jw rfl (.cons rfl qr (.cons rfl qr PlacesAre.nil)) rfl (.cons (cells_one (js hv7)) (.cons (cells_one (js hv8)) CellsAre.nil)) (cX (qD (s := 2) [v3, v4, v5, v6, v7, v8] [sN, sN] [(0, [v3, v4]), (1, [v5, v6]), (2, [v7, v8])] qQ jF jw rfl (by decide) rfl (.cons rfl (.cons rfl (.cons rfl CellsAre.nil))) rfl ?_)))
  intro v9 hv9
  refine qd (v2) rfl (cX (qI [_, _, _, _, _, _, _, _, _, _] _ [v1] qB rfl rfl rfl (qm (qy (js hv1)) qO) rfl rfl rfl (qh (v9) rfl (qh (v2) rfl (qb ?_)))))
  show X _ _ _ _ _ _ (slH 53 2 v9 3 [v3, v4, v5, v6, v7, v8] :: slH 2 1 v8 5 [ii (0), ii (-1), ii (0), ii (-2), ii (-3)] :: slH 2 1 v7 5 [ii (0), ii (0), ii (-1), ii (-2), ii (-3)] :: slH 2 1 v6 1 [ii (2)] :: slH 2 1 v5 4 [ii (0), ii (1), ii (-1), ii (-1)] :: slH 2 1 v4 1 [ii (-1)] :: slH 2 1 v3 3 [ii (0), ii (2), ii (-1)] :: slH 2 1 v2 3 [ii (1), ii (2), ii (0)] :: cellsH b2 [v1] 26 :: intsH 2 v1 ([2, 1, 0] : List Int) :: cellsH b1 [v1] 26 :: L)
  refine ji [_, _, _, _, _, _, _, _, _] _ _ rfl (fun F1 le1 hz1 => ?_)
  have hf1 : IntsF F1 v1 ([2, 1, 0]) := intsH.fz (xs := [2, 1, 0]) hz1.fz
  show X _ _ _ _ _ _ (slH 53 2 v9 3 [v3, v4, v5, v6, v7, v8] :: slH 2 1 v8 5 [ii (0), ii (-1), ii (0), ii (-2), ii (-3)] :: slH 2 1 v7 5 [ii (0), ii (0), ii (-1), ii (-2), ii (-3)] :: slH 2 1 v6 1 [ii (2)] :: slH 2 1 v5 4 [ii (0), ii (1), ii (-1), ii (-1)] :: slH 2 1 v4 1 [ii (-1)] :: intsH 2 v3 ([0, 2, -1] : List Int) :: slH 2 1 v2 3 [ii (1), ii (2), ii (0)] :: cellsH b2 [v1] 26 :: cellsH b1 [v1] 26 :: L)
  refine ji [_, _, _, _, _, _] _ _ rfl (fun F2 le2 hz2 => ?_)
  replace hf1 := hf1.mono le2
  have hf2 : IntsF F2 v3 ([0, 2, -1]) := intsH.fz (xs := [0, 2, -1]) hz2.fz
  show X _ _ _ _ _ _ (slH 53 2 v9 3 [v3, v4, v5, v6, v7, v8] :: slH 2 1 v8 5 [ii (0), ii (-1), ii (0), ii (-2), ii (-3)] :: slH 2 1 v7 5 [ii (0), ii (0), ii (-1), ii (-2), ii (-3)] :: slH 2 1 v6 1 [ii (2)] :: slH 2 1 v5 4 [ii (0), ii (1), ii (-1), ii (-1)] :: intsH 2 v4 ([-1] : List Int) :: slH 2 1 v2 3 [ii (1), ii (2), ii (0)] :: cellsH b2 [v1] 26 :: cellsH b1 [v1] 26 :: L)
  refine ji [_, _, _, _, _] _ _ rfl (fun F3 le3 hz3 => ?_)
  replace hf1 := hf1.mono le3
  replace hf2 := hf2.mono le3
  have hf3 : IntsF F3 v4 ([-1]) := intsH.fz (xs := [-1]) hz3.fz
  show X _ _ _ _ _ _ (slH 53 2 v9 3 [v3, v4, v5, v6, v7, v8] :: slH 2 1 v8 5 [ii (0), ii (-1), ii (0), ii (-2), ii (-3)] :: slH 2 1 v7 5 [ii (0), ii (0), ii (-1), ii (-2), ii (-3)] :: slH 2 1 v6 1 [ii (2)] :: intsH 2 v5 ([0, 1, -1, -1] : List Int) :: slH 2 1 v2 3 [ii (1), ii (2), ii (0)] :: cellsH b2 [v1] 26 :: cellsH b1 [v1] 26 :: L)
  refine ji [_, _, _, _] _ _ rfl (fun F4 le4 hz4 => ?_)
  replace hf1 := hf1.mono le4
  replace hf2 := hf2.mono le4
  replace hf3 := hf3.mono le4
  have hf4 : IntsF F4 v5 ([0, 1, -1, -1]) := intsH.fz (xs := [0, 1, -1, -1]) hz4.fz
  show X _ _ _ _ _ _ (slH 53 2 v9 3 [v3, v4, v5, v6, v7, v8] :: slH 2 1 v8 5 [ii (0), ii (-1), ii (0), ii (-2), ii (-3)] :: slH 2 1 v7 5 [ii (0), ii (0), ii (-1), ii (-2), ii (-3)] :: intsH 2 v6 ([2] : List Int) :: slH 2 1 v2 3 [ii (1), ii (2), ii (0)] :: cellsH b2 [v1] 26 :: cellsH b1 [v1] 26 :: L)
  refine ji [_, _, _] _ _ rfl (fun F5 le5 hz5 => ?_)
  replace hf1 := hf1.mono le5
  replace hf2 := hf2.mono le5
  replace hf3 := hf3.mono le5
  replace hf4 := hf4.mono le5
  have hf5 : IntsF F5 v6 ([2]) := intsH.fz (xs := [2]) hz5.fz
  show X _ _ _ _ _ _ (slH 53 2 v9 3 [v3, v4, v5, v6, v7, v8] :: slH 2 1 v8 5 [ii (0), ii (-1), ii (0), ii (-2), ii (-3)] :: intsH 2 v7 ([0, 0, -1, -2, -3] : List Int) :: slH 2 1 v2 3 [ii (1), ii (2), ii (0)] :: cellsH b2 [v1] 26 :: cellsH b1 [v1] 26 :: L)
  refine ji [_, _] _ _ rfl (fun F6 le6 hz6 => ?_)
  replace hf1 := hf1.mono le6
  replace hf2 := hf2.mono le6
  replace hf3 := hf3.mono le6
  replace hf4 := hf4.mono le6
  replace hf5 := hf5.mono le6
  have hf6 : IntsF F6 v7 ([0, 0, -1, -2, -3]) := intsH.fz (xs := [0, 0, -1, -2, -3]) hz6.fz
  show X _ _ _ _ _ _ (slH 53 2 v9 3 [v3, v4, v5, v6, v7, v8] :: intsH 2 v8 ([0, -1, 0, -2, -3] : List Int) :: slH 2 1 v2 3 [ii (1), ii (2), ii (0)] :: cellsH b2 [v1] 26 :: cellsH b1 [v1] 26 :: L)
  refine ji [_] _ _ rfl (fun F7 le7 hz7 => ?_)
  replace hf1 := hf1.mono le7
  replace hf2 := hf2.mono le7
  replace hf3 := hf3.mono le7
  replace hf4 := hf4.mono le7
  replace hf5 := hf5.mono le7
  replace hf6 := hf6.mono le7
  have hf7 : IntsF F7 v8 ([0, -1, 0, -2, -3]) := intsH.fz (xs := [0, -1, 0, -2, -3]) hz7.fz
  have hc1 : PairsC F7 [v3, v4, v5, v6, v7, v8] ([([0, 2, -1], [-1]), ([0, 1, -1, -1], [2]), ([0, 0, -1, -2, -3], [0, -1, 0, -2, -3])] : List (List Int × List Int)) := (PairsC.snoc (PairsC.snoc (PairsC.snoc (CO.nil : PairsC F7 [] []) hf2 hf3) hf4 hf5) hf6 hf7)
  refine ji [] _ _ rfl (fun F8 le8 hz8 => ?_)
  replace hf1 := hf1.mono le8
  replace hc1 := hc1.mono le8
  have hf8 : PairsF F8 v9 (([([0, 2, -1], [-1]), ([0, 1, -1, -1], [2]), ([0, 0, -1, -2, -3], [0, -1, 0, -2, -3])] : List (List Int × List Int))) := CO.fz hc1 (by first | rfl | omega | (rw [List.length_set]; omega) | (simp; done) | (rw [List.length_append]; simp only [List.length_singleton]; omega)) hz8.fz
  show X _ _ _ _ _ _ (intsH 2 v2 ([1, 2, 0] : List Int) :: cellsH b2 [v1] 26 :: cellsH b1 [v1] 26 :: L)
  refine ji [] _ _ rfl (fun F9 le9 hz9 => ?_)
  replace hf1 := hf1.mono le9
  replace hf8 := hf8.mono le9
  have hf9 : IntsF F9 v2 ([1, 2, 0]) := intsH.fz (xs := [1, 2, 0]) hz9.fz
  refine qw (qF (qo (qu (L' := L) [.agg #[v1], v9, v2] (.tuple #[.agg #[v1], v9, v2]) (.cell rfl (jA [v1] qU qB rfl (Rd.ownN [_] rfl rfl)) (.tmp rfl (.tmp rfl .nil))) rfl (qi (qi (qi (qi (qi (qi (qi (qi le1 le2) le3) le4) le5) le6) le7) le8) le9) rF (sD (sD sR)) ?_)))
  exact ⟨_, _, _, _, _, _, rfl, hf1, hf8, hf9, by decide, by decide, by unfold smallR; decide, by decide, rfl⟩
 refine qc (qa (cX (jo rfl rfl (qh (.bool (decide ((k : Int) = 1))) rfl (qb ?_)))))
 refine qE (p := (k : Int) = 1) rfl (fun h2 => ?_) (fun h2 => ?_)
 ·refine qc (qa (cX (qv [v1] qU qB rfl rfl (Rd.ownN [_] rfl rfl) (cX (qD (s := 1) [ii (1), ii (1), ii (-1)] [ii (0)] [(0, [ii (1)]), (1, [ii (1)]), (2, [ii (-1)])] qf qC jj rfl (by decide) rfl (.cons rfl (.cons rfl (.cons rfl CellsAre.nil))) rfl ?_)))))
  intro v10 hv10
  refine cX (qD (s := 1) [ii (-1)] [ii (0)] [(0, [ii (-1)])] qf qC jj rfl (by decide) rfl (.cons rfl CellsAre.nil) rfl ?_)
  intro v11 hv11
  refine cX (qZ [v10, v11] [sN, sN] [(0, 1), (1, 1)] [(0, [v10]), (1, [v11])] jd jw rfl (.cons rfl qr (.cons rfl qr PlacesAre.nil)) rfl (.cons (cells_one (js hv10)) (.cons (cells_one (js hv11)) CellsAre.nil)) (cX (qD (s := 1) [ii (1), ii (2)] [ii (0)] [(0, [ii (1)]), (1, [ii (2)])] qf qC jj rfl (by decide) rfl (.cons rfl (.cons rfl CellsAre.nil)) rfl ?_)))
  intro v12 hv12
  refine cX (qD (s := 1) [ii (2)] [ii (0)] [(0, [ii (2)])] qf qC jj rfl (by decide) rfl (.cons rfl CellsAre.nil) rfl ?_)
  intro v13 hv13
  refine cX (qZ [v12, v13] [sN, sN] [(0, 1), (1, 1)] [(0, [v12]), (1, [v13])] jd jw rfl (.cons rfl qr (.cons rfl qr PlacesAre.nil)) rfl (.cons (cells_one (js hv12)) (.cons (cells_one (js hv13)) CellsAre.nil)) (cX (qD (s := 2) [v10, v11, v12, v13] [sN, sN] [(0, [v10, v11]), (1, [v12, v13])] qQ jF jw rfl (by decide) rfl (.cons rfl (.cons rfl CellsAre.nil)) rfl ?_)))
  intro v14 hv14
  refine qd (v2) rfl (cX (qI [_, _, _, _, _, _, _, _] _ [v1] qB rfl rfl rfl (qm (qy (js hv1)) qO) rfl rfl rfl (qh (v14) rfl (qh (v2) rfl (qb ?_)))))
  show X _ _ _ _ _ _ (slH 53 2 v14 2 [v10, v11, v12, v13] :: slH 2 1 v13 1 [ii (2)] :: slH 2 1 v12 2 [ii (1), ii (2)] :: slH 2 1 v11 1 [ii (-1)] :: slH 2 1 v10 3 [ii (1), ii (1), ii (-1)] :: slH 2 1 v2 3 [ii (1), ii (2), ii (0)] :: cellsH b2 [v1] 26 :: intsH 2 v1 ([2, 1, 0] : List Int) :: cellsH b1 [v1] 26 :: L)
  refine ji [_, _, _, _, _, _, _] _ _ rfl (fun F10 le10 hz10 => ?_)
  have hf10 : IntsF F10 v1 ([2, 1, 0]) := intsH.fz (xs := [2, 1, 0]) hz10.fz
  show X _ _ _ _ _ _ (slH 53 2 v14 2 [v10, v11, v12, v13] :: slH 2 1 v13 1 [ii (2)] :: slH 2 1 v12 2 [ii (1), ii (2)] :: slH 2 1 v11 1 [ii (-1)] :: intsH 2 v10 ([1, 1, -1] : List Int) :: slH 2 1 v2 3 [ii (1), ii (2), ii (0)] :: cellsH b2 [v1] 26 :: cellsH b1 [v1] 26 :: L)
  refine ji [_, _, _, _] _ _ rfl (fun F11 le11 hz11 => ?_)
  replace hf10 := hf10.mono le11
  have hf11 : IntsF F11 v10 ([1, 1, -1]) := intsH.fz (xs := [1, 1, -1]) hz11.fz
  show X _ _ _ _ _ _ (slH 53 2 v14 2 [v10, v11, v12, v13] :: slH 2 1 v13 1 [ii (2)] :: slH 2 1 v12 2 [ii (1), ii (2)] :: intsH 2 v11 ([-1] : List Int) :: slH 2 1 v2 3 [ii (1), ii (2), ii (0)] :: cellsH b2 [v1] 26 :: cellsH b1 [v1] 26 :: L)
  refine ji [_, _, _] _ _ rfl (fun F12 le12 hz12 => ?_)
  replace hf10 := hf10.mono le12
  replace hf11 := hf11.mono le12
  have hf12 : IntsF F12 v11 ([-1]) := intsH.fz (xs := [-1]) hz12.fz
  show X _ _ _ _ _ _ (slH 53 2 v14 2 [v10, v11, v12, v13] :: slH 2 1 v13 1 [ii (2)] :: intsH 2 v12 ([1, 2] : List Int) :: slH 2 1 v2 3 [ii (1), ii (2), ii (0)] :: cellsH b2 [v1] 26 :: cellsH b1 [v1] 26 :: L)
  refine ji [_, _] _ _ rfl (fun F13 le13 hz13 => ?_)
  replace hf10 := hf10.mono le13
  replace hf11 := hf11.mono le13
  replace hf12 := hf12.mono le13
  have hf13 : IntsF F13 v12 ([1, 2]) := intsH.fz (xs := [1, 2]) hz13.fz
  show X _ _ _ _ _ _ (slH 53 2 v14 2 [v10, v11, v12, v13] :: intsH 2 v13 ([2] : List Int) :: slH 2 1 v2 3 [ii (1), ii (2), ii (0)] :: cellsH b2 [v1] 26 :: cellsH b1 [v1] 26 :: L)
  refine ji [_] _ _ rfl (fun F14 le14 hz14 => ?_)
  replace hf10 := hf10.mono le14
  replace hf11 := hf11.mono le14
  replace hf12 := hf12.mono le14
  replace hf13 := hf13.mono le14
  have hf14 : IntsF F14 v13 ([2]) := intsH.fz (xs := [2]) hz14.fz
  have hc2 : PairsC F14 [v10, v11, v12, v13] ([([1, 1, -1], [-1]), ([1, 2], [2])] : List (List Int × List Int)) := (PairsC.snoc (PairsC.snoc (CO.nil : PairsC F14 [] []) hf11 hf12) hf13 hf14)
  refine ji [] _ _ rfl (fun F15 le15 hz15 => ?_)
  replace hf10 := hf10.mono le15
  replace hc2 := hc2.mono le15
  have hf15 : PairsF F15 v14 (([([1, 1, -1], [-1]), ([1, 2], [2])] : List (List Int × List Int))) := CO.fz hc2 (by first | rfl | omega | (rw [List.length_set]; omega) | (simp; done) | (rw [List.length_append]; simp only [List.length_singleton]; omega)) hz15.fz
  show X _ _ _ _ _ _ (intsH 2 v2 ([1, 2, 0] : List Int) :: cellsH b2 [v1] 26 :: cellsH b1 [v1] 26 :: L)
  refine ji [] _ _ rfl (fun F16 le16 hz16 => ?_)
  replace hf10 := hf10.mono le16
  replace hf15 := hf15.mono le16
  have hf16 : IntsF F16 v2 ([1, 2, 0]) := intsH.fz (xs := [1, 2, 0]) hz16.fz
  refine qw (qF (qo (qu (L' := L) [.agg #[v1], v14, v2] (.tuple #[.agg #[v1], v14, v2]) (.cell rfl (jA [v1] qU qB rfl (Rd.ownN [_] rfl rfl)) (.tmp rfl (.tmp rfl .nil))) rfl (qi (qi (qi (qi (qi (qi le10 le11) le12) le13) le14) le15) le16) rF (sD (sD sR)) ?_)))
  exact ⟨_, _, _, _, _, _, rfl, hf10, hf15, hf16, by decide, by decide, by unfold smallR; decide, by decide, rfl⟩
 refine qc (qa (cX (jo rfl rfl (qh (.bool (decide ((k : Int) = 2))) rfl (qb ?_)))))
 refine qE (p := (k : Int) = 2) rfl (fun h3 => ?_) (fun h3 => ?_)
 ·refine qc (qa (cX (qv [v1] qU qB rfl rfl (Rd.ownN [_] rfl rfl) (cX (qD (s := 1) [ii (1), ii (1), ii (1), ii (-1)] [ii (0)] [(0, [ii (1)]), (1, [ii (1)]), (2, [ii (1)]), (3, [ii (-1)])] qf qC jj rfl (by decide) rfl (.cons rfl (.cons rfl (.cons rfl (.cons rfl CellsAre.nil)))) rfl ?_)))))
  intro v15 hv15
  refine cX (qD (s := 1) [ii (-1)] [ii (0)] [(0, [ii (-1)])] qf qC jj rfl (by decide) rfl (.cons rfl CellsAre.nil) rfl ?_)
  intro v16 hv16
  refine cX (qZ [v15, v16] [sN, sN] [(0, 1), (1, 1)] [(0, [v15]), (1, [v16])] jd jw rfl (.cons rfl qr (.cons rfl qr PlacesAre.nil)) rfl (.cons (cells_one (js hv15)) (.cons (cells_one (js hv16)) CellsAre.nil)) (cX (qD (s := 1) [ii (1), ii (1), ii (1), ii (1), ii (1), ii (-1)] [ii (0)] [(0, [ii (1)]), (1, [ii (1)]), (2, [ii (1)]), (3, [ii (1)]), (4, [ii (1)]), (5, [ii (-1)])] qf qC jj rfl (by decide) rfl (.cons rfl (.cons rfl (.cons rfl (.cons rfl (.cons rfl (.cons rfl CellsAre.nil)))))) rfl ?_)))
  intro v17 hv17
  refine cX (qD (s := 1) [ii (-1)] [ii (0)] [(0, [ii (-1)])] qf qC jj rfl (by decide) rfl (.cons rfl CellsAre.nil) rfl ?_)
  intro v18 hv18
  refine cX (qZ [v17, v18] [sN, sN] [(0, 1), (1, 1)] [(0, [v17]), (1, [v18])] jd jw rfl (.cons rfl qr (.cons rfl qr PlacesAre.nil)) rfl (.cons (cells_one (js hv17)) (.cons (cells_one (js hv18)) CellsAre.nil)) (cX (qD (s := 2) [v15, v16, v17, v18] [sN, sN] [(0, [v15, v16]), (1, [v17, v18])] qQ jF jw rfl (by decide) rfl (.cons rfl (.cons rfl CellsAre.nil)) rfl ?_)))
  intro v19 hv19
  refine qd (v2) rfl (cX (qI [_, _, _, _, _, _, _, _] _ [v1] qB rfl rfl rfl (qm (qy (js hv1)) qO) rfl rfl rfl (qh (v19) rfl (qh (v2) rfl (qb ?_)))))
  show X _ _ _ _ _ _ (slH 53 2 v19 2 [v15, v16, v17, v18] :: slH 2 1 v18 1 [ii (-1)] :: slH 2 1 v17 6 [ii (1), ii (1), ii (1), ii (1), ii (1), ii (-1)] :: slH 2 1 v16 1 [ii (-1)] :: slH 2 1 v15 4 [ii (1), ii (1), ii (1), ii (-1)] :: slH 2 1 v2 3 [ii (1), ii (2), ii (0)] :: cellsH b2 [v1] 26 :: intsH 2 v1 ([2, 1, 0] : List Int) :: cellsH b1 [v1] 26 :: L)
  refine ji [_, _, _, _, _, _, _] _ _ rfl (fun F17 le17 hz17 => ?_)
  have hf17 : IntsF F17 v1 ([2, 1, 0]) := intsH.fz (xs := [2, 1, 0]) hz17.fz
  show X _ _ _ _ _ _ (slH 53 2 v19 2 [v15, v16, v17, v18] :: slH 2 1 v18 1 [ii (-1)] :: slH 2 1 v17 6 [ii (1), ii (1), ii (1), ii (1), ii (1), ii (-1)] :: slH 2 1 v16 1 [ii (-1)] :: intsH 2 v15 ([1, 1, 1, -1] : List Int) :: slH 2 1 v2 3 [ii (1), ii (2), ii (0)] :: cellsH b2 [v1] 26 :: cellsH b1 [v1] 26 :: L)
  refine ji [_, _, _, _] _ _ rfl (fun F18 le18 hz18 => ?_)
  replace hf17 := hf17.mono le18
  have hf18 : IntsF F18 v15 ([1, 1, 1, -1]) := intsH.fz (xs := [1, 1, 1, -1]) hz18.fz
  show X _ _ _ _ _ _ (slH 53 2 v19 2 [v15, v16, v17, v18] :: slH 2 1 v18 1 [ii (-1)] :: slH 2 1 v17 6 [ii (1), ii (1), ii (1), ii (1), ii (1), ii (-1)] :: intsH 2 v16 ([-1] : List Int) :: slH 2 1 v2 3 [ii (1), ii (2), ii (0)] :: cellsH b2 [v1] 26 :: cellsH b1 [v1] 26 :: L)
  refine ji [_, _, _] _ _ rfl (fun F19 le19 hz19 => ?_)
  replace hf17 := hf17.mono le19
  replace hf18 := hf18.mono le19
  have hf19 : IntsF F19 v16 ([-1]) := intsH.fz (xs := [-1]) hz19.fz
  show X _ _ _ _ _ _ (slH 53 2 v19 2 [v15, v16, v17, v18] :: slH 2 1 v18 1 [ii (-1)] :: intsH 2 v17 ([1, 1, 1, 1, 1, -1] : List Int) :: slH 2 1 v2 3 [ii (1), ii (2), ii (0)] :: cellsH b2 [v1] 26 :: cellsH b1 [v1] 26 :: L)
  refine ji [_, _] _ _ rfl (fun F20 le20 hz20 => ?_)
  replace hf17 := hf17.mono le20
  replace hf18 := hf18.mono le20
  replace hf19 := hf19.mono le20
  have hf20 : IntsF F20 v17 ([1, 1, 1, 1, 1, -1]) := intsH.fz (xs := [1, 1, 1, 1, 1, -1]) hz20.fz
  show X _ _ _ _ _ _ (slH 53 2 v19 2 [v15, v16, v17, v18] :: intsH 2 v18 ([-1] : List Int) :: slH 2 1 v2 3 [ii (1), ii (2), ii (0)] :: cellsH b2 [v1] 26 :: cellsH b1 [v1] 26 :: L)
  refine ji [_] _ _ rfl (fun F21 le21 hz21 => ?_)
  replace hf17 := hf17.mono le21
  replace hf18 := hf18.mono le21
  replace hf19 := hf19.mono le21
  replace hf20 := hf20.mono le21
  have hf21 : IntsF F21 v18 ([-1]) := intsH.fz (xs := [-1]) hz21.fz
  have hc3 : PairsC F21 [v15, v16, v17, v18] ([([1, 1, 1, -1], [-1]), ([1, 1, 1, 1, 1, -1], [-1])] : List (List Int × List Int)) := (PairsC.snoc (PairsC.snoc (CO.nil : PairsC F21 [] []) hf18 hf19) hf20 hf21)
  refine ji [] _ _ rfl (fun F22 le22 hz22 => ?_)
  replace hf17 := hf17.mono le22
  replace hc3 := hc3.mono le22
  have hf22 : PairsF F22 v19 (([([1, 1, 1, -1], [-1]), ([1, 1, 1, 1, 1, -1], [-1])] : List (List Int × List Int))) := CO.fz hc3 (by first | rfl | omega | (rw [List.length_set]; omega) | (simp; done) | (rw [List.length_append]; simp only [List.length_singleton]; omega)) hz22.fz
  show X _ _ _ _ _ _ (intsH 2 v2 ([1, 2, 0] : List Int) :: cellsH b2 [v1] 26 :: cellsH b1 [v1] 26 :: L)
  refine ji [] _ _ rfl (fun F23 le23 hz23 => ?_)
  replace hf17 := hf17.mono le23
  replace hf22 := hf22.mono le23
  have hf23 : IntsF F23 v2 ([1, 2, 0]) := intsH.fz (xs := [1, 2, 0]) hz23.fz
  refine qw (qF (qo (qu (L' := L) [.agg #[v1], v19, v2] (.tuple #[.agg #[v1], v19, v2]) (.cell rfl (jA [v1] qU qB rfl (Rd.ownN [_] rfl rfl)) (.tmp rfl (.tmp rfl .nil))) rfl (qi (qi (qi (qi (qi (qi le17 le18) le19) le20) le21) le22) le23) rF (sD (sD sR)) ?_)))
  exact ⟨_, _, _, _, _, _, rfl, hf17, hf22, hf23, by decide, by decide, by unfold smallR; decide, by decide, rfl⟩
 refine qc (qa (cX (jo rfl rfl (qh (.bool (decide ((k : Int) = 3))) rfl (qb ?_)))))
 refine qE (p := (k : Int) = 3) rfl (fun h4 => ?_) (fun h4 => ?_)
 ·refine qc (qa (cX (qv [v1] qU qB rfl rfl (Rd.ownN [_] rfl rfl) (cX (qD (s := 1) [ii (0), ii (-1), ii (-2)] [ii (0)] [(0, [ii (0)]), (1, [ii (-1)]), (2, [ii (-2)])] qf qC jj rfl (by decide) rfl (.cons rfl (.cons rfl (.cons rfl CellsAre.nil))) rfl ?_)))))
  intro v20 hv20
  refine cX (qD (s := 1) [ii (0), ii (-2), ii (-1)] [ii (0)] [(0, [ii (0)]), (1, [ii (-2)]), (2, [ii (-1)])] qf qC jj rfl (by decide) rfl (.cons rfl (.cons rfl (.cons rfl CellsAre.nil))) rfl ?_)
  intro v21 hv21
  refine cX (qZ [v20, v21] [sN, sN] [(0, 1), (1, 1)] [(0, [v20]), (1, [v21])] jd jw rfl (.cons rfl qr (.cons rfl qr PlacesAre.nil)) rfl (.cons (cells_one (js hv20)) (.cons (cells_one (js hv21)) CellsAre.nil)) (cX (qD (s := 2) [v20, v21] [sN, sN] [(0, [v20, v21])] qQ jF jw rfl (by decide) rfl (.cons rfl CellsAre.nil) rfl ?_)))
  intro v22 hv22
  refine qd (v2) rfl (cX (qI [_, _, _, _, _, _] _ [v1] qB rfl rfl rfl (qm (qy (js hv1)) qO) rfl rfl rfl (qh (v22) rfl (qh (v2) rfl (qb ?_)))))
  show X _ _ _ _ _ _ (slH 53 2 v22 1 [v20, v21] :: slH 2 1 v21 3 [ii (0), ii (-2), ii (-1)] :: slH 2 1 v20 3 [ii (0), ii (-1), ii (-2)] :: slH 2 1 v2 3 [ii (1), ii (2), ii (0)] :: cellsH b2 [v1] 26 :: intsH 2 v1 ([2, 1, 0] : List Int) :: cellsH b1 [v1] 26 :: L)
  refine ji [_, _, _, _, _] _ _ rfl (fun F24 le24 hz24 => ?_)
  have hf24 : IntsF F24 v1 ([2, 1, 0]) := intsH.fz (xs := [2, 1, 0]) hz24.fz
  show X _ _ _ _ _ _ (slH 53 2 v22 1 [v20, v21] :: slH 2 1 v21 3 [ii (0), ii (-2), ii (-1)] :: intsH 2 v20 ([0, -1, -2] : List Int) :: slH 2 1 v2 3 [ii (1), ii (2), ii (0)] :: cellsH b2 [v1] 26 :: cellsH b1 [v1] 26 :: L)
  refine ji [_, _] _ _ rfl (fun F25 le25 hz25 => ?_)
  replace hf24 := hf24.mono le25
  have hf25 : IntsF F25 v20 ([0, -1, -2]) := intsH.fz (xs := [0, -1, -2]) hz25.fz
  show X _ _ _ _ _ _ (slH 53 2 v22 1 [v20, v21] :: intsH 2 v21 ([0, -2, -1] : List Int) :: slH 2 1 v2 3 [ii (1), ii (2), ii (0)] :: cellsH b2 [v1] 26 :: cellsH b1 [v1] 26 :: L)
  refine ji [_] _ _ rfl (fun F26 le26 hz26 => ?_)
  replace hf24 := hf24.mono le26
  replace hf25 := hf25.mono le26
  have hf26 : IntsF F26 v21 ([0, -2, -1]) := intsH.fz (xs := [0, -2, -1]) hz26.fz
  have hc4 : PairsC F26 [v20, v21] ([([0, -1, -2], [0, -2, -1])] : List (List Int × List Int)) := (PairsC.snoc (CO.nil : PairsC F26 [] []) hf25 hf26)
  refine ji [] _ _ rfl (fun F27 le27 hz27 => ?_)
  replace hf24 := hf24.mono le27
  replace hc4 := hc4.mono le27
  have hf27 : PairsF F27 v22 (([([0, -1, -2], [0, -2, -1])] : List (List Int × List Int))) := CO.fz hc4 (by first | rfl | omega | (rw [List.length_set]; omega) | (simp; done) | (rw [List.length_append]; simp only [List.length_singleton]; omega)) hz27.fz
  show X _ _ _ _ _ _ (intsH 2 v2 ([1, 2, 0] : List Int) :: cellsH b2 [v1] 26 :: cellsH b1 [v1] 26 :: L)
  refine ji [] _ _ rfl (fun F28 le28 hz28 => ?_)
  replace hf24 := hf24.mono le28
  replace hf27 := hf27.mono le28
  have hf28 : IntsF F28 v2 ([1, 2, 0]) := intsH.fz (xs := [1, 2, 0]) hz28.fz
  refine qw (qF (qo (qu (L' := L) [.agg #[v1], v22, v2] (.tuple #[.agg #[v1], v22, v2]) (.cell rfl (jA [v1] qU qB rfl (Rd.ownN [_] rfl rfl)) (.tmp rfl (.tmp rfl .nil))) rfl (qi (qi (qi (qi le24 le25) le26) le27) le28) rF (sD (sD sR)) ?_)))
  exact ⟨_, _, _, _, _, _, rfl, hf24, hf27, hf28, by decide, by decide, by unfold smallR; decide, by decide, rfl⟩
 refine qA (qc (qa (cX (qv [v1] qU qB rfl rfl (Rd.ownN [_] rfl rfl) (cX (qD (s := 1) [ii (0), ii (-1), ii (2)] [ii (0)] [(0, [ii (0)]), (1, [ii (-1)]), (2, [ii (2)])] qf qC jj rfl (by decide) rfl (.cons rfl (.cons rfl (.cons rfl CellsAre.nil))) rfl ?_))))))
 intro v23 hv23
 refine cX (qD (s := 1) [ii (-1)] [ii (0)] [(0, [ii (-1)])] qf qC jj rfl (by decide) rfl (.cons rfl CellsAre.nil) rfl ?_)
 intro v24 hv24
 refine cX (qZ [v23, v24] [sN, sN] [(0, 1), (1, 1)] [(0, [v23]), (1, [v24])] jd jw rfl (.cons rfl qr (.cons rfl qr PlacesAre.nil)) rfl (.cons (cells_one (js hv23)) (.cons (cells_one (js hv24)) CellsAre.nil)) (cX (qD (s := 1) [ii (0), ii (-1), ii (1), ii (-2)] [ii (0)] [(0, [ii (0)]), (1, [ii (-1)]), (2, [ii (1)]), (3, [ii (-2)])] qf qC jj rfl (by decide) rfl (.cons rfl (.cons rfl (.cons rfl (.cons rfl CellsAre.nil)))) rfl ?_)))
 intro v25 hv25
 refine cX (qD (s := 1) [ii (1), ii (0), ii (-1), ii (-2)] [ii (0)] [(0, [ii (1)]), (1, [ii (0)]), (2, [ii (-1)]), (3, [ii (-2)])] qf qC jj rfl (by decide) rfl (.cons rfl (.cons rfl (.cons rfl (.cons rfl CellsAre.nil)))) rfl ?_)
 intro v26 hv26
 refine cX (qZ [v25, v26] [sN, sN] [(0, 1), (1, 1)] [(0, [v25]), (1, [v26])] jd jw rfl (.cons rfl qr (.cons rfl qr PlacesAre.nil)) rfl (.cons (cells_one (js hv25)) (.cons (cells_one (js hv26)) CellsAre.nil)) (cX (qD (s := 2) [v23, v24, v25, v26] [sN, sN] [(0, [v23, v24]), (1, [v25, v26])] qQ jF jw rfl (by decide) rfl (.cons rfl (.cons rfl CellsAre.nil)) rfl ?_)))
 intro v27 hv27
 refine cX (qD (s := 1) [ii (2), ii (1), ii (0)] [ii (0)] [(0, [ii (2)]), (1, [ii (1)]), (2, [ii (0)])] qf qC jj rfl (by decide) rfl (.cons rfl (.cons rfl (.cons rfl CellsAre.nil))) rfl ?_)
 intro v28 hv28
 refine cX (qI [_, _, _, _, _, _, _, _, _] _ [v1] qB rfl rfl rfl (qm (qy (js hv1)) qO) rfl rfl rfl (qh (v27) rfl (qh (v28) rfl (qb ?_))))
 show X _ _ _ _ _ _ (slH 2 1 v28 3 [ii (2), ii (1), ii (0)] :: slH 53 2 v27 2 [v23, v24, v25, v26] :: slH 2 1 v26 4 [ii (1), ii (0), ii (-1), ii (-2)] :: slH 2 1 v25 4 [ii (0), ii (-1), ii (1), ii (-2)] :: slH 2 1 v24 1 [ii (-1)] :: slH 2 1 v23 3 [ii (0), ii (-1), ii (2)] :: slH 2 1 v2 3 [ii (1), ii (2), ii (0)] :: cellsH b2 [v1] 26 :: intsH 2 v1 ([2, 1, 0] : List Int) :: cellsH b1 [v1] 26 :: L)
 refine ji [_, _, _, _, _, _, _, _] _ _ rfl (fun F29 le29 hz29 => ?_)
 have hf29 : IntsF F29 v1 ([2, 1, 0]) := intsH.fz (xs := [2, 1, 0]) hz29.fz
 show X _ _ _ _ _ _ (slH 2 1 v28 3 [ii (2), ii (1), ii (0)] :: slH 53 2 v27 2 [v23, v24, v25, v26] :: slH 2 1 v26 4 [ii (1), ii (0), ii (-1), ii (-2)] :: slH 2 1 v25 4 [ii (0), ii (-1), ii (1), ii (-2)] :: slH 2 1 v24 1 [ii (-1)] :: intsH 2 v23 ([0, -1, 2] : List Int) :: slH 2 1 v2 3 [ii (1), ii (2), ii (0)] :: cellsH b2 [v1] 26 :: cellsH b1 [v1] 26 :: L)
 refine ji [_, _, _, _, _] _ _ rfl (fun F30 le30 hz30 => ?_)
 replace hf29 := hf29.mono le30
 have hf30 : IntsF F30 v23 ([0, -1, 2]) := intsH.fz (xs := [0, -1, 2]) hz30.fz
 show X _ _ _ _ _ _ (slH 2 1 v28 3 [ii (2), ii (1), ii (0)] :: slH 53 2 v27 2 [v23, v24, v25, v26] :: slH 2 1 v26 4 [ii (1), ii (0), ii (-1), ii (-2)] :: slH 2 1 v25 4 [ii (0), ii (-1), ii (1), ii (-2)] :: intsH 2 v24 ([-1] : List Int) :: slH 2 1 v2 3 [ii (1), ii (2), ii (0)] :: cellsH b2 [v1] 26 :: cellsH b1 [v1] 26 :: L)
 refine ji [_, _, _, _] _ _ rfl (fun F31 le31 hz31 => ?_)
 replace hf29 := hf29.mono le31
 replace hf30 := hf30.mono le31
 have hf31 : IntsF F31 v24 ([-1]) := intsH.fz (xs := [-1]) hz31.fz
 show X _ _ _ _ _ _ (slH 2 1 v28 3 [ii (2), ii (1), ii (0)] :: slH 53 2 v27 2 [v23, v24, v25, v26] :: slH 2 1 v26 4 [ii (1), ii (0), ii (-1), ii (-2)] :: intsH 2 v25 ([0, -1, 1, -2] : List Int) :: slH 2 1 v2 3 [ii (1), ii (2), ii (0)] :: cellsH b2 [v1] 26 :: cellsH b1 [v1] 26 :: L)
 refine ji [_, _, _] _ _ rfl (fun F32 le32 hz32 => ?_)
 replace hf29 := hf29.mono le32
 replace hf30 := hf30.mono le32
 replace hf31 := hf31.mono le32
 have hf32 : IntsF F32 v25 ([0, -1, 1, -2]) := intsH.fz (xs := [0, -1, 1, -2]) hz32.fz
 show X _ _ _ _ _ _ (slH 2 1 v28 3 [ii (2), ii (1), ii (0)] :: slH 53 2 v27 2 [v23, v24, v25, v26] :: intsH 2 v26 ([1, 0, -1, -2] : List Int) :: slH 2 1 v2 3 [ii (1), ii (2), ii (0)] :: cellsH b2 [v1] 26 :: cellsH b1 [v1] 26 :: L)
 refine ji [_, _] _ _ rfl (fun F33 le33 hz33 => ?_)
 replace hf29 := hf29.mono le33
 replace hf30 := hf30.mono le33
 replace hf31 := hf31.mono le33
 replace hf32 := hf32.mono le33
 have hf33 : IntsF F33 v26 ([1, 0, -1, -2]) := intsH.fz (xs := [1, 0, -1, -2]) hz33.fz
 have hc5 : PairsC F33 [v23, v24, v25, v26] ([([0, -1, 2], [-1]), ([0, -1, 1, -2], [1, 0, -1, -2])] : List (List Int × List Int)) := (PairsC.snoc (PairsC.snoc (CO.nil : PairsC F33 [] []) hf30 hf31) hf32 hf33)
 refine ji [_] _ _ rfl (fun F34 le34 hz34 => ?_)
 replace hf29 := hf29.mono le34
 replace hc5 := hc5.mono le34
 have hf34 : PairsF F34 v27 (([([0, -1, 2], [-1]), ([0, -1, 1, -2], [1, 0, -1, -2])] : List (List Int × List Int))) := CO.fz hc5 (by first | rfl | omega | (rw [List.length_set]; omega) | (simp; done) | (rw [List.length_append]; simp only [List.length_singleton]; omega)) hz34.fz
 show X _ _ _ _ _ _ (intsH 2 v28 ([2, 1, 0] : List Int) :: slH 2 1 v2 3 [ii (1), ii (2), ii (0)] :: cellsH b2 [v1] 26 :: cellsH b1 [v1] 26 :: L)
 refine ji [] _ _ rfl (fun F35 le35 hz35 => ?_)
 replace hf29 := hf29.mono le35
 replace hf34 := hf34.mono le35
 have hf35 : IntsF F35 v28 ([2, 1, 0]) := intsH.fz (xs := [2, 1, 0]) hz35.fz
 refine qw (qu (L' := L) [.agg #[v1], v27, v28] (.tuple #[.agg #[v1], v27, v28]) (.cell rfl (jA [v1] qU qB rfl (Rd.ownN [_, _] rfl rfl)) (.tmp rfl (.tmp rfl .nil))) rfl (qi (qi (qi (qi (qi (qi le29 le30) le31) le32) le33) le34) le35) rF (sD (sD (sD sR))) ?_)
 exact ⟨_, _, _, _, _, _, rfl, hf29, hf34, hf35, by decide, by decide, by unfold smallR; decide, by decide, rfl⟩
theorem l1DrawTermG_spec (dp : Nat) {F : FH} {L : List HP} {cb : Nat} {bsv : Value} {bs : List Int} (hbs : BytesF F bsv bs) (hbl : bs.length ≤ 4000000) {arv : Value} {ar : List Int} (har : IntsF F arv ar) {vs : Int} (hso : sigOk ar = true) (hdp : dp ≤ 5) (hvs : 0 ≤ vs ∧ vs ≤ 24) :
    Does prog 49 [ptr cb 0, .agg #[arv], ii ((dp : Nat) : Int), .int .i64 vs] F (curH .i64 63 cb bsv bs.length :: L) (fun v F' L' => (∃ (a : Value), (a : Value) = v ∧ (SomesF F' a (fun t => goodT ar t ∧ 1 ≤ t.length ∧ t.length ≤ szT dp))) ∧ curH .i64 63 cb bsv bs.length :: L = L') :=
  Does.freeze ((l1DrawTerm_spec dp hbs hbl har hso hdp hvs).mono (by
    rintro _ F' L' le ⟨a, ⟨rfl, hs⟩, rfl⟩
    refine ⟨_, rfl, fun F2 le2 hz => ?_⟩
    obtain ⟨m, ⟨t, hq, hm⟩, h2, h3⟩ := hz
    exact ⟨⟨_, rfl, t, intsH.fz (E := 2) ⟨m, hm, fun p hp => (h3 p hp).2⟩, hq⟩, rfl⟩))

/- spec.l20DrawEqs -/
set_option maxHeartbeats 1000000 in
set_option maxRecDepth 20000 in
theorem l20DrawEqs_spec {F : FH} {L : List HP} {cb : Nat} {bsv : Value} {bs : List Int} (hbs : BytesF F bsv bs) (hbl : bs.length ≤ 4000000) {arv : Value} {ar : List Int} (har : IntsF F arv ar) (hso : sigOk ar = true) :
    Does prog 27 [ptr cb 0, .agg #[arv]] F (curH .i64 63 cb bsv bs.length :: L) (fun v F' L' => (∃ (b : Value), ∃ (es : List (List Int × List Int)), (b : Value) = v ∧ (PairsF F' b es) ∧ (es.length ≤ 4) ∧ (smallR es)) ∧ curH .i64 63 cb bsv bs.length :: L = L') := by
 refine qH func27 rfl rfl rfl (qc (qa (cX (qY [arv] rfl rfl ?_))))
 intro b1
 refine qh (sN) rfl (qb (qc (qa (cX (qD (s := 2) [] [sN, sN] [] qQ jF jw rfl (by decide) rfl CellsAre.nil rfl ?_)))))
 intro v1 hv1
 refine qh (v1) rfl (qb (qc (qc (qa ?_))))
 have hc1 : PairsC F [] ([] : List (List Int × List Int)) := (CO.nil : PairsC F [] [])
 skip
 refine qd (ptr cb 0) rfl (cX (qt (args := [ptr cb 0, ii (4)]) call15 rfl (jD [_, _] (l1Below_spec (n := 4) hbs (by omega) (hn := (by first | assumption | rfl | omega | simp)))) ?_))
 rintro _ _ _ _ ⟨⟨rfl, x1, rfl, hr1⟩, rfl⟩
 show XL _ _ _ _ _ _ _ (slH 53 2 v1 0 ([]) :: cellsH b1 [arv] 26 :: curH .i64 63 cb bsv bs.length :: L)
 refine qh (ii (x1)) rfl (qb (qJ (jv (α := Nat × Value × List (List Int × List Int) × List Value × Nat × FH) (fun xQ => [(0, ptr cb 0), (3, ptr b1 0), (5, xQ.2.1), (6, ii (((xQ.1 : Nat) : Int)))]) (fun xQ => slH 53 2 xQ.2.1 xQ.2.2.2.2.1 xQ.2.2.2.1 :: cellsH b1 [arv] 26 :: curH .i64 63 cb bsv bs.length :: L) (fun xQ F' => xQ.2.2.2.2.2 = F' ∧ F ≤ xQ.2.2.2.2.2 ∧ (IsSl xQ.2.1) ∧ (PairsC xQ.2.2.2.2.2 xQ.2.2.2.1 xQ.2.2.1) ∧ (xQ.2.2.2.2.1 = xQ.2.2.1.length) ∧ (xQ.2.2.1.length + xQ.1 ≤ 4) ∧ (smallR xQ.2.2.1)) (fun xQ => xQ.1) (x1.toNat, v1, ([] : List (List Int × List Int)), [], 0, F) ⟨rfl, rfl, rfl, (vI (by omega)), ⟨⟩⟩ (sC (sC (sC sR))) ⟨rfl, FLe.refl _, ((js hv1)), (hc1), (rfl), (by (try dsimp only); (try simp only [List.length_nil]); omega), (smallR.nil)⟩ ?_)))
 rintro ⟨n, ov, os, cs, m, G1⟩ rE _ _ ⟨rfl, leG, hov, hC, hm, hon, hos⟩
 show X _ _ _ _ (envs [(0, ptr cb 0), (3, ptr b1 0), (5, ov), (6, ii ((n : Int)))] rE) _ (slH 53 2 ov m cs :: cellsH b1 [arv] 26 :: curH .i64 63 cb bsv bs.length :: L)
 replace leG : F ≤ G1 := leG
 dsimp only at hov hC hm hon hos
 have leG1 := leG
 replace hbs := hbs.mono leG1
 replace har := har.mono leG1
 refine qc (qc (qa (qd (ii ((n : Int))) rfl (cX (jU rfl rfl (qb ?_))))))
 refine qE (p := (n : Int) > 0) rfl (fun h1 => ?_) (fun h1 => ?_)
 ·refine qA (qc (qJ (qc ?_)))
  refine yc [slH 53 2 ov m cs, cellsH b1 [arv] 26, curH .i64 63 cb bsv bs.length] L 5 [[], [], [], [], [3]] [[], [], [], [2], [3]] [] (phiG [pe (ptr cb 0), pe (.agg #[arv]), pe (ptr cb 0), fun FF us v => (ii (((intAt v))) : Value) = v ∧ (0 ≤ ((intAt v)) ∧ (((intAt v)) < 3 ∨ ((intAt v)) = 0)), fun FF us v => v = (ii (1 + (((intAt (us.getD 0 undef))))) : Value)]) (ownL []) mixed rfl rfl (by kernel_rfl) (by kernel_rfl) (MonoG.get (m1 (m1 (m1 (mC (fun le h => ⟨h.1, h.2⟩) (mC (fun le h => h) MonoG.nil)))))) ?_ ?_
  ·refine gD (fun W Fs R lF z9 => ?_) ?_
   ·refine qg (ql (ptr cb 0) rfl ?_)
    exact ⟨rfl, rfl⟩
   refine gD (fun W Fs R lF z9 => ?_) ?_
   ·replace hbs := hbs.mono lF
    replace har := har.mono lF
    replace hC := hC.mono lF
    refine qg (qv [arv] qU qB rfl rfl (Rd.ownN [_] rfl rfl) ?_)
    exact ⟨rfl, rfl⟩
   refine gD (fun W Fs R lF z9 => ?_) ?_
   ·refine qg (ql (ptr cb 0) rfl ?_)
    exact ⟨rfl, rfl⟩
   refine gD (fun W Fs R lF z9 => ?_) ?_
   ·replace hbs := hbs.mono lF
    replace har := har.mono lF
    replace hC := hC.mono lF
    rw [zA 2 (z9 2 rfl)]
    refine qg (qt (args := [ptr cb 0, ii (3)]) call15 rfl (jD [_, _] (l1Below_spec (n := 3) hbs (by omega) (hn := (by first | assumption | rfl | omega | simp)))) ?_)
    rintro _ _ _ _ ⟨⟨rfl, x3, rfl, hr3⟩, rfl⟩
    exact ⟨⟨rfl, hr3⟩, rfl⟩
   refine gD (fun W Fs R lF z9 => ?_) ?_
   ·obtain ⟨e3, f3_1hx⟩ := z9 3 rfl
    rw [eS (l := [(3, (ii (((intAt (W 3))))))]) ⟨(e3).symm, ⟨⟩⟩]
    refine qg (qM (1 + (((intAt (W 3))))) rfl rfl (by omega) (by omega) ?_)
    exact ⟨rfl, rfl⟩
   exact stepsG.nil
  intro W F4 le4 hphi
  obtain ⟨e3, f3_1hx⟩ := hphi 3 (by decide)
  have e4 : W 4 = (ii (1 + (((intAt (W 3))))) : Value) := hphi 4 (by decide)
  generalize hu1 : (intAt (W 3)) = u1 at e3 f3_1hx e4
  rw [eS (l := [(0, _), (1, _), (3, (ii ((u1)))), (4, (ii (1 + ((u1)))))]) ⟨(hphi 0 (by decide)), (hphi 1 (by decide)), (e3).symm, e4, ⟨⟩⟩]
  replace hbs := hbs.mono le4
  replace har := har.mono le4
  replace hC := hC.mono le4
  show XL _ _ _ _ _ _ _ (slH 53 2 ov m cs :: cellsH b1 [arv] 26 :: curH .i64 63 cb bsv bs.length :: L)
  refine cX (qt (args := [ptr cb 0, .agg #[arv], ii (((1 + ((u1))).toNat : Nat) : Int), ii (3)]) call49 (by rw [show (((1 + ((u1))).toNat : Nat) : Int) = 1 + ((u1)) from by omega]; rfl) (Does.atO [_, _] (l1DrawTerm_spec ((1 + ((u1))).toNat) (vs := 3) hbs (by omega) har (hso := (by first | assumption | rfl | omega | simp)) (hdp := (by first | assumption | rfl | omega | simp)) (hvs := (by first | assumption | rfl | omega | simp)))) ?_)
  rintro _ F5 _ le5 ⟨x5, ⟨rfl, hsl1⟩, rfl⟩
  replace hbs := hbs.mono le5
  replace har := har.mono le5
  replace hC := hC.mono le5
  show XL _ _ _ _ _ _ _ (drawnH 2 x5 (fun t => goodT ar t ∧ 1 ≤ t.length ∧ t.length ≤ szT ((1 + ((u1))).toNat)) :: slH 53 2 ov m cs :: cellsH b1 [arv] 26 :: curH .i64 63 cb bsv bs.length :: L)
  refine XL.undraw [] rfl (fun t1 hq9 => ?_)
  obtain ⟨q1, q2, q3⟩ := hq9
  show XL _ _ _ _ _ _ _ (intsH 2 x5 t1 :: slH 53 2 ov m cs :: cellsH b1 [arv] 26 :: curH .i64 63 cb bsv bs.length :: L)
  have hz9 := szT_le (d := (1 + ((u1))).toNat) (e := 3) (by omega)
  have hz8 : szT 3 = 40 := rfl
  refine qh (x5) rfl (qb (ji [] _ _ rfl (fun F6 le6 hz1 => ?_)))
  replace hbs := hbs.mono le6
  replace har := har.mono le6
  replace hC := hC.mono le6
  have hf1 : IntsF F6 x5 t1 := intsH.fz (xs := t1) hz1.fz
  refine yc [slH 53 2 ov m cs, cellsH b1 [arv] 26, curH .i64 63 cb bsv bs.length] L 10 [[], [], [], [], [], [], [5], [5], [7], [7]] [[], [], [], [], [], [4], [5], [2, 3, 5, 6], [1, 5, 7], [5, 7, 8]] [] (phiG [pe ov, pe x5, pe (ptr cb 0), pe (.agg #[arv]), pe (ptr cb 0), fun FF us v => (ii (((intAt v))) : Value) = v ∧ (0 ≤ ((intAt v)) ∧ (((intAt v)) < 3 ∨ ((intAt v)) = 0)), fun FF us v => v = (ii (1 + (((intAt (us.getD 0 undef))))) : Value), fun FF us v => ((v) : Value) = v ∧ (SomesF FF (v) (fun t => goodT ar t ∧ 1 ≤ t.length ∧ t.length ≤ szT ((1 + (((intAt (us.getD 0 undef))))).toNat))), fun FF us v => v = (.agg #[x5, ((us.getD 0 undef))] : Value), fun FF us v => ∃ b, v = .slice (some ⟨b, 0, none⟩) 1 1]) (ownL [o0, o0, o0, o0, o0, o0, o0, o0, o0, fun us v => [slH 53 2 v 1 [x5, ((us.getD 0 undef))]]]) mixed rfl rfl (by kernel_rfl) (by kernel_rfl) (MonoG.get (m1 (m1 (m1 (m1 (m1 (mC (fun le h => ⟨h.1, h.2⟩) (mC (fun le h => h) (mC (fun le h => ⟨h.1, h.2.mono le⟩) (mC (fun le h => h) (mC (fun le h => h) MonoG.nil))))))))))) ?_ ?_
  ·refine gD (fun W Fs R lF z9 => ?_) ?_
   ·refine qg (ql (ov) rfl ?_)
    exact ⟨rfl, rfl⟩
   refine gD (fun W Fs R lF z9 => ?_) ?_
   ·refine qg (ql (x5) rfl ?_)
    exact ⟨rfl, rfl⟩
   refine gD (fun W Fs R lF z9 => ?_) ?_
   ·refine qg (ql (ptr cb 0) rfl ?_)
    exact ⟨rfl, rfl⟩
   refine gD (fun W Fs R lF z9 => ?_) ?_
   ·replace hbs := hbs.mono lF
    replace har := har.mono lF
    replace hC := hC.mono lF
    replace hf1 := hf1.mono lF
    refine qg (qv [arv] qU qB rfl rfl (Rd.ownN [_] rfl rfl) ?_)
    exact ⟨rfl, rfl⟩
   refine gD (fun W Fs R lF z9 => ?_) ?_
   ·refine qg (ql (ptr cb 0) rfl ?_)
    exact ⟨rfl, rfl⟩
   refine gD (fun W Fs R lF z9 => ?_) ?_
   ·replace hbs := hbs.mono lF
    replace har := har.mono lF
    replace hC := hC.mono lF
    replace hf1 := hf1.mono lF
    rw [zA 4 (z9 4 rfl)]
    refine qg (qt (args := [ptr cb 0, ii (3)]) call15 rfl (jD [_, _] (l1Below_spec (n := 3) hbs (by omega) (hn := (by first | assumption | rfl | omega | simp)))) ?_)
    rintro _ _ _ _ ⟨⟨rfl, x8, rfl, hr6⟩, rfl⟩
    exact ⟨⟨rfl, hr6⟩, rfl⟩
   refine gD (fun W Fs R lF z9 => ?_) ?_
   ·obtain ⟨e5, f5_2hx⟩ := z9 5 rfl
    rw [eS (l := [(5, (ii (((intAt (W 5))))))]) ⟨(e5).symm, ⟨⟩⟩]
    refine qg (qM (1 + (((intAt (W 5))))) rfl rfl (by omega) (by omega) ?_)
    exact ⟨rfl, rfl⟩
   refine gD (fun W Fs R lF z9 => ?_) ?_
   ·obtain ⟨e5, f5_2hx⟩ := z9 5 rfl
    have e6 : W 6 = (ii (1 + (((intAt (W 5))))) : Value) := z9 6 rfl
    replace hbs := hbs.mono lF
    replace har := har.mono lF
    replace hC := hC.mono lF
    replace hf1 := hf1.mono lF
    rw [eS (l := [(2, _), (3, _), (5, (ii (((intAt (W 5)))))), (6, (ii (1 + (((intAt (W 5)))))))]) ⟨z9 2 rfl, z9 3 rfl, (e5).symm, e6, ⟨⟩⟩]
    refine qg (qt (args := [ptr cb 0, .agg #[arv], ii (((1 + (((intAt (W 5))))).toNat : Nat) : Int), ii (3)]) call49 (by rw [show (((1 + (((intAt (W 5))))).toNat : Nat) : Int) = 1 + (((intAt (W 5)))) from by omega]; rfl) (jD [_, _] (l1DrawTermG_spec (dp := (1 + (((intAt (W 5))))).toNat) (vs := 3) hbs (by omega) har (hso := (by first | assumption | rfl | omega | simp)) (hdp := (by first | assumption | rfl | omega | simp)) (hvs := (by first | assumption | rfl | omega | simp)))) ?_)
    rintro _ F10 _ le10 ⟨⟨x9, rfl, hr7⟩, rfl⟩
    replace hC := hC.mono le10
    replace hf1 := hf1.mono le10
    exact ⟨⟨rfl, hr7⟩, rfl⟩
   refine gD (fun W Fs R lF z9 => ?_) ?_
   ·obtain ⟨e5, f5_2hx⟩ := z9 5 rfl
    obtain ⟨e7, f7_2hp_a⟩ : (((W 7)) : Value) = (W 7) ∧ (SomesF Fs ((W 7)) (fun t => goodT ar t ∧ 1 ≤ t.length ∧ t.length ≤ szT ((1 + (((intAt (W 5))))).toNat))) := z9 7 rfl
    obtain ⟨t7X2_a, f7_2hp_a, q7_2_a0, q7_2_a1, q7_2_a2⟩ := f7_2hp_a
    replace hC := hC.mono lF
    replace hf1 := hf1.mono lF
    rw [eS (l := [(1, _), (5, (ii (((intAt (W 5)))))), (7, ((W 7)))]) ⟨z9 1 rfl, (e5).symm, (e7).symm, ⟨⟩⟩]
    refine qg (qZ [x5, ((W 7))] [sN, sN] [(0, 1), (1, 1)] [(0, [x5]), (1, [((W 7))])] jd jw rfl (.cons rfl qr (.cons rfl qr PlacesAre.nil)) rfl (.cons (cells_one (qp hf1)) (.cons (cells_one (qp f7_2hp_a)) CellsAre.nil)) ?_)
    exact ⟨rfl, rfl⟩
   refine gD (fun W Fs R lF z9 => ?_) ?_
   ·obtain ⟨e5, f5_2hx⟩ := z9 5 rfl
    obtain ⟨e7, f7_2hp_a⟩ : (((W 7)) : Value) = (W 7) ∧ (SomesF Fs ((W 7)) (fun t => goodT ar t ∧ 1 ≤ t.length ∧ t.length ≤ szT ((1 + (((intAt (W 5))))).toNat))) := z9 7 rfl
    obtain ⟨t7X2_a, f7_2hp_a, q7_2_a0, q7_2_a1, q7_2_a2⟩ := f7_2hp_a
    have e8 : W 8 = (.agg #[x5, ((W 7))] : Value) := z9 8 rfl
    replace hC := hC.mono lF
    replace hf1 := hf1.mono lF
    rw [eS (l := [(5, (ii (((intAt (W 5)))))), (7, ((W 7))), (8, (.agg #[x5, ((W 7))]))]) ⟨(e5).symm, (e7).symm, e8, ⟨⟩⟩]
    refine qg (qD (s := 2) [x5, ((W 7))] [sN, sN] [(0, [x5, ((W 7))])] qQ jF jw rfl (by decide) rfl (.cons rfl CellsAre.nil) rfl ?_)
    intro v3 hv3
    exact ⟨hv3, rfl⟩
   exact stepsG.nil
  intro W F11 le11 hphi
  obtain ⟨e5, f5_2hx⟩ := hphi 5 (by decide)
  have e6 : W 6 = (ii (1 + (((intAt (W 5))))) : Value) := hphi 6 (by decide)
  obtain ⟨e7, f7_2hp_a⟩ : (((W 7)) : Value) = (W 7) ∧ (SomesF F11 ((W 7)) (fun t => goodT ar t ∧ 1 ≤ t.length ∧ t.length ≤ szT ((1 + (((intAt (W 5))))).toNat))) := hphi 7 (by decide)
  obtain ⟨t7X2_a, f7_2hp_a, q7_2_a0, q7_2_a1, q7_2_a2⟩ := f7_2hp_a
  have e8 : W 8 = (.agg #[x5, ((W 7))] : Value) := hphi 8 (by decide)
  have f9 : ∃ b, (W 9) = .slice (some ⟨b, 0, none⟩) 1 1 := hphi 9 (by decide)
  generalize hu2 : (intAt (W 5)) = u2 at e5 f5_2hx e6 e7 f7_2hp_a e8 f9
  generalize hu3 : ((W 7)) = u3 at e5 f5_2hx e6 e7 f7_2hp_a e8 f9
  generalize huu9 : W 9 = u4 at e5 f5_2hx e6 e7 f7_2hp_a e8 f9
  rw [eS (l := [(0, _), (5, (ii ((u2)))), (7, u3), (9, u4)]) ⟨(hphi 0 (by decide)), (e5).symm, hu3, huu9, ⟨⟩⟩]
  replace hC := hC.mono le11
  replace hf1 := hf1.mono le11
  show XL _ _ _ _ _ _ _ (slH 53 2 u4 1 [x5, u3] :: slH 53 2 ov m cs :: cellsH b1 [arv] 26 :: curH .i64 63 cb bsv bs.length :: L)
  refine cX (yi (m := 1) (bytes := 48) (cs := cs) [_] _ [x5, u3] qQ typeInfo53 rfl rfl rfl rfl rfl rfl rfl (SlV.own [] rfl) rfl (Rd.lit [] rfl) (qm (qy (qp hf1)) (qm (qy (qp f7_2hp_a)) qO)) (by (try simp only [List.length_append, List.length_nil, List.length_cons, List.length_singleton]); omega) (by (try simp only [List.length_append, List.length_nil, List.length_cons, List.length_singleton]); omega) ?_)
  intro v4 hs1 hn1 hm1
  have hc2 := PairsC.snoc hC hf1 f7_2hp_a
  refine qh (v4) rfl (qb (qa (qd (ii ((n : Int))) rfl (cX (jq (((n : Int)) - 1) rfl rfl (by omega) (by omega) (qh (ii (((n : Int)) - 1)) rfl (qb ?_)))))))
  exact ⟨(n - 1, v4, os ++ [(t1, t7X2_a)], cs ++ [x5, u3], (m) + 1, F11), _, (qi (qi (qi (qi leG1 le4) le5) le6) le11), rF, ⟨rfl, rfl, rfl, (vI (by (try dsimp only); omega)), ⟨⟩⟩, (sD (sC (sC (sC sR)))), ⟨rfl, (qi (qi (qi (qi leG1 le4) le5) le6) le11), (hs1), (hc2), (by (try dsimp only); rw [List.length_append]; simp only [List.length_singleton]; omega), (by (try dsimp only); rw [List.length_append]; simp only [List.length_singleton]; omega), (smallR.snoc hos (by omega) (Nat.le_trans q7_2_a2 (Nat.le_trans (szT_le (e := 4) (by omega)) (by decide))))⟩, (by (try dsimp only); omega)⟩
 refine jn (qz (qz (qR (qc (qa (qd (ov) rfl (qh (ov) rfl (qb (ji [] _ _ rfl (fun F12 le12 hz2 => ?_))))))))))
 replace hC := hC.mono le12
 have hf2 : PairsF F12 ov os := CO.fz hC (by first | rfl | omega | (rw [List.length_set]; omega) | (simp; done) | (rw [List.length_append]; simp only [List.length_singleton]; omega)) hz2.fz
 refine qw (qu (L' := curH .i64 63 cb bsv bs.length :: L) [ov] (ov) (.tmp rfl .nil) rfl (qi leG1 le12) rF (sD (sC sR)) ?_)
 exact ⟨⟨_, _, rfl, hf2, by omega, hos⟩, rfl⟩

/- spec.l21DrawRank -/
set_option maxHeartbeats 1000000 in
set_option maxRecDepth 20000 in
theorem l21DrawRank_spec {F : FH} {L : List HP} {cb : Nat} {bsv : Value} {bs : List Int} (hbs : BytesF F bsv bs) (hbl : bs.length ≤ 4000000) {n : Int} (hn : 0 ≤ n ∧ n ≤ 20) :
    Does prog 28 [ptr cb 0, ii (n)] F (curH .i64 63 cb bsv bs.length :: L) (fun v F' L' => (∃ (c : Value), (c : Value) = v ∧ (SomesF F' c (fun rk => rk.length ≤ 20))) ∧ curH .i64 63 cb bsv bs.length :: L = L') := by
 refine qH func28 rfl rfl rfl (qc (qa (qh (sN) rfl (qb (qc (qa (cX (qD (s := 1) [] [ii (0)] [] qf qC jj rfl (by decide) rfl CellsAre.nil rfl ?_))))))))
 intro v1 hv1
 refine qh (v1) rfl (qb (qc (qc (qa ?_))))
 show XL _ _ _ _ _ _ _ (intsH 2 v1 ([] : List Int) :: curH .i64 63 cb bsv bs.length :: L)
 refine XL.freezeF [] _ _ rfl (fun F1 le1 hz1 => ?_)
 replace hbs := hbs.mono le1
 have hf1 : IntsF F1 v1 ([]) := intsH.fz (xs := []) hz1.fz
 skip
 refine qh (ii (0)) rfl (qb (qJ (jv (α := Nat × Value × List Int × FH) (fun xQ => [(0, ptr cb 0), (1, ii (n)), (5, xQ.2.1), (6, ii (((xQ.1 : Nat) : Int)))]) (fun xQ => curH .i64 63 cb bsv bs.length :: L) (fun xQ F' => xQ.2.2.2 = F' ∧ F1 ≤ xQ.2.2.2 ∧ (IntsF xQ.2.2.2 xQ.2.1 xQ.2.2.1) ∧ ((xQ.1 : Int) ≤ n) ∧ (xQ.2.2.1.length = xQ.1)) (fun xQ => n.toNat - xQ.1) (0, v1, [], F1) ⟨rfl, rfl, rfl, rfl, ⟨⟩⟩ (sC sR) ⟨rfl, FLe.refl _, (hf1), (by (try dsimp only); omega), (rfl)⟩ ?_)))
 rintro ⟨k, ov, os, G1⟩ rE _ _ ⟨rfl, leG, hov, hk, hol⟩
 show X _ _ _ _ (envs [(0, ptr cb 0), (1, ii (n)), (5, ov), (6, ii ((k : Int)))] rE) _ (curH .i64 63 cb bsv bs.length :: L)
 replace leG : F1 ≤ G1 := leG
 dsimp only at hov hk hol
 have leG1 := leG
 replace hbs := hbs.mono leG1
 refine qc (qc (qa (qd (ii ((k : Int))) rfl (qd (ii (n)) rfl (cX (qX rfl rfl (qb ?_)))))))
 refine qE (p := (k : Int) < n) rfl (fun h1 => ?_) (fun h1 => ?_)
 ·refine qA (qc (qJ (qc (qa (qd (ptr cb 0) rfl (qd (ii ((k : Int))) rfl (cX (qM (((k + 1 : Nat) : Int)) rfl rfl (by omega) (by omega) (cX (qt (args := [ptr cb 0, ii (((k + 1 : Nat) : Int))]) call15 rfl (jD [] (l1Below_spec (n := ((k + 1 : Nat) : Int)) hbs (by omega) (hn := (by omega)))) ?_))))))))))
  rintro _ _ _ _ ⟨⟨rfl, x1, rfl, hr1⟩, rfl⟩
  show XL _ _ _ _ _ _ _ (curH .i64 63 cb bsv bs.length :: L)
  refine qh (ii (x1)) rfl (qb (qc (qa (cX (qD (s := 1) [] [ii (0)] [] qf qC jj rfl (by decide) rfl CellsAre.nil rfl ?_)))))
  intro v2 hv2
  refine qd (ov) rfl (qd (ii (x1)) rfl (cX (XOp.sliceI 0 x1.toNat qf qC rfl hov rfl ⟨.i64, congrArg (Value.int .i64) (show x1 = ((x1.toNat : Nat) : Int) from by omega)⟩ (by omega) (by omega) ?_)))
  intro v3 hv3 hn1
  show XL _ _ _ _ _ _ _ (intsH 2 v2 ([] : List Int) :: curH .i64 63 cb bsv bs.length :: L)
  refine cX (XOp.appendI [] _ qf typeInfo2 rfl rfl rfl rfl rfl rfl hv3 (by (try simp only [List.length_append, List.length_nil, List.length_cons, List.length_singleton, List.length_take, List.length_drop]); omega) ?_)
  intro v4 hs1 hn2 hm1
  refine qh (v4) rfl (qb (qc (qa (qd (v4) rfl (qd (ii ((k : Int))) rfl (cX (qD (s := 1) [ii ((k : Int))] [ii (0)] [(0, [ii ((k : Int))])] qf qC jj rfl (by decide) rfl (.cons rfl CellsAre.nil) rfl ?_)))))))
  intro v5 hv4
  refine cX (XOp.append1 (u := (k : Int)) [_] _ qf typeInfo2 rfl rfl rfl rfl rfl rfl (SlV.own [] rfl) (Rd.sl [] rfl rfl) (by (try simp only [List.length_append, List.length_nil, List.length_cons, List.length_singleton, List.length_take, List.length_drop]); omega) ?_)
  intro v6 hs2 hn3
  refine qh (v6) rfl (qb (qa (qd (v6) rfl (qd (ov) rfl (qd (ii (x1)) rfl (cX (XOp.sliceI x1.toNat ((os).length) qf qC rfl hov ⟨.i64, congrArg (Value.int .i64) (show x1 = ((x1.toNat : Nat) : Int) from by omega)⟩ rfl (by omega) (by omega) ?_)))))))
  intro v7 hv5 hn4
  refine cX (XOp.appendI [_] _ qf typeInfo2 rfl rfl rfl rfl rfl rfl hv5 (by (try simp only [List.length_append, List.length_nil, List.length_cons, List.length_singleton, List.length_take, List.length_drop]); omega) ?_)
  intro v8 hs3 hn5 hm2
  refine qh (v8) rfl (qb (qa (XL.freezeF [_] _ _ rfl (fun F3 le3 hz2 => ?_))))
  replace hov := hov.mono le3
  have hf2 : IntsF F3 v8 (((([] : List Int) ++ (((os.drop 0).take (x1.toNat - 0)))) ++ [(k : Int)]) ++ (((os.drop x1.toNat).take (((os).length) - x1.toNat)))) := intsH.fz (xs := ((([] : List Int) ++ (((os.drop 0).take (x1.toNat - 0)))) ++ [(k : Int)]) ++ (((os.drop x1.toNat).take (((os).length) - x1.toNat)))) hz2.fz
  skip
  refine qd (ii ((k : Int))) rfl (cX (qM (((k + 1 : Nat) : Int)) rfl rfl (by omega) (by omega) (qh (ii (((k + 1 : Nat) : Int))) rfl (qb ?_))))
  exact ⟨(k + 1, v8, ((([] : List Int) ++ (((os.drop 0).take (x1.toNat - 0)))) ++ [(k : Int)]) ++ (((os.drop x1.toNat).take (((os).length) - x1.toNat))), F3), _, (qi leG1 le3), rF, ⟨rfl, rfl, rfl, rfl, ⟨⟩⟩, (sD (sC sR)), ⟨rfl, (qi leG1 le3), (hf2), (by (try dsimp only) <;> omega), (by (try dsimp only); (try simp only [List.length_append, List.length_take, List.length_drop, List.length_cons, List.length_nil, List.nil_append, List.length_singleton]); omega)⟩, (by omega)⟩
 refine jn (qz (qz (qR (qc (qa (qd (ov) rfl (qh (ov) rfl (qb (qw (qu (L' := curH .i64 63 cb bsv bs.length :: L) [ov] (ov) (.tmp rfl .nil) rfl (qi le1 leG1) rF (sC sR) ?_))))))))))
 exact ⟨⟨_, rfl, ⟨_, hov, by omega⟩⟩, rfl⟩

/- spec.l21DrawStart -/
set_option maxHeartbeats 1000000 in
set_option maxRecDepth 20000 in
theorem l21DrawStart_spec {F : FH} {L : List HP} {cb : Nat} {bsv : Value} {bs : List Int} (hbs : BytesF F bsv bs) (hbl : bs.length ≤ 4000000) :
    Does prog 13 [ptr cb 0] F (curH .i64 63 cb bsv bs.length :: L) (fun v F' L' => (∃ (a : Value), ∃ (b : Value), ∃ (c : Value), ∃ (ar : List Int), ∃ (es : List (List Int × List Int)), ∃ (rk : List Int), (.tuple #[.agg #[a], b, c] : Value) = v ∧ (IntsF F' a ar) ∧ (PairsF F' b es) ∧ (IntsF F' c rk) ∧ (ar.length ≤ 20) ∧ (es.length ≤ 4) ∧ (smallR es) ∧ (rk.length ≤ 20)) ∧ curH .i64 63 cb bsv bs.length :: L = L') := by
 refine qH func13 rfl rfl rfl (qc (qa (cX (je [sN] yl rfl ?_))))
 intro b1
 refine qh (sN) rfl (qh (sN) rfl (qb (qc (qa (qd (ptr cb 0) rfl (cX (qt (args := [ptr cb 0, ii (4)]) call15 rfl (jD [_] (l1Below_spec (n := 4) hbs (by omega) (hn := (by first | assumption | rfl | omega | simp)))) ?_)))))))
 rintro _ _ _ _ ⟨⟨rfl, x1, rfl, hr1⟩, rfl⟩
 show XL _ _ _ _ _ _ _ (cellsH b1 [sN] 26 :: curH .i64 63 cb bsv bs.length :: L)
 refine cX (qM (1 + x1) rfl rfl (by omega) (by omega) (qh (ii (1 + x1)) rfl (qb (qc (qc (qa (qd (ptr cb 0) rfl (cX (qt (args := [ptr cb 0, ii (3)]) call14 rfl (jD [_] (l1Once_spec (n := 3) hbs (by omega) (hn := (by first | assumption | rfl | omega | simp)))) ?_)))))))))
 rintro _ _ _ _ ⟨⟨rfl, x2, rfl⟩, rfl⟩
 show XL _ _ _ _ _ _ _ (cellsH b1 [sN] 26 :: curH .i64 63 cb bsv bs.length :: L)
 refine qb ?_
 refine jG (t := x2) rfl (fun h1 => ?_) (fun h1 => ?_)
 ·refine qc (qc (qa (qd (ptr cb 0) rfl (cX (qt (args := [ptr cb 0, ii (8)]) call14 rfl (jD [_] (l1Once_spec (n := 8) hbs (by omega) (hn := (by first | assumption | rfl | omega | simp)))) ?_)))))
  rintro _ _ _ _ ⟨⟨rfl, x3, rfl⟩, rfl⟩
  show XL _ _ _ _ _ _ _ (cellsH b1 [sN] 26 :: curH .i64 63 cb bsv bs.length :: L)
  refine qb ?_
  refine jG (t := x3) rfl (fun h2 => ?_) (fun h2 => ?_)
  ·refine qa (qh (ii (0)) rfl (qb (qc (qa (qd (ii (0)) rfl (cX (qt (args := [ii (0)]) call25 rfl (l21Known_spec (k := 0)) ?_)))))))
   rintro _ F4 _ le4 ⟨x4, x5, x6, x7, x8, x9, rfl, hr2, hr3, hr4, hr5, hr6, hr7, hr8, rfl⟩
   replace hbs := hbs.mono le4
   refine cX (qK (.agg #[x4]) rfl rfl (cX (qK (x5) rfl rfl (cX (qK (x6) rfl rfl (cX (qI [] _ [x4] qB rfl rfl rfl (qm (qy (qp hr2)) qO) rfl rfl rfl (qh (x5) rfl (qh (x6) rfl (qb (qw (qo (qu (L' := curH .i64 63 cb bsv bs.length :: L) [.agg #[x4], x5, x6] (.tuple #[.agg #[x4], x5, x6]) (.cell rfl (jA [x4] qU qB rfl (Rd.ownN [] rfl rfl)) (.tmp rfl (.tmp rfl .nil))) rfl le4 rF (sD (sC sR)) ?_)))))))))))))
   exact ⟨⟨_, _, _, _, _, _, rfl, hr2, hr3, hr4, hr5, hr6, hr7, hr8⟩, rfl⟩
  refine qA (qc (qa (qd (ii (1 + x1)) rfl (cX (qt (args := [ii (1 + x1)]) call25 rfl (l21Known_spec (k := 1 + x1)) ?_)))))
  rintro _ F5 _ le5 ⟨x10, x11, x12, x13, x14, x15, rfl, hr9, hr10, hr11, hr12, hr13, hr14, hr15, rfl⟩
  replace hbs := hbs.mono le5
  refine cX (qK (.agg #[x10]) rfl rfl (cX (qK (x11) rfl rfl (cX (qK (x12) rfl rfl (cX (qI [] _ [x10] qB rfl rfl rfl (qm (qy (qp hr9)) qO) rfl rfl rfl (qh (x11) rfl (qh (x12) rfl (qb (qw (qo (qu (L' := curH .i64 63 cb bsv bs.length :: L) [.agg #[x10], x11, x12] (.tuple #[.agg #[x10], x11, x12]) (.cell rfl (jA [x10] qU qB rfl (Rd.ownN [] rfl rfl)) (.tmp rfl (.tmp rfl .nil))) rfl le5 rF (sD (sC sR)) ?_)))))))))))))
  exact ⟨⟨_, _, _, _, _, _, rfl, hr9, hr10, hr11, hr12, hr13, hr14, hr15⟩, rfl⟩
 refine qA (qc (qa (qd (ptr cb 0) rfl (cX (qt (args := [ptr cb 0]) call26 rfl (Does.atO [_] (l1DrawSig_spec hbs (by omega))) ?_)))))
 rintro _ F6 _ le6 ⟨x17, ⟨rfl, hsl1⟩, rfl⟩
 replace hbs := hbs.mono le6
 show XL _ _ _ _ _ _ _ (drawnH 2 x17 (fun ar => sigOk ar = true) :: cellsH b1 [sN] 26 :: curH .i64 63 cb bsv bs.length :: L)
 refine XL.undraw [] rfl (fun t1 hq9 => ?_)
 have q1 := hq9
 show XL _ _ _ _ _ _ _ (intsH 2 x17 t1 :: cellsH b1 [sN] 26 :: curH .i64 63 cb bsv bs.length :: L)
 refine XL.freezeF [] _ _ rfl (fun F7 le7 hz1 => ?_)
 replace hbs := hbs.mono le7
 have hf1 : IntsF F7 x17 t1 := intsH.fz (xs := t1) hz1.fz
 have hsl9 := sigOk_spec q1
 refine cX (je [sN] yl rfl ?_)
 intro b2
 refine cX (qI [] _ [x17] qB rfl rfl rfl (qm (qy (qp hf1)) qO) rfl rfl rfl (qb (qc (qa (qd (ptr cb 0) rfl (cX (qv [x17] qU qB rfl rfl (Rd.ownN [] rfl rfl) (cX (qt (args := [ptr cb 0, .agg #[x17]]) call27 rfl (jD [_, _] (l20DrawEqs_spec hbs (by omega) hf1 (hso := (by first | assumption | rfl | omega | simp)))) ?_)))))))))
 rintro _ F8 _ le8 ⟨⟨x18, x19, rfl, hr16, hr17, hr18⟩, rfl⟩
 replace hbs := hbs.mono le8
 replace hf1 := hf1.mono le8
 show XL _ _ _ _ _ _ _ (cellsH b2 [x17] 26 :: cellsH b1 [sN] 26 :: curH .i64 63 cb bsv bs.length :: L)
 refine qh (x18) rfl (qb (qc (X.weaken (jg (A := [_])) ?_)))
 show X _ _ _ _ _ _ (cellsH b1 [sN] 26 :: cellsH b2 [x17] 26 :: curH .i64 63 cb bsv bs.length :: L)
 refine X.drawH [cellsH b2 [x17] 26, curH .i64 63 cb bsv bs.length] L 8 [] [[], [], [], [], [3], [4], [2, 5], [0]] [] (phiG [pe (.agg #[x17]), pe x18, pe (ptr cb 0), pe (ptr b2 0), pe x17, pe (ii ((t1.length : Int)) : Value), fun FF us v => ((v) : Value) = v ∧ (SomesF FF (v) (fun rk => rk.length ≤ 20)), fun FF us v => True]) (ownL [o0, o0, o0, o0, o0, o0, o0, fun us v => [cellsH b1 [x17] 26]]) (fun i => ([[], [], [], [], [], [], [], [cellsH b1 [sN] 26]] : List (List HP)).getD i []) mixed rfl rfl (by kernel_rfl) (by kernel_rfl) (MonoG.get (m1 (m1 (m1 (m1 (m1 (m1 (mC (fun le h => ⟨h.1, h.2.mono le⟩) (mC (fun le h => h) MonoG.nil))))))))) ?_ ?_
 ·refine tD (fun W Fs R lF z9 => ?_) ?_
  ·replace hbs := hbs.mono lF
   replace hf1 := hf1.mono lF
   replace hr16 := hr16.mono lF
   refine qg (qv [x17] qU qB rfl rfl (Rd.ownN [] rfl rfl) ?_)
   exact ⟨rfl, rfl⟩
  refine tD (fun W Fs R lF z9 => ?_) ?_
  ·refine qg (ql (x18) rfl ?_)
   exact ⟨rfl, rfl⟩
  refine tD (fun W Fs R lF z9 => ?_) ?_
  ·refine qg (ql (ptr cb 0) rfl ?_)
   exact ⟨rfl, rfl⟩
  refine tD (fun W Fs R lF z9 => ?_) ?_
  ·refine qg (qn (0) jk rfl qr (by decide) rfl rfl ?_)
   exact ⟨rfl, rfl⟩
  refine tD (fun W Fs R lF z9 => ?_) ?_
  ·replace hbs := hbs.mono lF
   replace hf1 := hf1.mono lF
   replace hr16 := hr16.mono lF
   rw [zA 3 (z9 3 rfl)]
   refine qg (qj qN rfl (Rd.own [] rfl rfl) ?_)
   exact ⟨rfl, rfl⟩
  refine tD (fun W Fs R lF z9 => ?_) ?_
  ·replace hbs := hbs.mono lF
   replace hf1 := hf1.mono lF
   replace hr16 := hr16.mono lF
   rw [zA 4 (z9 4 rfl)]
   refine qg (qG qf rfl hf1.slv ?_)
   exact ⟨rfl, rfl⟩
  refine tD (fun W Fs R lF z9 => ?_) ?_
  ·replace hbs := hbs.mono lF
   replace hf1 := hf1.mono lF
   replace hr16 := hr16.mono lF
   rw [zB 2 5 (z9 2 rfl) (z9 5 rfl)]
   refine qg (qt (args := [ptr cb 0, ii ((t1.length : Int))]) call28 rfl (jD [_] (l21DrawRank_spec (n := (t1.length : Int)) hbs (by omega) (hn := (by first | assumption | rfl | omega | simp)))) ?_)
   rintro _ F10 _ le10 ⟨⟨x21, rfl, hr20⟩, rfl⟩
   replace hbs := hbs.mono le10
   replace hf1 := hf1.mono le10
   replace hr16 := hr16.mono le10
   exact ⟨⟨rfl, hr20⟩, rfl⟩
  refine tD (fun W Fs R lF z9 => ?_) ?_
  ·replace hbs := hbs.mono lF
   replace hf1 := hf1.mono lF
   replace hr16 := hr16.mono lF
   rw [zA 0 (z9 0 rfl)]
   show XG _ _ _ _ _ (cellsH b1 [sN] 26 :: ([cellsH b2 [x17] 26, curH .i64 63 cb bsv bs.length] ++ R)) _
   refine qg (qI [] _ [x17] qB rfl rfl rfl (qm (qy (qp hf1)) qO) rfl rfl rfl ?_)
   exact ⟨trivial, rfl⟩
  exact stepsT.nil
 intro W F11 le11 hphi
 obtain ⟨e6, f6_1hp_c⟩ := hphi 6 (by decide)
 obtain ⟨t6X1_c, f6_1hp_c, q6_1_c0⟩ := f6_1hp_c
 generalize hu1 : ((W 6)) = u1 at e6 f6_1hp_c
 rw [eS (l := [(1, _), (6, u1)]) ⟨(hphi 1 (by decide)), hu1, ⟨⟩⟩]
 replace hf1 := hf1.mono le11
 replace hr16 := hr16.mono le11
 show XL _ _ _ _ _ _ _ (cellsH b1 [x17] 26 :: cellsH b2 [x17] 26 :: curH .i64 63 cb bsv bs.length :: L)
 refine qh (x18) rfl (qh (u1) rfl (qb (qw (qu (L' := curH .i64 63 cb bsv bs.length :: L) [.agg #[x17], x18, u1] (.tuple #[.agg #[x17], x18, u1]) (.cell rfl (jA [x17] qU qB rfl (Rd.ownN [] rfl rfl)) (.tmp rfl (.tmp rfl .nil))) rfl (qi (qi (qi le6 le7) le8) le11) rF (sD (sD (sC sR))) ?_))))
 exact ⟨⟨_, _, _, _, _, _, rfl, hf1, hr16, f6_1hp_c, by omega, hr17, hr18, q6_1_c0⟩, rfl⟩

/- spec.DrawCompleted -/
set_option maxHeartbeats 1000000 in
set_option maxRecDepth 20000 in
theorem DrawCompleted_spec {F : FH} {L : List HP} {bsv : Value} {bs : List Int} (hbs : BytesF F bsv bs) (hbl : bs.length ≤ 4000000) :
    Does prog 5 [bsv] F (L) (fun v F' L' => ∃ (a : Value), ∃ (b : Value), ∃ (c : Value), ∃ (ar : List Int), ∃ (es : List (List Int × List Int)), ∃ (rk : List Int), ∃ (z : Int), (.tuple #[.agg #[a], b, c, ii (z)] : Value) = v ∧ (IntsF F' a ar) ∧ (PairsF F' b es) ∧ (IntsF F' c rk) ∧ (ar.length ≤ 20) ∧ (es.length ≤ 4) ∧ (smallR es) ∧ (rk.length ≤ 20) ∧ L = L') := by
 refine qH func5 rfl rfl rfl (qc (qa (cX (je [sN] yl rfl ?_))))
 intro b1
 refine qh (sN) rfl (qh (sN) rfl (qh (ii (0)) rfl (qb (qc (qa (qd (bsv) rfl (cX (qt (args := [bsv]) call12 rfl (l1New_spec hbs (by omega)) ?_))))))))
 rintro _ _ _ _ ⟨cb1, rfl, rfl, rfl⟩
 show XL _ _ _ _ _ _ _ (curH .i64 63 cb1 bsv bs.length :: cellsH b1 [sN] 26 :: L)
 refine qh (ptr cb1 0) rfl (qb (qc (qa (qd (ptr cb1 0) rfl (cX (qt (args := [ptr cb1 0]) call13 rfl (jD [] (l21DrawStart_spec hbs (by omega))) ?_))))))
 rintro _ F1 _ le1 ⟨⟨x1, x2, x3, x4, x5, x6, rfl, hr1, hr2, hr3, hr4, hr5, hr6, hr7⟩, rfl⟩
 replace hbs := hbs.mono le1
 show XL _ _ _ _ _ _ _ (curH .i64 63 cb1 bsv bs.length :: cellsH b1 [sN] 26 :: L)
 refine qd (.tuple #[.agg #[x1], x2, x3]) rfl (cX (qK (.agg #[x1]) rfl rfl (cX (qK (x2) rfl rfl (cX (qK (x3) rfl rfl (cX (je [sN] yl rfl ?_))))))))
 intro b2
 refine cX (qI [] _ [x1] qB rfl rfl rfl (qm (qy (qp hr1)) qO) rfl rfl rfl (qh (x2) rfl (qh (x3) rfl (qb (qc (qc (qa (qd (ptr cb1 0) rfl (cX (qt (args := [ptr cb1 0, ii (10)]) call14 rfl (jD [_] (l1Once_spec (n := 10) hbs (by omega) (hn := (by first | assumption | rfl | omega | simp)))) ?_))))))))))
 rintro _ _ _ _ ⟨⟨rfl, x7, rfl⟩, rfl⟩
 show XL _ _ _ _ _ _ _ (cellsH b2 [x1] 26 :: curH .i64 63 cb1 bsv bs.length :: cellsH b1 [sN] 26 :: L)
 refine qb ?_
 refine jG (t := x7) rfl (fun h1 => ?_) (fun h1 => ?_)
 ·refine qc (X.weaken (jg (A := [_, _])) ?_)
  show X _ _ _ _ _ _ (cellsH b1 [sN] 26 :: cellsH b2 [x1] 26 :: curH .i64 63 cb1 bsv bs.length :: L)
  refine X.drawH [cellsH b2 [x1] 26, curH .i64 63 cb1 bsv bs.length] L 11 [[], [], [], [], [], [], [3, 5], [5]] [[], [], [], [], [], [4], [3, 5], [3, 5, 6], [0], [1], [2]] [] (phiG [pe (.agg #[x1]), pe x2, pe x3, fun FF us v => (v : Value) = v ∧ (IntsF FF v [-1, 401]), pe (ptr cb1 0), fun FF us v => (ii (((intAt v))) : Value) = v ∧ (0 ≤ ((intAt v)) ∧ (((intAt v)) < 2 ∨ ((intAt v)) = 0)), fun FF us v => v = (.pointer (some (elemA (us.getD 0 undef) ((((intAt (us.getD 1 undef)))).toNat))) : Value), fun FF us v => v = (ii (([-1, 401]).getD ((((intAt (us.getD 0 undef)))).toNat) 0) : Value), fun FF us v => True, pe x2, pe x3]) (ownL [o0, o0, o0, o0, o0, o0, o0, o0, fun us v => [cellsH b1 [x1] 26]]) (fun i => ([[], [], [], [], [], [], [], [], [cellsH b1 [sN] 26], [], []] : List (List HP)).getD i []) mixed rfl rfl (by kernel_rfl) (by kernel_rfl) (MonoG.get (m1 (m1 (m1 (mC (fun le h => ⟨h.1, h.2.mono le⟩) (m1 (mC (fun le h => ⟨h.1, h.2⟩) (mC (fun le h => h) (mC (fun le h => h) (mC (fun le h => h) (m1 (m1 MonoG.nil)))))))))))) ?_ ?_
  ·refine tD (fun W Fs R lF z9 => ?_) ?_
   ·replace hbs := hbs.mono lF
    replace hr1 := hr1.mono lF
    replace hr2 := hr2.mono lF
    replace hr3 := hr3.mono lF
    refine qg (qv [x1] qU qB rfl rfl (Rd.ownN [] rfl rfl) ?_)
    exact ⟨rfl, rfl⟩
   refine tD (fun W Fs R lF z9 => ?_) ?_
   ·refine qg (ql (x2) rfl ?_)
    exact ⟨rfl, rfl⟩
   refine tD (fun W Fs R lF z9 => ?_) ?_
   ·refine qg (ql (x3) rfl ?_)
    exact ⟨rfl, rfl⟩
   refine tD (fun W Fs R lF z9 => ?_) ?_
   ·replace hbs := hbs.mono lF
    replace hr1 := hr1.mono lF
    replace hr2 := hr2.mono lF
    replace hr3 := hr3.mono lF
    refine qg (jT <| qD (s := 1) [ii (-1), ii (401)] [ii (0)] [(0, [ii (-1)]), (1, [ii (401)])] qf qC jj rfl (by decide) rfl (.cons rfl (.cons rfl CellsAre.nil)) rfl ?_)
    intro v1 hv1
    refine ⟨_, _, rfl, fun F4 le4 hz1 => ?_⟩
    replace hbs := hbs.mono le4
    replace hr1 := hr1.mono le4
    replace hr2 := hr2.mono le4
    replace hr3 := hr3.mono le4
    have hf1 : IntsF F4 v1 [-1, 401] := intsH.fz (xs := [-1, 401]) hz1.fz
    exact ⟨⟨rfl, hf1⟩, rfl⟩
   refine tD (fun W Fs R lF z9 => ?_) ?_
   ·refine qg (ql (ptr cb1 0) rfl ?_)
    exact ⟨rfl, rfl⟩
   refine tD (fun W Fs R lF z9 => ?_) ?_
   ·replace hbs := hbs.mono lF
    replace hr1 := hr1.mono lF
    replace hr2 := hr2.mono lF
    replace hr3 := hr3.mono lF
    rw [zA 4 (z9 4 rfl)]
    refine qg (qt (args := [ptr cb1 0, ii (2)]) call15 rfl (jD [_] (l1Below_spec (n := 2) hbs (by omega) (hn := (by first | assumption | rfl | omega | simp)))) ?_)
    rintro _ _ _ _ ⟨⟨rfl, x9, rfl, hr9⟩, rfl⟩
    exact ⟨⟨rfl, hr9⟩, rfl⟩
   refine tD (fun W Fs R lF z9 => ?_) ?_
   ·obtain ⟨e3, f3_1lit⟩ := z9 3 rfl
    obtain ⟨e5, f5_1hx⟩ := z9 5 rfl
    replace hbs := hbs.mono lF
    replace hr1 := hr1.mono lF
    replace hr2 := hr2.mono lF
    replace hr3 := hr3.mono lF
    rw [eS (l := [(3, (W 3)), (5, (ii (((intAt (W 5))))))]) ⟨(e3).symm, (e5).symm, ⟨⟩⟩]
    refine qg (qx ((((intAt (W 5)))).toNat) qf qC rfl rfl (by omega) f3_1lit.slv (by have h9 : ([-1, 401] : List Int).length = 2 := rfl; omega) (Nat.mul_one _) ?_)
    exact ⟨rfl, rfl⟩
   refine tD (fun W Fs R lF z9 => ?_) ?_
   ·obtain ⟨e3, f3_1lit⟩ := z9 3 rfl
    obtain ⟨e5, f5_1hx⟩ := z9 5 rfl
    have e6 : W 6 = (.pointer (some (elemA (W 3) ((((intAt (W 5)))).toNat))) : Value) := z9 6 rfl
    replace hbs := hbs.mono lF
    replace hr1 := hr1.mono lF
    replace hr2 := hr2.mono lF
    replace hr3 := hr3.mono lF
    rw [eS (l := [(3, (W 3)), (5, (ii (((intAt (W 5)))))), (6, (.pointer (some (elemA (W 3) ((((intAt (W 5)))).toNat)))))]) ⟨(e3).symm, (e5).symm, e6, ⟨⟩⟩]
    refine qg (qj jh rfl (f3_1lit.rd (by have h9 : ([-1, 401] : List Int).length = 2 := rfl; omega)) ?_)
    exact ⟨rfl, rfl⟩
   refine tD (fun W Fs R lF z9 => ?_) ?_
   ·replace hbs := hbs.mono lF
    replace hr1 := hr1.mono lF
    replace hr2 := hr2.mono lF
    replace hr3 := hr3.mono lF
    rw [zA 0 (z9 0 rfl)]
    show XG _ _ _ _ _ (cellsH b1 [sN] 26 :: ([cellsH b2 [x1] 26, curH .i64 63 cb1 bsv bs.length] ++ R)) _
    refine qg (qI [] _ [x1] qB rfl rfl rfl (qm (qy (qp hr1)) qO) rfl rfl rfl ?_)
    exact ⟨trivial, rfl⟩
   refine tD (fun W Fs R lF z9 => ?_) ?_
   ·rw [zA 1 (z9 1 rfl)]
    refine qg (XOp.assign (x2) rfl ?_)
    exact ⟨rfl, rfl⟩
   refine tD (fun W Fs R lF z9 => ?_) ?_
   ·rw [zA 2 (z9 2 rfl)]
    refine qg (XOp.assign (x3) rfl ?_)
    exact ⟨rfl, rfl⟩
   exact stepsT.nil
  intro W F6 le6 hphi
  obtain ⟨e3, f3_1lit⟩ := hphi 3 (by decide)
  obtain ⟨e5, f5_1hx⟩ := hphi 5 (by decide)
  have e6 : W 6 = (.pointer (some (elemA (W 3) ((((intAt (W 5)))).toNat))) : Value) := hphi 6 (by decide)
  have e7 : W 7 = (ii (([-1, 401]).getD ((((intAt (W 5)))).toNat) 0) : Value) := hphi 7 (by decide)
  generalize hu1 : (W 3) = u1 at e3 f3_1lit e5 f5_1hx e6 e7
  generalize hu2 : (intAt (W 5)) = u2 at e3 f3_1lit e5 f5_1hx e6 e7
  rw [eS (l := [(3, u1), (5, (ii ((u2)))), (7, (ii (([-1, 401]).getD (((u2)).toNat) 0))), (9, _), (10, _)]) ⟨hu1, (e5).symm, e7, (hphi 9 (by decide)), (hphi 10 (by decide)), ⟨⟩⟩]
  replace hbs := hbs.mono le6
  replace hr1 := hr1.mono le6
  replace hr2 := hr2.mono le6
  replace hr3 := hr3.mono le6
  show XL _ _ _ _ _ _ _ (cellsH b1 [x1] 26 :: cellsH b2 [x1] 26 :: curH .i64 63 cb1 bsv bs.length :: L)
  refine qh (ii (([-1, 401]).getD (((u2)).toNat) 0)) rfl (qb (qw (qo (qu (L' := L) [.agg #[x1], x2, x3, ii (([-1, 401]).getD (((u2)).toNat) 0)] (.tuple #[.agg #[x1], x2, x3, ii (([-1, 401]).getD (((u2)).toNat) 0)]) (.cell rfl (jA [x1] qU qB rfl (Rd.ownN [] rfl rfl)) (.tmp rfl (.tmp rfl (.tmp rfl .nil)))) rfl (qi le1 le6) rF (sD (sD (sD sR))) ?_))))
  exact ⟨_, _, _, _, _, _, _, rfl, hr1, hr2, hr3, hr4, hr5, hr6, hr7, rfl⟩
 refine qA (qc (X.weaken (jg (A := [_, _])) ?_))
 show X _ _ _ _ _ _ (cellsH b1 [sN] 26 :: cellsH b2 [x1] 26 :: curH .i64 63 cb1 bsv bs.length :: L)
 refine X.drawH [cellsH b2 [x1] 26, curH .i64 63 cb1 bsv bs.length] L 7 [] [[], [], [], [], [3], [0], [1]] [] (phiG [pe (.agg #[x1]), pe x2, pe x3, pe (ptr cb1 0), fun FF us v => (ii (((intAt v))) : Value) = v ∧ (0 ≤ ((intAt v)) ∧ (((intAt v)) < 30 ∨ ((intAt v)) = 0)), fun FF us v => True, pe x2]) (ownL [o0, o0, o0, o0, o0, fun us v => [cellsH b1 [x1] 26]]) (fun i => ([[], [], [], [], [], [cellsH b1 [sN] 26], []] : List (List HP)).getD i []) mixed rfl rfl (by kernel_rfl) (by kernel_rfl) (MonoG.get (m1 (m1 (m1 (m1 (mC (fun le h => ⟨h.1, h.2⟩) (mC (fun le h => h) (m1 MonoG.nil)))))))) ?_ ?_
 ·refine tD (fun W Fs R lF z9 => ?_) ?_
  ·replace hbs := hbs.mono lF
   replace hr1 := hr1.mono lF
   replace hr2 := hr2.mono lF
   replace hr3 := hr3.mono lF
   refine qg (qv [x1] qU qB rfl rfl (Rd.ownN [] rfl rfl) ?_)
   exact ⟨rfl, rfl⟩
  refine tD (fun W Fs R lF z9 => ?_) ?_
  ·refine qg (ql (x2) rfl ?_)
   exact ⟨rfl, rfl⟩
  refine tD (fun W Fs R lF z9 => ?_) ?_
  ·refine qg (ql (x3) rfl ?_)
   exact ⟨rfl, rfl⟩
  refine tD (fun W Fs R lF z9 => ?_) ?_
  ·refine qg (ql (ptr cb1 0) rfl ?_)
   exact ⟨rfl, rfl⟩
  refine tD (fun W Fs R lF z9 => ?_) ?_
  ·replace hbs := hbs.mono lF
   replace hr1 := hr1.mono lF
   replace hr2 := hr2.mono lF
   replace hr3 := hr3.mono lF
   rw [zA 3 (z9 3 rfl)]
   refine qg (qt (args := [ptr cb1 0, ii (30)]) call15 rfl (jD [_] (l1Below_spec (n := 30) hbs (by omega) (hn := (by first | assumption | rfl | omega | simp)))) ?_)
   rintro _ _ _ _ ⟨⟨rfl, x11, rfl, hr11⟩, rfl⟩
   exact ⟨⟨rfl, hr11⟩, rfl⟩
  refine tD (fun W Fs R lF z9 => ?_) ?_
  ·replace hbs := hbs.mono lF
   replace hr1 := hr1.mono lF
   replace hr2 := hr2.mono lF
   replace hr3 := hr3.mono lF
   rw [zA 0 (z9 0 rfl)]
   show XG _ _ _ _ _ (cellsH b1 [sN] 26 :: ([cellsH b2 [x1] 26, curH .i64 63 cb1 bsv bs.length] ++ R)) _
   refine qg (qI [] _ [x1] qB rfl rfl rfl (qm (qy (qp hr1)) qO) rfl rfl rfl ?_)
   exact ⟨trivial, rfl⟩
  refine tD (fun W Fs R lF z9 => ?_) ?_
  ·rw [zA 1 (z9 1 rfl)]
   refine qg (XOp.assign (x2) rfl ?_)
   exact ⟨rfl, rfl⟩
  exact stepsT.nil
 intro W F9 le9 hphi
 obtain ⟨e4, f4_2hx⟩ := hphi 4 (by decide)
 generalize hu3 : (intAt (W 4)) = u3 at e4 f4_2hx
 rw [eS (l := [(2, _), (4, (ii ((u3)))), (6, _)]) ⟨(hphi 2 (by decide)), (e4).symm, (hphi 6 (by decide)), ⟨⟩⟩]
 replace hr1 := hr1.mono le9
 replace hr2 := hr2.mono le9
 replace hr3 := hr3.mono le9
 show XL _ _ _ _ _ _ _ (cellsH b1 [x1] 26 :: cellsH b2 [x1] 26 :: curH .i64 63 cb1 bsv bs.length :: L)
 refine qh (x3) rfl (qh (ii ((u3))) rfl (qb (qw (qu (L' := L) [.agg #[x1], x2, x3, ii ((u3))] (.tuple #[.agg #[x1], x2, x3, ii ((u3))]) (.cell rfl (jA [x1] qU qB rfl (Rd.ownN [] rfl rfl)) (.tmp rfl (.tmp rfl (.tmp rfl .nil)))) rfl (qi le1 le9) rF (sD (sD (sD sR))) ?_))))
 exact ⟨_, _, _, _, _, _, _, rfl, hr1, hr2, hr3, hr4, hr5, hr6, hr7, rfl⟩

/- laws.FnWorkParts -/
set_option maxHeartbeats 2000000 in
set_option maxRecDepth 20000 in
theorem FnWorkParts_does {F : FH} {L : List HP} {bsv : Value} {bs : List Int} (hbs : BytesF F bsv bs) (hlb : bs.length ≤ 9223372036854775807) :
    Does prog 3 [bsv] F (L) (fun v F' L' => (.bool (true) : Value) = v ∧ F = F' ∧ L = L') := by
 refine qH func3 rfl rfl rfl (qc (qa (qh (.bool (false)) rfl (qb (qc (qc (qa (qd (bsv) rfl (cX (qt (args := [bsv]) call4 rfl (big_spec hbs) ?_))))))))))
 rintro _ _ _ _ ⟨rfl, rfl, rfl⟩
 refine qb ?_
 refine qE (p := (bs.length : Int) > 4096) rfl (fun h1 => ?_) (fun h1 => ?_)
 ·refine qc (qa (qh (.bool (true)) rfl (qb (qw (qo (qu (L' := L) [.bool (true)] (.bool (true)) (.tmp rfl .nil) rfl rF rF sR ?_))))))
  exact ⟨(vB ((by first | rfl | exact (not_of (by assumption) hrz9).symm | exact (decide_eq_true (by omega)).symm | (exfalso; omega)))), rfl, rfl⟩
 have hbl2 : bs.length ≤ 4000000 := by omega
 refine qA (qc (qa (qd (bsv) rfl (cX (qt (args := [bsv]) call5 rfl (DrawCompleted_spec hbs (hbl := (by first | assumption | rfl | omega | simp))) ?_)))))
 rintro _ F1 _ le1 ⟨x1, x2, x3, x4, x5, x6, x7, rfl, hr1, hr2, hr3, hr4, hr5, hr6, hr7, rfl⟩
 replace hbs := hbs.mono le1
 refine qd (.tuple #[.agg #[x1], x2, x3, ii (x7)]) rfl (cX (qK (.agg #[x1]) rfl rfl (cX (qK (x2) rfl rfl (cX (qK (x3) rfl rfl (cX (qK (ii (x7)) rfl rfl (cX (je [sN] yl rfl ?_))))))))))
 intro b1
 refine cX (qI [] _ [x1] qB rfl rfl rfl (qm (qy (qp hr1)) qO) rfl rfl rfl (qh (x2) rfl (qh (x3) rfl (qh (ii (x7)) rfl ?_))))
 have heb9 : ∀ i, i < x5.length → (x5.getD i ([], [])).1.length ≤ 4000000 ∧ (x5.getD i ([], [])).2.length ≤ 4000000 := fun i hi => by have h9 := hr6 i hi; omega
 have hla9 := hr4
 have hle9 := hr5
 have hlk9 := hr7
 refine qb (qc (qa (cX (qv [x1] qU qB rfl rfl (Rd.ownN [] rfl rfl) (qd (x2) rfl (qd (x3) rfl (cX (qt (args := [.agg #[x1], x2, x3]) call6 rfl (StartWork_spec hr1 hr2 hr3) ?_))))))))
 rintro _ F2 _ le2 ⟨x8, x9, x10, x11, rfl, hr8, hr9, hr10, hr11, rfl⟩
 replace hbs := hbs.mono le2
 replace hr1 := hr1.mono le2
 replace hr2 := hr2.mono le2
 replace hr3 := hr3.mono le2
 refine qd (.tuple #[.agg #[x8, x9, x10, x11], .bool ((eqsOkL x4 x5 && rankB x4 x6))]) rfl (cX (qK (.agg #[x8, x9, x10, x11]) rfl rfl (cX (qK (.bool ((eqsOkL x4 x5 && rankB x4 x6))) rfl rfl (cX (je [sN, sN, sN, sN] yh rfl ?_))))))
 intro b2
 refine cX (qI [] _ [x8, x9, x10, x11] jb rfl rfl rfl (qm (qy (qp hr8)) (qm (qy (qp hr9)) (qm (qy (PairsF.isSl hr10)) (qm (qy (PairsF.isSl hr11)) qO)))) rfl rfl rfl (qh (.bool ((eqsOkL x4 x5 && rankB x4 x6))) rfl (qb (qc (qc (qa (qd (.bool ((eqsOkL x4 x5 && rankB x4 x6))) rfl (cX (ju rfl (qb ?_))))))))))
 refine jG (t := !((eqsOkL x4 x5 && rankB x4 x6))) rfl (fun h2 => ?_) (fun h2 => ?_)
 ·have hno : (eqsOkL x4 x5 && rankB x4 x6) = false := Bool.not_inj (y := false) h2
  refine qc (qa (cX (qv [x1] qU qB rfl rfl (Rd.ownN [_] rfl rfl) (qd (x2) rfl (cX (qt (args := [.agg #[x1], x2]) call7 rfl (sEqsOk_spec hr1 hr2 (hla := (by first | assumption | rfl | omega | simp)) (hel := (by first | assumption | rfl | omega | simp)) (heb := (heb9))) ?_))))))
  rintro _ _ _ _ ⟨rfl, rfl, rfl⟩
  refine cX (ju rfl (qd (.bool (!(eqsOkL x4 x5))) rfl ?_))
  by_cases h3 : (!(eqsOkL x4 x5)) = true
  ·refine qq (t := 43) rfl (vB h3) (qq (t := 43) rfl (vB h3) (qq (t := 43) rfl (vB h3) (qq (t := 43) rfl (vB h3) (cX (qT (.bool (true)) (vB h3) rfl (qh (.bool (true)) rfl (qb (qw (qo (qu (L' := L) [.bool (true)] (.bool (true)) (.tmp rfl .nil) rfl rF (qi le1 le2) (sD (sD sR)) ?_))))))))))
   exact ⟨(vB ((by first | rfl | exact (not_of (by assumption) hrz9).symm | exact (decide_eq_true (by omega)).symm | (exfalso; omega)))), rfl, rfl⟩
  rw [Bool.not_eq_true] at h3
  have hrz9 : rankB x4 x6 = false := by have h8 := hno; rw [Bool.not_inj (y := true) h3, Bool.true_and] at h8; exact h8
  refine qs (t := 43) rfl (vB h3) (qv [x1] qU qB rfl rfl (Rd.ownN [_] rfl rfl) (qs (t := 43) rfl (vB h3) (ql (x3) rfl (qs (t := 43) rfl (vB h3) (qt (args := [.agg #[x1], x3]) call8 rfl (sRankOk_spec hr1 hr3 (hla := (by first | assumption | rfl | omega | simp)) (hlr := (by first | assumption | rfl | omega | simp))) ?_)))))
  rintro _ F3 _ le3 ⟨x12, rfl, hr12, rfl⟩
  replace hbs := hbs.mono le3
  replace hr8 := hr8.mono le3
  replace hr9 := hr9.mono le3
  replace hr10 := hr10.mono le3
  replace hr11 := hr11.mono le3
  refine qs (t := 43) rfl (vB h3) (ju rfl (cX (qP (.bool (!(x12))) (vB h3) rfl (qh (.bool (!(x12))) rfl (qb (qw (qo (qu (L' := L) [.bool (!(x12))] (.bool (!(x12))) (.tmp rfl .nil) rfl rF (qi (qi le1 le2) le3) (sD (sD sR)) ?_))))))))
  exact ⟨(vB ((by first | rfl | exact (not_of (by assumption) hrz9).symm | exact (decide_eq_true (by omega)).symm | (exfalso; omega)))), rfl, rfl⟩
 have hye : (eqsOkL x4 x5 && rankB x4 x6) = true := Bool.not_inj (y := true) h2
 have hye2 := hye
 rw [Bool.and_eq_true] at hye2
 have hw0 := start_ok hye2.1 hye2.2
 rw [if_pos hye] at hr8
 rw [if_pos hye] at hr9
 rw [if_pos hye] at hr10
 skip
 refine qA (qc (qa (qd (bsv) rfl (cX (qt (args := [bsv, .int .u64 (701)]) call9 rfl (roll_spec hbs (by omega)) ?_)))))
 rintro _ _ _ _ ⟨cb1, rfl, rfl, rfl⟩
 show XL _ _ _ _ _ _ _ (curH .u64 56 cb1 bsv bs.length :: cellsH b2 [x8, x9, x10, x11] 32 :: cellsH b1 [x1] 26 :: L)
 refine qh (ptr cb1 0) rfl (qb (qc (qa (qd (ptr cb1 0) rfl (cX (qt (args := [ptr cb1 0, ii (6)]) call10 rfl (jD [] (below_spec (n := 6) hbs (by omega) (hn := (by first | assumption | rfl | omega | simp)))) ?_))))))
 rintro _ _ _ _ ⟨⟨rfl, x13, rfl, hr13⟩, rfl⟩
 show XL _ _ _ _ _ _ _ (curH .u64 56 cb1 bsv bs.length :: cellsH b2 [x8, x9, x10, x11] 32 :: cellsH b1 [x1] 26 :: L)
 refine qh (ii (x13)) rfl (qb (qc (qa (qd (ptr cb1 0) rfl (cX (qt (args := [ptr cb1 0, ii (6)]) call10 rfl (jD [] (below_spec (n := 6) hbs (by omega) (hn := (by first | assumption | rfl | omega | simp)))) ?_))))))
 rintro _ _ _ _ ⟨⟨rfl, x14, rfl, hr14⟩, rfl⟩
 show XL _ _ _ _ _ _ _ (curH .u64 56 cb1 bsv bs.length :: cellsH b2 [x8, x9, x10, x11] 32 :: cellsH b1 [x1] 26 :: L)
 refine qh (ii (x14)) rfl (qb (qc (qa (cX (qv [x8, x9, x10, x11] jE jb rfl rfl (Rd.ownN [_] rfl rfl) (qd (ii (x13)) rfl (cX (qt (args := [.agg #[x8, x9, x10, x11], ii (x13)]) call11 rfl (WorkRun_spec (z := x13) hr8 hr9 hr10 hr11 (hw := (by first | exact hw0 | exact run_all _ _ _ _ hw0)) (hz0 := (by first | assumption | rfl | omega | simp)) (hz4 := (by first | assumption | rfl | omega | simp))) ?_))))))))
 rintro _ F6 _ le6 ⟨x15, x16, x17, x18, rfl, hr15, hr16, hr17, hr18, rfl⟩
 replace hr8 := hr8.mono le6
 replace hr9 := hr9.mono le6
 replace hr10 := hr10.mono le6
 replace hr11 := hr11.mono le6
 refine qd (.tuple #[.agg #[x15, x16, x17, x18], ii ((runW x4 x6 x13.toNat (x5, ([])) 0 0).2.1), ii ((((runW x4 x6 x13.toNat (x5, ([])) 0 0).2.2 : Nat) : Int))]) rfl (cX (qK (.agg #[x15, x16, x17, x18]) rfl rfl (cX (qK (ii ((runW x4 x6 x13.toNat (x5, ([])) 0 0).2.1)) rfl rfl (cX (qK (ii ((((runW x4 x6 x13.toNat (x5, ([])) 0 0).2.2 : Nat) : Int))) rfl rfl (cX (je [sN, sN, sN, sN] yh rfl ?_))))))))
 intro b3
 refine cX (qI [] _ [x15, x16, x17, x18] jb rfl rfl rfl (qm (qy (qp hr15)) (qm (qy (qp hr16)) (qm (qy (PairsF.isSl hr17)) (qm (qy (PairsF.isSl hr18)) qO)))) rfl rfl rfl (qh (ii ((runW x4 x6 x13.toNat (x5, ([])) 0 0).2.1)) rfl (qh (ii ((((runW x4 x6 x13.toNat (x5, ([])) 0 0).2.2 : Nat) : Int))) rfl (qb (qc (qa (cX (qv [x15, x16, x17, x18] jE jb rfl rfl (Rd.ownN [] rfl rfl) (qd (ii (x14)) rfl (cX (qt (args := [.agg #[x15, x16, x17, x18], ii (x14)]) call11 rfl (WorkRun_spec (z := x14) hr15 hr16 hr17 hr18 (hw := (by first | exact hw0 | exact run_all _ _ _ _ hw0)) (hz0 := (by first | assumption | rfl | omega | simp)) (hz4 := (by first | assumption | rfl | omega | simp))) ?_)))))))))))
 rintro _ F7 _ le7 ⟨x19, x20, x21, x22, rfl, hr19, hr20, hr21, hr22, rfl⟩
 replace hr8 := hr8.mono le7
 replace hr9 := hr9.mono le7
 replace hr10 := hr10.mono le7
 replace hr11 := hr11.mono le7
 refine qd (.tuple #[.agg #[x19, x20, x21, x22], ii ((runW x4 x6 x14.toNat (((runW x4 x6 x13.toNat (x5, ([])) 0 0).1.1), ((runW x4 x6 x13.toNat (x5, ([])) 0 0).1.2)) 0 0).2.1), ii ((((runW x4 x6 x14.toNat (((runW x4 x6 x13.toNat (x5, ([])) 0 0).1.1), ((runW x4 x6 x13.toNat (x5, ([])) 0 0).1.2)) 0 0).2.2 : Nat) : Int))]) rfl (cX (qK (.agg #[x19, x20, x21, x22]) rfl rfl (cX (qK (ii ((runW x4 x6 x14.toNat (((runW x4 x6 x13.toNat (x5, ([])) 0 0).1.1), ((runW x4 x6 x13.toNat (x5, ([])) 0 0).1.2)) 0 0).2.1)) rfl rfl (cX (qK (ii ((((runW x4 x6 x14.toNat (((runW x4 x6 x13.toNat (x5, ([])) 0 0).1.1), ((runW x4 x6 x13.toNat (x5, ([])) 0 0).1.2)) 0 0).2.2 : Nat) : Int))) rfl rfl (cX (je [sN, sN, sN, sN] yh rfl ?_))))))))
 intro b4
 refine cX (qI [] _ [x19, x20, x21, x22] jb rfl rfl rfl (qm (qy (qp hr19)) (qm (qy (qp hr20)) (qm (qy (PairsF.isSl hr21)) (qm (qy (PairsF.isSl hr22)) qO)))) rfl rfl rfl (qh (ii ((runW x4 x6 x14.toNat (((runW x4 x6 x13.toNat (x5, ([])) 0 0).1.1), ((runW x4 x6 x13.toNat (x5, ([])) 0 0).1.2)) 0 0).2.1)) rfl (qh (ii ((((runW x4 x6 x14.toNat (((runW x4 x6 x13.toNat (x5, ([])) 0 0).1.1), ((runW x4 x6 x13.toNat (x5, ([])) 0 0).1.2)) 0 0).2.2 : Nat) : Int))) rfl (qb (qc (qa (cX (qv [x8, x9, x10, x11] jE jb rfl rfl (Rd.ownN [_, _, _] rfl rfl) (qd (ii (x13)) rfl (qd (ii (x14)) rfl (cX (qM (x13 + x14) rfl rfl (by omega) (by omega) (cX (qt (args := [.agg #[x8, x9, x10, x11], ii (x13 + x14)]) call11 rfl (WorkRun_spec (z := x13 + x14) hr8 hr9 hr10 hr11 (hw := (by first | exact hw0 | exact run_all _ _ _ _ hw0)) (hz0 := (by first | assumption | rfl | omega | simp)) (hz4 := (by first | assumption | rfl | omega | simp))) ?_))))))))))))))
 rintro _ F8 _ le8 ⟨x23, x24, x25, x26, rfl, hr23, hr24, hr25, hr26, rfl⟩
 replace hr21 := hr21.mono le8
 replace hr22 := hr22.mono le8
 refine qd (.tuple #[.agg #[x23, x24, x25, x26], ii ((runW x4 x6 (x13 + x14).toNat (x5, ([])) 0 0).2.1), ii ((((runW x4 x6 (x13 + x14).toNat (x5, ([])) 0 0).2.2 : Nat) : Int))]) rfl (cX (qK (.agg #[x23, x24, x25, x26]) rfl rfl (cX (qK (ii ((runW x4 x6 (x13 + x14).toNat (x5, ([])) 0 0).2.1)) rfl rfl (cX (qK (ii ((((runW x4 x6 (x13 + x14).toNat (x5, ([])) 0 0).2.2 : Nat) : Int))) rfl rfl (cX (je [sN, sN, sN, sN] yh rfl ?_))))))))
 intro b5
 refine cX (qI [] _ [x23, x24, x25, x26] jb rfl rfl rfl (qm (qy (qp hr23)) (qm (qy (qp hr24)) (qm (qy (PairsF.isSl hr25)) (qm (qy (PairsF.isSl hr26)) qO)))) rfl rfl rfl (qh (ii ((runW x4 x6 (x13 + x14).toNat (x5, ([])) 0 0).2.1)) rfl (qh (ii ((((runW x4 x6 (x13 + x14).toNat (x5, ([])) 0 0).2.2 : Nat) : Int))) rfl (qb (qc (qc (qa ?_)))))))
 have hP := parts_all hw0 (x := x13) (y := x14) (by omega) (by omega)
 have hb8 := run_le (ar := x4) (rk := x6) x13.toNat (x5, []) 0 0
 have hb9 := run_le (ar := x4) (rk := x6) x14.toNat ((runW x4 x6 x13.toNat (x5, []) 0 0).1.1, (runW x4 x6 x13.toNat (x5, []) 0 0).1.2) 0 0
 refine qd (ii ((runW x4 x6 x13.toNat (x5, ([])) 0 0).2.1)) rfl (cX (XOp.neq rfl rfl (qd (.bool (decide (((runW x4 x6 x13.toNat (x5, ([])) 0 0).2.1 : Int) ≠ 0))) rfl ?_)))
 by_cases h4 : ((runW x4 x6 x13.toNat (x5, ([])) 0 0).2.1 : Int) ≠ 0
 ·refine qs (t := 80) rfl (vT h4) (ql (ii ((runW x4 x6 x13.toNat (x5, ([])) 0 0).2.1)) rfl (qs (t := 80) rfl (vT h4) (XOp.neq rfl rfl (cX (qT (.bool (decide (((runW x4 x6 x13.toNat (x5, ([])) 0 0).2.1 : Int) ≠ 1))) (vT h4) rfl (qd (.bool (decide (((runW x4 x6 x13.toNat (x5, ([])) 0 0).2.1 : Int) ≠ 1))) rfl ?_))))))
  by_cases h5 : ((runW x4 x6 x13.toNat (x5, ([])) 0 0).2.1 : Int) ≠ 1
  ·refine qs (t := 84) rfl (vT h5) (ql (ii ((runW x4 x6 x13.toNat (x5, ([])) 0 0).2.1)) rfl (qs (t := 84) rfl (vT h5) (XOp.neq rfl rfl (cX (qT (.bool (decide (((runW x4 x6 x13.toNat (x5, ([])) 0 0).2.1 : Int) ≠ 2))) (vT h5) rfl (qb ?_))))))
   refine qE (p := ((runW x4 x6 x13.toNat (x5, ([])) 0 0).2.1 : Int) ≠ 2) rfl (fun h6 => ?_) (fun h6 => ?_)
   ·refine qc (qa (qd (ii ((runW x4 x6 (x13 + x14).toNat (x5, ([])) 0 0).2.1)) rfl (qd (ii ((runW x4 x6 x13.toNat (x5, ([])) 0 0).2.1)) rfl (cX (jo rfl rfl (qd (.bool (decide (((runW x4 x6 (x13 + x14).toNat (x5, ([])) 0 0).2.1 : Int) = (runW x4 x6 x13.toNat (x5, ([])) 0 0).2.1))) rfl ?_))))))
    by_cases h7 : ((runW x4 x6 (x13 + x14).toNat (x5, ([])) 0 0).2.1 : Int) = (runW x4 x6 x13.toNat (x5, ([])) 0 0).2.1
    ·refine qs (t := 91) rfl (vT h7) (ql (ii ((((runW x4 x6 (x13 + x14).toNat (x5, ([])) 0 0).2.2 : Nat) : Int))) rfl (qs (t := 91) rfl (vT h7) (ql (ii ((((runW x4 x6 x13.toNat (x5, ([])) 0 0).2.2 : Nat) : Int))) rfl (qs (t := 91) rfl (vT h7) (jo rfl rfl (cX (qT (.bool (decide (((((runW x4 x6 (x13 + x14).toNat (x5, ([])) 0 0).2.2 : Nat) : Int) : Int) = (((runW x4 x6 x13.toNat (x5, ([])) 0 0).2.2 : Nat) : Int)))) (vT h7) rfl (qh (.bool (decide (((((runW x4 x6 (x13 + x14).toNat (x5, ([])) 0 0).2.2 : Nat) : Int) : Int) = (((runW x4 x6 x13.toNat (x5, ([])) 0 0).2.2 : Nat) : Int)))) rfl (qb (qw (qo (qu (L' := L) [.bool (decide (((((runW x4 x6 (x13 + x14).toNat (x5, ([])) 0 0).2.2 : Nat) : Int) : Int) = (((runW x4 x6 x13.toNat (x5, ([])) 0 0).2.2 : Nat) : Int)))] (.bool (decide (((((runW x4 x6 (x13 + x14).toNat (x5, ([])) 0 0).2.2 : Nat) : Int) : Int) = (((runW x4 x6 x13.toNat (x5, ([])) 0 0).2.2 : Nat) : Int)))) (.tmp rfl .nil) rfl rF (qi (qi (qi (qi le1 le2) le6) le7) le8) (sD (sD (sD (sD (sD (sD sR)))))) ?_))))))))))))
     exact ⟨(vB ((by first | rfl | exact (not_of (by assumption) hrz9).symm | exact (decide_eq_true (by omega)).symm | (exfalso; omega)))), rfl, rfl⟩
    refine qq (t := 91) rfl (vF h7) (qq (t := 91) rfl (vF h7) (qq (t := 91) rfl (vF h7) (cX (qP (.bool (false)) (vF h7) rfl (qh (.bool (false)) rfl (qb (qw (qo (qu (L' := L) [.bool (false)] (.bool (false)) (.tmp rfl .nil) rfl rF (qi (qi (qi (qi le1 le2) le6) le7) le8) (sD (sD (sD (sD (sD (sD sR)))))) ?_)))))))))
    exact ⟨(vB ((by first | rfl | exact (not_of (by assumption) hrz9).symm | exact (decide_eq_true (by omega)).symm | (exfalso; omega)))), rfl, rfl⟩
   refine qA (qc (qc (qa (qd (ii (x14)) rfl (cX (jo rfl rfl (qb ?_)))))))
   refine qE (p := (x14 : Int) = 0) rfl (fun h8 => ?_) (fun h8 => ?_)
   ·refine qc (qa (qd (ii ((runW x4 x6 (x13 + x14).toNat (x5, ([])) 0 0).2.1)) rfl (qd (ii ((runW x4 x6 x13.toNat (x5, ([])) 0 0).2.1)) rfl (cX (jo rfl rfl (qd (.bool (decide (((runW x4 x6 (x13 + x14).toNat (x5, ([])) 0 0).2.1 : Int) = (runW x4 x6 x13.toNat (x5, ([])) 0 0).2.1))) rfl ?_))))))
    by_cases h9 : ((runW x4 x6 (x13 + x14).toNat (x5, ([])) 0 0).2.1 : Int) = (runW x4 x6 x13.toNat (x5, ([])) 0 0).2.1
    ·refine qs (t := 101) rfl (vT h9) (ql (ii ((((runW x4 x6 (x13 + x14).toNat (x5, ([])) 0 0).2.2 : Nat) : Int))) rfl (qs (t := 101) rfl (vT h9) (ql (ii ((((runW x4 x6 x13.toNat (x5, ([])) 0 0).2.2 : Nat) : Int))) rfl (qs (t := 101) rfl (vT h9) (jo rfl rfl (cX (qT (.bool (decide (((((runW x4 x6 (x13 + x14).toNat (x5, ([])) 0 0).2.2 : Nat) : Int) : Int) = (((runW x4 x6 x13.toNat (x5, ([])) 0 0).2.2 : Nat) : Int)))) (vT h9) rfl (qh (.bool (decide (((((runW x4 x6 (x13 + x14).toNat (x5, ([])) 0 0).2.2 : Nat) : Int) : Int) = (((runW x4 x6 x13.toNat (x5, ([])) 0 0).2.2 : Nat) : Int)))) rfl (qb (qw (qo (qu (L' := L) [.bool (decide (((((runW x4 x6 (x13 + x14).toNat (x5, ([])) 0 0).2.2 : Nat) : Int) : Int) = (((runW x4 x6 x13.toNat (x5, ([])) 0 0).2.2 : Nat) : Int)))] (.bool (decide (((((runW x4 x6 (x13 + x14).toNat (x5, ([])) 0 0).2.2 : Nat) : Int) : Int) = (((runW x4 x6 x13.toNat (x5, ([])) 0 0).2.2 : Nat) : Int)))) (.tmp rfl .nil) rfl rF (qi (qi (qi (qi le1 le2) le6) le7) le8) (sD (sD (sD (sD (sD (sD sR)))))) ?_))))))))))))
     exact ⟨(vB ((by first | rfl | exact (not_of (by assumption) hrz9).symm | exact (decide_eq_true (by omega)).symm | (exfalso; omega)))), rfl, rfl⟩
    refine qq (t := 101) rfl (vF h9) (qq (t := 101) rfl (vF h9) (qq (t := 101) rfl (vF h9) (cX (qP (.bool (false)) (vF h9) rfl (qh (.bool (false)) rfl (qb (qw (qo (qu (L' := L) [.bool (false)] (.bool (false)) (.tmp rfl .nil) rfl rF (qi (qi (qi (qi le1 le2) le6) le7) le8) (sD (sD (sD (sD (sD (sD sR)))))) ?_)))))))))
    exact ⟨(vB ((by first | rfl | exact (not_of (by assumption) hrz9).symm | exact (decide_eq_true (by omega)).symm | (exfalso; omega)))), rfl, rfl⟩
   refine qA (qc (qa (qd (ii ((runW x4 x6 (x13 + x14).toNat (x5, ([])) 0 0).2.1)) rfl (qd (ii ((runW x4 x6 x14.toNat (((runW x4 x6 x13.toNat (x5, ([])) 0 0).1.1), ((runW x4 x6 x13.toNat (x5, ([])) 0 0).1.2)) 0 0).2.1)) rfl (cX (jo rfl rfl (qd (.bool (decide (((runW x4 x6 (x13 + x14).toNat (x5, ([])) 0 0).2.1 : Int) = (runW x4 x6 x14.toNat (((runW x4 x6 x13.toNat (x5, ([])) 0 0).1.1), ((runW x4 x6 x13.toNat (x5, ([])) 0 0).1.2)) 0 0).2.1))) rfl ?_)))))))
   by_cases h10 : ((runW x4 x6 (x13 + x14).toNat (x5, ([])) 0 0).2.1 : Int) = (runW x4 x6 x14.toNat (((runW x4 x6 x13.toNat (x5, ([])) 0 0).1.1), ((runW x4 x6 x13.toNat (x5, ([])) 0 0).1.2)) 0 0).2.1
   ·refine qs (t := 109) rfl (vT h10) (ql (ii ((((runW x4 x6 (x13 + x14).toNat (x5, ([])) 0 0).2.2 : Nat) : Int))) rfl (qs (t := 109) rfl (vT h10) (ql (ii ((((runW x4 x6 x13.toNat (x5, ([])) 0 0).2.2 : Nat) : Int))) rfl (qs (t := 109) rfl (vT h10) (ql (ii ((((runW x4 x6 x14.toNat (((runW x4 x6 x13.toNat (x5, ([])) 0 0).1.1), ((runW x4 x6 x13.toNat (x5, ([])) 0 0).1.2)) 0 0).2.2 : Nat) : Int))) rfl (qs (t := 109) rfl (vT h10) (qM (((((runW x4 x6 x13.toNat (x5, ([])) 0 0).2.2 : Nat) : Int)) + ((((runW x4 x6 x14.toNat (((runW x4 x6 x13.toNat (x5, ([])) 0 0).1.1), ((runW x4 x6 x13.toNat (x5, ([])) 0 0).1.2)) 0 0).2.2 : Nat) : Int))) rfl rfl (by omega) (by omega) (qs (t := 109) rfl (vT h10) (jo rfl rfl (cX (qT (.bool (decide (((((runW x4 x6 (x13 + x14).toNat (x5, ([])) 0 0).2.2 : Nat) : Int) : Int) = ((((runW x4 x6 x13.toNat (x5, ([])) 0 0).2.2 : Nat) : Int)) + ((((runW x4 x6 x14.toNat (((runW x4 x6 x13.toNat (x5, ([])) 0 0).1.1), ((runW x4 x6 x13.toNat (x5, ([])) 0 0).1.2)) 0 0).2.2 : Nat) : Int))))) (vT h10) rfl (qd (.bool (decide (((((runW x4 x6 (x13 + x14).toNat (x5, ([])) 0 0).2.2 : Nat) : Int) : Int) = ((((runW x4 x6 x13.toNat (x5, ([])) 0 0).2.2 : Nat) : Int)) + ((((runW x4 x6 x14.toNat (((runW x4 x6 x13.toNat (x5, ([])) 0 0).1.1), ((runW x4 x6 x13.toNat (x5, ([])) 0 0).1.2)) 0 0).2.2 : Nat) : Int))))) rfl ?_))))))))))))
    by_cases h11 : ((((runW x4 x6 (x13 + x14).toNat (x5, ([])) 0 0).2.2 : Nat) : Int) : Int) = ((((runW x4 x6 x13.toNat (x5, ([])) 0 0).2.2 : Nat) : Int)) + ((((runW x4 x6 x14.toNat (((runW x4 x6 x13.toNat (x5, ([])) 0 0).1.1), ((runW x4 x6 x13.toNat (x5, ([])) 0 0).1.2)) 0 0).2.2 : Nat) : Int))
    ·refine qs (t := 116) rfl (vT h11) (qn (3) qS rfl jB (by decide) rfl rfl (qs (t := 116) rfl (vT h11) (qj jS rfl (Rd.own [] rfl rfl) (qs (t := 116) rfl (vT h11) (qG qV rfl hr26.slv (qs (t := 116) rfl (vT h11) (qn (3) qS rfl jB (by decide) rfl rfl (qs (t := 116) rfl (vT h11) (qj jS rfl (Rd.own [_] rfl rfl) (qs (t := 116) rfl (vT h11) (qG qV rfl hr22.slv (qs (t := 116) rfl (vT h11) (jo rfl rfl (cX (qT (.bool (decide ((((((runW x4 x6 (x13 + x14).toNat (x5, ([])) 0 0).1.2).length : Nat) : Int) : Int) = ((((runW x4 x6 x14.toNat (((runW x4 x6 x13.toNat (x5, ([])) 0 0).1.1), ((runW x4 x6 x13.toNat (x5, ([])) 0 0).1.2)) 0 0).1.2).length : Nat) : Int)))) (vT h11) rfl (qd (.bool (decide ((((((runW x4 x6 (x13 + x14).toNat (x5, ([])) 0 0).1.2).length : Nat) : Int) : Int) = ((((runW x4 x6 x14.toNat (((runW x4 x6 x13.toNat (x5, ([])) 0 0).1.1), ((runW x4 x6 x13.toNat (x5, ([])) 0 0).1.2)) 0 0).1.2).length : Nat) : Int)))) rfl ?_))))))))))))))))
     by_cases h12 : (((((runW x4 x6 (x13 + x14).toNat (x5, ([])) 0 0).1.2).length : Nat) : Int) : Int) = ((((runW x4 x6 x14.toNat (((runW x4 x6 x13.toNat (x5, ([])) 0 0).1.1), ((runW x4 x6 x13.toNat (x5, ([])) 0 0).1.2)) 0 0).1.2).length : Nat) : Int)
     ·refine qs (t := 125) rfl (vT h12) (qn (2) qS rfl jJ (by decide) rfl rfl (qs (t := 125) rfl (vT h12) (qj isAgg27 rfl (Rd.own [] rfl rfl) (qs (t := 125) rfl (vT h12) (qG qQ rfl hr25.slv (qs (t := 125) rfl (vT h12) (qn (2) qS rfl jJ (by decide) rfl rfl (qs (t := 125) rfl (vT h12) (qj isAgg27 rfl (Rd.own [_] rfl rfl) (qs (t := 125) rfl (vT h12) (qG qQ rfl hr21.slv (qs (t := 125) rfl (vT h12) (jo rfl rfl (cX (qT (.bool (decide ((((((runW x4 x6 (x13 + x14).toNat (x5, ([])) 0 0).1.1).length : Nat) : Int) : Int) = ((((runW x4 x6 x14.toNat (((runW x4 x6 x13.toNat (x5, ([])) 0 0).1.1), ((runW x4 x6 x13.toNat (x5, ([])) 0 0).1.2)) 0 0).1.1).length : Nat) : Int)))) (vT h12) rfl (qh (.bool (decide ((((((runW x4 x6 (x13 + x14).toNat (x5, ([])) 0 0).1.1).length : Nat) : Int) : Int) = ((((runW x4 x6 x14.toNat (((runW x4 x6 x13.toNat (x5, ([])) 0 0).1.1), ((runW x4 x6 x13.toNat (x5, ([])) 0 0).1.2)) 0 0).1.1).length : Nat) : Int)))) rfl (qb ?_)))))))))))))))))
      refine qw (qu (L' := L) [.bool (decide ((((((runW x4 x6 (x13 + x14).toNat (x5, ([])) 0 0).1.1).length : Nat) : Int) : Int) = ((((runW x4 x6 x14.toNat (((runW x4 x6 x13.toNat (x5, ([])) 0 0).1.1), ((runW x4 x6 x13.toNat (x5, ([])) 0 0).1.2)) 0 0).1.1).length : Nat) : Int)))] (.bool (decide ((((((runW x4 x6 (x13 + x14).toNat (x5, ([])) 0 0).1.1).length : Nat) : Int) : Int) = ((((runW x4 x6 x14.toNat (((runW x4 x6 x13.toNat (x5, ([])) 0 0).1.1), ((runW x4 x6 x13.toNat (x5, ([])) 0 0).1.2)) 0 0).1.1).length : Nat) : Int)))) (.tmp rfl .nil) rfl rF (qi (qi (qi (qi le1 le2) le6) le7) le8) (sD (sD (sD (sD (sD (sD sR)))))) ?_)
      exact ⟨(vB ((by first | rfl | exact (not_of (by assumption) hrz9).symm | exact (decide_eq_true (by omega)).symm | (exfalso; omega)))), rfl, rfl⟩
     refine qq (t := 125) rfl (vF h12) (qq (t := 125) rfl (vF h12) (qq (t := 125) rfl (vF h12) (qq (t := 125) rfl (vF h12) (qq (t := 125) rfl (vF h12) (qq (t := 125) rfl (vF h12) (qq (t := 125) rfl (vF h12) (cX (qP (.bool (false)) (vF h12) rfl (qh (.bool (false)) rfl (qb ?_))))))))))
     refine qw (qu (L' := L) [.bool (false)] (.bool (false)) (.tmp rfl .nil) rfl rF (qi (qi (qi (qi le1 le2) le6) le7) le8) (sD (sD (sD (sD (sD (sD sR)))))) ?_)
     exact ⟨(vB ((by first | rfl | exact (not_of (by assumption) hrz9).symm | exact (decide_eq_true (by omega)).symm | (exfalso; omega)))), rfl, rfl⟩
    refine qq (t := 116) rfl (vF h11) (qq (t := 116) rfl (vF h11) (qq (t := 116) rfl (vF h11) (qq (t := 116) rfl (vF h11) (qq (t := 116) rfl (vF h11) (qq (t := 116) rfl (vF h11) (qq (t := 116) rfl (vF h11) (cX (qP (.bool (false)) (vF h11) rfl (qd (.bool (false)) rfl (qq (t := 125) rfl rfl ?_))))))))))
    refine qq (t := 125) rfl rfl (qq (t := 125) rfl rfl (qq (t := 125) rfl rfl (qq (t := 125) rfl rfl (qq (t := 125) rfl rfl (qq (t := 125) rfl rfl (cX (qP (.bool (false)) rfl rfl (qh (.bool (false)) rfl (qb (qw (qu (L' := L) [.bool (false)] (.bool (false)) (.tmp rfl .nil) rfl rF (qi (qi (qi (qi le1 le2) le6) le7) le8) (sD (sD (sD (sD (sD (sD sR)))))) ?_)))))))))))
    exact ⟨(vB ((by first | rfl | exact (not_of (by assumption) hrz9).symm | exact (decide_eq_true (by omega)).symm | (exfalso; omega)))), rfl, rfl⟩
   refine qq (t := 109) rfl (vF h10) (qq (t := 109) rfl (vF h10) (qq (t := 109) rfl (vF h10) (qq (t := 109) rfl (vF h10) (qq (t := 109) rfl (vF h10) (cX (qP (.bool (false)) (vF h10) rfl (qd (.bool (false)) rfl (qq (t := 116) rfl rfl (qq (t := 116) rfl rfl (qq (t := 116) rfl rfl ?_))))))))))
   refine qq (t := 116) rfl rfl (qq (t := 116) rfl rfl (qq (t := 116) rfl rfl (qq (t := 116) rfl rfl (cX (qP (.bool (false)) rfl rfl (qd (.bool (false)) rfl (qq (t := 125) rfl rfl (qq (t := 125) rfl rfl (qq (t := 125) rfl rfl (qq (t := 125) rfl rfl ?_))))))))))
   refine qq (t := 125) rfl rfl (qq (t := 125) rfl rfl (qq (t := 125) rfl rfl (cX (qP (.bool (false)) rfl rfl (qh (.bool (false)) rfl (qb (qw (qu (L' := L) [.bool (false)] (.bool (false)) (.tmp rfl .nil) rfl rF (qi (qi (qi (qi le1 le2) le6) le7) le8) (sD (sD (sD (sD (sD (sD sR)))))) ?_))))))))
   exact ⟨(vB ((by first | rfl | exact (not_of (by assumption) hrz9).symm | exact (decide_eq_true (by omega)).symm | (exfalso; omega)))), rfl, rfl⟩
  refine qq (t := 84) rfl (vF h5) (qq (t := 84) rfl (vF h5) (cX (qP (.bool (false)) (vF h5) rfl (qb (jW rfl (qA (qc (qc (qa (qd (ii (x14)) rfl (cX (jo rfl rfl (qb ?_)))))))))))))
  refine qE (p := (x14 : Int) = 0) rfl (fun h13 => ?_) (fun h13 => ?_)
  ·refine qc (qa (qd (ii ((runW x4 x6 (x13 + x14).toNat (x5, ([])) 0 0).2.1)) rfl (qd (ii ((runW x4 x6 x13.toNat (x5, ([])) 0 0).2.1)) rfl (cX (jo rfl rfl (qd (.bool (decide (((runW x4 x6 (x13 + x14).toNat (x5, ([])) 0 0).2.1 : Int) = (runW x4 x6 x13.toNat (x5, ([])) 0 0).2.1))) rfl ?_))))))
   by_cases h14 : ((runW x4 x6 (x13 + x14).toNat (x5, ([])) 0 0).2.1 : Int) = (runW x4 x6 x13.toNat (x5, ([])) 0 0).2.1
   ·refine qs (t := 101) rfl (vT h14) (ql (ii ((((runW x4 x6 (x13 + x14).toNat (x5, ([])) 0 0).2.2 : Nat) : Int))) rfl (qs (t := 101) rfl (vT h14) (ql (ii ((((runW x4 x6 x13.toNat (x5, ([])) 0 0).2.2 : Nat) : Int))) rfl (qs (t := 101) rfl (vT h14) (jo rfl rfl (cX (qT (.bool (decide (((((runW x4 x6 (x13 + x14).toNat (x5, ([])) 0 0).2.2 : Nat) : Int) : Int) = (((runW x4 x6 x13.toNat (x5, ([])) 0 0).2.2 : Nat) : Int)))) (vT h14) rfl (qh (.bool (decide (((((runW x4 x6 (x13 + x14).toNat (x5, ([])) 0 0).2.2 : Nat) : Int) : Int) = (((runW x4 x6 x13.toNat (x5, ([])) 0 0).2.2 : Nat) : Int)))) rfl (qb (qw (qo (qu (L' := L) [.bool (decide (((((runW x4 x6 (x13 + x14).toNat (x5, ([])) 0 0).2.2 : Nat) : Int) : Int) = (((runW x4 x6 x13.toNat (x5, ([])) 0 0).2.2 : Nat) : Int)))] (.bool (decide (((((runW x4 x6 (x13 + x14).toNat (x5, ([])) 0 0).2.2 : Nat) : Int) : Int) = (((runW x4 x6 x13.toNat (x5, ([])) 0 0).2.2 : Nat) : Int)))) (.tmp rfl .nil) rfl rF (qi (qi (qi (qi le1 le2) le6) le7) le8) (sD (sD (sD (sD (sD (sD sR)))))) ?_))))))))))))
    exact ⟨(vB ((by first | rfl | exact (not_of (by assumption) hrz9).symm | exact (decide_eq_true (by omega)).symm | (exfalso; omega)))), rfl, rfl⟩
   refine qq (t := 101) rfl (vF h14) (qq (t := 101) rfl (vF h14) (qq (t := 101) rfl (vF h14) (cX (qP (.bool (false)) (vF h14) rfl (qh (.bool (false)) rfl (qb (qw (qo (qu (L' := L) [.bool (false)] (.bool (false)) (.tmp rfl .nil) rfl rF (qi (qi (qi (qi le1 le2) le6) le7) le8) (sD (sD (sD (sD (sD (sD sR)))))) ?_)))))))))
   exact ⟨(vB ((by first | rfl | exact (not_of (by assumption) hrz9).symm | exact (decide_eq_true (by omega)).symm | (exfalso; omega)))), rfl, rfl⟩
  refine qA (qc (qa (qd (ii ((runW x4 x6 (x13 + x14).toNat (x5, ([])) 0 0).2.1)) rfl (qd (ii ((runW x4 x6 x14.toNat (((runW x4 x6 x13.toNat (x5, ([])) 0 0).1.1), ((runW x4 x6 x13.toNat (x5, ([])) 0 0).1.2)) 0 0).2.1)) rfl (cX (jo rfl rfl (qd (.bool (decide (((runW x4 x6 (x13 + x14).toNat (x5, ([])) 0 0).2.1 : Int) = (runW x4 x6 x14.toNat (((runW x4 x6 x13.toNat (x5, ([])) 0 0).1.1), ((runW x4 x6 x13.toNat (x5, ([])) 0 0).1.2)) 0 0).2.1))) rfl ?_)))))))
  by_cases h15 : ((runW x4 x6 (x13 + x14).toNat (x5, ([])) 0 0).2.1 : Int) = (runW x4 x6 x14.toNat (((runW x4 x6 x13.toNat (x5, ([])) 0 0).1.1), ((runW x4 x6 x13.toNat (x5, ([])) 0 0).1.2)) 0 0).2.1
  ·refine qs (t := 109) rfl (vT h15) (ql (ii ((((runW x4 x6 (x13 + x14).toNat (x5, ([])) 0 0).2.2 : Nat) : Int))) rfl (qs (t := 109) rfl (vT h15) (ql (ii ((((runW x4 x6 x13.toNat (x5, ([])) 0 0).2.2 : Nat) : Int))) rfl (qs (t := 109) rfl (vT h15) (ql (ii ((((runW x4 x6 x14.toNat (((runW x4 x6 x13.toNat (x5, ([])) 0 0).1.1), ((runW x4 x6 x13.toNat (x5, ([])) 0 0).1.2)) 0 0).2.2 : Nat) : Int))) rfl (qs (t := 109) rfl (vT h15) (qM (((((runW x4 x6 x13.toNat (x5, ([])) 0 0).2.2 : Nat) : Int)) + ((((runW x4 x6 x14.toNat (((runW x4 x6 x13.toNat (x5, ([])) 0 0).1.1), ((runW x4 x6 x13.toNat (x5, ([])) 0 0).1.2)) 0 0).2.2 : Nat) : Int))) rfl rfl (by omega) (by omega) (qs (t := 109) rfl (vT h15) (jo rfl rfl (cX (qT (.bool (decide (((((runW x4 x6 (x13 + x14).toNat (x5, ([])) 0 0).2.2 : Nat) : Int) : Int) = ((((runW x4 x6 x13.toNat (x5, ([])) 0 0).2.2 : Nat) : Int)) + ((((runW x4 x6 x14.toNat (((runW x4 x6 x13.toNat (x5, ([])) 0 0).1.1), ((runW x4 x6 x13.toNat (x5, ([])) 0 0).1.2)) 0 0).2.2 : Nat) : Int))))) (vT h15) rfl (qd (.bool (decide (((((runW x4 x6 (x13 + x14).toNat (x5, ([])) 0 0).2.2 : Nat) : Int) : Int) = ((((runW x4 x6 x13.toNat (x5, ([])) 0 0).2.2 : Nat) : Int)) + ((((runW x4 x6 x14.toNat (((runW x4 x6 x13.toNat (x5, ([])) 0 0).1.1), ((runW x4 x6 x13.toNat (x5, ([])) 0 0).1.2)) 0 0).2.2 : Nat) : Int))))) rfl ?_))))))))))))
   by_cases h16 : ((((runW x4 x6 (x13 + x14).toNat (x5, ([])) 0 0).2.2 : Nat) : Int) : Int) = ((((runW x4 x6 x13.toNat (x5, ([])) 0 0).2.2 : Nat) : Int)) + ((((runW x4 x6 x14.toNat (((runW x4 x6 x13.toNat (x5, ([])) 0 0).1.1), ((runW x4 x6 x13.toNat (x5, ([])) 0 0).1.2)) 0 0).2.2 : Nat) : Int))
   ·refine qs (t := 116) rfl (vT h16) (qn (3) qS rfl jB (by decide) rfl rfl (qs (t := 116) rfl (vT h16) (qj jS rfl (Rd.own [] rfl rfl) (qs (t := 116) rfl (vT h16) (qG qV rfl hr26.slv (qs (t := 116) rfl (vT h16) (qn (3) qS rfl jB (by decide) rfl rfl (qs (t := 116) rfl (vT h16) (qj jS rfl (Rd.own [_] rfl rfl) (qs (t := 116) rfl (vT h16) (qG qV rfl hr22.slv (qs (t := 116) rfl (vT h16) (jo rfl rfl (cX (qT (.bool (decide ((((((runW x4 x6 (x13 + x14).toNat (x5, ([])) 0 0).1.2).length : Nat) : Int) : Int) = ((((runW x4 x6 x14.toNat (((runW x4 x6 x13.toNat (x5, ([])) 0 0).1.1), ((runW x4 x6 x13.toNat (x5, ([])) 0 0).1.2)) 0 0).1.2).length : Nat) : Int)))) (vT h16) rfl (qd (.bool (decide ((((((runW x4 x6 (x13 + x14).toNat (x5, ([])) 0 0).1.2).length : Nat) : Int) : Int) = ((((runW x4 x6 x14.toNat (((runW x4 x6 x13.toNat (x5, ([])) 0 0).1.1), ((runW x4 x6 x13.toNat (x5, ([])) 0 0).1.2)) 0 0).1.2).length : Nat) : Int)))) rfl ?_))))))))))))))))
    by_cases h17 : (((((runW x4 x6 (x13 + x14).toNat (x5, ([])) 0 0).1.2).length : Nat) : Int) : Int) = ((((runW x4 x6 x14.toNat (((runW x4 x6 x13.toNat (x5, ([])) 0 0).1.1), ((runW x4 x6 x13.toNat (x5, ([])) 0 0).1.2)) 0 0).1.2).length : Nat) : Int)
    ·refine qs (t := 125) rfl (vT h17) (qn (2) qS rfl jJ (by decide) rfl rfl (qs (t := 125) rfl (vT h17) (qj isAgg27 rfl (Rd.own [] rfl rfl) (qs (t := 125) rfl (vT h17) (qG qQ rfl hr25.slv (qs (t := 125) rfl (vT h17) (qn (2) qS rfl jJ (by decide) rfl rfl (qs (t := 125) rfl (vT h17) (qj isAgg27 rfl (Rd.own [_] rfl rfl) (qs (t := 125) rfl (vT h17) (qG qQ rfl hr21.slv (qs (t := 125) rfl (vT h17) (jo rfl rfl (cX (qT (.bool (decide ((((((runW x4 x6 (x13 + x14).toNat (x5, ([])) 0 0).1.1).length : Nat) : Int) : Int) = ((((runW x4 x6 x14.toNat (((runW x4 x6 x13.toNat (x5, ([])) 0 0).1.1), ((runW x4 x6 x13.toNat (x5, ([])) 0 0).1.2)) 0 0).1.1).length : Nat) : Int)))) (vT h17) rfl (qh (.bool (decide ((((((runW x4 x6 (x13 + x14).toNat (x5, ([])) 0 0).1.1).length : Nat) : Int) : Int) = ((((runW x4 x6 x14.toNat (((runW x4 x6 x13.toNat (x5, ([])) 0 0).1.1), ((runW x4 x6 x13.toNat (x5, ([])) 0 0).1.2)) 0 0).1.1).length : Nat) : Int)))) rfl (qb ?_)))))))))))))))))
     refine qw (qu (L' := L) [.bool (decide ((((((runW x4 x6 (x13 + x14).toNat (x5, ([])) 0 0).1.1).length : Nat) : Int) : Int) = ((((runW x4 x6 x14.toNat (((runW x4 x6 x13.toNat (x5, ([])) 0 0).1.1), ((runW x4 x6 x13.toNat (x5, ([])) 0 0).1.2)) 0 0).1.1).length : Nat) : Int)))] (.bool (decide ((((((runW x4 x6 (x13 + x14).toNat (x5, ([])) 0 0).1.1).length : Nat) : Int) : Int) = ((((runW x4 x6 x14.toNat (((runW x4 x6 x13.toNat (x5, ([])) 0 0).1.1), ((runW x4 x6 x13.toNat (x5, ([])) 0 0).1.2)) 0 0).1.1).length : Nat) : Int)))) (.tmp rfl .nil) rfl rF (qi (qi (qi (qi le1 le2) le6) le7) le8) (sD (sD (sD (sD (sD (sD sR)))))) ?_)
     exact ⟨(vB ((by first | rfl | exact (not_of (by assumption) hrz9).symm | exact (decide_eq_true (by omega)).symm | (exfalso; omega)))), rfl, rfl⟩
    refine qq (t := 125) rfl (vF h17) (qq (t := 125) rfl (vF h17) (qq (t := 125) rfl (vF h17) (qq (t := 125) rfl (vF h17) (qq (t := 125) rfl (vF h17) (qq (t := 125) rfl (vF h17) (qq (t := 125) rfl (vF h17) (cX (qP (.bool (false)) (vF h17) rfl (qh (.bool (false)) rfl (qb ?_))))))))))
    refine qw (qu (L' := L) [.bool (false)] (.bool (false)) (.tmp rfl .nil) rfl rF (qi (qi (qi (qi le1 le2) le6) le7) le8) (sD (sD (sD (sD (sD (sD sR)))))) ?_)
    exact ⟨(vB ((by first | rfl | exact (not_of (by assumption) hrz9).symm | exact (decide_eq_true (by omega)).symm | (exfalso; omega)))), rfl, rfl⟩
   refine qq (t := 116) rfl (vF h16) (qq (t := 116) rfl (vF h16) (qq (t := 116) rfl (vF h16) (qq (t := 116) rfl (vF h16) (qq (t := 116) rfl (vF h16) (qq (t := 116) rfl (vF h16) (qq (t := 116) rfl (vF h16) (cX (qP (.bool (false)) (vF h16) rfl (qd (.bool (false)) rfl (qq (t := 125) rfl rfl ?_))))))))))
   refine qq (t := 125) rfl rfl (qq (t := 125) rfl rfl (qq (t := 125) rfl rfl (qq (t := 125) rfl rfl (qq (t := 125) rfl rfl (qq (t := 125) rfl rfl (cX (qP (.bool (false)) rfl rfl (qh (.bool (false)) rfl (qb (qw (qu (L' := L) [.bool (false)] (.bool (false)) (.tmp rfl .nil) rfl rF (qi (qi (qi (qi le1 le2) le6) le7) le8) (sD (sD (sD (sD (sD (sD sR)))))) ?_)))))))))))
   exact ⟨(vB ((by first | rfl | exact (not_of (by assumption) hrz9).symm | exact (decide_eq_true (by omega)).symm | (exfalso; omega)))), rfl, rfl⟩
  refine qq (t := 109) rfl (vF h15) (qq (t := 109) rfl (vF h15) (qq (t := 109) rfl (vF h15) (qq (t := 109) rfl (vF h15) (qq (t := 109) rfl (vF h15) (cX (qP (.bool (false)) (vF h15) rfl (qd (.bool (false)) rfl (qq (t := 116) rfl rfl (qq (t := 116) rfl rfl (qq (t := 116) rfl rfl ?_))))))))))
  refine qq (t := 116) rfl rfl (qq (t := 116) rfl rfl (qq (t := 116) rfl rfl (qq (t := 116) rfl rfl (cX (qP (.bool (false)) rfl rfl (qd (.bool (false)) rfl (qq (t := 125) rfl rfl (qq (t := 125) rfl rfl (qq (t := 125) rfl rfl (qq (t := 125) rfl rfl ?_))))))))))
  refine qq (t := 125) rfl rfl (qq (t := 125) rfl rfl (qq (t := 125) rfl rfl (cX (qP (.bool (false)) rfl rfl (qh (.bool (false)) rfl (qb (qw (qu (L' := L) [.bool (false)] (.bool (false)) (.tmp rfl .nil) rfl rF (qi (qi (qi (qi le1 le2) le6) le7) le8) (sD (sD (sD (sD (sD (sD sR)))))) ?_))))))))
  exact ⟨(vB ((by first | rfl | exact (not_of (by assumption) hrz9).symm | exact (decide_eq_true (by omega)).symm | (exfalso; omega)))), rfl, rfl⟩
 refine qq (t := 80) rfl (vF h4) (qq (t := 80) rfl (vF h4) (cX (qP (.bool (false)) (vF h4) rfl (qd (.bool (false)) rfl (qq (t := 84) rfl rfl (qq (t := 84) rfl rfl (cX (qP (.bool (false)) rfl rfl (qb (jW rfl (qA (qc (qc (qa ?_))))))))))))))
 refine qd (ii (x14)) rfl (cX (jo rfl rfl (qb ?_)))
 refine qE (p := (x14 : Int) = 0) rfl (fun h18 => ?_) (fun h18 => ?_)
 ·refine qc (qa (qd (ii ((runW x4 x6 (x13 + x14).toNat (x5, ([])) 0 0).2.1)) rfl (qd (ii ((runW x4 x6 x13.toNat (x5, ([])) 0 0).2.1)) rfl (cX (jo rfl rfl (qd (.bool (decide (((runW x4 x6 (x13 + x14).toNat (x5, ([])) 0 0).2.1 : Int) = (runW x4 x6 x13.toNat (x5, ([])) 0 0).2.1))) rfl ?_))))))
  by_cases h19 : ((runW x4 x6 (x13 + x14).toNat (x5, ([])) 0 0).2.1 : Int) = (runW x4 x6 x13.toNat (x5, ([])) 0 0).2.1
  ·refine qs (t := 101) rfl (vT h19) (ql (ii ((((runW x4 x6 (x13 + x14).toNat (x5, ([])) 0 0).2.2 : Nat) : Int))) rfl (qs (t := 101) rfl (vT h19) (ql (ii ((((runW x4 x6 x13.toNat (x5, ([])) 0 0).2.2 : Nat) : Int))) rfl (qs (t := 101) rfl (vT h19) (jo rfl rfl (cX (qT (.bool (decide (((((runW x4 x6 (x13 + x14).toNat (x5, ([])) 0 0).2.2 : Nat) : Int) : Int) = (((runW x4 x6 x13.toNat (x5, ([])) 0 0).2.2 : Nat) : Int)))) (vT h19) rfl (qh (.bool (decide (((((runW x4 x6 (x13 + x14).toNat (x5, ([])) 0 0).2.2 : Nat) : Int) : Int) = (((runW x4 x6 x13.toNat (x5, ([])) 0 0).2.2 : Nat) : Int)))) rfl (qb (qw (qo (qu (L' := L) [.bool (decide (((((runW x4 x6 (x13 + x14).toNat (x5, ([])) 0 0).2.2 : Nat) : Int) : Int) = (((runW x4 x6 x13.toNat (x5, ([])) 0 0).2.2 : Nat) : Int)))] (.bool (decide (((((runW x4 x6 (x13 + x14).toNat (x5, ([])) 0 0).2.2 : Nat) : Int) : Int) = (((runW x4 x6 x13.toNat (x5, ([])) 0 0).2.2 : Nat) : Int)))) (.tmp rfl .nil) rfl rF (qi (qi (qi (qi le1 le2) le6) le7) le8) (sD (sD (sD (sD (sD (sD sR)))))) ?_))))))))))))
   exact ⟨(vB ((by first | rfl | exact (not_of (by assumption) hrz9).symm | exact (decide_eq_true (by omega)).symm | (exfalso; omega)))), rfl, rfl⟩
  refine qq (t := 101) rfl (vF h19) (qq (t := 101) rfl (vF h19) (qq (t := 101) rfl (vF h19) (cX (qP (.bool (false)) (vF h19) rfl (qh (.bool (false)) rfl (qb (qw (qo (qu (L' := L) [.bool (false)] (.bool (false)) (.tmp rfl .nil) rfl rF (qi (qi (qi (qi le1 le2) le6) le7) le8) (sD (sD (sD (sD (sD (sD sR)))))) ?_)))))))))
  exact ⟨(vB ((by first | rfl | exact (not_of (by assumption) hrz9).symm | exact (decide_eq_true (by omega)).symm | (exfalso; omega)))), rfl, rfl⟩
 refine qA (qc (qa (qd (ii ((runW x4 x6 (x13 + x14).toNat (x5, ([])) 0 0).2.1)) rfl (qd (ii ((runW x4 x6 x14.toNat (((runW x4 x6 x13.toNat (x5, ([])) 0 0).1.1), ((runW x4 x6 x13.toNat (x5, ([])) 0 0).1.2)) 0 0).2.1)) rfl (cX (jo rfl rfl (qd (.bool (decide (((runW x4 x6 (x13 + x14).toNat (x5, ([])) 0 0).2.1 : Int) = (runW x4 x6 x14.toNat (((runW x4 x6 x13.toNat (x5, ([])) 0 0).1.1), ((runW x4 x6 x13.toNat (x5, ([])) 0 0).1.2)) 0 0).2.1))) rfl ?_)))))))
 by_cases h20 : ((runW x4 x6 (x13 + x14).toNat (x5, ([])) 0 0).2.1 : Int) = (runW x4 x6 x14.toNat (((runW x4 x6 x13.toNat (x5, ([])) 0 0).1.1), ((runW x4 x6 x13.toNat (x5, ([])) 0 0).1.2)) 0 0).2.1
 ·refine qs (t := 109) rfl (vT h20) (ql (ii ((((runW x4 x6 (x13 + x14).toNat (x5, ([])) 0 0).2.2 : Nat) : Int))) rfl (qs (t := 109) rfl (vT h20) (ql (ii ((((runW x4 x6 x13.toNat (x5, ([])) 0 0).2.2 : Nat) : Int))) rfl (qs (t := 109) rfl (vT h20) (ql (ii ((((runW x4 x6 x14.toNat (((runW x4 x6 x13.toNat (x5, ([])) 0 0).1.1), ((runW x4 x6 x13.toNat (x5, ([])) 0 0).1.2)) 0 0).2.2 : Nat) : Int))) rfl (qs (t := 109) rfl (vT h20) (qM (((((runW x4 x6 x13.toNat (x5, ([])) 0 0).2.2 : Nat) : Int)) + ((((runW x4 x6 x14.toNat (((runW x4 x6 x13.toNat (x5, ([])) 0 0).1.1), ((runW x4 x6 x13.toNat (x5, ([])) 0 0).1.2)) 0 0).2.2 : Nat) : Int))) rfl rfl (by omega) (by omega) (qs (t := 109) rfl (vT h20) (jo rfl rfl (cX (qT (.bool (decide (((((runW x4 x6 (x13 + x14).toNat (x5, ([])) 0 0).2.2 : Nat) : Int) : Int) = ((((runW x4 x6 x13.toNat (x5, ([])) 0 0).2.2 : Nat) : Int)) + ((((runW x4 x6 x14.toNat (((runW x4 x6 x13.toNat (x5, ([])) 0 0).1.1), ((runW x4 x6 x13.toNat (x5, ([])) 0 0).1.2)) 0 0).2.2 : Nat) : Int))))) (vT h20) rfl (qd (.bool (decide (((((runW x4 x6 (x13 + x14).toNat (x5, ([])) 0 0).2.2 : Nat) : Int) : Int) = ((((runW x4 x6 x13.toNat (x5, ([])) 0 0).2.2 : Nat) : Int)) + ((((runW x4 x6 x14.toNat (((runW x4 x6 x13.toNat (x5, ([])) 0 0).1.1), ((runW x4 x6 x13.toNat (x5, ([])) 0 0).1.2)) 0 0).2.2 : Nat) : Int))))) rfl ?_))))))))))))
  by_cases h21 : ((((runW x4 x6 (x13 + x14).toNat (x5, ([])) 0 0).2.2 : Nat) : Int) : Int) = ((((runW x4 x6 x13.toNat (x5, ([])) 0 0).2.2 : Nat) : Int)) + ((((runW x4 x6 x14.toNat (((runW x4 x6 x13.toNat (x5, ([])) 0 0).1.1), ((runW x4 x6 x13.toNat (x5, ([])) 0 0).1.2)) 0 0).2.2 : Nat) : Int))
  ·refine qs (t := 116) rfl (vT h21) (qn (3) qS rfl jB (by decide) rfl rfl (qs (t := 116) rfl (vT h21) (qj jS rfl (Rd.own [] rfl rfl) (qs (t := 116) rfl (vT h21) (qG qV rfl hr26.slv (qs (t := 116) rfl (vT h21) (qn (3) qS rfl jB (by decide) rfl rfl (qs (t := 116) rfl (vT h21) (qj jS rfl (Rd.own [_] rfl rfl) (qs (t := 116) rfl (vT h21) (qG qV rfl hr22.slv (qs (t := 116) rfl (vT h21) (jo rfl rfl (cX (qT (.bool (decide ((((((runW x4 x6 (x13 + x14).toNat (x5, ([])) 0 0).1.2).length : Nat) : Int) : Int) = ((((runW x4 x6 x14.toNat (((runW x4 x6 x13.toNat (x5, ([])) 0 0).1.1), ((runW x4 x6 x13.toNat (x5, ([])) 0 0).1.2)) 0 0).1.2).length : Nat) : Int)))) (vT h21) rfl (qd (.bool (decide ((((((runW x4 x6 (x13 + x14).toNat (x5, ([])) 0 0).1.2).length : Nat) : Int) : Int) = ((((runW x4 x6 x14.toNat (((runW x4 x6 x13.toNat (x5, ([])) 0 0).1.1), ((runW x4 x6 x13.toNat (x5, ([])) 0 0).1.2)) 0 0).1.2).length : Nat) : Int)))) rfl ?_))))))))))))))))
   by_cases h22 : (((((runW x4 x6 (x13 + x14).toNat (x5, ([])) 0 0).1.2).length : Nat) : Int) : Int) = ((((runW x4 x6 x14.toNat (((runW x4 x6 x13.toNat (x5, ([])) 0 0).1.1), ((runW x4 x6 x13.toNat (x5, ([])) 0 0).1.2)) 0 0).1.2).length : Nat) : Int)
   ·refine qs (t := 125) rfl (vT h22) (qn (2) qS rfl jJ (by decide) rfl rfl (qs (t := 125) rfl (vT h22) (qj isAgg27 rfl (Rd.own [] rfl rfl) (qs (t := 125) rfl (vT h22) (qG qQ rfl hr25.slv (qs (t := 125) rfl (vT h22) (qn (2) qS rfl jJ (by decide) rfl rfl (qs (t := 125) rfl (vT h22) (qj isAgg27 rfl (Rd.own [_] rfl rfl) (qs (t := 125) rfl (vT h22) (qG qQ rfl hr21.slv (qs (t := 125) rfl (vT h22) (jo rfl rfl (cX (qT (.bool (decide ((((((runW x4 x6 (x13 + x14).toNat (x5, ([])) 0 0).1.1).length : Nat) : Int) : Int) = ((((runW x4 x6 x14.toNat (((runW x4 x6 x13.toNat (x5, ([])) 0 0).1.1), ((runW x4 x6 x13.toNat (x5, ([])) 0 0).1.2)) 0 0).1.1).length : Nat) : Int)))) (vT h22) rfl (qh (.bool (decide ((((((runW x4 x6 (x13 + x14).toNat (x5, ([])) 0 0).1.1).length : Nat) : Int) : Int) = ((((runW x4 x6 x14.toNat (((runW x4 x6 x13.toNat (x5, ([])) 0 0).1.1), ((runW x4 x6 x13.toNat (x5, ([])) 0 0).1.2)) 0 0).1.1).length : Nat) : Int)))) rfl (qb ?_)))))))))))))))))
    refine qw (qu (L' := L) [.bool (decide ((((((runW x4 x6 (x13 + x14).toNat (x5, ([])) 0 0).1.1).length : Nat) : Int) : Int) = ((((runW x4 x6 x14.toNat (((runW x4 x6 x13.toNat (x5, ([])) 0 0).1.1), ((runW x4 x6 x13.toNat (x5, ([])) 0 0).1.2)) 0 0).1.1).length : Nat) : Int)))] (.bool (decide ((((((runW x4 x6 (x13 + x14).toNat (x5, ([])) 0 0).1.1).length : Nat) : Int) : Int) = ((((runW x4 x6 x14.toNat (((runW x4 x6 x13.toNat (x5, ([])) 0 0).1.1), ((runW x4 x6 x13.toNat (x5, ([])) 0 0).1.2)) 0 0).1.1).length : Nat) : Int)))) (.tmp rfl .nil) rfl rF (qi (qi (qi (qi le1 le2) le6) le7) le8) (sD (sD (sD (sD (sD (sD sR)))))) ?_)
    exact ⟨(vB ((by first | rfl | exact (not_of (by assumption) hrz9).symm | exact (decide_eq_true (by omega)).symm | (exfalso; omega)))), rfl, rfl⟩
   refine qq (t := 125) rfl (vF h22) (qq (t := 125) rfl (vF h22) (qq (t := 125) rfl (vF h22) (qq (t := 125) rfl (vF h22) (qq (t := 125) rfl (vF h22) (qq (t := 125) rfl (vF h22) (qq (t := 125) rfl (vF h22) (cX (qP (.bool (false)) (vF h22) rfl (qh (.bool (false)) rfl (qb ?_))))))))))
   refine qw (qu (L' := L) [.bool (false)] (.bool (false)) (.tmp rfl .nil) rfl rF (qi (qi (qi (qi le1 le2) le6) le7) le8) (sD (sD (sD (sD (sD (sD sR)))))) ?_)
   exact ⟨(vB ((by first | rfl | exact (not_of (by assumption) hrz9).symm | exact (decide_eq_true (by omega)).symm | (exfalso; omega)))), rfl, rfl⟩
  refine qq (t := 116) rfl (vF h21) (qq (t := 116) rfl (vF h21) (qq (t := 116) rfl (vF h21) (qq (t := 116) rfl (vF h21) (qq (t := 116) rfl (vF h21) (qq (t := 116) rfl (vF h21) (qq (t := 116) rfl (vF h21) (cX (qP (.bool (false)) (vF h21) rfl (qd (.bool (false)) rfl (qq (t := 125) rfl rfl ?_))))))))))
  refine qq (t := 125) rfl rfl (qq (t := 125) rfl rfl (qq (t := 125) rfl rfl (qq (t := 125) rfl rfl (qq (t := 125) rfl rfl (qq (t := 125) rfl rfl (cX (qP (.bool (false)) rfl rfl (qh (.bool (false)) rfl (qb (qw (qu (L' := L) [.bool (false)] (.bool (false)) (.tmp rfl .nil) rfl rF (qi (qi (qi (qi le1 le2) le6) le7) le8) (sD (sD (sD (sD (sD (sD sR)))))) ?_)))))))))))
  exact ⟨(vB ((by first | rfl | exact (not_of (by assumption) hrz9).symm | exact (decide_eq_true (by omega)).symm | (exfalso; omega)))), rfl, rfl⟩
 refine qq (t := 109) rfl (vF h20) (qq (t := 109) rfl (vF h20) (qq (t := 109) rfl (vF h20) (qq (t := 109) rfl (vF h20) (qq (t := 109) rfl (vF h20) (cX (qP (.bool (false)) (vF h20) rfl (qd (.bool (false)) rfl (qq (t := 116) rfl rfl (qq (t := 116) rfl rfl (qq (t := 116) rfl rfl ?_))))))))))
 refine qq (t := 116) rfl rfl (qq (t := 116) rfl rfl (qq (t := 116) rfl rfl (qq (t := 116) rfl rfl (cX (qP (.bool (false)) rfl rfl (qd (.bool (false)) rfl (qq (t := 125) rfl rfl (qq (t := 125) rfl rfl (qq (t := 125) rfl rfl (qq (t := 125) rfl rfl ?_))))))))))
 refine qq (t := 125) rfl rfl (qq (t := 125) rfl rfl (qq (t := 125) rfl rfl (cX (qP (.bool (false)) rfl rfl (qh (.bool (false)) rfl (qb (qw (qu (L' := L) [.bool (false)] (.bool (false)) (.tmp rfl .nil) rfl rF (qi (qi (qi (qi le1 le2) le6) le7) le8) (sD (sD (sD (sD (sD (sD sR)))))) ?_))))))))
 exact ⟨(vB ((by first | rfl | exact (not_of (by assumption) hrz9).symm | exact (decide_eq_true (by omega)).symm | (exfalso; omega)))), rfl, rfl⟩
end Go.Proofs.YthkebalahfalhaaGreat
