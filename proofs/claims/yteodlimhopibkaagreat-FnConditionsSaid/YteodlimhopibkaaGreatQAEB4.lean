/-
  Walks, one after the other (part 5).
-/
import Derived.Test.YteodlimhopibkaaGreatQAEL1
import Derived.Test.YteodlimhopibkaaGreatQAEB3
set_option linter.unusedSimpArgs false
set_option linter.unusedVariables false
namespace Go.Proofs.YteodlimhopibkaaGreat
open Go X M Tryz

/- spec.l27Known -/
set_option maxHeartbeats 1000000 in
set_option maxRecDepth 20000 in
theorem l27Known_spec {F : FH} {L : List HP} {q : Int} :
    Does prog 82 [ii (q)] F (L) (fun v F' L' => ∃ (a : Value), ∃ (b : Value), ∃ (ar : List Int), ∃ (rs : List CRuleT), (.agg #[a, b] : Value) = v ∧ (IntsF F' a ar) ∧ (CRulesF F' b rs) ∧ (ar.length ≤ 20) ∧ (rs.length ≤ 4) ∧ (crulesS 2 rs = true) ∧ (Fresh F F' (star [intsH 2 a ar, crulesD 2 71 51 b rs])) ∧ L = L') := by
 refine qL func82 rfl rfl rfl (qg (qd (cX (jm [sN, sN] jQ rfl ?_))))
 intro b1
 refine qf (qg (qd (cX (qx (s := 1) [ii (1), ii (1), ii (0), ii (0), ii (0)] [ii (0)] [(0, [ii (1)]), (1, [ii (1)]), (2, [ii (0)]), (3, [ii (0)]), (4, [ii (0)])] qh qC qP rfl (by decide) rfl (.cons rfl (.cons rfl (.cons rfl (.cons rfl (.cons rfl CellsAre.nil))))) rfl ?_))))
 intro v1 hv1
 show XL _ _ _ _ _ _ _ (intsH 2 v1 ([1, 1, 0, 0, 0] : List Int) :: cellsH b1 [sN, sN] 29 :: L)
 refine jf [] _ _ rfl (fun F1 le1 hz1 => ?_)
 have hf1 : IntsF F1 v1 ([1, 1, 0, 0, 0]) := intsH.fz (xs := [1, 1, 0, 0, 0]) hz1.fz
 skip
 refine cX (jk [v1] [sN] [(0, 1)] [(0, [v1])] jc zeroValue26 rfl (.cons rfl qy PlacesAre.nil) rfl (.cons (cells_one (qv hf1)) CellsAre.nil) (cX (jm [sN] zeroValue26 rfl ?_)))
 intro b2
 refine cX (qO [] _ [v1] qB rfl rfl rfl (qw (qJ (qv hf1)) qT) rfl rfl rfl (qf (qg (qd (cX (qx (s := 1) [ii (0), ii (2)] [ii (0)] [(0, [ii (0)]), (1, [ii (2)])] qh qC qP rfl (by decide) rfl (.cons rfl (.cons rfl CellsAre.nil)) rfl ?_))))))
 intro v2 hv2
 show XL _ _ _ _ _ _ _ (intsH 2 v2 ([0, 2] : List Int) :: cellsH b2 [v1] 26 :: cellsH b1 [sN, sN] 29 :: L)
 refine jf [] _ _ rfl (fun F2 le2 hz2 => ?_)
 replace hf1 := hf1.mono le2
 have hf2 : IntsF F2 v2 ([0, 2]) := intsH.fz (xs := [0, 2]) hz2.fz
 skip
 refine cX (qx (s := 1) [ii (3)] [ii (0)] [(0, [ii (3)])] qh qC qP rfl (by decide) rfl (.cons rfl CellsAre.nil) rfl ?_)
 intro v3 hv3
 show XL _ _ _ _ _ _ _ (intsH 2 v3 ([3] : List Int) :: cellsH b2 [v1] 26 :: cellsH b1 [sN, sN] 29 :: L)
 refine jf [] _ _ rfl (fun F3 le3 hz3 => ?_)
 replace hf1 := hf1.mono le3
 replace hf2 := hf2.mono le3
 have hf3 : IntsF F3 v3 ([3]) := intsH.fz (xs := [3]) hz3.fz
 skip
 refine cX (jk [v2, v3, sN] [sN, sN, sN] [(0, 1), (1, 1), (2, 1)] [(0, [v2]), (1, [v3])] qR jP rfl (.cons rfl qy (.cons rfl qy (.cons rfl jx PlacesAre.nil))) rfl (.cons (cells_one (qv hf2)) (.cons (cells_one (qv hf3)) CellsAre.nil)) (cX (qx (s := 1) [ii (0), ii (1), ii (2)] [ii (0)] [(0, [ii (0)]), (1, [ii (1)]), (2, [ii (2)])] qh qC qP rfl (by decide) rfl (.cons rfl (.cons rfl (.cons rfl CellsAre.nil))) rfl ?_)))
 intro v4 hv4
 show XL _ _ _ _ _ _ _ (intsH 2 v4 ([0, 1, 2] : List Int) :: cellsH b2 [v1] 26 :: cellsH b1 [sN, sN] 29 :: L)
 refine jf [] _ _ rfl (fun F4 le4 hz4 => ?_)
 replace hf1 := hf1.mono le4
 replace hf2 := hf2.mono le4
 replace hf3 := hf3.mono le4
 have hf4 : IntsF F4 v4 ([0, 1, 2]) := intsH.fz (xs := [0, 1, 2]) hz4.fz
 skip
 refine cX (qx (s := 1) [ii (4)] [ii (0)] [(0, [ii (4)])] qh qC qP rfl (by decide) rfl (.cons rfl CellsAre.nil) rfl ?_)
 intro v5 hv5
 show XL _ _ _ _ _ _ _ (intsH 2 v5 ([4] : List Int) :: cellsH b2 [v1] 26 :: cellsH b1 [sN, sN] 29 :: L)
 refine jf [] _ _ rfl (fun F5 le5 hz5 => ?_)
 replace hf1 := hf1.mono le5
 replace hf2 := hf2.mono le5
 replace hf3 := hf3.mono le5
 replace hf4 := hf4.mono le5
 have hf5 : IntsF F5 v5 ([4]) := intsH.fz (xs := [4]) hz5.fz
 skip
 refine cX (jk [v4, v5, sN] [sN, sN, sN] [(0, 1), (1, 1), (2, 1)] [(0, [v4]), (1, [v5])] qR jP rfl (.cons rfl qy (.cons rfl qy (.cons rfl jx PlacesAre.nil))) rfl (.cons (cells_one (qv hf4)) (.cons (cells_one (qv hf5)) CellsAre.nil)) (cX (qx (s := 1) [ii (0), ii (1), ii (1), ii (-1)] [ii (0)] [(0, [ii (0)]), (1, [ii (1)]), (2, [ii (1)]), (3, [ii (-1)])] qh qC qP rfl (by decide) rfl (.cons rfl (.cons rfl (.cons rfl (.cons rfl CellsAre.nil)))) rfl ?_)))
 intro v6 hv6
 show XL _ _ _ _ _ _ _ (intsH 2 v6 ([0, 1, 1, -1] : List Int) :: cellsH b2 [v1] 26 :: cellsH b1 [sN, sN] 29 :: L)
 refine jf [] _ _ rfl (fun F6 le6 hz6 => ?_)
 replace hf1 := hf1.mono le6
 replace hf2 := hf2.mono le6
 replace hf3 := hf3.mono le6
 replace hf4 := hf4.mono le6
 replace hf5 := hf5.mono le6
 have hf6 : IntsF F6 v6 ([0, 1, 1, -1]) := intsH.fz (xs := [0, 1, 1, -1]) hz6.fz
 skip
 refine cX (qx (s := 1) [ii (3)] [ii (0)] [(0, [ii (3)])] qh qC qP rfl (by decide) rfl (.cons rfl CellsAre.nil) rfl ?_)
 intro v7 hv7
 show XL _ _ _ _ _ _ _ (intsH 2 v7 ([3] : List Int) :: cellsH b2 [v1] 26 :: cellsH b1 [sN, sN] 29 :: L)
 refine jf [] _ _ rfl (fun F7 le7 hz7 => ?_)
 replace hf1 := hf1.mono le7
 replace hf2 := hf2.mono le7
 replace hf3 := hf3.mono le7
 replace hf4 := hf4.mono le7
 replace hf5 := hf5.mono le7
 replace hf6 := hf6.mono le7
 have hf7 : IntsF F7 v7 ([3]) := intsH.fz (xs := [3]) hz7.fz
 skip
 refine cX (qx (s := 1) [ii (0), ii (-1)] [ii (0)] [(0, [ii (0)]), (1, [ii (-1)])] qh qC qP rfl (by decide) rfl (.cons rfl (.cons rfl CellsAre.nil)) rfl ?_)
 intro v8 hv8
 show XL _ _ _ _ _ _ _ (intsH 2 v8 ([0, -1] : List Int) :: cellsH b2 [v1] 26 :: cellsH b1 [sN, sN] 29 :: L)
 refine jf [] _ _ rfl (fun F8 le8 hz8 => ?_)
 replace hf1 := hf1.mono le8
 replace hf2 := hf2.mono le8
 replace hf3 := hf3.mono le8
 replace hf4 := hf4.mono le8
 replace hf5 := hf5.mono le8
 replace hf6 := hf6.mono le8
 replace hf7 := hf7.mono le8
 have hf8 : IntsF F8 v8 ([0, -1]) := intsH.fz (xs := [0, -1]) hz8.fz
 skip
 refine cX (qx (s := 1) [ii (3)] [ii (0)] [(0, [ii (3)])] qh qC qP rfl (by decide) rfl (.cons rfl CellsAre.nil) rfl ?_)
 intro v9 hv9
 show XL _ _ _ _ _ _ _ (intsH 2 v9 ([3] : List Int) :: cellsH b2 [v1] 26 :: cellsH b1 [sN, sN] 29 :: L)
 refine jf [] _ _ rfl (fun F9 le9 hz9 => ?_)
 replace hf1 := hf1.mono le9
 replace hf2 := hf2.mono le9
 replace hf3 := hf3.mono le9
 replace hf4 := hf4.mono le9
 replace hf5 := hf5.mono le9
 replace hf6 := hf6.mono le9
 replace hf7 := hf7.mono le9
 replace hf8 := hf8.mono le9
 have hf9 : IntsF F9 v9 ([3]) := intsH.fz (xs := [3]) hz9.fz
 skip
 refine cX (jk [v8, v9] [sN, sN] [(0, 1), (1, 1)] [(0, [v8]), (1, [v9])] jw jM rfl (.cons rfl qy (.cons rfl qy PlacesAre.nil)) rfl (.cons (cells_one (qv hf8)) (.cons (cells_one (qv hf9)) CellsAre.nil)) (cX (qx (s := 2) [v8, v9] [sN, sN] [(0, [v8, v9])] jh jK jM rfl (by decide) rfl (.cons rfl CellsAre.nil) rfl ?_)))
 intro v10 hv10
 have hc1 : PairsC F9 [v8, v9] ([([0, -1], [3])] : List (List Int × List Int)) := (PairsC.snoc (CO.nil : PairsC F9 [] []) hf8 hf9)
 refine jf [] _ _ rfl (fun F10 le10 hz10 => ?_)
 replace hf1 := hf1.mono le10
 replace hf2 := hf2.mono le10
 replace hf3 := hf3.mono le10
 replace hf4 := hf4.mono le10
 replace hf5 := hf5.mono le10
 replace hf6 := hf6.mono le10
 replace hf7 := hf7.mono le10
 replace hc1 := hc1.mono le10
 have hf10 : PairsF F10 v10 (([([0, -1], [3])] : List (List Int × List Int))) := CO.fz hc1 (by first | rfl | omega | (rw [List.length_set]; omega) | (simp; done)) hz10.fz
 skip
 refine cX (jk [v6, v7, v10] [sN, sN, sN] [(0, 1), (1, 1), (2, 1)] [(0, [v6]), (1, [v7]), (2, [v10])] qR jP rfl (.cons rfl qy (.cons rfl qy (.cons rfl jx PlacesAre.nil))) rfl (.cons (cells_one (qv hf6)) (.cons (cells_one (qv hf7)) (.cons (cells_one (PairsF.isSl hf10)) CellsAre.nil))) (cX (qx (s := 1) [ii (0), ii (1), ii (1), ii (-1)] [ii (0)] [(0, [ii (0)]), (1, [ii (1)]), (2, [ii (1)]), (3, [ii (-1)])] qh qC qP rfl (by decide) rfl (.cons rfl (.cons rfl (.cons rfl (.cons rfl CellsAre.nil)))) rfl ?_)))
 intro v11 hv11
 show XL _ _ _ _ _ _ _ (intsH 2 v11 ([0, 1, 1, -1] : List Int) :: cellsH b2 [v1] 26 :: cellsH b1 [sN, sN] 29 :: L)
 refine jf [] _ _ rfl (fun F11 le11 hz11 => ?_)
 replace hf1 := hf1.mono le11
 replace hf2 := hf2.mono le11
 replace hf3 := hf3.mono le11
 replace hf4 := hf4.mono le11
 replace hf5 := hf5.mono le11
 replace hf6 := hf6.mono le11
 replace hf7 := hf7.mono le11
 replace hf10 := hf10.mono le11
 have hf11 : IntsF F11 v11 ([0, 1, 1, -1]) := intsH.fz (xs := [0, 1, 1, -1]) hz11.fz
 skip
 refine cX (qx (s := 1) [ii (4)] [ii (0)] [(0, [ii (4)])] qh qC qP rfl (by decide) rfl (.cons rfl CellsAre.nil) rfl ?_)
 intro v12 hv12
 show XL _ _ _ _ _ _ _ (intsH 2 v12 ([4] : List Int) :: cellsH b2 [v1] 26 :: cellsH b1 [sN, sN] 29 :: L)
 refine jf [] _ _ rfl (fun F12 le12 hz12 => ?_)
 replace hf1 := hf1.mono le12
 replace hf2 := hf2.mono le12
 replace hf3 := hf3.mono le12
 replace hf4 := hf4.mono le12
 replace hf5 := hf5.mono le12
 replace hf6 := hf6.mono le12
 replace hf7 := hf7.mono le12
 replace hf10 := hf10.mono le12
 replace hf11 := hf11.mono le12
 have hf12 : IntsF F12 v12 ([4]) := intsH.fz (xs := [4]) hz12.fz
 skip
 refine cX (qx (s := 1) [ii (0), ii (-1)] [ii (0)] [(0, [ii (0)]), (1, [ii (-1)])] qh qC qP rfl (by decide) rfl (.cons rfl (.cons rfl CellsAre.nil)) rfl ?_)
 intro v13 hv13
 show XL _ _ _ _ _ _ _ (intsH 2 v13 ([0, -1] : List Int) :: cellsH b2 [v1] 26 :: cellsH b1 [sN, sN] 29 :: L)
 refine jf [] _ _ rfl (fun F13 le13 hz13 => ?_)
 replace hf1 := hf1.mono le13
 replace hf2 := hf2.mono le13
 replace hf3 := hf3.mono le13
 replace hf4 := hf4.mono le13
 replace hf5 := hf5.mono le13
 replace hf6 := hf6.mono le13
 replace hf7 := hf7.mono le13
 replace hf10 := hf10.mono le13
 replace hf11 := hf11.mono le13
 replace hf12 := hf12.mono le13
 have hf13 : IntsF F13 v13 ([0, -1]) := intsH.fz (xs := [0, -1]) hz13.fz
 skip
 refine cX (qx (s := 1) [ii (4)] [ii (0)] [(0, [ii (4)])] qh qC qP rfl (by decide) rfl (.cons rfl CellsAre.nil) rfl ?_)
 intro v14 hv14
 show XL _ _ _ _ _ _ _ (intsH 2 v14 ([4] : List Int) :: cellsH b2 [v1] 26 :: cellsH b1 [sN, sN] 29 :: L)
 refine jf [] _ _ rfl (fun F14 le14 hz14 => ?_)
 replace hf1 := hf1.mono le14
 replace hf2 := hf2.mono le14
 replace hf3 := hf3.mono le14
 replace hf4 := hf4.mono le14
 replace hf5 := hf5.mono le14
 replace hf6 := hf6.mono le14
 replace hf7 := hf7.mono le14
 replace hf10 := hf10.mono le14
 replace hf11 := hf11.mono le14
 replace hf12 := hf12.mono le14
 replace hf13 := hf13.mono le14
 have hf14 : IntsF F14 v14 ([4]) := intsH.fz (xs := [4]) hz14.fz
 skip
 refine cX (jk [v13, v14] [sN, sN] [(0, 1), (1, 1)] [(0, [v13]), (1, [v14])] jw jM rfl (.cons rfl qy (.cons rfl qy PlacesAre.nil)) rfl (.cons (cells_one (qv hf13)) (.cons (cells_one (qv hf14)) CellsAre.nil)) (cX (qx (s := 2) [v13, v14] [sN, sN] [(0, [v13, v14])] jh jK jM rfl (by decide) rfl (.cons rfl CellsAre.nil) rfl ?_)))
 intro v15 hv15
 have hc2 : PairsC F14 [v13, v14] ([([0, -1], [4])] : List (List Int × List Int)) := (PairsC.snoc (CO.nil : PairsC F14 [] []) hf13 hf14)
 refine jf [] _ _ rfl (fun F15 le15 hz15 => ?_)
 replace hf1 := hf1.mono le15
 replace hf2 := hf2.mono le15
 replace hf3 := hf3.mono le15
 replace hf4 := hf4.mono le15
 replace hf5 := hf5.mono le15
 replace hf6 := hf6.mono le15
 replace hf7 := hf7.mono le15
 replace hf10 := hf10.mono le15
 replace hf11 := hf11.mono le15
 replace hf12 := hf12.mono le15
 replace hc2 := hc2.mono le15
 have hf15 : PairsF F15 v15 (([([0, -1], [4])] : List (List Int × List Int))) := CO.fz hc2 (by first | rfl | omega | (rw [List.length_set]; omega) | (simp; done)) hz15.fz
 skip
 refine cX (jk [v11, v12, v15] [sN, sN, sN] [(0, 1), (1, 1), (2, 1)] [(0, [v11]), (1, [v12]), (2, [v15])] qR jP rfl (.cons rfl qy (.cons rfl qy (.cons rfl jx PlacesAre.nil))) rfl (.cons (cells_one (qv hf11)) (.cons (cells_one (qv hf12)) (.cons (cells_one (PairsF.isSl hf15)) CellsAre.nil))) (cX (qx (s := 3) [v2, v3, sN, v4, v5, sN, v6, v7, v10, v11, v12, v15] [sN, sN, sN] [(0, [v2, v3, sN]), (1, [v4, v5, sN]), (2, [v6, v7, v10]), (3, [v11, v12, v15])] qU jv jP rfl (by decide) rfl (.cons rfl (.cons rfl (.cons rfl (.cons rfl CellsAre.nil)))) rfl ?_)))
 intro v16 hv16
 have hc3 : CRulesC F15 [v2, v3, sN, v4, v5, sN, v6, v7, v10, v11, v12, v15] ([([0, 2], [3], []), ([0, 1, 2], [4], []), ([0, 1, 1, -1], [3], ([([0, -1], [3])] : List (List Int × List Int))), ([0, 1, 1, -1], [4], ([([0, -1], [4])] : List (List Int × List Int)))] : List CRuleT) := (CRulesC.snoc (CRulesC.snoc (CRulesC.snoc (CRulesC.snoc (CO.nil : CRulesC F15 [] []) (y0 := [0, 2]) (y1 := [3]) (y2 := []) hf2 hf3 SlOf.nilV) (y0 := [0, 1, 2]) (y1 := [4]) (y2 := []) hf4 hf5 SlOf.nilV) (y0 := [0, 1, 1, -1]) (y1 := [3]) (y2 := ([([0, -1], [3])] : List (List Int × List Int))) hf6 hf7 hf10) (y0 := [0, 1, 1, -1]) (y1 := [4]) (y2 := ([([0, -1], [4])] : List (List Int × List Int))) hf11 hf12 hf15)
 refine jf [] _ _ rfl (fun F16 le16 hz16 => ?_)
 replace hf1 := hf1.mono le16
 replace hc3 := hc3.mono le16
 have hf16 : CRulesF F16 v16 (([([0, 2], [3], []), ([0, 1, 2], [4], []), ([0, 1, 1, -1], [3], ([([0, -1], [3])] : List (List Int × List Int))), ([0, 1, 1, -1], [4], ([([0, -1], [4])] : List (List Int × List Int)))] : List CRuleT)) := CO.fz hc3 (by first | rfl | omega | (rw [List.length_set]; omega) | (simp; done)) hz16.fz
 skip
 refine qj (v16) rfl (qf (qg (qg (qd (qi (ii (q)) rfl (qf (qQ (qg (qd (cX (jD rfl rfl (qj (.bool (decide ((q : Int) = 0))) rfl (qf ?_)))))))))))))
 refine qH (p := (q : Int) = 0) rfl (fun h1 => ?_) (fun h1 => ?_)
 ·refine qg (qd (cX (qs [v1] qW qB rfl rfl (Rd.ownN [] rfl rfl) (qi (v16) rfl (cX (jk [v1, v16] [sN, sN] [(0, 1), (1, 1)] [(0, [v1]), (1, [v16])] qF jQ rfl (.cons rfl qB (.cons rfl jp PlacesAre.nil)) rfl (.cons rfl (.cons (cells_one (CRulesF.isSl hf16)) CellsAre.nil)) (cX (qO [_] _ [v1, v16] qK rfl rfl rfl (qw (qJ (qv hf1)) (qw (qJ (CRulesF.isSl hf16)) qT)) rfl rfl rfl (qf ?_)))))))))
  have hL9 : CFl 2 71 [v2, v3, sN, v4, v5, sN, v6, v7, v10, v11, v12, v15] [([0, 2], [3], []), ([0, 1, 2], [4], []), ([0, 1, 1, -1], [3], [([0, -1], [3])]), ([0, 1, 1, -1], [4], [([0, -1], [4])])] [intsH 2 v2 [0, 2], intsH 2 v3 [3], intsH 2 v4 [0, 1, 2], intsH 2 v5 [4], intsH 2 v6 [0, 1, 1, -1], intsH 2 v7 [3], slH 71 2 v10 1 [v8, v9], intsH 2 v8 [0, -1], intsH 2 v9 [3], intsH 2 v11 [0, 1, 1, -1], intsH 2 v12 [4], slH 71 2 v15 1 [v13, v14], intsH 2 v13 [0, -1], intsH 2 v14 [4]] := (CFl.cons0 (CFl.cons0 (CFl.cons1 (CFl.cons1 CFl.nil))))
  have hi9 := (Fresh.app (Fresh.app (Fresh.app (Fresh.app (Fresh.app (Fresh.app (Fresh.app (Fresh.app (Fresh.app (Fresh.app (Fresh.app (Fresh.app (Fresh.app (Fresh.app (Fresh.app (Fresh.one hz1) le1 (Fresh.one hz2) le2) (qc le1 le2) (Fresh.one hz3) le3) (qc (qc le1 le2) le3) (Fresh.one hz4) le4) (qc (qc (qc le1 le2) le3) le4) (Fresh.one hz5) le5) (qc (qc (qc (qc le1 le2) le3) le4) le5) (Fresh.one hz6) le6) (qc (qc (qc (qc (qc le1 le2) le3) le4) le5) le6) (Fresh.one hz7) le7) (qc (qc (qc (qc (qc (qc le1 le2) le3) le4) le5) le6) le7) (Fresh.one hz8) le8) (qc (qc (qc (qc (qc (qc (qc le1 le2) le3) le4) le5) le6) le7) le8) (Fresh.one hz9) le9) (qc (qc (qc (qc (qc (qc (qc (qc le1 le2) le3) le4) le5) le6) le7) le8) le9) (Fresh.one hz10) le10) (qc (qc (qc (qc (qc (qc (qc (qc (qc le1 le2) le3) le4) le5) le6) le7) le8) le9) le10) (Fresh.one hz11) le11) (qc (qc (qc (qc (qc (qc (qc (qc (qc (qc le1 le2) le3) le4) le5) le6) le7) le8) le9) le10) le11) (Fresh.one hz12) le12) (qc (qc (qc (qc (qc (qc (qc (qc (qc (qc (qc le1 le2) le3) le4) le5) le6) le7) le8) le9) le10) le11) le12) (Fresh.one hz13) le13) (qc (qc (qc (qc (qc (qc (qc (qc (qc (qc (qc (qc le1 le2) le3) le4) le5) le6) le7) le8) le9) le10) le11) le12) le13) (Fresh.one hz14) le14) (qc (qc (qc (qc (qc (qc (qc (qc (qc (qc (qc (qc (qc le1 le2) le3) le4) le5) le6) le7) le8) le9) le10) le11) le12) le13) le14) (Fresh.one hz15) le15) (qc (qc (qc (qc (qc (qc (qc (qc (qc (qc (qc (qc (qc (qc le1 le2) le3) le4) le5) le6) le7) le8) le9) le10) le11) le12) le13) le14) le15) (Fresh.one hz16) le16)
  simp only [List.cons_append, List.nil_append, Nat.reduceAdd] at hi9
  have hk9 : Fresh F F16 (star (intsH 2 v1 [1, 1, 0, 0, 0] :: slH 51 3 v16 4 [v2, v3, sN, v4, v5, sN, v6, v7, v10, v11, v12, v15] :: [intsH 2 v2 [0, 2], intsH 2 v3 [3], intsH 2 v4 [0, 1, 2], intsH 2 v5 [4], intsH 2 v6 [0, 1, 1, -1], intsH 2 v7 [3], slH 71 2 v10 1 [v8, v9], intsH 2 v8 [0, -1], intsH 2 v9 [3], intsH 2 v11 [0, 1, 1, -1], intsH 2 v12 [4], slH 71 2 v15 1 [v13, v14], intsH 2 v13 [0, -1], intsH 2 v14 [4]])) := Fresh.idx (D := fun _ => True) (n := 16) [0, 15, 1, 2, 3, 4, 5, 6, 9, 7, 8, 10, 11, 14, 12, 13] hi9 rfl (by decide) rfl
  refine qu (qI (ql (qt (L' := L) [.agg #[v1, v16]] (.agg #[v1, v16]) (.cell rfl (jt [v1, v16] qY qK rfl (Rd.ownN [_] rfl rfl)) .nil) rfl (qc (qc (qc (qc (qc (qc (qc (qc (qc (qc (qc (qc (qc (qc (qc le1 le2) le3) le4) le5) le6) le7) le8) le9) le10) le11) le12) le13) le14) le15) le16) rF (sD (sD sR)) ?_)))
  exact ⟨_, _, _, [([0, 2], [3], []), ([0, 1, 2], [4], []), ([0, 1, 1, -1], [3], [([0, -1], [3])]), ([0, 1, 1, -1], [4], [([0, -1], [4])])], rfl, hf1, hf16, by decide, by decide, by decide, csys_fresh hL9 hk9 rfl, rfl⟩
 refine qg (qd (cX (jD rfl rfl (qj (.bool (decide ((q : Int) = 1))) rfl (qf ?_)))))
 refine qH (p := (q : Int) = 1) rfl (fun h2 => ?_) (fun h2 => ?_)
 ·refine qg (qd (cX (qs [v1] qW qB rfl rfl (Rd.ownN [] rfl rfl) (cX (qx (s := 1) [ii (0), ii (2)] [ii (0)] [(0, [ii (0)]), (1, [ii (2)])] qh qC qP rfl (by decide) rfl (.cons rfl (.cons rfl CellsAre.nil)) rfl ?_)))))
  intro v17 hv17
  show XL _ _ _ _ _ _ _ (intsH 2 v17 ([0, 2] : List Int) :: cellsH b2 [v1] 26 :: cellsH b1 [sN, sN] 29 :: L)
  refine jf [] _ _ rfl (fun F17 le17 hz17 => ?_)
  replace hf1 := hf1.mono le17
  have hf17 : IntsF F17 v17 ([0, 2]) := intsH.fz (xs := [0, 2]) hz17.fz
  skip
  refine cX (qx (s := 1) [ii (2)] [ii (0)] [(0, [ii (2)])] qh qC qP rfl (by decide) rfl (.cons rfl CellsAre.nil) rfl ?_)
  intro v18 hv18
  show XL _ _ _ _ _ _ _ (intsH 2 v18 ([2] : List Int) :: cellsH b2 [v1] 26 :: cellsH b1 [sN, sN] 29 :: L)
  refine jf [] _ _ rfl (fun F18 le18 hz18 => ?_)
  replace hf1 := hf1.mono le18
  replace hf17 := hf17.mono le18
  have hf18 : IntsF F18 v18 ([2]) := intsH.fz (xs := [2]) hz18.fz
  skip
  refine cX (jk [v17, v18, sN] [sN, sN, sN] [(0, 1), (1, 1), (2, 1)] [(0, [v17]), (1, [v18])] qR jP rfl (.cons rfl qy (.cons rfl qy (.cons rfl jx PlacesAre.nil))) rfl (.cons (cells_one (qv hf17)) (.cons (cells_one (qv hf18)) CellsAre.nil)) (cX (qx (s := 1) [ii (0), ii (1), ii (-1)] [ii (0)] [(0, [ii (0)]), (1, [ii (1)]), (2, [ii (-1)])] qh qC qP rfl (by decide) rfl (.cons rfl (.cons rfl (.cons rfl CellsAre.nil))) rfl ?_)))
  intro v19 hv19
  show XL _ _ _ _ _ _ _ (intsH 2 v19 ([0, 1, -1] : List Int) :: cellsH b2 [v1] 26 :: cellsH b1 [sN, sN] 29 :: L)
  refine jf [] _ _ rfl (fun F19 le19 hz19 => ?_)
  replace hf1 := hf1.mono le19
  replace hf17 := hf17.mono le19
  replace hf18 := hf18.mono le19
  have hf19 : IntsF F19 v19 ([0, 1, -1]) := intsH.fz (xs := [0, 1, -1]) hz19.fz
  skip
  refine cX (qx (s := 1) [ii (1), ii (1), ii (-2)] [ii (0)] [(0, [ii (1)]), (1, [ii (1)]), (2, [ii (-2)])] qh qC qP rfl (by decide) rfl (.cons rfl (.cons rfl (.cons rfl CellsAre.nil))) rfl ?_)
  intro v20 hv20
  show XL _ _ _ _ _ _ _ (intsH 2 v20 ([1, 1, -2] : List Int) :: cellsH b2 [v1] 26 :: cellsH b1 [sN, sN] 29 :: L)
  refine jf [] _ _ rfl (fun F20 le20 hz20 => ?_)
  replace hf1 := hf1.mono le20
  replace hf17 := hf17.mono le20
  replace hf18 := hf18.mono le20
  replace hf19 := hf19.mono le20
  have hf20 : IntsF F20 v20 ([1, 1, -2]) := intsH.fz (xs := [1, 1, -2]) hz20.fz
  skip
  refine cX (qx (s := 1) [ii (0), ii (-1)] [ii (0)] [(0, [ii (0)]), (1, [ii (-1)])] qh qC qP rfl (by decide) rfl (.cons rfl (.cons rfl CellsAre.nil)) rfl ?_)
  intro v21 hv21
  show XL _ _ _ _ _ _ _ (intsH 2 v21 ([0, -1] : List Int) :: cellsH b2 [v1] 26 :: cellsH b1 [sN, sN] 29 :: L)
  refine jf [] _ _ rfl (fun F21 le21 hz21 => ?_)
  replace hf1 := hf1.mono le21
  replace hf17 := hf17.mono le21
  replace hf18 := hf18.mono le21
  replace hf19 := hf19.mono le21
  replace hf20 := hf20.mono le21
  have hf21 : IntsF F21 v21 ([0, -1]) := intsH.fz (xs := [0, -1]) hz21.fz
  skip
  refine cX (qx (s := 1) [ii (-2)] [ii (0)] [(0, [ii (-2)])] qh qC qP rfl (by decide) rfl (.cons rfl CellsAre.nil) rfl ?_)
  intro v22 hv22
  show XL _ _ _ _ _ _ _ (intsH 2 v22 ([-2] : List Int) :: cellsH b2 [v1] 26 :: cellsH b1 [sN, sN] 29 :: L)
  refine jf [] _ _ rfl (fun F22 le22 hz22 => ?_)
  replace hf1 := hf1.mono le22
  replace hf17 := hf17.mono le22
  replace hf18 := hf18.mono le22
  replace hf19 := hf19.mono le22
  replace hf20 := hf20.mono le22
  replace hf21 := hf21.mono le22
  have hf22 : IntsF F22 v22 ([-2]) := intsH.fz (xs := [-2]) hz22.fz
  skip
  refine cX (jk [v21, v22] [sN, sN] [(0, 1), (1, 1)] [(0, [v21]), (1, [v22])] jw jM rfl (.cons rfl qy (.cons rfl qy PlacesAre.nil)) rfl (.cons (cells_one (qv hf21)) (.cons (cells_one (qv hf22)) CellsAre.nil)) (cX (qx (s := 2) [v21, v22] [sN, sN] [(0, [v21, v22])] jh jK jM rfl (by decide) rfl (.cons rfl CellsAre.nil) rfl ?_)))
  intro v23 hv23
  have hc4 : PairsC F22 [v21, v22] ([([0, -1], [-2])] : List (List Int × List Int)) := (PairsC.snoc (CO.nil : PairsC F22 [] []) hf21 hf22)
  refine jf [] _ _ rfl (fun F23 le23 hz23 => ?_)
  replace hf1 := hf1.mono le23
  replace hf17 := hf17.mono le23
  replace hf18 := hf18.mono le23
  replace hf19 := hf19.mono le23
  replace hf20 := hf20.mono le23
  replace hc4 := hc4.mono le23
  have hf23 : PairsF F23 v23 (([([0, -1], [-2])] : List (List Int × List Int))) := CO.fz hc4 (by first | rfl | omega | (rw [List.length_set]; omega) | (simp; done)) hz23.fz
  skip
  refine cX (jk [v19, v20, v23] [sN, sN, sN] [(0, 1), (1, 1), (2, 1)] [(0, [v19]), (1, [v20]), (2, [v23])] qR jP rfl (.cons rfl qy (.cons rfl qy (.cons rfl jx PlacesAre.nil))) rfl (.cons (cells_one (qv hf19)) (.cons (cells_one (qv hf20)) (.cons (cells_one (PairsF.isSl hf23)) CellsAre.nil))) (cX (qx (s := 3) [v17, v18, sN, v19, v20, v23] [sN, sN, sN] [(0, [v17, v18, sN]), (1, [v19, v20, v23])] qU jv jP rfl (by decide) rfl (.cons rfl (.cons rfl CellsAre.nil)) rfl ?_)))
  intro v24 hv24
  have hc5 : CRulesC F23 [v17, v18, sN, v19, v20, v23] ([([0, 2], [2], []), ([0, 1, -1], [1, 1, -2], ([([0, -1], [-2])] : List (List Int × List Int)))] : List CRuleT) := (CRulesC.snoc (CRulesC.snoc (CO.nil : CRulesC F23 [] []) (y0 := [0, 2]) (y1 := [2]) (y2 := []) hf17 hf18 SlOf.nilV) (y0 := [0, 1, -1]) (y1 := [1, 1, -2]) (y2 := ([([0, -1], [-2])] : List (List Int × List Int))) hf19 hf20 hf23)
  refine jf [] _ _ rfl (fun F24 le24 hz24 => ?_)
  replace hf1 := hf1.mono le24
  replace hc5 := hc5.mono le24
  have hf24 : CRulesF F24 v24 (([([0, 2], [2], []), ([0, 1, -1], [1, 1, -2], ([([0, -1], [-2])] : List (List Int × List Int)))] : List CRuleT)) := CO.fz hc5 (by first | rfl | omega | (rw [List.length_set]; omega) | (simp; done)) hz24.fz
  skip
  refine cX (jk [v1, v24] [sN, sN] [(0, 1), (1, 1)] [(0, [v1]), (1, [v24])] qF jQ rfl (.cons rfl qB (.cons rfl jp PlacesAre.nil)) rfl (.cons rfl (.cons (cells_one (CRulesF.isSl hf24)) CellsAre.nil)) (cX (qO [_] _ [v1, v24] qK rfl rfl rfl (qw (qJ (qv hf1)) (qw (qJ (CRulesF.isSl hf24)) qT)) rfl rfl rfl (qf ?_))))
  have hL9 : CFl 2 71 [v17, v18, sN, v19, v20, v23] [([0, 2], [2], []), ([0, 1, -1], [1, 1, -2], [([0, -1], [-2])])] [intsH 2 v17 [0, 2], intsH 2 v18 [2], intsH 2 v19 [0, 1, -1], intsH 2 v20 [1, 1, -2], slH 71 2 v23 1 [v21, v22], intsH 2 v21 [0, -1], intsH 2 v22 [-2]] := (CFl.cons0 (CFl.cons1 CFl.nil))
  have hi9 := (Fresh.app (Fresh.app (Fresh.app (Fresh.app (Fresh.app (Fresh.app (Fresh.app (Fresh.app ((Fresh.one hz1).mono (qc (qc (qc (qc (qc (qc (qc (qc (qc (qc (qc (qc (qc (qc le2 le3) le4) le5) le6) le7) le8) le9) le10) le11) le12) le13) le14) le15) le16)) (qc (qc (qc (qc (qc (qc (qc (qc (qc (qc (qc (qc (qc (qc (qc le1 le2) le3) le4) le5) le6) le7) le8) le9) le10) le11) le12) le13) le14) le15) le16) (Fresh.one hz17) le17) (qc (qc (qc (qc (qc (qc (qc (qc (qc (qc (qc (qc (qc (qc (qc (qc le1 le2) le3) le4) le5) le6) le7) le8) le9) le10) le11) le12) le13) le14) le15) le16) le17) (Fresh.one hz18) le18) (qc (qc (qc (qc (qc (qc (qc (qc (qc (qc (qc (qc (qc (qc (qc (qc (qc le1 le2) le3) le4) le5) le6) le7) le8) le9) le10) le11) le12) le13) le14) le15) le16) le17) le18) (Fresh.one hz19) le19) (qc (qc (qc (qc (qc (qc (qc (qc (qc (qc (qc (qc (qc (qc (qc (qc (qc (qc le1 le2) le3) le4) le5) le6) le7) le8) le9) le10) le11) le12) le13) le14) le15) le16) le17) le18) le19) (Fresh.one hz20) le20) (qc (qc (qc (qc (qc (qc (qc (qc (qc (qc (qc (qc (qc (qc (qc (qc (qc (qc (qc le1 le2) le3) le4) le5) le6) le7) le8) le9) le10) le11) le12) le13) le14) le15) le16) le17) le18) le19) le20) (Fresh.one hz21) le21) (qc (qc (qc (qc (qc (qc (qc (qc (qc (qc (qc (qc (qc (qc (qc (qc (qc (qc (qc (qc le1 le2) le3) le4) le5) le6) le7) le8) le9) le10) le11) le12) le13) le14) le15) le16) le17) le18) le19) le20) le21) (Fresh.one hz22) le22) (qc (qc (qc (qc (qc (qc (qc (qc (qc (qc (qc (qc (qc (qc (qc (qc (qc (qc (qc (qc (qc le1 le2) le3) le4) le5) le6) le7) le8) le9) le10) le11) le12) le13) le14) le15) le16) le17) le18) le19) le20) le21) le22) (Fresh.one hz23) le23) (qc (qc (qc (qc (qc (qc (qc (qc (qc (qc (qc (qc (qc (qc (qc (qc (qc (qc (qc (qc (qc (qc le1 le2) le3) le4) le5) le6) le7) le8) le9) le10) le11) le12) le13) le14) le15) le16) le17) le18) le19) le20) le21) le22) le23) (Fresh.one hz24) le24)
  simp only [List.cons_append, List.nil_append, Nat.reduceAdd] at hi9
  have hk9 : Fresh F F24 (star (intsH 2 v1 [1, 1, 0, 0, 0] :: slH 51 3 v24 2 [v17, v18, sN, v19, v20, v23] :: [intsH 2 v17 [0, 2], intsH 2 v18 [2], intsH 2 v19 [0, 1, -1], intsH 2 v20 [1, 1, -2], slH 71 2 v23 1 [v21, v22], intsH 2 v21 [0, -1], intsH 2 v22 [-2]])) := Fresh.idx (D := fun _ => True) (n := 9) [0, 8, 1, 2, 3, 4, 7, 5, 6] hi9 rfl (by decide) rfl
  refine qu (qI (ql (qt (L' := L) [.agg #[v1, v24]] (.agg #[v1, v24]) (.cell rfl (jt [v1, v24] qY qK rfl (Rd.ownN [_] rfl rfl)) .nil) rfl (qc (qc (qc (qc (qc (qc (qc (qc (qc (qc (qc (qc (qc (qc (qc (qc (qc (qc (qc (qc (qc (qc (qc le1 le2) le3) le4) le5) le6) le7) le8) le9) le10) le11) le12) le13) le14) le15) le16) le17) le18) le19) le20) le21) le22) le23) le24) rF (sD (sD sR)) ?_)))
  exact ⟨_, _, _, [([0, 2], [2], []), ([0, 1, -1], [1, 1, -2], [([0, -1], [-2])])], rfl, hf1, hf24, by decide, by decide, by decide, csys_fresh hL9 hk9 rfl, rfl⟩
 refine qz (qg (qd (cX (qx (s := 1) [ii (2), ii (1), ii (0)] [ii (0)] [(0, [ii (2)]), (1, [ii (1)]), (2, [ii (0)])] qh qC qP rfl (by decide) rfl (.cons rfl (.cons rfl (.cons rfl CellsAre.nil))) rfl ?_))))
 intro v25 hv25
 show XL _ _ _ _ _ _ _ (intsH 2 v25 ([2, 1, 0] : List Int) :: cellsH b2 [v1] 26 :: cellsH b1 [sN, sN] 29 :: L)
 refine jf [] _ _ rfl (fun F25 le25 hz25 => ?_)
 have hf25 : IntsF F25 v25 ([2, 1, 0]) := intsH.fz (xs := [2, 1, 0]) hz25.fz
 skip
 refine cX (jk [v25] [sN] [(0, 1)] [(0, [v25])] jc zeroValue26 rfl (.cons rfl qy PlacesAre.nil) rfl (.cons (cells_one (qv hf25)) CellsAre.nil) (cX (qx (s := 1) [ii (0), ii (2), ii (-1)] [ii (0)] [(0, [ii (0)]), (1, [ii (2)]), (2, [ii (-1)])] qh qC qP rfl (by decide) rfl (.cons rfl (.cons rfl (.cons rfl CellsAre.nil))) rfl ?_)))
 intro v26 hv26
 show XL _ _ _ _ _ _ _ (intsH 2 v26 ([0, 2, -1] : List Int) :: cellsH b2 [v1] 26 :: cellsH b1 [sN, sN] 29 :: L)
 refine jf [] _ _ rfl (fun F26 le26 hz26 => ?_)
 replace hf25 := hf25.mono le26
 have hf26 : IntsF F26 v26 ([0, 2, -1]) := intsH.fz (xs := [0, 2, -1]) hz26.fz
 skip
 refine cX (qx (s := 1) [ii (-1)] [ii (0)] [(0, [ii (-1)])] qh qC qP rfl (by decide) rfl (.cons rfl CellsAre.nil) rfl ?_)
 intro v27 hv27
 show XL _ _ _ _ _ _ _ (intsH 2 v27 ([-1] : List Int) :: cellsH b2 [v1] 26 :: cellsH b1 [sN, sN] 29 :: L)
 refine jf [] _ _ rfl (fun F27 le27 hz27 => ?_)
 replace hf25 := hf25.mono le27
 replace hf26 := hf26.mono le27
 have hf27 : IntsF F27 v27 ([-1]) := intsH.fz (xs := [-1]) hz27.fz
 skip
 refine cX (jk [v26, v27, sN] [sN, sN, sN] [(0, 1), (1, 1), (2, 1)] [(0, [v26]), (1, [v27])] qR jP rfl (.cons rfl qy (.cons rfl qy (.cons rfl jx PlacesAre.nil))) rfl (.cons (cells_one (qv hf26)) (.cons (cells_one (qv hf27)) CellsAre.nil)) (cX (qx (s := 1) [ii (0), ii (1), ii (-1), ii (-2)] [ii (0)] [(0, [ii (0)]), (1, [ii (1)]), (2, [ii (-1)]), (3, [ii (-2)])] qh qC qP rfl (by decide) rfl (.cons rfl (.cons rfl (.cons rfl (.cons rfl CellsAre.nil)))) rfl ?_)))
 intro v28 hv28
 show XL _ _ _ _ _ _ _ (intsH 2 v28 ([0, 1, -1, -2] : List Int) :: cellsH b2 [v1] 26 :: cellsH b1 [sN, sN] 29 :: L)
 refine jf [] _ _ rfl (fun F28 le28 hz28 => ?_)
 replace hf25 := hf25.mono le28
 replace hf26 := hf26.mono le28
 replace hf27 := hf27.mono le28
 have hf28 : IntsF F28 v28 ([0, 1, -1, -2]) := intsH.fz (xs := [0, 1, -1, -2]) hz28.fz
 skip
 refine cX (qx (s := 1) [ii (1), ii (-3)] [ii (0)] [(0, [ii (1)]), (1, [ii (-3)])] qh qC qP rfl (by decide) rfl (.cons rfl (.cons rfl CellsAre.nil)) rfl ?_)
 intro v29 hv29
 show XL _ _ _ _ _ _ _ (intsH 2 v29 ([1, -3] : List Int) :: cellsH b2 [v1] 26 :: cellsH b1 [sN, sN] 29 :: L)
 refine jf [] _ _ rfl (fun F29 le29 hz29 => ?_)
 replace hf25 := hf25.mono le29
 replace hf26 := hf26.mono le29
 replace hf27 := hf27.mono le29
 replace hf28 := hf28.mono le29
 have hf29 : IntsF F29 v29 ([1, -3]) := intsH.fz (xs := [1, -3]) hz29.fz
 skip
 refine cX (qx (s := 1) [ii (0), ii (-1), ii (-2)] [ii (0)] [(0, [ii (0)]), (1, [ii (-1)]), (2, [ii (-2)])] qh qC qP rfl (by decide) rfl (.cons rfl (.cons rfl (.cons rfl CellsAre.nil))) rfl ?_)
 intro v30 hv30
 show XL _ _ _ _ _ _ _ (intsH 2 v30 ([0, -1, -2] : List Int) :: cellsH b2 [v1] 26 :: cellsH b1 [sN, sN] 29 :: L)
 refine jf [] _ _ rfl (fun F30 le30 hz30 => ?_)
 replace hf25 := hf25.mono le30
 replace hf26 := hf26.mono le30
 replace hf27 := hf27.mono le30
 replace hf28 := hf28.mono le30
 replace hf29 := hf29.mono le30
 have hf30 : IntsF F30 v30 ([0, -1, -2]) := intsH.fz (xs := [0, -1, -2]) hz30.fz
 skip
 refine cX (qx (s := 1) [ii (-3)] [ii (0)] [(0, [ii (-3)])] qh qC qP rfl (by decide) rfl (.cons rfl CellsAre.nil) rfl ?_)
 intro v31 hv31
 show XL _ _ _ _ _ _ _ (intsH 2 v31 ([-3] : List Int) :: cellsH b2 [v1] 26 :: cellsH b1 [sN, sN] 29 :: L)
 refine jf [] _ _ rfl (fun F31 le31 hz31 => ?_)
 replace hf25 := hf25.mono le31
 replace hf26 := hf26.mono le31
 replace hf27 := hf27.mono le31
 replace hf28 := hf28.mono le31
 replace hf29 := hf29.mono le31
 replace hf30 := hf30.mono le31
 have hf31 : IntsF F31 v31 ([-3]) := intsH.fz (xs := [-3]) hz31.fz
 skip
 refine cX (jk [v30, v31] [sN, sN] [(0, 1), (1, 1)] [(0, [v30]), (1, [v31])] jw jM rfl (.cons rfl qy (.cons rfl qy PlacesAre.nil)) rfl (.cons (cells_one (qv hf30)) (.cons (cells_one (qv hf31)) CellsAre.nil)) (cX (qx (s := 2) [v30, v31] [sN, sN] [(0, [v30, v31])] jh jK jM rfl (by decide) rfl (.cons rfl CellsAre.nil) rfl ?_)))
 intro v32 hv32
 have hc6 : PairsC F31 [v30, v31] ([([0, -1, -2], [-3])] : List (List Int × List Int)) := (PairsC.snoc (CO.nil : PairsC F31 [] []) hf30 hf31)
 refine jf [] _ _ rfl (fun F32 le32 hz32 => ?_)
 replace hf25 := hf25.mono le32
 replace hf26 := hf26.mono le32
 replace hf27 := hf27.mono le32
 replace hf28 := hf28.mono le32
 replace hf29 := hf29.mono le32
 replace hc6 := hc6.mono le32
 have hf32 : PairsF F32 v32 (([([0, -1, -2], [-3])] : List (List Int × List Int))) := CO.fz hc6 (by first | rfl | omega | (rw [List.length_set]; omega) | (simp; done)) hz32.fz
 skip
 refine cX (jk [v28, v29, v32] [sN, sN, sN] [(0, 1), (1, 1), (2, 1)] [(0, [v28]), (1, [v29]), (2, [v32])] qR jP rfl (.cons rfl qy (.cons rfl qy (.cons rfl jx PlacesAre.nil))) rfl (.cons (cells_one (qv hf28)) (.cons (cells_one (qv hf29)) (.cons (cells_one (PairsF.isSl hf32)) CellsAre.nil))) (cX (qx (s := 3) [v26, v27, sN, v28, v29, v32] [sN, sN, sN] [(0, [v26, v27, sN]), (1, [v28, v29, v32])] qU jv jP rfl (by decide) rfl (.cons rfl (.cons rfl CellsAre.nil)) rfl ?_)))
 intro v33 hv33
 have hc7 : CRulesC F32 [v26, v27, sN, v28, v29, v32] ([([0, 2, -1], [-1], []), ([0, 1, -1, -2], [1, -3], ([([0, -1, -2], [-3])] : List (List Int × List Int)))] : List CRuleT) := (CRulesC.snoc (CRulesC.snoc (CO.nil : CRulesC F32 [] []) (y0 := [0, 2, -1]) (y1 := [-1]) (y2 := []) hf26 hf27 SlOf.nilV) (y0 := [0, 1, -1, -2]) (y1 := [1, -3]) (y2 := ([([0, -1, -2], [-3])] : List (List Int × List Int))) hf28 hf29 hf32)
 refine jf [] _ _ rfl (fun F33 le33 hz33 => ?_)
 replace hf25 := hf25.mono le33
 replace hc7 := hc7.mono le33
 have hf33 : CRulesF F33 v33 (([([0, 2, -1], [-1], []), ([0, 1, -1, -2], [1, -3], ([([0, -1, -2], [-3])] : List (List Int × List Int)))] : List CRuleT)) := CO.fz hc7 (by first | rfl | omega | (rw [List.length_set]; omega) | (simp; done)) hz33.fz
 skip
 refine cX (jk [v25, v33] [sN, sN] [(0, 1), (1, 1)] [(0, [v25]), (1, [v33])] qF jQ rfl (.cons rfl qB (.cons rfl jp PlacesAre.nil)) rfl (.cons rfl (.cons (cells_one (CRulesF.isSl hf33)) CellsAre.nil)) (cX (qO [_] _ [v25, v33] qK rfl rfl rfl (qw (qJ (qv hf25)) (qw (qJ (CRulesF.isSl hf33)) qT)) rfl rfl rfl (qf ?_))))
 have hL9 : CFl 2 71 [v26, v27, sN, v28, v29, v32] [([0, 2, -1], [-1], []), ([0, 1, -1, -2], [1, -3], [([0, -1, -2], [-3])])] [intsH 2 v26 [0, 2, -1], intsH 2 v27 [-1], intsH 2 v28 [0, 1, -1, -2], intsH 2 v29 [1, -3], slH 71 2 v32 1 [v30, v31], intsH 2 v30 [0, -1, -2], intsH 2 v31 [-3]] := (CFl.cons0 (CFl.cons1 CFl.nil))
 have hi9 := (Fresh.app (Fresh.app (Fresh.app (Fresh.app (Fresh.app (Fresh.app (Fresh.app (Fresh.app ((Fresh.one hz25).base (qc (qc (qc (qc (qc (qc (qc (qc (qc (qc (qc (qc (qc (qc (qc le1 le2) le3) le4) le5) le6) le7) le8) le9) le10) le11) le12) le13) le14) le15) le16)) (qc (qc (qc (qc (qc (qc (qc (qc (qc (qc (qc (qc (qc (qc (qc (qc le1 le2) le3) le4) le5) le6) le7) le8) le9) le10) le11) le12) le13) le14) le15) le16) le25) (Fresh.one hz26) le26) (qc (qc (qc (qc (qc (qc (qc (qc (qc (qc (qc (qc (qc (qc (qc (qc (qc le1 le2) le3) le4) le5) le6) le7) le8) le9) le10) le11) le12) le13) le14) le15) le16) le25) le26) (Fresh.one hz27) le27) (qc (qc (qc (qc (qc (qc (qc (qc (qc (qc (qc (qc (qc (qc (qc (qc (qc (qc le1 le2) le3) le4) le5) le6) le7) le8) le9) le10) le11) le12) le13) le14) le15) le16) le25) le26) le27) (Fresh.one hz28) le28) (qc (qc (qc (qc (qc (qc (qc (qc (qc (qc (qc (qc (qc (qc (qc (qc (qc (qc (qc le1 le2) le3) le4) le5) le6) le7) le8) le9) le10) le11) le12) le13) le14) le15) le16) le25) le26) le27) le28) (Fresh.one hz29) le29) (qc (qc (qc (qc (qc (qc (qc (qc (qc (qc (qc (qc (qc (qc (qc (qc (qc (qc (qc (qc le1 le2) le3) le4) le5) le6) le7) le8) le9) le10) le11) le12) le13) le14) le15) le16) le25) le26) le27) le28) le29) (Fresh.one hz30) le30) (qc (qc (qc (qc (qc (qc (qc (qc (qc (qc (qc (qc (qc (qc (qc (qc (qc (qc (qc (qc (qc le1 le2) le3) le4) le5) le6) le7) le8) le9) le10) le11) le12) le13) le14) le15) le16) le25) le26) le27) le28) le29) le30) (Fresh.one hz31) le31) (qc (qc (qc (qc (qc (qc (qc (qc (qc (qc (qc (qc (qc (qc (qc (qc (qc (qc (qc (qc (qc (qc le1 le2) le3) le4) le5) le6) le7) le8) le9) le10) le11) le12) le13) le14) le15) le16) le25) le26) le27) le28) le29) le30) le31) (Fresh.one hz32) le32) (qc (qc (qc (qc (qc (qc (qc (qc (qc (qc (qc (qc (qc (qc (qc (qc (qc (qc (qc (qc (qc (qc (qc le1 le2) le3) le4) le5) le6) le7) le8) le9) le10) le11) le12) le13) le14) le15) le16) le25) le26) le27) le28) le29) le30) le31) le32) (Fresh.one hz33) le33)
 simp only [List.cons_append, List.nil_append, Nat.reduceAdd] at hi9
 have hk9 : Fresh F F33 (star (intsH 2 v25 [2, 1, 0] :: slH 51 3 v33 2 [v26, v27, sN, v28, v29, v32] :: [intsH 2 v26 [0, 2, -1], intsH 2 v27 [-1], intsH 2 v28 [0, 1, -1, -2], intsH 2 v29 [1, -3], slH 71 2 v32 1 [v30, v31], intsH 2 v30 [0, -1, -2], intsH 2 v31 [-3]])) := Fresh.idx (D := fun _ => True) (n := 9) [0, 8, 1, 2, 3, 4, 7, 5, 6] hi9 rfl (by decide) rfl
 refine qu (qt (L' := L) [.agg #[v25, v33]] (.agg #[v25, v33]) (.cell rfl (jt [v25, v33] qY qK rfl (Rd.ownN [_] rfl rfl)) .nil) rfl (qc (qc (qc (qc (qc (qc (qc (qc (qc (qc (qc (qc (qc (qc (qc (qc (qc (qc (qc (qc (qc (qc (qc (qc le1 le2) le3) le4) le5) le6) le7) le8) le9) le10) le11) le12) le13) le14) le15) le16) le25) le26) le27) le28) le29) le30) le31) le32) le33) rF (sD (sD sR)) ?_)
 exact ⟨_, _, _, [([0, 2, -1], [-1], []), ([0, 1, -1, -2], [1, -3], [([0, -1, -2], [-3])])], rfl, hf25, hf33, by decide, by decide, by decide, csys_fresh hL9 hk9 rfl, rfl⟩

/- spec.l27Draw -/
set_option maxHeartbeats 1000000 in
set_option maxRecDepth 20000 in
theorem l27Draw_spec {F : FH} {L : List HP} {cb : Nat} {bsv : Value} {bs : List Int} (hbs : BytesF F bsv bs) (hbl : bs.length ≤ 4000000) :
    Does prog 51 [ptr cb 0] F (curH .i64 75 cb bsv bs.length :: L) (fun v F' L' => (∃ (a : Value), ∃ (b : Value), ∃ (ar : List Int), ∃ (rs : List CRuleT), (.agg #[a, b] : Value) = v ∧ (IntsF F' a ar) ∧ (CRulesF F' b rs) ∧ (ar.length ≤ 20) ∧ (rs.length ≤ 4) ∧ (crulesS 2 rs = true) ∧ (Fresh F F' (star [intsH 2 a ar, crulesD 2 71 51 b rs]))) ∧ curH .i64 75 cb bsv bs.length :: L = L') := by
 refine qL func51 rfl rfl rfl (qg (qd (cX (jm [sN, sN] jQ rfl ?_))))
 intro b1
 refine qf (qg (qg (qd (qi (ptr cb 0) rfl (cX (qn (args := [ptr cb 0, ii (3)]) call28 rfl (qZ [_] (l1Once_spec (n := 3) hbs (by omega) (hn := (by first | assumption | rfl | omega | simp)))) ?_))))))
 rintro _ _ _ _ ⟨⟨rfl, x1, rfl⟩, rfl⟩
 show XL _ _ _ _ _ _ _ (cellsH b1 [sN, sN] 29 :: curH .i64 75 cb bsv bs.length :: L)
 refine cX (jg rfl (qf ?_))
 refine js (t := !(x1)) rfl (fun h1 => ?_) (fun h1 => ?_)
 ·refine qg (qd (qi (ptr cb 0) rfl (cX (qn (args := [ptr cb 0, ii (3)]) jO rfl (qZ [_] (l1Below_spec (n := 3) hbs (by omega) (hn := (by first | assumption | rfl | omega | simp)))) ?_))))
  rintro _ _ _ _ ⟨⟨rfl, x2, rfl, hr1⟩, rfl⟩
  show XL _ _ _ _ _ _ _ (cellsH b1 [sN, sN] 29 :: curH .i64 75 cb bsv bs.length :: L)
  refine cX (qn (args := [ii (x2)]) call82 rfl (l27Known_spec (q := x2)) ?_)
  rintro _ F3 _ le3 ⟨x3, x4, x5, x6, rfl, hr2, hr3, hr4, hr5, hr6, hr7, rfl⟩
  replace hbs := hbs.mono le3
  refine cX (qO [] _ [x3, x4] qK rfl rfl rfl (qw (qJ (qv hr2)) (qw (qJ (CRulesF.isSl hr3)) qT)) rfl rfl rfl (qf (qu (ql (qt (L' := curH .i64 75 cb bsv bs.length :: L) [.agg #[x3, x4]] (.agg #[x3, x4]) (.cell rfl (jt [x3, x4] qY qK rfl (Rd.ownN [] rfl rfl)) .nil) rfl le3 rF (sD (sC sR)) ?_)))))
  exact ⟨⟨_, _, _, _, rfl, hr2, hr3, hr4, hr5, hr6, hr7⟩, rfl⟩
 refine qz (qg (qd (qi (ptr cb 0) rfl (cX (qn (args := [ptr cb 0]) call83 rfl (Does.atO [_] (l1DrawSig_spec hbs (by omega))) ?_)))))
 rintro _ F4 _ le4 ⟨x8, ⟨rfl, hsl1⟩, rfl⟩
 replace hbs := hbs.mono le4
 show XL _ _ _ _ _ _ _ (drawnH 2 x8 (fun ar => sigOk ar = true) :: cellsH b1 [sN, sN] 29 :: curH .i64 75 cb bsv bs.length :: L)
 refine XL.undraw [] rfl (fun t1 hq9 => ?_)
 have q1 := hq9
 show XL _ _ _ _ _ _ _ (intsH 2 x8 t1 :: cellsH b1 [sN, sN] 29 :: curH .i64 75 cb bsv bs.length :: L)
 refine jf [] _ _ rfl (fun F5 le5 hz1 => ?_)
 replace hbs := hbs.mono le5
 have hf1 : IntsF F5 x8 t1 := intsH.fz (xs := t1) hz1.fz
 have hsl9 := sigOk_spec q1
 refine cX (jk [x8, sN] [sN, sN] [(0, 1), (1, 1)] [(0, [x8])] qF jQ rfl (.cons rfl qB (.cons rfl jp PlacesAre.nil)) rfl (.cons rfl CellsAre.nil) (cX (jm [sN, sN] jQ rfl ?_)))
 intro b2
 refine cX (qO [] _ [x8, sN] qK rfl rfl rfl (qw (qJ (qv hf1)) (qw rfl qT)) rfl rfl rfl (qf (qg (qg (qd (qi (ptr cb 0) rfl (cX (qn (args := [ptr cb 0, ii (3)]) jO rfl (qZ [_, _] (l1Below_spec (n := 3) hbs (by omega) (hn := (by first | assumption | rfl | omega | simp)))) ?_))))))))
 rintro _ _ _ _ ⟨⟨rfl, x9, rfl, hr8⟩, rfl⟩
 show XL _ _ _ _ _ _ _ (cellsH b2 [x8, sN] 29 :: cellsH b1 [sN, sN] 29 :: curH .i64 75 cb bsv bs.length :: L)
 refine qj (ii (x9)) rfl (qf (qQ (jr (α := Nat × Value × List CRuleT × List Value × List HP × Nat × FH) (fun xQ => [(0, ptr cb 0), (2, ptr b1 0), (3, ptr b2 0), (4, ii (((xQ.1 : Nat) : Int)))]) (fun xQ => slH 51 3 xQ.2.1 xQ.2.2.2.2.2.1 xQ.2.2.2.1 :: cellsH b2 [x8, xQ.2.1] 29 :: cellsH b1 [sN, sN] 29 :: curH .i64 75 cb bsv bs.length :: L) (fun xQ F' => xQ.2.2.2.2.2.2 = F' ∧ F5 ≤ xQ.2.2.2.2.2.2 ∧ (IsSl xQ.2.1) ∧ (CRulesC xQ.2.2.2.2.2.2 xQ.2.2.2.1 xQ.2.2.1) ∧ (xQ.2.2.2.2.2.1 = xQ.2.2.1.length) ∧ (xQ.2.2.1.length + xQ.1 ≤ 4) ∧ (crulesS 2 xQ.2.2.1 = true) ∧ (DeepL 3 (CRuleO 71 2) xQ.2.2.2.1 xQ.2.2.1 xQ.2.2.2.2.1) ∧ (Fresh F5 xQ.2.2.2.2.2.2 (star xQ.2.2.2.2.1))) (fun xQ => xQ.1) (x9.toNat, sN, [], [], [], 0, F5) ⟨rfl, rfl, rfl, (vI (by omega)), ⟨⟩⟩ (jN (Sub.addNil 51 3 _ _) (sC (sC (sC (sC sR))))) ⟨rfl, FLe.refl _, (⟨_, _, _, rfl⟩), (CO.nil), (rfl), (by (try dsimp only); simp only [List.length_nil]; omega), (rfl), (DeepL.nil), (Fresh.nilL)⟩ ?_)))
 rintro ⟨n, ov, os, cs, Ls, m, G1⟩ rE _ _ ⟨rfl, leG, hov, hC, hm, hon, hos, hD, hZ⟩
 show X _ _ _ _ (envs [(0, ptr cb 0), (2, ptr b1 0), (3, ptr b2 0), (4, ii ((n : Int)))] rE) _ (slH 51 3 ov m cs :: cellsH b2 [x8, ov] 29 :: cellsH b1 [sN, sN] 29 :: curH .i64 75 cb bsv bs.length :: L)
 replace leG : F5 ≤ G1 := leG
 dsimp only at hov hC hm hon hos hD hZ
 have leG1 := leG
 replace hbs := hbs.mono leG1
 replace hf1 := hf1.mono leG1
 refine qg (qg (qd (qi (ii ((n : Int))) rfl (cX (jF rfl rfl (qf ?_))))))
 refine qH (p := (n : Int) > 0) rfl (fun h2 => ?_) (fun h2 => ?_)
 ·refine qz (qg (qQ ?_))
  refine jG [slH 51 3 ov m cs, cellsH b2 [x8, ov] 29, cellsH b1 [sN, sN] 29, curH .i64 75 cb bsv bs.length] L 7 [[], [], [], [], [], [], [5]] [[], [0], [], [], [3], [2, 4], [5]] [] (phiG [pe (ptr b2 1), pe ov, pe (ptr cb 0), pe (ptr b2 0), pe (.agg #[x8]), fun FF us v => (.agg #[((aggAt v 0)), ((aggAt v 1)), ((aggAt v 2))] : Value) = v ∧ (SomeCRulesF 2 71 G1 FF ((aggAt v 0)) ((aggAt v 1)) ((aggAt v 2))), fun FF us v => ∃ b, v = .slice (some ⟨b, 0, none⟩) 1 1]) (ownL [o0, o0, o0, o0, o0, o0, fun us v => [slH 51 3 v 1 [((aggAt (us.getD 0 undef) 0)), ((aggAt (us.getD 0 undef) 1)), ((aggAt (us.getD 0 undef) 2))]]]) mixed rfl rfl (by kernel_rfl) (by kernel_rfl) (MonoG.get (m1 (m1 (m1 (m1 (m1 (mC (fun le h => ⟨h.1, h.2.mono le⟩) (mC (fun le h => h) MonoG.nil)))))))) ?_ ?_
  ·refine gD (fun W Fs R lF z9 => ?_) ?_
   ·refine qk (qq (1) qF rfl jp (by decide) rfl rfl ?_)
    exact ⟨rfl, rfl⟩
   refine gD (fun W Fs R lF z9 => ?_) ?_
   ·replace hbs := hbs.mono lF
    replace hf1 := hf1.mono lF
    replace hC := hC.mono lF
    rw [zA 0 (z9 0 rfl)]
    refine qk (qm jz rfl (Rd.own [_] rfl rfl) ?_)
    exact ⟨rfl, rfl⟩
   refine gD (fun W Fs R lF z9 => ?_) ?_
   ·refine qk (qo (ptr cb 0) rfl ?_)
    exact ⟨rfl, rfl⟩
   refine gD (fun W Fs R lF z9 => ?_) ?_
   ·refine qk (qq (0) qF rfl qB (by decide) rfl rfl ?_)
    exact ⟨rfl, rfl⟩
   refine gD (fun W Fs R lF z9 => ?_) ?_
   ·replace hbs := hbs.mono lF
    replace hf1 := hf1.mono lF
    replace hC := hC.mono lF
    rw [zA 3 (z9 3 rfl)]
    refine qk (qs [x8] qW qB rfl rfl (Rd.ownN [_] rfl rfl) ?_)
    exact ⟨rfl, rfl⟩
   refine gD (fun W Fs R lF z9 => ?_) ?_
   ·replace hbs := hbs.mono lF
    replace hf1 := hf1.mono lF
    replace hC := hC.mono lF
    rw [zB 2 4 (z9 2 rfl) (z9 4 rfl)]
    refine qk (qn (args := [ptr cb 0, .agg #[x8]]) call84 rfl (qZ [_, _, _] (l27DrawRule_spec hbs (by omega) hf1 (hso := (by first | exact hso9 | assumption)))) ?_)
    rintro _ F8 _ le8 ⟨⟨x13, x14, x15, rfl, hr10⟩, rfl⟩
    replace hf1 := hf1.mono le8
    replace hC := hC.mono le8
    exact ⟨⟨rfl, (hr10.base lF)⟩, rfl⟩
   refine gD (fun W Fs R lF z9 => ?_) ?_
   ·obtain ⟨e5, f5_1hp⟩ := z9 5 rfl
    obtain ⟨l5_1, r5_1, cs5_1, h15_1, h25_1, h35_1, hs5_1, hz5_1⟩ := id f5_1hp
    replace hf1 := hf1.mono lF
    replace hC := hC.mono lF
    rw [eS (l := [(5, (.agg #[((aggAt (W 5) 0)), ((aggAt (W 5) 1)), ((aggAt (W 5) 2))]))]) ⟨(e5).symm, ⟨⟩⟩]
    refine qk (qx (s := 3) [((aggAt (W 5) 0)), ((aggAt (W 5) 1)), ((aggAt (W 5) 2))] [sN, sN, sN] [(0, [((aggAt (W 5) 0)), ((aggAt (W 5) 1)), ((aggAt (W 5) 2))])] qU jv jP rfl (by decide) rfl (.cons rfl CellsAre.nil) rfl ?_)
    intro v2 hv2
    exact ⟨hv2, rfl⟩
   exact stepsG.nil
  intro W F9 le9 hphi
  obtain ⟨e5, f5_1hp⟩ := hphi 5 (by decide)
  obtain ⟨l5_1, r5_1, cs5_1, h15_1, h25_1, h35_1, hs5_1, hz5_1⟩ := id f5_1hp
  have f6 : ∃ b, (W 6) = .slice (some ⟨b, 0, none⟩) 1 1 := hphi 6 (by decide)
  generalize hu1 : ((aggAt (W 5) 0)) = u1 at e5 f5_1hp h15_1 h25_1 h35_1 hs5_1 hz5_1 f6
  generalize hu2 : ((aggAt (W 5) 1)) = u2 at e5 f5_1hp h15_1 h25_1 h35_1 hs5_1 hz5_1 f6
  generalize hu3 : ((aggAt (W 5) 2)) = u3 at e5 f5_1hp h15_1 h25_1 h35_1 hs5_1 hz5_1 f6
  generalize huu6 : W 6 = u4 at e5 f5_1hp h15_1 h25_1 h35_1 hs5_1 hz5_1 f6
  rw [eS (l := [(1, _), (5, (.agg #[u1, u2, u3])), (6, u4)]) ⟨(hphi 1 (by decide)), (e5).symm, huu6, ⟨⟩⟩]
  replace hf1 := hf1.mono le9
  replace hC := hC.mono le9
  show XL _ _ _ _ _ _ _ (slH 51 3 u4 1 [u1, u2, u3] :: slH 51 3 ov m cs :: cellsH b2 [x8, ov] 29 :: cellsH b1 [sN, sN] 29 :: curH .i64 75 cb bsv bs.length :: L)
  refine cX (XOp.append (m := 1) (bytes := 72) (cs := cs) [_] _ [u1, u2, u3] qU typeInfo51 rfl rfl rfl rfl rfl rfl rfl (SlV.own [] rfl) rfl (Rd.lit [] rfl) (qw (qJ (qv h15_1)) (qw (qJ (qv h25_1)) (qw (qJ (PairsF.isSl h35_1)) qT))) (by (try simp only [List.length_append, List.length_nil, List.length_cons, List.length_singleton]); omega) (by (try simp only [List.length_append, List.length_nil, List.length_cons, List.length_singleton]); omega) ?_)
  intro v3 hs1 hn1 hm1
  have hc1 := CRulesC.snoc hC (y0 := l5_1) (y1 := r5_1) (y2 := cs5_1) h15_1 h25_1 h35_1
  refine cX (qq (1) qF rfl jp (by decide) rfl rfl (cX (jL [_, _] _ [x8, v3] jp rfl rfl (qJ hs1) rfl rfl rfl (qf (qd (qi (ii ((n : Int))) rfl (cX (jl (((n : Int)) - 1) rfl rfl (by omega) (by omega) (qj (ii (((n : Int)) - 1)) rfl (qf ?_))))))))))
  have hj9 := crule_moreF hD (Fresh.app hZ leG1 hz5_1 le9)
  obtain ⟨L9, hd9, hf9⟩ := hj9
  exact ⟨(n - 1, v3, os ++ [(l5_1, r5_1, cs5_1)], cs ++ [u1, u2, u3], L9, (m) + 1, F9), _, (qc leG1 le9), rF, ⟨rfl, rfl, rfl, (vI (by (try dsimp only); omega)), ⟨⟩⟩, (sD (sC (sC (sC (sC sR))))), ⟨rfl, (qc leG1 le9), (hs1), (hc1), (by (try dsimp only); rw [List.length_append]; simp only [List.length_singleton]; omega), (by (try dsimp only); rw [List.length_append]; simp only [List.length_singleton]; omega), (crulesS_snoc hos hs5_1), (hd9), (hf9)⟩, (by (try dsimp only); omega)⟩
 refine jn (qA (qA (qV (qg (qd (cX (qs [x8, ov] qY qK rfl rfl (Rd.ownN [_] rfl rfl) (cX (qO [_, _] _ [x8, ov] qK rfl rfl rfl (qw (qJ (qv hf1)) (qw (qJ hov) qT)) rfl rfl rfl (qf (ji [] _ _ rfl (fun F10 le10 hz2 => ?_))))))))))))
 replace hf1 := hf1.mono le10
 replace hC := hC.mono le10
 have hf2 : CRulesF F10 ov os := CO.fz hC (by first | rfl | omega | (rw [List.length_set]; omega) | (simp; done)) hz2.fz
 refine qu (qt (L' := curH .i64 75 cb bsv bs.length :: L) [.agg #[x8, ov]] (.agg #[x8, ov]) (.cell rfl (jt [x8, ov] qY qK rfl (Rd.ownN [_] rfl rfl)) .nil) rfl (qc (qc (qc le4 le5) leG1) le10) rF (sD (sD (sC sR))) ?_)
 exact ⟨⟨_, _, _, _, rfl, hf1, hf2, by omega, by omega, hos, (Fresh.app ((Fresh.one hz1).base le4) (qc le4 le5) (Fresh.one (Fresh.deep hD hZ leG1 hz2 (by omega) le10)) (qc leG1 le10))⟩, rfl⟩

/- spec.l27DrawAny -/
set_option maxHeartbeats 1000000 in
set_option maxRecDepth 20000 in
theorem l27DrawAny_spec {F : FH} {L : List HP} {cb : Nat} {bsv : Value} {bs : List Int} (hbs : BytesF F bsv bs) (hbl : bs.length ≤ 4000000) :
    Does prog 27 [ptr cb 0] F (curH .i64 75 cb bsv bs.length :: L) (fun v F' L' => ∃ (a b : Value) (ar : List Int) (rs : List CRuleT) (cs : List Value), ((.agg #[a, b] : Value) = v ∧ IntsF F' a ar ∧ IsSl b ∧ CRulesC F' cs rs ∧ ar.length ≤ 20 ∧ rs.length ≤ 4 ∧ crulesS 3 rs = true) ∧ slH 51 3 b rs.length cs :: curH .i64 75 cb bsv bs.length :: L = L') := by
 refine qL func27 rfl rfl rfl (qg (qd (cX (jm [sN, sN] jQ rfl ?_))))
 intro b1
 refine qf (qg (qd (qi (ptr cb 0) rfl (cX (XOp.thawL (id (qn (args := [ptr cb 0]) call51 rfl (qZ [_] (l27Draw_spec hbs (by omega))) ?_)))))))
 rintro _ F1 _ le1 ⟨⟨x1, x2, x3, x4, rfl, hr1, hr2, hr3, hr4, hr5, hr6⟩, rfl⟩
 refine ⟨[intsH 2 x1 x3, crulesD 2 71 51 x2 x4], hr6, ?_⟩
 show XL _ _ _ _ _ _ _ (intsH 2 x1 x3 :: crulesD 2 71 51 x2 x4 :: cellsH b1 [sN, sN] 29 :: curH .i64 75 cb bsv bs.length :: L)
 show XL _ _ _ _ _ _ _ (intsH 2 x1 x3 :: crulesD 2 71 51 x2 x4 :: cellsH b1 [sN, sN] 29 :: curH .i64 75 cb bsv bs.length :: L)
 refine cX (jm [sN, sN] jQ rfl ?_)
 intro b2
 refine cX (qO [] _ [x1, x2] qK rfl rfl rfl (qw (qJ (qv hr1)) (qw (qJ (CRulesF.isSl hr2)) qT)) rfl rfl rfl (jf [_] _ _ rfl (fun F2 le2 hz1 => ?_)))
 replace hbs := hbs.mono le2
 have hf1 : IntsF F2 x1 x3 := intsH.fz (xs := x3) hz1.fz
 skip
 refine qf (qg (qg (qd (qi (ptr cb 0) rfl (cX (qn (args := [ptr cb 0, ii (10)]) call28 rfl (qZ [_, _, _] (l1Once_spec (n := 10) hbs (by omega) (hn := (by first | assumption | rfl | omega | simp)))) ?_))))))
 rintro _ _ _ _ ⟨⟨rfl, x5, rfl⟩, rfl⟩
 show XL _ _ _ _ _ _ _ (cellsH b2 [x1, x2] 29 :: crulesD 2 71 51 x2 x4 :: cellsH b1 [sN, sN] 29 :: curH .i64 75 cb bsv bs.length :: L)
 refine qi (.bool (x5)) rfl ?_
 by_cases h1 : (x5) = true
 ·refine qr (t := 9) rfl (vB h1) (qq (1) qF rfl jp (by decide) rfl rfl (qr (t := 9) rfl (vB h1) (qm jz rfl (Rd.own [] rfl rfl) (qr (t := 9) rfl (vB h1) (qE qU rfl (crulesH.slv [_] rfl) (qr (t := 9) rfl (vB h1) (jF rfl rfl (cX (qN (.bool (decide (((x4.length : Int) : Int) > 0))) (vB h1) rfl (qf ?_))))))))))
  refine qH (p := ((x4.length : Int) : Int) > 0) rfl (fun h2 => ?_) (fun h2 => ?_)
  ·refine qg (qd (qi (ptr cb 0) rfl (cX (qq (1) qF rfl jp (by decide) rfl rfl (cX (qm jz rfl (Rd.own [] rfl rfl) (cX (qE qU rfl (crulesH.slv [_] rfl) (cX (qn (args := [ptr cb 0, ii ((x4.length : Int))]) jO rfl (qZ [_, _, _] (l1Below_spec (n := (x4.length : Int)) hbs (by omega) (hn := (by first | assumption | rfl | omega | simp)))) ?_))))))))))
   rintro _ _ _ _ ⟨⟨rfl, x6, rfl, hr7⟩, rfl⟩
   show XL _ _ _ _ _ _ _ (cellsH b2 [x1, x2] 29 :: crulesD 2 71 51 x2 x4 :: cellsH b1 [sN, sN] 29 :: curH .i64 75 cb bsv bs.length :: L)
   refine qj (ii (x6)) rfl (qf (qg (qd (qi (ptr cb 0) rfl (cX (qn (args := [ptr cb 0, ii (5)]) jO rfl (qZ [_, _, _] (l1Below_spec (n := 5) hbs (by omega) (hn := (by first | assumption | rfl | omega | simp)))) ?_))))))
   rintro _ _ _ _ ⟨⟨rfl, x7, rfl, hr8⟩, rfl⟩
   show XL _ _ _ _ _ _ _ (cellsH b2 [x1, x2] 29 :: crulesD 2 71 51 x2 x4 :: cellsH b1 [sN, sN] 29 :: curH .i64 75 cb bsv bs.length :: L)
   refine qf (qQ (qg (qd (cX (jD rfl rfl (qj (.bool (decide ((x7 : Int) = 0))) rfl (qf ?_)))))))
   refine qH (p := (x7 : Int) = 0) rfl (fun h3 => ?_) (fun h3 => ?_)
   ·refine X.openD [_] _ rfl (fun cs1 Ls1 F6 le6 hs1 hD1 hZ1 => ?_)
    replace hbs := hbs.mono le6
    replace hf1 := hf1.mono le6
    have hc1 := hD1.crules hZ1
    show X _ _ _ _ _ _ (cellsH b2 [x1, x2] 29 :: slH 51 3 x2 x4.length cs1 :: cellsH b1 [sN, sN] 29 :: curH .i64 75 cb bsv bs.length :: L)
    refine qd (cX (qq (1) qF rfl jp (by decide) rfl rfl (cX (qm jz rfl (Rd.own [] rfl rfl) (qi (ii (x6)) rfl (cX (qx (s := 1) [ii (-9)] [ii (0)] [(0, [ii (-9)])] qh qC qP rfl (by decide) rfl (.cons rfl CellsAre.nil) rfl ?_)))))))
    intro v1 hv1
    show XL _ _ _ _ _ _ _ (intsH 2 v1 ([-9] : List Int) :: cellsH b2 [x1, x2] 29 :: slH 51 3 x2 x4.length cs1 :: cellsH b1 [sN, sN] 29 :: curH .i64 75 cb bsv bs.length :: L)
    refine jf [] _ _ rfl (fun F7 le7 hz2 => ?_)
    replace hbs := hbs.mono le7
    replace hf1 := hf1.mono le7
    replace hc1 := hc1.mono le7
    have hf2 : IntsF F7 v1 ([-9]) := intsH.fz (xs := [-9]) hz2.fz
    skip
    refine cX (qD ((x6).toNat) qU jv rfl rfl (by omega) (SlV.own [_] rfl) (by omega) rfl (cX (jV (((x6).toNat) * 3 + 1) qR rfl qy (by decide) rfl rfl (cX (XOp.storeS (i := ((x6).toNat) * 3 + 1) (cs := cs1) [_] _ qy rfl rfl (qJ (qv hf2)) rfl (by have h9 := CO.len hc1; (try simp only [List.length_set, List.length_replicate] at h9 ⊢) <;> omega) ?_)))))
    have hc2 := hc1.setR (j := ((x6).toNat)) (by (try simp only [List.length_set, List.length_replicate]); omega) hf2
    refine qf (qg (qd ?_))
    skip
    refine cX (qs [x1, x2] qY qK rfl rfl (Rd.ownN [] rfl rfl) (cX (qO [_, _] _ [x1, x2] qK rfl rfl rfl (qw (qJ (qv hf1)) (qw (qJ hs1) qT)) rfl rfl rfl (qf (qu (qt (L' := slH 51 3 x2 (((x4.set ((x6).toNat) ((x4.getD ((x6).toNat) ([], [], [])).1, [-9], (x4.getD ((x6).toNat) ([], [], [])).2.2))).length) ((cs1.set (((x6).toNat) * 3 + 1) v1)) :: curH .i64 75 cb bsv bs.length :: L) [.agg #[x1, x2]] (.agg #[x1, x2]) (.cell rfl (jt [x1, x2] qY qK rfl (Rd.ownN [_, _] rfl rfl)) .nil) rfl (qc (qc le2 le6) le7) rF (jN (sD (sC (sD (sC sR)))) (yc (fun l hl => by first | exact hl | (rw [show x4.length = ((x4.set ((x6).toNat) ((x4.getD ((x6).toNat) ([], [], [])).1, [-9], (x4.getD ((x6).toNat) ([], [], [])).2.2))).length from by first | rfl | assumption | omega | (rw [List.length_set]; omega) | (simp; done) | (simp; omega)] at hl; exact hl)) sR)) ?_))))))
    exact ⟨_, _, _, (x4.set ((x6).toNat) ((x4.getD ((x6).toNat) ([], [], [])).1, [-9], (x4.getD ((x6).toNat) ([], [], [])).2.2)), _, ⟨rfl, hf1, hs1, hc2, by (try dsimp only); omega, by (try rw [List.length_set]); omega, by first | exact crulesS_W hr5 (by decide) | exact crulesS_set (crulesS_W hr5 (by decide)) (cruleS_setR (cruleS_W (crulesS_at hr5 _) (by decide)) (by decide)) | exact crulesS_set (crulesS_W hr5 (by decide)) (cruleS_setL (cruleS_W (crulesS_at hr5 _) (by decide)) (by decide)) | exact crulesS_set (crulesS_W hr5 (by decide)) (cruleS_setC (m := 3) (cruleS_W (crulesS_at hr5 _) (by decide)) (condsS_nils (by omega))) | exact crulesS_set (crulesS_W hr5 (by decide)) (cruleS_setC (m := 3) (cruleS_W (crulesS_at hr5 _) (by decide)) (condsS_snoc hcw9 (by decide) (by decide)))⟩, rfl⟩
   refine qg (qd (cX (jD rfl rfl (qj (.bool (decide ((x7 : Int) = 1))) rfl (qf ?_)))))
   refine qH (p := (x7 : Int) = 1) rfl (fun h4 => ?_) (fun h4 => ?_)
   ·refine X.openD [_] _ rfl (fun cs2 Ls2 F8 le8 hs2 hD2 hZ2 => ?_)
    replace hbs := hbs.mono le8
    replace hf1 := hf1.mono le8
    have hc3 := hD2.crules hZ2
    show X _ _ _ _ _ _ (cellsH b2 [x1, x2] 29 :: slH 51 3 x2 x4.length cs2 :: cellsH b1 [sN, sN] 29 :: curH .i64 75 cb bsv bs.length :: L)
    refine qd (cX (qq (1) qF rfl jp (by decide) rfl rfl (cX (qm jz rfl (Rd.own [] rfl rfl) (qi (ii (x6)) rfl (cX (qx (s := 1) [ii (-1)] [ii (0)] [(0, [ii (-1)])] qh qC qP rfl (by decide) rfl (.cons rfl CellsAre.nil) rfl ?_)))))))
    intro v2 hv2
    show XL _ _ _ _ _ _ _ (intsH 2 v2 ([-1] : List Int) :: cellsH b2 [x1, x2] 29 :: slH 51 3 x2 x4.length cs2 :: cellsH b1 [sN, sN] 29 :: curH .i64 75 cb bsv bs.length :: L)
    refine jf [] _ _ rfl (fun F9 le9 hz3 => ?_)
    replace hbs := hbs.mono le9
    replace hf1 := hf1.mono le9
    replace hc3 := hc3.mono le9
    have hf3 : IntsF F9 v2 ([-1]) := intsH.fz (xs := [-1]) hz3.fz
    skip
    refine cX (qD ((x6).toNat) qU jv rfl rfl (by omega) (SlV.own [_] rfl) (by omega) rfl (cX (jV (((x6).toNat) * 3) qR rfl qy (by decide) rfl rfl (cX (XOp.storeS (i := ((x6).toNat) * 3) (cs := cs2) [_] _ qy rfl rfl (qJ (qv hf3)) rfl (by have h9 := CO.len hc3; (try simp only [List.length_set, List.length_replicate] at h9 ⊢) <;> omega) ?_)))))
    have hc4 := hc3.setL (j := ((x6).toNat)) (by (try simp only [List.length_set, List.length_replicate]); omega) hf3
    refine qf (qg (qd ?_))
    skip
    refine cX (qs [x1, x2] qY qK rfl rfl (Rd.ownN [] rfl rfl) (cX (qO [_, _] _ [x1, x2] qK rfl rfl rfl (qw (qJ (qv hf1)) (qw (qJ hs2) qT)) rfl rfl rfl (qf (qu (qt (L' := slH 51 3 x2 (((x4.set ((x6).toNat) ([-1], (x4.getD ((x6).toNat) ([], [], [])).2))).length) ((cs2.set (((x6).toNat) * 3) v2)) :: curH .i64 75 cb bsv bs.length :: L) [.agg #[x1, x2]] (.agg #[x1, x2]) (.cell rfl (jt [x1, x2] qY qK rfl (Rd.ownN [_, _] rfl rfl)) .nil) rfl (qc (qc le2 le8) le9) rF (jN (sD (sC (sD (sC sR)))) (yc (fun l hl => by first | exact hl | (rw [show x4.length = ((x4.set ((x6).toNat) ([-1], (x4.getD ((x6).toNat) ([], [], [])).2))).length from by first | rfl | assumption | omega | (rw [List.length_set]; omega) | (simp; done) | (simp; omega)] at hl; exact hl)) sR)) ?_))))))
    exact ⟨_, _, _, (x4.set ((x6).toNat) ([-1], (x4.getD ((x6).toNat) ([], [], [])).2)), _, ⟨rfl, hf1, hs2, hc4, by (try dsimp only); omega, by (try rw [List.length_set]); omega, by first | exact crulesS_W hr5 (by decide) | exact crulesS_set (crulesS_W hr5 (by decide)) (cruleS_setR (cruleS_W (crulesS_at hr5 _) (by decide)) (by decide)) | exact crulesS_set (crulesS_W hr5 (by decide)) (cruleS_setL (cruleS_W (crulesS_at hr5 _) (by decide)) (by decide)) | exact crulesS_set (crulesS_W hr5 (by decide)) (cruleS_setC (m := 3) (cruleS_W (crulesS_at hr5 _) (by decide)) (condsS_nils (by omega))) | exact crulesS_set (crulesS_W hr5 (by decide)) (cruleS_setC (m := 3) (cruleS_W (crulesS_at hr5 _) (by decide)) (condsS_snoc hcw9 (by decide) (by decide)))⟩, rfl⟩
   refine qg (qd (cX (jD rfl rfl (qj (.bool (decide ((x7 : Int) = 2))) rfl (qf ?_)))))
   refine qH (p := (x7 : Int) = 2) rfl (fun h5 => ?_) (fun h5 => ?_)
   ·refine X.openConds (xs := x4) [_] _ (k := ((x6).toNat)) (by omega) rfl (fun cs3 a1 pcs1 F10 le10 hs3 hs4 hq1 hq2 hC1 hX1 => ?_)
    replace hbs := hbs.mono le10
    replace hf1 := hf1.mono le10
    have hcw9 := cruleS_conds (crulesS_at hr5 ((x6).toNat))
    have hcl9 := hcw9.1
    show X _ _ _ _ _ _ (slH 71 2 a1 ((x4.getD ((x6).toNat) ([], [], [])).2.2.length) pcs1 :: cellsH b2 [x1, x2] 29 :: slH 51 3 x2 x4.length cs3 :: cellsH b1 [sN, sN] 29 :: curH .i64 75 cb bsv bs.length :: L)
    show X _ _ _ _ _ _ (slH 71 2 a1 ((x4.getD ((x6).toNat) ([], [], [])).2.2.length) pcs1 :: cellsH b2 [x1, x2] 29 :: slH 51 3 x2 x4.length cs3 :: cellsH b1 [sN, sN] 29 :: curH .i64 75 cb bsv bs.length :: L)
    refine X.drawH [cellsH b2 [x1, x2] 29, slH 51 3 x2 x4.length cs3, cellsH b1 [sN, sN] 29, curH .i64 75 cb bsv bs.length] L 14 [[], [], [], [], [], [], [], [], [], [], [], [9, 10], [9, 10], [9, 10, 12]] [[], [0], [], [], [3], [], [4, 5], [6], [7], [], [], [9, 10], [9, 10, 11], [8, 9, 10, 12]] [[], [], [], [], [], [], [], [], [], [], [], [], [], [12]] (phiG [pe (ptr b2 1), pe x2, pe (ii (x6)), pe (ptr b2 1), pe x2, pe (ii (x6)), pe (.pointer (some (elemA x2 (((x6).toNat) * 3)))), pe (.pointer (some (elemA x2 (((x6).toNat) * 3 + 2)))), pe a1, fun FF us v => (v : Value) = v ∧ (IntsF FF v [-20]), fun FF us v => (v : Value) = v ∧ (IntsF FF v [-1]), fun FF us v => v = (.agg #[(us.getD 0 undef), (us.getD 1 undef)] : Value), fun FF us v => ∃ b, v = .slice (some ⟨b, 0, none⟩) 1 1, fun FF us v => IsSl v]) (ownL [o0, o0, o0, o0, o0, o0, o0, o0, o0, o0, o0, o0, fun us v => [slH 71 2 v 1 [(us.getD 0 undef), (us.getD 1 undef)]], fun us v => [slH 71 2 (us.getD 2 undef) 1 [(us.getD 0 undef), (us.getD 1 undef)], slH 71 2 (v) (((x4.getD ((x6).toNat) ([], [], [])).2.2.length) + 1) (pcs1 ++ [(us.getD 0 undef), (us.getD 1 undef)])]]) (fun i => ([[], [], [], [], [], [], [], [], [], [], [], [], [], [slH 71 2 a1 ((x4.getD ((x6).toNat) ([], [], [])).2.2.length) pcs1]] : List (List HP)).getD i []) mixed rfl rfl (by kernel_rfl) (by kernel_rfl) (MonoG.get (m1 (m1 (m1 (m1 (m1 (m1 (m1 (m1 (m1 (mC (fun le h => ⟨h.1, h.2.mono le⟩) (mC (fun le h => ⟨h.1, h.2.mono le⟩) (mC (fun le h => h) (mC (fun le h => h) (mC (fun le h => h) MonoG.nil))))))))))))))) ?_ ?_
    ·refine tD (fun W Fs R lF z9 => ?_) ?_
     ·refine qk (qq (1) qF rfl jp (by decide) rfl rfl ?_)
      exact ⟨rfl, rfl⟩
     refine tD (fun W Fs R lF z9 => ?_) ?_
     ·replace hbs := hbs.mono lF
      replace hf1 := hf1.mono lF
      replace hC1 := hC1.mono lF
      rw [zA 0 (z9 0 rfl)]
      refine qk (qm jz rfl (Rd.own [] rfl rfl) ?_)
      exact ⟨rfl, rfl⟩
     refine tD (fun W Fs R lF z9 => ?_) ?_
     ·refine qk (qo (ii (x6)) rfl ?_)
      exact ⟨rfl, rfl⟩
     refine tD (fun W Fs R lF z9 => ?_) ?_
     ·refine qk (qq (1) qF rfl jp (by decide) rfl rfl ?_)
      exact ⟨rfl, rfl⟩
     refine tD (fun W Fs R lF z9 => ?_) ?_
     ·replace hbs := hbs.mono lF
      replace hf1 := hf1.mono lF
      replace hC1 := hC1.mono lF
      rw [zA 3 (z9 3 rfl)]
      refine qk (qm jz rfl (Rd.own [] rfl rfl) ?_)
      exact ⟨rfl, rfl⟩
     refine tD (fun W Fs R lF z9 => ?_) ?_
     ·refine qk (qo (ii (x6)) rfl ?_)
      exact ⟨rfl, rfl⟩
     refine tD (fun W Fs R lF z9 => ?_) ?_
     ·replace hbs := hbs.mono lF
      replace hf1 := hf1.mono lF
      replace hC1 := hC1.mono lF
      rw [zB 4 5 (z9 4 rfl) (z9 5 rfl)]
      refine qk (qD ((x6).toNat) qU jv rfl rfl (by omega) (SlV.own [_] rfl) (by omega) rfl ?_)
      exact ⟨rfl, rfl⟩
     refine tD (fun W Fs R lF z9 => ?_) ?_
     ·rw [zA 6 (z9 6 rfl)]
      refine qk (jV (((x6).toNat) * 3 + 2) qR rfl jx (by decide) rfl rfl ?_)
      exact ⟨rfl, rfl⟩
     refine tD (fun W Fs R lF z9 => ?_) ?_
     ·replace hbs := hbs.mono lF
      replace hf1 := hf1.mono lF
      replace hC1 := hC1.mono lF
      rw [zA 7 (z9 7 rfl)]
      refine qk (qm isAgg49 rfl (Rd.sl [_] rfl hq1) ?_)
      exact ⟨rfl, rfl⟩
     refine tD (fun W Fs R lF z9 => ?_) ?_
     ·replace hbs := hbs.mono lF
      replace hf1 := hf1.mono lF
      replace hC1 := hC1.mono lF
      refine qk (jR <| qx (s := 1) [ii (-20)] [ii (0)] [(0, [ii (-20)])] qh qC qP rfl (by decide) rfl (.cons rfl CellsAre.nil) rfl ?_)
      intro v5 hv4
      refine ⟨_, _, rfl, fun F11 le11 hz4 => ?_⟩
      replace hbs := hbs.mono le11
      replace hf1 := hf1.mono le11
      replace hC1 := hC1.mono le11
      have hf4 : IntsF F11 v5 [-20] := intsH.fz (xs := [-20]) hz4.fz
      exact ⟨⟨rfl, hf4⟩, rfl⟩
     refine tD (fun W Fs R lF z9 => ?_) ?_
     ·replace hbs := hbs.mono lF
      replace hf1 := hf1.mono lF
      replace hC1 := hC1.mono lF
      refine qk (jR <| qx (s := 1) [ii (-1)] [ii (0)] [(0, [ii (-1)])] qh qC qP rfl (by decide) rfl (.cons rfl CellsAre.nil) rfl ?_)
      intro v6 hv5
      refine ⟨_, _, rfl, fun F12 le12 hz5 => ?_⟩
      replace hbs := hbs.mono le12
      replace hf1 := hf1.mono le12
      replace hC1 := hC1.mono le12
      have hf5 : IntsF F12 v6 [-1] := intsH.fz (xs := [-1]) hz5.fz
      exact ⟨⟨rfl, hf5⟩, rfl⟩
     refine tD (fun W Fs R lF z9 => ?_) ?_
     ·obtain ⟨e9, f9_1lit⟩ := z9 9 rfl
      obtain ⟨e10, f10_1lit⟩ := z9 10 rfl
      replace hbs := hbs.mono lF
      replace hf1 := hf1.mono lF
      replace hC1 := hC1.mono lF
      rw [eS (l := [(9, (W 9)), (10, (W 10))]) ⟨(e9).symm, (e10).symm, ⟨⟩⟩]
      refine qk (jk [(W 9), (W 10)] [sN, sN] [(0, 1), (1, 1)] [(0, [(W 9)]), (1, [(W 10)])] jw jM rfl (.cons rfl qy (.cons rfl qy PlacesAre.nil)) rfl (.cons (cells_one (qv f9_1lit)) (.cons (cells_one (qv f10_1lit)) CellsAre.nil)) ?_)
      exact ⟨rfl, rfl⟩
     refine tD (fun W Fs R lF z9 => ?_) ?_
     ·obtain ⟨e9, f9_1lit⟩ := z9 9 rfl
      obtain ⟨e10, f10_1lit⟩ := z9 10 rfl
      have e11 : W 11 = (.agg #[(W 9), (W 10)] : Value) := z9 11 rfl
      replace hbs := hbs.mono lF
      replace hf1 := hf1.mono lF
      replace hC1 := hC1.mono lF
      rw [eS (l := [(9, (W 9)), (10, (W 10)), (11, (.agg #[(W 9), (W 10)]))]) ⟨(e9).symm, (e10).symm, e11, ⟨⟩⟩]
      refine qk (qx (s := 2) [(W 9), (W 10)] [sN, sN] [(0, [(W 9), (W 10)])] jh jK jM rfl (by decide) rfl (.cons rfl CellsAre.nil) rfl ?_)
      intro v7 hv6
      exact ⟨hv6, rfl⟩
     refine tD (fun W Fs R lF z9 => ?_) ?_
     ·obtain ⟨e9, f9_1lit⟩ := z9 9 rfl
      obtain ⟨e10, f10_1lit⟩ := z9 10 rfl
      have f12 : ∃ b, (W 12) = .slice (some ⟨b, 0, none⟩) 1 1 := z9 12 rfl
      replace hbs := hbs.mono lF
      replace hf1 := hf1.mono lF
      replace hC1 := hC1.mono lF
      rw [eS (l := [(8, _), (9, (W 9)), (10, (W 10))]) ⟨z9 8 rfl, (e9).symm, (e10).symm, ⟨⟩⟩]
      show XG _ _ _ _ _ (slH 71 2 (W 12) 1 [(W 9), (W 10)] :: slH 71 2 a1 ((x4.getD ((x6).toNat) ([], [], [])).2.2.length) pcs1 :: ([cellsH b2 [x1, x2] 29, slH 51 3 x2 x4.length cs3, cellsH b1 [sN, sN] 29, curH .i64 75 cb bsv bs.length] ++ R)) _
      refine qk (XOp.append (m := 1) (bytes := 48) (cs := pcs1) [_] _ [(W 9), (W 10)] jh typeInfo71 rfl rfl rfl rfl rfl rfl rfl (SlV.own [] rfl) rfl (Rd.lit [] rfl) (qw (qJ (qv f9_1lit)) (qw (qJ (qv f10_1lit)) qT)) (by (try simp only [List.length_append, List.length_nil, List.length_cons, List.length_singleton]); omega) (by (try simp only [List.length_append, List.length_nil, List.length_cons, List.length_singleton]); omega) ?_)
      intro v8 hs6 hn2 hm2
      have hc6 := PairsC.snoc hC1 f9_1lit f10_1lit
      exact ⟨hs6, rfl⟩
     exact stepsT.nil
    intro W F13 le13 hphi
    obtain ⟨e9, f9_1lit⟩ := hphi 9 (by decide)
    obtain ⟨e10, f10_1lit⟩ := hphi 10 (by decide)
    have e11 : W 11 = (.agg #[(W 9), (W 10)] : Value) := hphi 11 (by decide)
    have f12 : ∃ b, (W 12) = .slice (some ⟨b, 0, none⟩) 1 1 := hphi 12 (by decide)
    have f13 : IsSl (W 13) := hphi 13 (by decide)
    generalize hu1 : (W 9) = u1 at e9 f9_1lit e10 f10_1lit e11 f12 f13
    generalize hu2 : (W 10) = u2 at e9 f9_1lit e10 f10_1lit e11 f12 f13
    generalize huu12 : W 12 = u3 at e9 f9_1lit e10 f10_1lit e11 f12 f13
    generalize huu13 : W 13 = u4 at e9 f9_1lit e10 f10_1lit e11 f12 f13
    rw [eS (l := [(1, _), (2, _), (9, u1), (10, u2), (12, u3), (13, u4)]) ⟨(hphi 1 (by decide)), (hphi 2 (by decide)), hu1, hu2, huu12, huu13, ⟨⟩⟩]
    replace hbs := hbs.mono le13
    replace hf1 := hf1.mono le13
    replace hC1 := hC1.mono le13
    have hc7 := PairsC.snoc hC1 f9_1lit f10_1lit
    show XL _ _ _ _ _ _ _ (slH 71 2 u3 1 [u1, u2] :: slH 71 2 u4 (((x4.getD ((x6).toNat) ([], [], [])).2.2.length) + 1) (pcs1 ++ [u1, u2]) :: cellsH b2 [x1, x2] 29 :: slH 51 3 x2 x4.length cs3 :: cellsH b1 [sN, sN] 29 :: curH .i64 75 cb bsv bs.length :: L)
    refine cX (qD ((x6).toNat) qU jv rfl rfl (by omega) (SlV.own [_, _, _] rfl) (by omega) rfl (cX (jV (((x6).toNat) * 3 + 2) qR rfl jx (by decide) rfl rfl (cX (XOp.storeS (i := ((x6).toNat) * 3 + 2) (cs := cs3) [_, _, _] _ jx rfl rfl (qJ f13) rfl (by omega) (jf [_] _ _ rfl (fun F14 le14 hz6 => ?_)))))))
    replace hbs := hbs.mono le14
    replace hf1 := hf1.mono le14
    replace hc7 := hc7.mono le14
    have hf6 : PairsF F14 u4 (((x4.getD ((x6).toNat) ([], [], [])).2.2) ++ [([-20], [-1])]) := CO.fz hc7 (by first | rfl | omega | (rw [List.length_set]; omega) | (simp; done)) hz6.fz
    have hc8 : CRulesC F14 ((cs3.set (((x6).toNat) * 3 + 2) u4)) (x4.set ((x6).toNat) ((x4.getD ((x6).toNat) ([], [], [])).1, (x4.getD ((x6).toNat) ([], [], [])).2.1, ((x4.getD ((x6).toNat) ([], [], [])).2.2) ++ [([-20], [-1])])) := CRulesX.close hX1 (qc le13 le14) hf6
    skip
    refine qf (qg (qd ?_))
    skip
    refine cX (qs [x1, x2] qY qK rfl rfl (Rd.ownN [_] rfl rfl) (cX (qO [_, _, _] _ [x1, x2] qK rfl rfl rfl (qw (qJ (qv hf1)) (qw (qJ hs3) qT)) rfl rfl rfl (qf (qu (qt (L' := slH 51 3 x2 (((x4.set ((x6).toNat) ((x4.getD ((x6).toNat) ([], [], [])).1, (x4.getD ((x6).toNat) ([], [], [])).2.1, ((x4.getD ((x6).toNat) ([], [], [])).2.2) ++ [([-20], [-1])]))).length) ((cs3.set (((x6).toNat) * 3 + 2) u4)) :: curH .i64 75 cb bsv bs.length :: L) [.agg #[x1, x2]] (.agg #[x1, x2]) (.cell rfl (jt [x1, x2] qY qK rfl (Rd.ownN [_, _, _] rfl rfl)) .nil) rfl (qc (qc (qc le2 le10) le13) le14) rF (jN (sD (sD (sC (sD (sC sR))))) (yc (fun l hl => by first | exact hl | (rw [show x4.length = ((x4.set ((x6).toNat) ((x4.getD ((x6).toNat) ([], [], [])).1, (x4.getD ((x6).toNat) ([], [], [])).2.1, ((x4.getD ((x6).toNat) ([], [], [])).2.2) ++ [([-20], [-1])]))).length from by first | rfl | assumption | omega | (rw [List.length_set]; omega) | (simp; done) | (simp; omega)] at hl; exact hl)) sR)) ?_))))))
    exact ⟨_, _, _, (x4.set ((x6).toNat) ((x4.getD ((x6).toNat) ([], [], [])).1, (x4.getD ((x6).toNat) ([], [], [])).2.1, ((x4.getD ((x6).toNat) ([], [], [])).2.2) ++ [([-20], [-1])])), _, ⟨rfl, hf1, hs3, hc8, by (try dsimp only); omega, by (try rw [List.length_set]); omega, by first | exact crulesS_W hr5 (by decide) | exact crulesS_set (crulesS_W hr5 (by decide)) (cruleS_setR (cruleS_W (crulesS_at hr5 _) (by decide)) (by decide)) | exact crulesS_set (crulesS_W hr5 (by decide)) (cruleS_setL (cruleS_W (crulesS_at hr5 _) (by decide)) (by decide)) | exact crulesS_set (crulesS_W hr5 (by decide)) (cruleS_setC (m := 3) (cruleS_W (crulesS_at hr5 _) (by decide)) (condsS_nils (by omega))) | exact crulesS_set (crulesS_W hr5 (by decide)) (cruleS_setC (m := 3) (cruleS_W (crulesS_at hr5 _) (by decide)) (condsS_snoc hcw9 (by decide) (by decide)))⟩, rfl⟩
   refine qg (qd (cX (jD rfl rfl (qj (.bool (decide ((x7 : Int) = 3))) rfl (qf ?_)))))
   refine qH (p := (x7 : Int) = 3) rfl (fun h6 => ?_) (fun h6 => ?_)
   ·refine X.openD [_] _ rfl (fun cs4 Ls3 F15 le15 hs7 hD3 hZ3 => ?_)
    replace hbs := hbs.mono le15
    replace hf1 := hf1.mono le15
    have hc9 := hD3.crules hZ3
    show X _ _ _ _ _ _ (cellsH b2 [x1, x2] 29 :: slH 51 3 x2 x4.length cs4 :: cellsH b1 [sN, sN] 29 :: curH .i64 75 cb bsv bs.length :: L)
    refine jG [cellsH b2 [x1, x2] 29, slH 51 3 x2 x4.length cs4, cellsH b1 [sN, sN] 29, curH .i64 75 cb bsv bs.length] L 7 [[], [], [], [], [], [4], [4]] [[], [0], [], [], [3], [4], [4, 5]] [] (phiG [pe (ptr b2 1), pe x2, pe (ii (x6)), pe (ptr cb 0), fun FF us v => (ii (((intAt v))) : Value) = v ∧ (0 ≤ ((intAt v)) ∧ (((intAt v)) < 2 ∨ ((intAt v)) = 0)), fun FF us v => v = (ii (((2 + (((intAt (us.getD 0 undef)))).toNat : Nat) : Int)) : Value), fun FF us v => (v : Value) = v ∧ (PairsF FF v (List.replicate (2 + (((intAt (us.getD 0 undef)))).toNat) ([], []) : List (List Int × List Int)))]) (ownL []) mixed rfl rfl (by kernel_rfl) (by kernel_rfl) (MonoG.get (m1 (m1 (m1 (m1 (mC (fun le h => ⟨h.1, h.2⟩) (mC (fun le h => h) (mC (fun le h => ⟨h.1, h.2.mono le⟩) MonoG.nil)))))))) ?_ ?_
    ·refine gD (fun W Fs R lF z9 => ?_) ?_
     ·refine qk (qq (1) qF rfl jp (by decide) rfl rfl ?_)
      exact ⟨rfl, rfl⟩
     refine gD (fun W Fs R lF z9 => ?_) ?_
     ·replace hbs := hbs.mono lF
      replace hf1 := hf1.mono lF
      replace hc9 := hc9.mono lF
      rw [zA 0 (z9 0 rfl)]
      refine qk (qm jz rfl (Rd.own [] rfl rfl) ?_)
      exact ⟨rfl, rfl⟩
     refine gD (fun W Fs R lF z9 => ?_) ?_
     ·refine qk (qo (ii (x6)) rfl ?_)
      exact ⟨rfl, rfl⟩
     refine gD (fun W Fs R lF z9 => ?_) ?_
     ·refine qk (qo (ptr cb 0) rfl ?_)
      exact ⟨rfl, rfl⟩
     refine gD (fun W Fs R lF z9 => ?_) ?_
     ·replace hbs := hbs.mono lF
      replace hf1 := hf1.mono lF
      replace hc9 := hc9.mono lF
      rw [zA 3 (z9 3 rfl)]
      refine qk (qn (args := [ptr cb 0, ii (2)]) jO rfl (qZ [_, _, _] (l1Below_spec (n := 2) hbs (by omega) (hn := (by first | assumption | rfl | omega | simp)))) ?_)
      rintro _ _ _ _ ⟨⟨rfl, x9, rfl, hr10⟩, rfl⟩
      exact ⟨⟨rfl, hr10⟩, rfl⟩
     refine gD (fun W Fs R lF z9 => ?_) ?_
     ·obtain ⟨e4, f4_2hx⟩ := z9 4 rfl
      rw [eS (l := [(4, (ii (((intAt (W 4))))))]) ⟨(e4).symm, ⟨⟩⟩]
      refine qk (qS (((2 + (((intAt (W 4)))).toNat : Nat) : Int)) rfl rfl (by omega) (by omega) ?_)
      exact ⟨rfl, rfl⟩
     refine gD (fun W Fs R lF z9 => ?_) ?_
     ·obtain ⟨e4, f4_2hx⟩ := z9 4 rfl
      have e5 : W 5 = (ii (((2 + (((intAt (W 4)))).toNat : Nat) : Int)) : Value) := z9 5 rfl
      replace hbs := hbs.mono lF
      replace hf1 := hf1.mono lF
      replace hc9 := hc9.mono lF
      rw [eS (l := [(4, (ii (((intAt (W 4)))))), (5, (ii (((2 + (((intAt (W 4)))).toNat : Nat) : Int))))]) ⟨(e4).symm, e5, ⟨⟩⟩]
      refine qk (jR <| XOp.makeSlice (n := 2 + (((intAt (W 4)))).toNat) (bytes := 48) [sN, sN] jh jK typeInfo71 rfl jM rfl rfl rfl rfl (by omega) (by omega) ?_)
      intro v9 hv7
      refine ⟨_, _, rfl, fun F18 le18 hz7 => ?_⟩
      replace hbs := hbs.mono le18
      replace hf1 := hf1.mono le18
      replace hc9 := hc9.mono le18
      have hf7 : PairsF F18 v9 (List.replicate (2 + (((intAt (W 4)))).toNat) ([], []) : List (List Int × List Int)) := CO.fz (PairsC.nils (2 + (((intAt (W 4)))).toNat)) (by simp) hz7.fz
      exact ⟨⟨rfl, hf7⟩, rfl⟩
     exact stepsG.nil
    intro W F19 le19 hphi
    obtain ⟨e4, f4_2hx⟩ := hphi 4 (by decide)
    have e5 : W 5 = (ii (((2 + (((intAt (W 4)))).toNat : Nat) : Int)) : Value) := hphi 5 (by decide)
    obtain ⟨e6, f6_2mk⟩ : ((W 6) : Value) = (W 6) ∧ (PairsF F19 (W 6) (List.replicate (2 + (((intAt (W 4)))).toNat) ([], []) : List (List Int × List Int))) := hphi 6 (by decide)
    generalize hu3 : (intAt (W 4)) = u5 at e4 f4_2hx e5 e6 f6_2mk
    generalize hu4 : (W 6) = u6 at e4 f4_2hx e5 e6 f6_2mk
    rw [eS (l := [(1, _), (2, _), (4, (ii ((u5)))), (6, u6)]) ⟨(hphi 1 (by decide)), (hphi 2 (by decide)), (e4).symm, hu4, ⟨⟩⟩]
    replace hbs := hbs.mono le19
    replace hf1 := hf1.mono le19
    replace hc9 := hc9.mono le19
    show XL _ _ _ _ _ _ _ (cellsH b2 [x1, x2] 29 :: slH 51 3 x2 x4.length cs4 :: cellsH b1 [sN, sN] 29 :: curH .i64 75 cb bsv bs.length :: L)
    refine cX (qD ((x6).toNat) qU jv rfl rfl (by omega) (SlV.own [_] rfl) (by omega) rfl (cX (jV (((x6).toNat) * 3 + 2) qR rfl jx (by decide) rfl rfl (cX (XOp.storeS (i := ((x6).toNat) * 3 + 2) (cs := cs4) [_] _ jx rfl rfl (qJ (PairsF.isSl f6_2mk)) rfl (by have h9 := CO.len hc9; (try simp only [List.length_set, List.length_replicate] at h9 ⊢) <;> omega) ?_)))))
    have hc10 := hc9.setConds (j := ((x6).toNat)) (by (try simp only [List.length_set, List.length_replicate]); omega) f6_2mk
    refine qf (qg (qd ?_))
    skip
    refine cX (qs [x1, x2] qY qK rfl rfl (Rd.ownN [] rfl rfl) (cX (qO [_, _] _ [x1, x2] qK rfl rfl rfl (qw (qJ (qv hf1)) (qw (qJ hs7) qT)) rfl rfl rfl (qf (qu (qt (L' := slH 51 3 x2 (((x4.set ((x6).toNat) ((x4.getD ((x6).toNat) ([], [], [])).1, (x4.getD ((x6).toNat) ([], [], [])).2.1, (List.replicate (2 + ((u5)).toNat) ([], []) : List (List Int × List Int))))).length) ((cs4.set (((x6).toNat) * 3 + 2) u6)) :: curH .i64 75 cb bsv bs.length :: L) [.agg #[x1, x2]] (.agg #[x1, x2]) (.cell rfl (jt [x1, x2] qY qK rfl (Rd.ownN [_, _] rfl rfl)) .nil) rfl (qc (qc le2 le15) le19) rF (jN (sD (sC (sD (sC sR)))) (yc (fun l hl => by first | exact hl | (rw [show x4.length = ((x4.set ((x6).toNat) ((x4.getD ((x6).toNat) ([], [], [])).1, (x4.getD ((x6).toNat) ([], [], [])).2.1, (List.replicate (2 + ((u5)).toNat) ([], []) : List (List Int × List Int))))).length from by first | rfl | assumption | omega | (rw [List.length_set]; omega) | (simp; done) | (simp; omega)] at hl; exact hl)) sR)) ?_))))))
    exact ⟨_, _, _, (x4.set ((x6).toNat) ((x4.getD ((x6).toNat) ([], [], [])).1, (x4.getD ((x6).toNat) ([], [], [])).2.1, (List.replicate (2 + ((u5)).toNat) ([], []) : List (List Int × List Int)))), _, ⟨rfl, hf1, hs7, hc10, by (try dsimp only); omega, by (try rw [List.length_set]); omega, by first | exact crulesS_W hr5 (by decide) | exact crulesS_set (crulesS_W hr5 (by decide)) (cruleS_setR (cruleS_W (crulesS_at hr5 _) (by decide)) (by decide)) | exact crulesS_set (crulesS_W hr5 (by decide)) (cruleS_setL (cruleS_W (crulesS_at hr5 _) (by decide)) (by decide)) | exact crulesS_set (crulesS_W hr5 (by decide)) (cruleS_setC (m := 3) (cruleS_W (crulesS_at hr5 _) (by decide)) (condsS_nils (by omega))) | exact crulesS_set (crulesS_W hr5 (by decide)) (cruleS_setC (m := 3) (cruleS_W (crulesS_at hr5 _) (by decide)) (condsS_snoc hcw9 (by decide) (by decide)))⟩, rfl⟩
   refine qg (qd (cX (jD rfl rfl (qj (.bool (decide ((x7 : Int) = 4))) rfl (qf ?_)))))
   refine qH (p := (x7 : Int) = 4) rfl (fun h7 => ?_) (fun h7 => ?_)
   ·refine qd (qi (ptr cb 0) rfl (cX (qn (args := [ptr cb 0]) call52 rfl (qZ [_, _, _] (l1DrawSigAny_spec hbs (by omega))) ?_)))
    rintro _ F20 _ le20 ⟨⟨x10, x11, rfl, hr11, hr12⟩, rfl⟩
    replace hf1 := hf1.mono le20
    show XL _ _ _ _ _ _ _ (cellsH b2 [x1, x2] 29 :: crulesD 2 71 51 x2 x4 :: cellsH b1 [sN, sN] 29 :: curH .i64 75 cb bsv bs.length :: L)
    refine cX (qq (0) qF rfl qB (by decide) rfl rfl (cX (qO [] _ [x10, x2] qB rfl rfl rfl (qw (qJ (qv hr11)) qT) rfl rfl rfl (qf (qg (qd (XL.openD [_] _ rfl (fun cs5 Ls4 F21 le21 hs8 hD4 hZ4 => ?_))))))))
    replace hf1 := hf1.mono le21
    replace hr11 := hr11.mono le21
    have hc11 := hD4.crules hZ4
    show XL _ _ _ _ _ _ _ (cellsH b2 [x10, x2] 29 :: slH 51 3 x2 x4.length cs5 :: cellsH b1 [sN, sN] 29 :: curH .i64 75 cb bsv bs.length :: L)
    skip
    refine cX (qs [x10, x2] qY qK rfl rfl (Rd.ownN [] rfl rfl) (cX (qO [_, _] _ [x10, x2] qK rfl rfl rfl (qw (qJ (qv hr11)) (qw (qJ hs8) qT)) rfl rfl rfl (qf (qu (qt (L' := slH 51 3 x2 x4.length cs5 :: curH .i64 75 cb bsv bs.length :: L) [.agg #[x10, x2]] (.agg #[x10, x2]) (.cell rfl (jt [x10, x2] qY qK rfl (Rd.ownN [_, _] rfl rfl)) .nil) rfl (qc (qc le2 le20) le21) rF ((sD (sC (sD (sC sR))))) ?_))))))
    exact ⟨_, _, _, x4, _, ⟨rfl, hr11, hs8, hc11, by (try dsimp only); omega, by (try rw [List.length_set]); omega, by first | exact crulesS_W hr5 (by decide) | exact crulesS_set (crulesS_W hr5 (by decide)) (cruleS_setR (cruleS_W (crulesS_at hr5 _) (by decide)) (by decide)) | exact crulesS_set (crulesS_W hr5 (by decide)) (cruleS_setL (cruleS_W (crulesS_at hr5 _) (by decide)) (by decide)) | exact crulesS_set (crulesS_W hr5 (by decide)) (cruleS_setC (m := 3) (cruleS_W (crulesS_at hr5 _) (by decide)) (condsS_nils (by omega))) | exact crulesS_set (crulesS_W hr5 (by decide)) (cruleS_setC (m := 3) (cruleS_W (crulesS_at hr5 _) (by decide)) (condsS_snoc hcw9 (by decide) (by decide)))⟩, rfl⟩
   refine qz (qg (qd (XL.openD [_] _ rfl (fun cs6 Ls5 F22 le22 hs9 hD5 hZ5 => ?_))))
   replace hf1 := hf1.mono le22
   have hc12 := hD5.crules hZ5
   show XL _ _ _ _ _ _ _ (cellsH b2 [x1, x2] 29 :: slH 51 3 x2 x4.length cs6 :: cellsH b1 [sN, sN] 29 :: curH .i64 75 cb bsv bs.length :: L)
   skip
   refine cX (qs [x1, x2] qY qK rfl rfl (Rd.ownN [] rfl rfl) (cX (qO [_, _] _ [x1, x2] qK rfl rfl rfl (qw (qJ (qv hf1)) (qw (qJ hs9) qT)) rfl rfl rfl (qf (qu (qt (L' := slH 51 3 x2 x4.length cs6 :: curH .i64 75 cb bsv bs.length :: L) [.agg #[x1, x2]] (.agg #[x1, x2]) (.cell rfl (jt [x1, x2] qY qK rfl (Rd.ownN [_, _] rfl rfl)) .nil) rfl (qc le2 le22) rF ((sD (sC (sD (sC sR))))) ?_))))))
   exact ⟨_, _, _, x4, _, ⟨rfl, hf1, hs9, hc12, by (try dsimp only); omega, by (try rw [List.length_set]); omega, by first | exact crulesS_W hr5 (by decide) | exact crulesS_set (crulesS_W hr5 (by decide)) (cruleS_setR (cruleS_W (crulesS_at hr5 _) (by decide)) (by decide)) | exact crulesS_set (crulesS_W hr5 (by decide)) (cruleS_setL (cruleS_W (crulesS_at hr5 _) (by decide)) (by decide)) | exact crulesS_set (crulesS_W hr5 (by decide)) (cruleS_setC (m := 3) (cruleS_W (crulesS_at hr5 _) (by decide)) (condsS_nils (by omega))) | exact crulesS_set (crulesS_W hr5 (by decide)) (cruleS_setC (m := 3) (cruleS_W (crulesS_at hr5 _) (by decide)) (condsS_snoc hcw9 (by decide) (by decide)))⟩, rfl⟩
  refine qz (qg (qd (XL.openD [_] _ rfl (fun cs7 Ls6 F23 le23 hs10 hD6 hZ6 => ?_))))
  replace hf1 := hf1.mono le23
  have hc13 := hD6.crules hZ6
  show XL _ _ _ _ _ _ _ (cellsH b2 [x1, x2] 29 :: slH 51 3 x2 x4.length cs7 :: cellsH b1 [sN, sN] 29 :: curH .i64 75 cb bsv bs.length :: L)
  skip
  refine cX (qs [x1, x2] qY qK rfl rfl (Rd.ownN [] rfl rfl) (cX (qO [_, _] _ [x1, x2] qK rfl rfl rfl (qw (qJ (qv hf1)) (qw (qJ hs10) qT)) rfl rfl rfl (qf (qu (qt (L' := slH 51 3 x2 x4.length cs7 :: curH .i64 75 cb bsv bs.length :: L) [.agg #[x1, x2]] (.agg #[x1, x2]) (.cell rfl (jt [x1, x2] qY qK rfl (Rd.ownN [_, _] rfl rfl)) .nil) rfl (qc le2 le23) rF ((sD (sC (sD (sC sR))))) ?_))))))
  exact ⟨_, _, _, x4, _, ⟨rfl, hf1, hs10, hc13, by (try dsimp only); omega, by (try rw [List.length_set]); omega, by first | exact crulesS_W hr5 (by decide) | exact crulesS_set (crulesS_W hr5 (by decide)) (cruleS_setR (cruleS_W (crulesS_at hr5 _) (by decide)) (by decide)) | exact crulesS_set (crulesS_W hr5 (by decide)) (cruleS_setL (cruleS_W (crulesS_at hr5 _) (by decide)) (by decide)) | exact crulesS_set (crulesS_W hr5 (by decide)) (cruleS_setC (m := 3) (cruleS_W (crulesS_at hr5 _) (by decide)) (condsS_nils (by omega))) | exact crulesS_set (crulesS_W hr5 (by decide)) (cruleS_setC (m := 3) (cruleS_W (crulesS_at hr5 _) (by decide)) (condsS_snoc hcw9 (by decide) (by decide)))⟩, rfl⟩
 rw [Bool.not_eq_true] at h1
 refine qp (t := 9) rfl (vB h1) (qp (t := 9) rfl (vB h1) (qp (t := 9) rfl (vB h1) (qp (t := 9) rfl (vB h1) (cX (qM (.bool (false)) (vB h1) rfl (qf (jS rfl (qz (qg (qd (XL.openD [_] _ rfl (fun cs8 Ls7 F24 le24 hs11 hD7 hZ7 => ?_))))))))))))
 replace hf1 := hf1.mono le24
 have hc14 := hD7.crules hZ7
 show XL _ _ _ _ _ _ _ (cellsH b2 [x1, x2] 29 :: slH 51 3 x2 x4.length cs8 :: cellsH b1 [sN, sN] 29 :: curH .i64 75 cb bsv bs.length :: L)
 skip
 refine cX (qs [x1, x2] qY qK rfl rfl (Rd.ownN [] rfl rfl) (cX (qO [_, _] _ [x1, x2] qK rfl rfl rfl (qw (qJ (qv hf1)) (qw (qJ hs11) qT)) rfl rfl rfl (qf (qu (qt (L' := slH 51 3 x2 x4.length cs8 :: curH .i64 75 cb bsv bs.length :: L) [.agg #[x1, x2]] (.agg #[x1, x2]) (.cell rfl (jt [x1, x2] qY qK rfl (Rd.ownN [_, _] rfl rfl)) .nil) rfl (qc le2 le24) rF ((sD (sC (sD (sC sR))))) ?_))))))
 exact ⟨_, _, _, x4, _, ⟨rfl, hf1, hs11, hc14, by (try dsimp only); omega, by (try rw [List.length_set]); omega, by first | exact crulesS_W hr5 (by decide) | exact crulesS_set (crulesS_W hr5 (by decide)) (cruleS_setR (cruleS_W (crulesS_at hr5 _) (by decide)) (by decide)) | exact crulesS_set (crulesS_W hr5 (by decide)) (cruleS_setL (cruleS_W (crulesS_at hr5 _) (by decide)) (by decide)) | exact crulesS_set (crulesS_W hr5 (by decide)) (cruleS_setC (m := 3) (cruleS_W (crulesS_at hr5 _) (by decide)) (condsS_nils (by omega))) | exact crulesS_set (crulesS_W hr5 (by decide)) (cruleS_setC (m := 3) (cruleS_W (crulesS_at hr5 _) (by decide)) (condsS_snoc hcw9 (by decide) (by decide)))⟩, rfl⟩
end Go.Proofs.YteodlimhopibkaaGreat
