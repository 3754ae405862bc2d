import Derived.Test.YteghjebbeclanaaDoorIn
import Derived.Test.YteghjebbeclanaaDoorIn2
import Derived.Test.YteghjebbeclanaaDoorPExp
import Derived.Test.YteghjebbeclanaaDoorTokM
import Derived.Test.YteghjebbeclanaaDoorOwn
namespace Go.Proofs.YteghjebbeclanaaDoor
open Go Go.RowKit
set_option maxRecDepth 100000
set_option linter.unusedVariables false
namespace fnExactParseExpr
set_option maxHeartbeats 1000000 in
theorem walk (v0 : Value) (w : World) (hp : PowIs w) (hmx : MaxIs w) (h0 : InStrings w v0) : Calls Tryd.prog 4 #[v0] w fun e w' => e = .returned (.bool true) ∧ Below w.heap.size w w' := by
  obtain ⟨A0, n0, c0, x0, rfl, hnc0, hcm0, hl0, hR0, hS0⟩ := h0
  have HP := hide hp
  clear hp
  have HM := hide hmx
  clear hmx
  have BB0 := hide (Below.refl w.heap.size w)
  have R0 := hide hR0
  have HS0 := hide hS0
  have HL0 := hide hl0
  clear hR0 hS0 hl0
  have se0 : decide (x0 = x0) = true := by simp
  go_enter Tryd.func4, Tryd.ntmps4
  go_wp2_with fail
  refine (l_szStringS A0 n0 c0 x0 _ _ (by omega) (by omega) HL0.out (R0.out.below BB0.out) HS0.out).mono ?_
  rintro e w' ⟨⟨r90, rfl, hlo90, hhi90, hr90⟩, rfl⟩
  by_cases hneg90 : r90 < 0

  · skip
    go_wp2
    go_ret
    exact ⟨rfl, BB0.out⟩
  · have hn0 : n0 ≤ 1048576 := by have := (hr90 (by omega)).1; omega
    have HT0 := hide (fun t ht => ((hr90 (by omega)).2 t ht))
    clear hr90
    have hlen := peL_length x0
    go_wp2_with fail
    refine (l_toStringS A0 n0 c0 x0 _ (by omega) HL0.out (R0.out.below BB0.out)).mono ?_
    rintro e w1 ⟨⟨A1, rfl, o1⟩, hb1⟩
    have hz1 := hb1.size
    have BB1 := hide (BB0.out.trans (hb1.mono BB0.out.size))
    clear hb1
    have S0 := hide o1
    clear o1
    go_wp2_with fail
    refine (s_parseExpr A1 n0 n0 x0 _ (by omega) HL0.out (InRow.of_arr S0.out) (fun s hs => by have := HT0.out s hs; omega) (HP.out.below BB1.out)).mono ?_
    rintro e w2 ⟨⟨v2, rfl, o2⟩, hb2⟩
    have hz2 := hb2.size
    have BB2 := hide (BB1.out.trans (hb2.mono BB1.out.size))
    have S0_2 := hide (S0.out.belowZ hb2)
    clear hb2
    clear S0
    obtain ⟨A2, c2, rfl, _, q2⟩ := Arr.of_own o2
    have X2 := hide q2
    clear o2 q2
    have W := X2
    clear X2
    go_wp2_with fail
    refine (l_toStringS A0 n0 c0 x0 _ (by omega) HL0.out (R0.out.below BB2.out)).mono ?_
    rintro e w3 ⟨⟨A3, rfl, o3⟩, hb3⟩
    have hz3 := hb3.size
    have BB3 := hide (BB2.out.trans (hb3.mono BB2.out.size))
    have W_3 := hide (W.out.belowZ hb3)
    clear hb3
    clear W
    have Y0 := hide o3
    clear o3
    go_wp2_with fail
    refine (i_parseExpr A3 n0 n0 x0 _ (by omega) HL0.out (InRow.of_arr Y0.out) (fun s hs => by have := HT0.out s hs; omega) (HP.out.below BB3.out) (HM.out.below BB3.out)).mono ?_
    rintro e w4 ⟨⟨v4, rfl, o4⟩, hb4⟩
    have hz4 := hb4.size
    have BB4 := hide (BB3.out.trans (hb4.mono BB3.out.size))
    have W_4 := hide (W_3.out.belowZ hb4)
    have Y0_4 := hide (Y0.out.belowZ hb4)
    clear hb4
    clear W_3 Y0
    obtain ⟨A4, c4, rfl, _, q4⟩ := Arr.of_own o4
    have X4 := hide q4
    clear o4 q4
    have Z := X4
    clear X4
    have sr : decide (peL x0 = peL x0) = true := by simp
    go_wp2_with fail
    refine (l_eqTokS _ _ _ _ _ _ (peL x0) (peL x0) _ (by omega) (by omega) (InRow.of_arr Z.out) (InRow.of_arr W_4.out)).mono ?_
    rintro e w5 ⟨rfl, hb5⟩
    have hz5 := hb5.size
    have BB5 := hide (BB4.out.trans (hb5.mono BB4.out.size))
    have W_5 := hide (W_4.out.belowZ hb5)
    have Y0_5 := hide (Y0_4.out.belowZ hb5)
    have Z_5 := hide (Z.out.belowZ hb5)
    clear hb5
    clear W_4 Y0_4 Z
    go_wp2_with fail
    refine (l_toStringS A0 n0 c0 x0 _ (by omega) HL0.out (R0.out.below BB5.out)).mono ?_
    rintro e w6 ⟨⟨A6, rfl, o6⟩, hb6⟩
    have hz6 := hb6.size
    have BB6 := hide (BB5.out.trans (hb6.mono BB5.out.size))
    have W_6 := hide (W_5.out.belowZ hb6)
    have Y0_6 := hide (Y0_5.out.belowZ hb6)
    have Z_6 := hide (Z_5.out.belowZ hb6)
    clear hb6
    clear W_5 Y0_5 Z_5
    have T0 := hide o6
    clear o6
    go_wp2_with fail
    refine (l_eqStringS _ _ _ _ _ _ x0 x0 _ (by omega) (by omega) (InRow.of_arr Y0_6.out) (InRow.of_arr T0.out)).mono ?_
    rintro e w7 ⟨rfl, hb7⟩
    have hz7 := hb7.size
    have BB7 := hide (BB6.out.trans (hb7.mono BB6.out.size))
    have W_7 := hide (W_6.out.belowZ hb7)
    have Y0_7 := hide (Y0_6.out.belowZ hb7)
    have Z_7 := hide (Z_6.out.belowZ hb7)
    have T0_7 := hide (T0.out.belowZ hb7)
    clear hb7
    clear W_6 Y0_6 Z_6 T0
    go_wp2_with fail
    refine (l_markStringS _ n0 _ _ _ _ _ _ (by omega) (by omega) Y0_7.out).mono ?_
    rintro e w8 ⟨rfl, _, wi8⟩
    have hz8 := wi8.size
    have BB8 := hide (BB7.out.trans (wi8.below (B := w.heap.size) (by omega) (by omega)))
    have W_8 := hide (W_7.out.within wi8 (by omega))
    have Z_8 := hide (Z_7.out.within wi8 (by omega))
    clear wi8
    clear W_7 Z_7
    go_wp2_with fail
    refine (l_eqTokS _ _ _ _ _ _ (peL x0) (peL x0) _ (by omega) (by omega) (InRow.of_arr Z_8.out) (InRow.of_arr W_8.out)).mono ?_
    rintro e w9 ⟨rfl, hb9⟩
    have hz9 := hb9.size
    have BB9 := hide (BB8.out.trans (hb9.mono BB8.out.size))
    have W_9 := hide (W_8.out.belowZ hb9)
    have Z_9 := hide (Z_8.out.belowZ hb9)
    clear hb9
    clear W_8 Z_8
    go_wp2_with fail
    refine (l_markTokS _ _ _ _ _ _ _ _ (by omega) (by omega) Z_9.out).mono ?_
    rintro e w10 ⟨rfl, z10, wi10⟩
    have hz10 := wi10.size
    have BB10 := hide (BB9.out.trans (wi10.below (B := w.heap.size) (by omega) (by omega)))
    have W_10 := hide (W_9.out.within wi10 (by omega))
    clear wi10
    clear W_9
    have M := hide z10
    clear z10
    go_wp2_with fail
    refine (l_heldTokS _ _ _ _ _ _ _ (by omega) (by omega) M.out).mono ?_
    rintro e w11 ⟨rfl, hb11⟩
    have hz11 := hb11.size
    have BB11 := hide (BB10.out.trans (hb11.mono BB10.out.size))
    have W_11 := hide (W_10.out.belowZ hb11)
    have M_11 := hide (M.out.belowZ hb11)
    clear hb11
    clear W_10 M
    go_wp2_with fail
    refine (l_toStringS A0 n0 c0 x0 _ (by omega) HL0.out (R0.out.below BB11.out)).mono ?_
    rintro e w12 ⟨⟨A12, rfl, o12⟩, hb12⟩
    have hz12 := hb12.size
    have BB12 := hide (BB11.out.trans (hb12.mono BB11.out.size))
    have W_12 := hide (W_11.out.belowZ hb12)
    have M_12 := hide (M_11.out.belowZ hb12)
    clear hb12
    clear W_11 M_11
    have U0 := hide o12
    clear o12
    go_wp2_with fail
    refine (i_parseExpr A12 n0 n0 x0 _ (by omega) HL0.out (InRow.of_arr U0.out) (fun s hs => by have := HT0.out s hs; omega) (HP.out.below BB12.out) (HM.out.below BB12.out)).mono ?_
    rintro e w13 ⟨⟨v13, rfl, o13⟩, hb13⟩
    have hz13 := hb13.size
    have BB13 := hide (BB12.out.trans (hb13.mono BB12.out.size))
    have W_13 := hide (W_12.out.belowZ hb13)
    have M_13 := hide (M_12.out.belowZ hb13)
    have U0_13 := hide (U0.out.belowZ hb13)
    clear hb13
    clear W_12 M_12 U0
    obtain ⟨A13, c13, rfl, _, q13⟩ := Arr.of_own o13
    have X13 := hide q13
    clear o13 q13
    have Q := X13
    clear X13
    go_wp2_with fail
    refine (l_eqTokS _ _ _ _ _ _ (peL x0) (peL x0) _ (by omega) (by omega) (InRow.of_arr Q.out) (InRow.of_arr W_13.out)).mono ?_
    rintro e w14 ⟨rfl, hb14⟩
    have hz14 := hb14.size
    have BB14 := hide (BB13.out.trans (hb14.mono BB13.out.size))
    have W_14 := hide (W_13.out.belowZ hb14)
    have M_14 := hide (M_13.out.belowZ hb14)
    have Q_14 := hide (Q.out.belowZ hb14)
    clear hb14
    clear W_13 M_13 Q
    go_wp2_with fail
    refine (l_heldTokS _ _ _ _ _ _ _ (by omega) (by omega) M_14.out).mono ?_
    rintro e w15 ⟨rfl, hb15⟩
    have hz15 := hb15.size
    have BB15 := hide (BB14.out.trans (hb15.mono BB14.out.size))
    have W_15 := hide (W_14.out.belowZ hb15)
    have M_15 := hide (M_14.out.belowZ hb15)
    have Q_15 := hide (Q_14.out.belowZ hb15)
    clear hb15
    clear W_14 M_14 Q_14
    go_wp2
    go_ret
    exact ⟨rfl, BB15.out⟩
end fnExactParseExpr
end Go.Proofs.YteghjebbeclanaaDoor
