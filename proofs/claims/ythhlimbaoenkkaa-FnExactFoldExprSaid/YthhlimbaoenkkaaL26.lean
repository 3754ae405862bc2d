import Derived.Test.YthhlimbaoenkkaaIn
import Derived.Test.YthhlimbaoenkkaaFoldE
import Derived.Test.YthhlimbaoenkkaaTokM
import Derived.Test.YthhlimbaoenkkaaOwn
namespace Go.Proofs.Ythhlimbaoenkkaa
open Go Go.RowKit
set_option maxRecDepth 100000
set_option linter.unusedVariables false
namespace fnExactFoldExpr
set_option maxHeartbeats 1000000 in
theorem walk (v0 : Value) (w : World) (h0 : InToks w v0) : Calls Try.prog 5 #[v0] w fun e w' => e = .returned (.bool true) ∧ Below w.heap.size w w' := by
  obtain ⟨A0, n0, c0, x0, rfl, hnc0, hcm0, hl0, hR0, hS0⟩ := h0
  have BB0 := hide (Below.refl w.heap.size w)
  have R0 := hide hR0
  have HS0 := hide hS0
  have HL0 := hide hl0
  clear hR0 hS0 hl0
  have se0 : decide (x0 = x0) = true := by simp
  go_enter Try.func5, Try.ntmps5
  go_wp2_with fail
  refine (l_szTokS A0 n0 c0 x0 _ _ (by omega) (by omega) HL0.out (R0.out.below BB0.out) HS0.out).mono ?_
  rintro e w1 ⟨⟨r1, rfl, hlo1, hhi1, hr1⟩, hb1⟩
  have hz1 := hb1.size
  have BB1 := hide (BB0.out.trans (hb1.mono BB0.out.size))
  clear hb1
  by_cases hneg1 : r1 < 0

  · skip
    go_wp2
    go_ret
    exact ⟨rfl, BB1.out⟩
  · have hn0 : n0 ≤ 1048576 := by have := (hr1 (by omega)).1; omega
    have HT0 := hide (fun t ht => ((hr1 (by omega)).2 t ht))
    clear hr1
    have hlen := foldEx_20 x0
    go_wp2_with fail
    refine (l_toTokSn A0 n0 c0 x0 _ (by omega) HL0.out (R0.out.below BB1.out)).mono ?_
    rintro e w2 ⟨⟨A2, rfl, o2⟩, hb2⟩
    have hz2 := hb2.size
    have BB2 := hide (BB1.out.trans (hb2.mono BB1.out.size))
    clear hb2
    have S0 := hide o2
    clear o2
    go_wp2_with fail
    refine (s_foldExpr A2 n0 n0 x0 _ (by omega) HL0.out (InRow.of_arr S0.out) HS0.out).mono ?_
    rintro e w3 ⟨⟨v3, rfl, o3⟩, hb3⟩
    have hz3 := hb3.size
    have BB3 := hide (BB2.out.trans (hb3.mono BB2.out.size))
    have S0_3 := hide (S0.out.belowZ hb3)
    clear hb3
    clear S0
    obtain ⟨A3, c3, rfl, _, q3⟩ := Arr.of_own o3
    have X3 := hide q3
    clear o3 q3
    have W := X3
    clear X3
    go_wp2_with fail
    refine (l_toTokSn A0 n0 c0 x0 _ (by omega) HL0.out (R0.out.below BB3.out)).mono ?_
    rintro e w4 ⟨⟨A4, rfl, o4⟩, hb4⟩
    have hz4 := hb4.size
    have BB4 := hide (BB3.out.trans (hb4.mono BB3.out.size))
    have W_4 := hide (W.out.belowZ hb4)
    clear hb4
    clear W
    have Y0 := hide o4
    clear o4
    go_wp2_with fail
    refine (i_foldExpr A4 n0 n0 x0 _ (by omega) HL0.out (InRow.of_arr Y0.out) HS0.out).mono ?_
    rintro e w5 ⟨⟨v5, rfl, o5⟩, hb5⟩
    have hz5 := hb5.size
    have BB5 := hide (BB4.out.trans (hb5.mono BB4.out.size))
    have W_5 := hide (W_4.out.belowZ hb5)
    have Y0_5 := hide (Y0.out.belowZ hb5)
    clear hb5
    clear W_4 Y0
    obtain ⟨A5, c5, rfl, _, q5⟩ := Arr.of_own o5
    have X5 := hide q5
    clear o5 q5
    have Z := X5
    clear X5
    have sr : decide (foldEx x0 = foldEx x0) = true := by simp
    go_wp2_with fail
    refine (l_eqTokS _ _ _ _ _ _ (foldEx x0) (foldEx x0) _ (by omega) (by omega) (InRow.of_arr Z.out) (InRow.of_arr W_5.out)).mono ?_
    rintro e w6 ⟨rfl, hb6⟩
    have hz6 := hb6.size
    have BB6 := hide (BB5.out.trans (hb6.mono BB5.out.size))
    have W_6 := hide (W_5.out.belowZ hb6)
    have Y0_6 := hide (Y0_5.out.belowZ hb6)
    have Z_6 := hide (Z.out.belowZ hb6)
    clear hb6
    clear W_5 Y0_5 Z
    go_wp2_with fail
    refine (l_toTokSn A0 n0 c0 x0 _ (by omega) HL0.out (R0.out.below BB6.out)).mono ?_
    rintro e w7 ⟨⟨A7, rfl, o7⟩, hb7⟩
    have hz7 := hb7.size
    have BB7 := hide (BB6.out.trans (hb7.mono BB6.out.size))
    have W_7 := hide (W_6.out.belowZ hb7)
    have Y0_7 := hide (Y0_6.out.belowZ hb7)
    have Z_7 := hide (Z_6.out.belowZ hb7)
    clear hb7
    clear W_6 Y0_6 Z_6
    have T0 := hide o7
    clear o7
    go_wp2_with fail
    refine (l_eqTokS _ _ _ _ _ _ x0 x0 _ (by omega) (by omega) (InRow.of_arr Y0_7.out) (InRow.of_arr T0.out)).mono ?_
    rintro e w8 ⟨rfl, hb8⟩
    have hz8 := hb8.size
    have BB8 := hide (BB7.out.trans (hb8.mono BB7.out.size))
    have W_8 := hide (W_7.out.belowZ hb8)
    have Y0_8 := hide (Y0_7.out.belowZ hb8)
    have Z_8 := hide (Z_7.out.belowZ hb8)
    have T0_8 := hide (T0.out.belowZ hb8)
    clear hb8
    clear W_7 Y0_7 Z_7 T0
    go_wp2_with fail
    refine (l_markTokS _ n0 _ _ _ _ _ _ (by omega) (by omega) Y0_8.out).mono ?_
    rintro e w9 ⟨rfl, _, wi9⟩
    have hz9 := wi9.size
    have BB9 := hide (BB8.out.trans (wi9.below (B := w.heap.size) (by omega) (by omega)))
    have W_9 := hide (W_8.out.within wi9 (by omega))
    have Z_9 := hide (Z_8.out.within wi9 (by omega))
    clear wi9
    clear W_8 Z_8
    go_wp2_with fail
    refine (l_eqTokS _ _ _ _ _ _ (foldEx x0) (foldEx x0) _ (by omega) (by omega) (InRow.of_arr Z_9.out) (InRow.of_arr W_9.out)).mono ?_
    rintro e w10 ⟨rfl, hb10⟩
    have hz10 := hb10.size
    have BB10 := hide (BB9.out.trans (hb10.mono BB9.out.size))
    have W_10 := hide (W_9.out.belowZ hb10)
    have Z_10 := hide (Z_9.out.belowZ hb10)
    clear hb10
    clear W_9 Z_9
    go_wp2_with fail
    refine (l_markTokS _ _ _ _ _ _ _ _ (by omega) (by omega) Z_10.out).mono ?_
    rintro e w11 ⟨rfl, z11, wi11⟩
    have hz11 := wi11.size
    have BB11 := hide (BB10.out.trans (wi11.below (B := w.heap.size) (by omega) (by omega)))
    have W_11 := hide (W_10.out.within wi11 (by omega))
    clear wi11
    clear W_10
    have M := hide z11
    clear z11
    go_wp2_with fail
    refine (l_heldTokS _ _ _ _ _ _ _ (by omega) (by omega) M.out).mono ?_
    rintro e w12 ⟨rfl, hb12⟩
    have hz12 := hb12.size
    have BB12 := hide (BB11.out.trans (hb12.mono BB11.out.size))
    have W_12 := hide (W_11.out.belowZ hb12)
    have M_12 := hide (M.out.belowZ hb12)
    clear hb12
    clear W_11 M
    go_wp2_with fail
    refine (l_toTokSn A0 n0 c0 x0 _ (by omega) HL0.out (R0.out.below BB12.out)).mono ?_
    rintro e w13 ⟨⟨A13, rfl, o13⟩, hb13⟩
    have hz13 := hb13.size
    have BB13 := hide (BB12.out.trans (hb13.mono BB12.out.size))
    have W_13 := hide (W_12.out.belowZ hb13)
    have M_13 := hide (M_12.out.belowZ hb13)
    clear hb13
    clear W_12 M_12
    have U0 := hide o13
    clear o13
    go_wp2_with fail
    refine (i_foldExpr A13 n0 n0 x0 _ (by omega) HL0.out (InRow.of_arr U0.out) HS0.out).mono ?_
    rintro e w14 ⟨⟨v14, rfl, o14⟩, hb14⟩
    have hz14 := hb14.size
    have BB14 := hide (BB13.out.trans (hb14.mono BB13.out.size))
    have W_14 := hide (W_13.out.belowZ hb14)
    have M_14 := hide (M_13.out.belowZ hb14)
    have U0_14 := hide (U0.out.belowZ hb14)
    clear hb14
    clear W_13 M_13 U0
    obtain ⟨A14, c14, rfl, _, q14⟩ := Arr.of_own o14
    have X14 := hide q14
    clear o14 q14
    have Q := X14
    clear X14
    go_wp2_with fail
    refine (l_eqTokS _ _ _ _ _ _ (foldEx x0) (foldEx x0) _ (by omega) (by omega) (InRow.of_arr Q.out) (InRow.of_arr W_14.out)).mono ?_
    rintro e w15 ⟨rfl, hb15⟩
    have hz15 := hb15.size
    have BB15 := hide (BB14.out.trans (hb15.mono BB14.out.size))
    have W_15 := hide (W_14.out.belowZ hb15)
    have M_15 := hide (M_14.out.belowZ hb15)
    have Q_15 := hide (Q.out.belowZ hb15)
    clear hb15
    clear W_14 M_14 Q
    go_wp2_with fail
    refine (l_heldTokS _ _ _ _ _ _ _ (by omega) (by omega) M_15.out).mono ?_
    rintro e w16 ⟨rfl, hb16⟩
    have hz16 := hb16.size
    have BB16 := hide (BB15.out.trans (hb16.mono BB15.out.size))
    have W_16 := hide (W_15.out.belowZ hb16)
    have M_16 := hide (M_15.out.belowZ hb16)
    have Q_16 := hide (Q_15.out.belowZ hb16)
    clear hb16
    clear W_15 M_15 Q_15
    go_wp2
    go_ret
    exact ⟨rfl, BB16.out⟩
end fnExactFoldExpr
end Go.Proofs.Ythhlimbaoenkkaa
