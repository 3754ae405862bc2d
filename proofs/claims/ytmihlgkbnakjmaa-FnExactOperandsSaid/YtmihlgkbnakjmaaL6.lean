import Derived.Test.YtmihlgkbnakjmaaIn
import Derived.Test.YtmihlgkbnakjmaaOpnd
namespace Go.Proofs.Ytmihlgkbnakjmaa
open Go.RowKit
set_option maxRecDepth 100000
namespace fnExactOperands
set_option maxHeartbeats 1000000 in
theorem walk (v0 v1 : Value) (w : World) (h0 : InToks w v0) (h1 : InInt w v1) : Calls Try.prog 10 #[v0, v1] w fun e w' => e = .returned (.bool true) ∧ Below w.heap.size w w' := by
  obtain ⟨A, n, c, l, rfl, hnc, hcm, hl, hr, hs⟩ := h0
  obtain ⟨at0, rfl, _, _⟩ := h1
  have HS := hide hs
  have HR := hide hr
  have HL := hide hl
  clear hs hr hl
  go_enter Try.func10, Try.ntmps10
  go_wp2_with fail
  refine (l_szTokS A n c l _ _ (by omega) (by omega) HL.out HR.out HS.out).mono ?_
  rintro e w1 ⟨⟨r, rfl, _, _, hr⟩, hb1⟩
  by_cases hneg : r < 0
  · go_wp2
    go_ret
    exact ⟨rfl, hb1⟩
  · obtain ⟨hn, _⟩ := hr (by omega)
    have hn' : n ≤ 1048576 := by omega
    have R1 := hide (HR.out.below hb1)
    have hz1 := hb1.size
    have hlen := operandsF_length l at0
    clear hr hn
    -- the reference's answer
    go_wp2_with fail
    refine (l_toTokS A n c l _ hn' HL.out R1.out).mono ?_
    rintro e w2 ⟨⟨A2, c2, rfl, r2⟩, hb2⟩
    have R2 := hide (InRow.of_arr r2)
    clear r2
    go_wp2_with fail
    refine (s_operands A2 n c2 l _ _ hn' HL.out R2.out HS.out).mono ?_
    rintro e w3 ⟨⟨v3, rfl, o3⟩, hb3⟩
    obtain ⟨A3, c3, rfl, _, r3⟩ := Arr.of_own o3
    have G3 := hide r3
    have R13 := hide ((R1.out.below hb2).below hb3)
    have hz2 := hb2.size
    have hz3 := hb3.size
    clear r3 o3 R1 R2
    -- the argument, and the program's answer
    go_wp2_with fail
    refine (l_toTokS A n c l _ hn' HL.out R13.out).mono ?_
    rintro e w4 ⟨⟨A4, c4, rfl, r4⟩, hb4⟩
    have X4 := hide r4
    have G4 := hide (G3.out.belowZ hb4)
    have R14 := hide (R13.out.below hb4)
    have hz4 := hb4.size
    clear r4 G3 R13
    go_wp2_with fail
    refine (i_operands A4 n c4 l _ _ hn' HL.out (InRow.of_arr X4.out) HS.out).mono ?_
    rintro e w5 ⟨⟨v5, rfl, o5⟩, hb5⟩
    obtain ⟨A5, c5, rfl, _, r5⟩ := Arr.of_own o5
    have G5 := hide r5
    have X5 := hide (X4.out.belowZ hb5)
    have W5 := hide (G4.out.belowZ hb5)
    have R15 := hide (R14.out.below hb5)
    have hz5 := hb5.size
    have hd : decide (operandsF l at0 = operandsF l at0) = true := by simp
    have hdl : decide (l = l) = true := by simp
    clear r5 o5 X4 G4 R14
    go_wp2_with fail
    refine (l_eqIntS _ _ _ _ _ _ _ _ _ (by omega) (by omega) (InRow.of_arr G5.out) (InRow.of_arr W5.out)).mono ?_
    rintro e w6 ⟨rfl, hb6⟩
    have G6 := hide (G5.out.belowZ hb6)
    have X6 := hide (X5.out.belowZ hb6)
    have W6 := hide (W5.out.belowZ hb6)
    have R16 := hide (R15.out.below hb6)
    have hz6 := hb6.size
    clear G5 X5 W5 R15
    go_wp2_with fail
    refine (l_toTokS A n c l _ hn' HL.out R16.out).mono ?_
    rintro e w7 ⟨⟨A7, c7, rfl, r7⟩, hb7⟩
    have Y7 := hide (InRow.of_arr r7)
    have G7 := hide (G6.out.belowZ hb7)
    have X7 := hide (X6.out.belowZ hb7)
    have W7 := hide (W6.out.belowZ hb7)
    have R17 := hide (R16.out.below hb7)
    have hz7 := hb7.size
    clear r7 G6 X6 W6 R16
    go_wp2_with fail
    refine (l_eqTokS _ _ _ _ _ _ _ _ _ (by omega) (by omega) (InRow.of_arr X7.out) Y7.out).mono ?_
    rintro e w8 ⟨rfl, hb8⟩
    have G8 := hide (G7.out.belowZ hb8)
    have X8 := hide (X7.out.belowZ hb8)
    have W8 := hide (W7.out.belowZ hb8)
    have R18 := hide (R17.out.below hb8)
    have hz8 := hb8.size
    clear G7 X7 W7 R17 Y7
    -- the argument is marked
    go_wp2_with fail
    refine (l_markTokS _ _ _ _ _ _ _ _ (by omega) (by omega) X8.out).mono ?_
    rintro e w9 ⟨rfl, x9, wi9⟩
    have G9 := hide (G8.out.within wi9 (.inr (by omega)))
    have W9 := hide (W8.out.within wi9 (.inl (by omega)))
    have bw9 := wi9.below (B := w.heap.size) (by omega) (by omega)
    have R19 : Hid (InRow w9 A n 3 (tokCells l)) := HR.out.below ((((((((hb1.trans (hb2.mono hz1)).trans (hb3.mono (by omega))).trans (hb4.mono (by omega))).trans (hb5.mono (by omega))).trans (hb6.mono (by omega))).trans (hb7.mono (by omega))).trans (hb8.mono (by omega))).trans bw9)
    have hz9 := wi9.size
    clear G8 X8 W8 R18 x9
    go_wp2_with fail
    refine (l_eqIntS _ _ _ _ _ _ _ _ _ (by omega) (by omega) (InRow.of_arr G9.out) (InRow.of_arr W9.out)).mono ?_
    rintro e w10 ⟨rfl, hb10⟩
    have G10 := hide (G9.out.belowZ hb10)
    have W10 := hide (W9.out.belowZ hb10)
    have R110 := hide (R19.out.below hb10)
    have hz10 := hb10.size
    clear G9 W9 R19
    -- the answer is marked
    go_wp2_with fail
    refine (l_markIntS _ _ _ _ _ _ _ _ (by omega) (by omega) G10.out).mono ?_
    rintro e w11 ⟨rfl, g11, wi11⟩
    have G11 := hide g11
    have W11 := hide (W10.out.within wi11 (.inl (by omega)))
    have bw11 := wi11.below (B := w.heap.size) (by omega) (by omega)
    have hz11 := wi11.size
    have R111 : Hid (InRow w11 A n 3 (tokCells l)) := HR.out.below ((((((((((hb1.trans (hb2.mono hz1)).trans (hb3.mono (by omega))).trans (hb4.mono (by omega))).trans (hb5.mono (by omega))).trans (hb6.mono (by omega))).trans (hb7.mono (by omega))).trans (hb8.mono (by omega))).trans bw9).trans (hb10.mono (by omega))).trans bw11)
    clear G10 W10 R110 g11
    go_wp2_with fail
    refine (l_heldIntS _ _ _ _ _ _ _ (by omega) (by omega) G11.out).mono ?_
    rintro e w11' ⟨rfl, rfl⟩
    -- once more
    go_wp2_with fail
    refine (l_toTokS A n c l _ hn' HL.out R111.out).mono ?_
    rintro e w12 ⟨⟨A12, c12, rfl, r12⟩, hb12⟩
    have X12 := hide (InRow.of_arr r12)
    have G12 := hide (G11.out.belowZ hb12)
    have W12 := hide (W11.out.belowZ hb12)
    have hz12 := hb12.size
    clear r12 G11 W11 R111
    go_wp2_with fail
    refine (i_operands A12 n c12 l _ _ hn' HL.out X12.out HS.out).mono ?_
    rintro e w13 ⟨⟨v13, rfl, o13⟩, hb13⟩
    obtain ⟨A13, c13, rfl, _, r13⟩ := Arr.of_own o13
    have H13 := hide (InRow.of_arr r13)
    have G13 := hide (G12.out.belowZ hb13)
    have W13 := hide (InRow.of_arr (W12.out.belowZ hb13))
    have hz13 := hb13.size
    clear r13 o13 G12 W12 X12
    go_wp2_with fail
    refine (l_eqIntS _ _ _ _ _ _ _ _ _ (by omega) (by omega) H13.out W13.out).mono ?_
    rintro e w14 ⟨rfl, hb14⟩
    have G14 := hide (G13.out.belowZ hb14)
    clear G13 H13 W13
    go_wp2_with fail
    refine (l_heldIntS _ _ _ _ _ _ _ (by omega) (by omega) G14.out).mono ?_
    rintro e w14' ⟨rfl, rfl⟩
    go_wp2
    go_ret
    exact ⟨rfl, (((((((((((((hb1.trans (hb2.mono hz1)).trans (hb3.mono (by omega))).trans (hb4.mono (by omega))).trans (hb5.mono (by omega))).trans (hb6.mono (by omega))).trans (hb7.mono (by omega))).trans (hb8.mono (by omega))).trans bw9).trans (hb10.mono (by omega))).trans bw11).trans (hb12.mono (by omega))).trans (hb13.mono (by omega))).trans (hb14.mono (by omega)))⟩
end fnExactOperands
end Go.Proofs.Ytmihlgkbnakjmaa
