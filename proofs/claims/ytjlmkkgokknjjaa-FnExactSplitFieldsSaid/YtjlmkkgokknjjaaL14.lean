import Derived.Test.YtjlmkkgokknjjaaIn
import Derived.Test.YtjlmkkgokknjjaaSplit
namespace Go.Proofs.Ytjlmkkgokknjjaa
open Go.RowKit
set_option maxRecDepth 100000
set_option linter.unusedVariables false
namespace fnExactSplitFields
set_option maxHeartbeats 1000000 in
theorem walk (v0 : Value) (w : World) (h0 : InString w v0) : Calls Try.prog 12 #[v0] w fun e w' => e = .returned (.bool true) ∧ Below w.heap.size w w' := by
  obtain ⟨x0, rfl, hs0⟩ := h0
  have BB0 := hide (Below.refl w.heap.size w)
  go_enter Try.func12, Try.ntmps12
  by_cases hq0 : 1048576 < (x0.size : Int)
  · go_wp2_with fail
    go_ret
    exact ⟨rfl, BB0.out⟩
  · have hq0' : (x0.size : Int) ≤ 1048576 := by omega
    clear hq0
    have hlen := sfV_length x0
    go_wp2_with fail
    refine (s_splitFields x0 hs0 _).mono ?_
    rintro e w1 ⟨⟨v1, rfl, o1⟩, hb1⟩
    have hz1 := hb1.size
    have BB1 := hide (BB0.out.trans (hb1.mono BB0.out.size))
    clear hb1
    obtain ⟨A1, c1, rfl, _, q1⟩ := Arr.of_own o1
    have X1 := hide q1
    clear o1 q1
    have W := X1
    clear X1
    go_wp2_with fail
    refine (i_splitFields x0 hs0 _).mono ?_
    rintro e w2 ⟨⟨v2, rfl, o2⟩, hb2⟩
    have hz2 := hb2.size
    have BB2 := hide (BB1.out.trans (hb2.mono BB1.out.size))
    have W_2 := hide (W.out.belowZ hb2)
    clear hb2
    clear W
    obtain ⟨A2, c2, rfl, _, q2⟩ := Arr.of_own o2
    have X2 := hide q2
    clear o2 q2
    have Z := X2
    clear X2
    have sr : decide (sfV x0 = sfV x0) = true := by simp
    go_wp2_with fail
    refine (l_eqStringS _ _ _ _ _ _ (sfV x0) (sfV x0) _ (by omega) (by omega) (InRow.of_arr Z.out) (InRow.of_arr W_2.out)).mono ?_
    rintro e w3 ⟨rfl, hb3⟩
    have hz3 := hb3.size
    have BB3 := hide (BB2.out.trans (hb3.mono BB2.out.size))
    have W_3 := hide (W_2.out.belowZ hb3)
    have Z_3 := hide (Z.out.belowZ hb3)
    clear hb3
    clear W_2 Z
    go_wp2_with fail
    refine (l_markStringS _ _ _ _ _ _ _ _ (by omega) (by omega) Z_3.out).mono ?_
    rintro e w4 ⟨rfl, z4, wi4⟩
    have hz4 := wi4.size
    have BB4 := hide (BB3.out.trans (wi4.below (B := w.heap.size) (by omega) (by omega)))
    have W_4 := hide (W_3.out.within wi4 (by omega))
    clear wi4
    clear W_3
    have M := hide z4
    clear z4
    go_wp2_with fail
    refine (l_heldStringS _ _ _ _ _ _ _ (by omega) (by omega) M.out).mono ?_
    rintro e w5 ⟨rfl, hb5⟩
    have hz5 := hb5.size
    have BB5 := hide (BB4.out.trans (hb5.mono BB4.out.size))
    have W_5 := hide (W_4.out.belowZ hb5)
    have M_5 := hide (M.out.belowZ hb5)
    clear hb5
    clear W_4 M
    go_wp2_with fail
    refine (i_splitFields x0 hs0 _).mono ?_
    rintro e w6 ⟨⟨v6, rfl, o6⟩, hb6⟩
    have hz6 := hb6.size
    have BB6 := hide (BB5.out.trans (hb6.mono BB5.out.size))
    have W_6 := hide (W_5.out.belowZ hb6)
    have M_6 := hide (M_5.out.belowZ hb6)
    clear hb6
    clear W_5 M_5
    obtain ⟨A6, c6, rfl, _, q6⟩ := Arr.of_own o6
    have X6 := hide q6
    clear o6 q6
    have Q := X6
    clear X6
    go_wp2_with fail
    refine (l_eqStringS _ _ _ _ _ _ (sfV x0) (sfV x0) _ (by omega) (by omega) (InRow.of_arr Q.out) (InRow.of_arr W_6.out)).mono ?_
    rintro e w7 ⟨rfl, hb7⟩
    have hz7 := hb7.size
    have BB7 := hide (BB6.out.trans (hb7.mono BB6.out.size))
    have W_7 := hide (W_6.out.belowZ hb7)
    have M_7 := hide (M_6.out.belowZ hb7)
    have Q_7 := hide (Q.out.belowZ hb7)
    clear hb7
    clear W_6 M_6 Q
    go_wp2_with fail
    refine (l_heldStringS _ _ _ _ _ _ _ (by omega) (by omega) M_7.out).mono ?_
    rintro e w8 ⟨rfl, hb8⟩
    have hz8 := hb8.size
    have BB8 := hide (BB7.out.trans (hb8.mono BB7.out.size))
    have W_8 := hide (W_7.out.belowZ hb8)
    have M_8 := hide (M_7.out.belowZ hb8)
    have Q_8 := hide (Q_7.out.belowZ hb8)
    clear hb8
    clear W_7 M_7 Q_7
    go_wp2
    go_ret
    exact ⟨rfl, BB8.out⟩
end fnExactSplitFields
end Go.Proofs.Ytjlmkkgokknjjaa
