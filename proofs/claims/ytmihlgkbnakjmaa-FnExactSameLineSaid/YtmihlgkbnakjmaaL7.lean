import Derived.Test.YtmihlgkbnakjmaaIn2
import Derived.Test.YtmihlgkbnakjmaaSam
import Derived.Test.YtmihlgkbnakjmaaEls
namespace Go.Proofs.Ytmihlgkbnakjmaa
open Go.RowKit
set_option maxRecDepth 100000
set_option linter.unusedVariables false
theorem lnIn_own {w : World} {lo hi : Nat} {x : Ln} {A B : Option Addr} (h : Own w lo hi (lnRows (x, A, x.2.2.1.length, B, x.2.2.2.length))) (hn : x.2.2.1.length + x.2.2.2.length ≤ 1048576) : LnIn w x A x.2.2.1.length B x.2.2.2.length :=
  lnIn_of_own (p := (x, A, x.2.2.1.length, B, x.2.2.2.length)) h.rows ⟨Nat.le_refl _, by unfold maxLen; simp only; omega, Nat.le_refl _, by unfold maxLen; simp only; omega⟩
namespace fnExactFindFunction
set_option maxHeartbeats 1000000 in
theorem walk (v0 v1 : Value) (w : World) (h0 : InLinesV w v0) (h1 : InString w v1) : Calls Try.prog 8 #[v0, v1] w fun e w' => e = .returned (.bool true) ∧ Below w.heap.size w w' := by
  obtain ⟨A0, n0, c0, x0, rfl, hnc0, hcm0, hR0, hS0⟩ := h0
  obtain ⟨x1, rfl, hs1⟩ := h1
  have BB0 := hide (Below.refl w.heap.size w)
  have R0 := hide hR0
  have HS0 := hide hS0
  have HL0 := hide hR0.len
  clear hR0 hS0
  have se0 : same x0 x0 = true := same_of rfl
  go_enter Try.func8, Try.ntmps8
  by_cases hq1 : 1048576 < (x1.size : Int)
  · go_wp2_with fail
    go_ret
    exact ⟨rfl, BB0.out⟩
  · have hq1' : (x1.size : Int) ≤ 1048576 := by omega
    clear hq1
    go_wp2_with fail
    refine (l_szLineS A0 n0 c0 x0 _ _ (by omega) (by omega) (R0.out.below BB0.out) HS0.out).mono ?_
    rintro e w1 ⟨⟨r1, rfl, hlo1, hhi1, hr1⟩, hb1⟩
    have hz1 := hb1.size
    have BB1 := hide (BB0.out.trans (hb1.mono BB0.out.size))
    clear hb1
    by_cases hneg1 : r1 < 0

    · skip
      go_wp2
      go_ret
      exact ⟨rfl, BB1.out⟩
    · have hn0 : n0 + lnTot x0 ≤ 1048576 := by have := hr1 (by omega); omega
      clear hr1
      go_wp2_with fail
      refine (l_toLineS A0 n0 c0 x0 _ (by omega) (R0.out.below BB1.out)).mono ?_
      rintro e w2 ⟨⟨A2, rfl, o2⟩, hb2⟩
      have hz2 := hb2.size
      have BB2 := hide (BB1.out.trans (hb2.mono BB1.out.size))
      clear hb2
      have S0 := hide o2
      clear o2
      go_wp2_with fail
      refine (s_findFunction A2 n0 n0 x0 x1 _ (by omega) (S0.out.in_ HL0.out)).mono ?_
      rintro e w' ⟨rfl, rfl⟩
      go_wp2_with fail
      refine (l_toLineS A0 n0 c0 x0 _ (by omega) (R0.out.below BB2.out)).mono ?_
      rintro e w3 ⟨⟨A3, rfl, o3⟩, hb3⟩
      have hz3 := hb3.size
      have BB3 := hide (BB2.out.trans (hb3.mono BB2.out.size))
      clear hb3
      have Y0 := hide o3
      clear o3
      go_wp2_with fail
      refine (i_findFunction A3 n0 n0 x0 x1 _ (by omega) (Y0.out.in_ HL0.out)).mono ?_
      rintro e w4 ⟨rfl, hb4⟩
      have hz4 := hb4.size
      have BB4 := hide (BB3.out.trans (hb4.mono BB3.out.size))
      have Y0_4 := hide (Y0.out.belowZ hb4)
      clear hb4
      clear Y0
      go_wp2_with fail
      refine (l_toLineS A0 n0 c0 x0 _ (by omega) (R0.out.below BB4.out)).mono ?_
      rintro e w5 ⟨⟨A5, rfl, o5⟩, hb5⟩
      have hz5 := hb5.size
      have BB5 := hide (BB4.out.trans (hb5.mono BB4.out.size))
      have Y0_5 := hide (Y0_4.out.belowZ hb5)
      clear hb5
      clear Y0_4
      have T0 := hide o5
      clear o5
      go_wp2_with fail
      refine (l_eqLineS _ _ _ _ _ _ x0 x0 _ (by omega) (by omega) (Y0_5.out.in_ HL0.out) (T0.out.in_ HL0.out)).mono ?_
      rintro e w6 ⟨rfl, hb6⟩
      have hz6 := hb6.size
      have BB6 := hide (BB5.out.trans (hb6.mono BB5.out.size))
      have Y0_6 := hide (Y0_5.out.belowZ hb6)
      have T0_6 := hide (T0.out.belowZ hb6)
      clear hb6
      clear Y0_5 T0
      go_wp2
      go_ret
      exact ⟨rfl, BB6.out⟩
end fnExactFindFunction
namespace fnExactEndOf
set_option maxHeartbeats 1000000 in
theorem walk (v0 v1 : Value) (w : World) (h0 : InLinesV w v0) (h1 : InInt w v1) : Calls Try.prog 9 #[v0, v1] w fun e w' => e = .returned (.bool true) ∧ Below w.heap.size w w' := by
  obtain ⟨A0, n0, c0, x0, rfl, hnc0, hcm0, hR0, hS0⟩ := h0
  obtain ⟨x1, rfl, _, _⟩ := h1
  have BB0 := hide (Below.refl w.heap.size w)
  have R0 := hide hR0
  have HS0 := hide hS0
  have HL0 := hide hR0.len
  clear hR0 hS0
  have se0 : same x0 x0 = true := same_of rfl
  go_enter Try.func9, Try.ntmps9
  go_wp2_with fail
  refine (l_szLineS A0 n0 c0 x0 _ _ (by omega) (by omega) (R0.out.below BB0.out) HS0.out).mono ?_
  rintro e w1 ⟨⟨r1, rfl, hlo1, hhi1, hr1⟩, hb1⟩
  have hz1 := hb1.size
  have BB1 := hide (BB0.out.trans (hb1.mono BB0.out.size))
  clear hb1
  by_cases hneg1 : r1 < 0

  · skip
    go_wp2
    go_ret
    exact ⟨rfl, BB1.out⟩
  · have hn0 : n0 + lnTot x0 ≤ 1048576 := by have := hr1 (by omega); omega
    clear hr1
    go_wp2_with fail
    refine (l_toLineS A0 n0 c0 x0 _ (by omega) (R0.out.below BB1.out)).mono ?_
    rintro e w2 ⟨⟨A2, rfl, o2⟩, hb2⟩
    have hz2 := hb2.size
    have BB2 := hide (BB1.out.trans (hb2.mono BB1.out.size))
    clear hb2
    have S0 := hide o2
    clear o2
    go_wp2_with fail
    refine (s_endOf A2 n0 n0 x0 x1 _ (by omega) (S0.out.in_ HL0.out)).mono ?_
    rintro e w' ⟨rfl, rfl⟩
    go_wp2_with fail
    refine (l_toLineS A0 n0 c0 x0 _ (by omega) (R0.out.below BB2.out)).mono ?_
    rintro e w3 ⟨⟨A3, rfl, o3⟩, hb3⟩
    have hz3 := hb3.size
    have BB3 := hide (BB2.out.trans (hb3.mono BB2.out.size))
    clear hb3
    have Y0 := hide o3
    clear o3
    go_wp2_with fail
    refine (i_endOf A3 n0 n0 x0 x1 _ (by omega) (Y0.out.in_ HL0.out)).mono ?_
    rintro e w' ⟨rfl, rfl⟩
    go_wp2_with fail
    refine (l_toLineS A0 n0 c0 x0 _ (by omega) (R0.out.below BB3.out)).mono ?_
    rintro e w4 ⟨⟨A4, rfl, o4⟩, hb4⟩
    have hz4 := hb4.size
    have BB4 := hide (BB3.out.trans (hb4.mono BB3.out.size))
    have Y0_4 := hide (Y0.out.belowZ hb4)
    clear hb4
    clear Y0
    have T0 := hide o4
    clear o4
    go_wp2_with fail
    refine (l_eqLineS _ _ _ _ _ _ x0 x0 _ (by omega) (by omega) (Y0_4.out.in_ HL0.out) (T0.out.in_ HL0.out)).mono ?_
    rintro e w5 ⟨rfl, hb5⟩
    have hz5 := hb5.size
    have BB5 := hide (BB4.out.trans (hb5.mono BB4.out.size))
    have Y0_5 := hide (Y0_4.out.belowZ hb5)
    have T0_5 := hide (T0.out.belowZ hb5)
    clear hb5
    clear Y0_4 T0
    go_wp2
    go_ret
    exact ⟨rfl, BB5.out⟩
end fnExactEndOf
namespace fnExactElseOf
set_option maxHeartbeats 1000000 in
theorem walk (v0 v1 : Value) (w : World) (h0 : InLinesV w v0) (h1 : InInt w v1) : Calls Try.prog 11 #[v0, v1] w fun e w' => e = .returned (.bool true) ∧ Below w.heap.size w w' := by
  obtain ⟨A0, n0, c0, x0, rfl, hnc0, hcm0, hR0, hS0⟩ := h0
  obtain ⟨x1, rfl, _, _⟩ := h1
  have BB0 := hide (Below.refl w.heap.size w)
  have R0 := hide hR0
  have HS0 := hide hS0
  have HL0 := hide hR0.len
  clear hR0 hS0
  have se0 : same x0 x0 = true := same_of rfl
  go_enter Try.func11, Try.ntmps11
  go_wp2_with fail
  refine (l_szLineS A0 n0 c0 x0 _ _ (by omega) (by omega) (R0.out.below BB0.out) HS0.out).mono ?_
  rintro e w1 ⟨⟨r1, rfl, hlo1, hhi1, hr1⟩, hb1⟩
  have hz1 := hb1.size
  have BB1 := hide (BB0.out.trans (hb1.mono BB0.out.size))
  clear hb1
  by_cases hneg1 : r1 < 0

  · skip
    go_wp2
    go_ret
    exact ⟨rfl, BB1.out⟩
  · have hn0 : n0 + lnTot x0 ≤ 1048576 := by have := hr1 (by omega); omega
    clear hr1
    go_wp2_with fail
    refine (l_toLineS A0 n0 c0 x0 _ (by omega) (R0.out.below BB1.out)).mono ?_
    rintro e w2 ⟨⟨A2, rfl, o2⟩, hb2⟩
    have hz2 := hb2.size
    have BB2 := hide (BB1.out.trans (hb2.mono BB1.out.size))
    clear hb2
    have S0 := hide o2
    clear o2
    go_wp2_with fail
    refine (s_elseOf A2 n0 n0 x0 x1 _ (by omega) (S0.out.in_ HL0.out)).mono ?_
    rintro e w' ⟨rfl, rfl⟩
    go_wp2_with fail
    refine (l_toLineS A0 n0 c0 x0 _ (by omega) (R0.out.below BB2.out)).mono ?_
    rintro e w3 ⟨⟨A3, rfl, o3⟩, hb3⟩
    have hz3 := hb3.size
    have BB3 := hide (BB2.out.trans (hb3.mono BB2.out.size))
    clear hb3
    have Y0 := hide o3
    clear o3
    go_wp2_with fail
    refine (i_elseOf A3 n0 n0 x0 x1 _ (by omega) (Y0.out.in_ HL0.out)).mono ?_
    rintro e w' ⟨rfl, rfl⟩
    go_wp2_with fail
    refine (l_toLineS A0 n0 c0 x0 _ (by omega) (R0.out.below BB3.out)).mono ?_
    rintro e w4 ⟨⟨A4, rfl, o4⟩, hb4⟩
    have hz4 := hb4.size
    have BB4 := hide (BB3.out.trans (hb4.mono BB3.out.size))
    have Y0_4 := hide (Y0.out.belowZ hb4)
    clear hb4
    clear Y0
    have T0 := hide o4
    clear o4
    go_wp2_with fail
    refine (l_eqLineS _ _ _ _ _ _ x0 x0 _ (by omega) (by omega) (Y0_4.out.in_ HL0.out) (T0.out.in_ HL0.out)).mono ?_
    rintro e w5 ⟨rfl, hb5⟩
    have hz5 := hb5.size
    have BB5 := hide (BB4.out.trans (hb5.mono BB4.out.size))
    have Y0_5 := hide (Y0_4.out.belowZ hb5)
    have T0_5 := hide (T0.out.belowZ hb5)
    clear hb5
    clear Y0_4 T0
    go_wp2
    go_ret
    exact ⟨rfl, BB5.out⟩
end fnExactElseOf
end Go.Proofs.Ytmihlgkbnakjmaa
