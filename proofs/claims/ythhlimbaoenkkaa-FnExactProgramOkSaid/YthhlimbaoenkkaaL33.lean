import Derived.Test.YthhlimbaoenkkaaPokT
import Derived.Test.YthhlimbaoenkkaaL7
import Derived.Test.YthhlimbaoenkkaaLin3
namespace Go.Proofs.Ythhlimbaoenkkaa
open Go Go.RowKit
set_option maxRecDepth 100000
set_option linter.unusedVariables false
theorem i_programOkS (A : Option Addr) (n c : Nat) (L : List Ln) (w : World) (hn : n + lnTot L ≤ 1048576) (h : InLines w A n L) (hs : ∀ x ∈ L, LnSz x) :
    Calls Try.prog 46 #[.slice A n c] w fun e w' => e = .returned (.bool (progS L)) ∧ Below w.heap.size w w' := by
  rw [← prog_eq]; exact i_programOk A n c L w hn h hs
namespace fnExactProgramOk
set_option maxHeartbeats 1000000 in
theorem walk (v0 : Value) (w : World) (h0 : InLinesV w v0) : Calls Try.prog 11 #[v0] w fun e w' => e = .returned (.bool true) ∧ Below w.heap.size w w' := by
  obtain ⟨A0, n0, c0, x0, rfl, hnc0, hcm0, hR0, hS0⟩ := h0
  have BB0 := hide (Below.refl w.heap.size w)
  have R0 := hide hR0
  have HS0 := hide hS0
  have HL0 := hide hR0.len
  clear hR0 hS0
  have se0 : same x0 x0 = true := same_of rfl
  go_enter Try.func11, Try.ntmps11
  go_wp2_with fail
  refine (l_szLineS A0 n0 c0 x0 _ _ (by omega) (by omega) (R0.out.below BB0.out) HS0.out).mono ?_
  rintro e w1 ⟨⟨r1, rfl, hlo1, hhi1, hr1⟩, hb1⟩
  have hz1 := hb1.size
  have BB1 := hide (BB0.out.trans (hb1.mono BB0.out.size))
  clear hb1
  by_cases hneg1 : r1 < 0

  · skip
    go_wp2
    go_ret
    exact ⟨rfl, BB1.out⟩
  · have hn0 : n0 + lnTot x0 ≤ 1048576 := by have := hr1 (by omega); omega
    clear hr1
    go_wp2_with fail
    refine (l_toLineS A0 n0 c0 x0 _ (by omega) (R0.out.below BB1.out)).mono ?_
    rintro e w2 ⟨⟨A2, rfl, o2⟩, hb2⟩
    have hz2 := hb2.size
    have BB2 := hide (BB1.out.trans (hb2.mono BB1.out.size))
    clear hb2
    have S0 := hide o2
    clear o2
    go_wp2_with fail
    refine (s_programOk A2 n0 n0 x0 _ hn0 (S0.out.in_ HL0.out) HS0.out).mono ?_
    rintro e w3 ⟨rfl, hb3⟩
    have hz3 := hb3.size
    have BB3 := hide (BB2.out.trans (hb3.mono BB2.out.size))
    have S0_3 := hide (S0.out.belowZ hb3)
    clear hb3
    clear S0
    go_wp2_with fail
    refine (l_toLineS A0 n0 c0 x0 _ (by omega) (R0.out.below BB3.out)).mono ?_
    rintro e w4 ⟨⟨A4, rfl, o4⟩, hb4⟩
    have hz4 := hb4.size
    have BB4 := hide (BB3.out.trans (hb4.mono BB3.out.size))
    clear hb4
    have Y0 := hide o4
    clear o4
    go_wp2_with fail
    refine (i_programOkS A4 n0 n0 x0 _ hn0 (Y0.out.in_ HL0.out) HS0.out).mono ?_
    rintro e w5 ⟨rfl, hb5⟩
    have hz5 := hb5.size
    have BB5 := hide (BB4.out.trans (hb5.mono BB4.out.size))
    have Y0_5 := hide (Y0.out.belowZ hb5)
    clear hb5
    clear Y0
    go_wp2_with fail
    refine (l_toLineS A0 n0 c0 x0 _ (by omega) (R0.out.below BB5.out)).mono ?_
    rintro e w6 ⟨⟨A6, rfl, o6⟩, hb6⟩
    have hz6 := hb6.size
    have BB6 := hide (BB5.out.trans (hb6.mono BB5.out.size))
    have Y0_6 := hide (Y0_5.out.belowZ hb6)
    clear hb6
    clear Y0_5
    have T0 := hide o6
    clear o6
    go_wp2_with fail
    refine (l_eqLineS _ _ _ _ _ _ x0 x0 _ (by omega) (by omega) (Y0_6.out.in_ HL0.out) (T0.out.in_ HL0.out)).mono ?_
    rintro e w7 ⟨rfl, hb7⟩
    have hz7 := hb7.size
    have BB7 := hide (BB6.out.trans (hb7.mono BB6.out.size))
    have Y0_7 := hide (Y0_6.out.belowZ hb7)
    have T0_7 := hide (T0.out.belowZ hb7)
    clear hb7
    clear Y0_6 T0
    go_wp2
    go_ret
    exact ⟨rfl, BB7.out⟩
end fnExactProgramOk
end Go.Proofs.Ythhlimbaoenkkaa
