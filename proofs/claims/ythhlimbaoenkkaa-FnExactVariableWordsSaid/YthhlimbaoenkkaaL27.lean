import Derived.Test.YthhlimbaoenkkaaIn4
import Derived.Test.YthhlimbaoenkkaaItmB
namespace Go.Proofs.Ythhlimbaoenkkaa
open Go Go.RowKit
set_option maxRecDepth 100000
set_option linter.unusedVariables false
namespace fnExactVariableWords
set_option maxHeartbeats 1000000 in
theorem walk (v0 : Value) (w : World) (h0 : InItems w v0) : Calls Try.prog 4 #[v0] w fun e w' => e = .returned (.bool true) ∧ Below w.heap.size w w' := by
  obtain ⟨A0, n0, c0, x0, rfl, hnc0, hcm0, hR0⟩ := h0
  have BB0 := hide (Below.refl w.heap.size w)
  have R0 := hide hR0
  clear hR0
  go_enter Try.func4, Try.ntmps4
  go_wp2_with fail
  refine (l_szItemS A0 n0 c0 x0 _ _ (by omega) (by omega) (R0.out.below BB0.out)).mono ?_
  rintro e w1 ⟨⟨r1, rfl, hlo1, hhi1, hr1⟩, hb1⟩
  have hz1 := hb1.size
  have BB1 := hide (BB0.out.trans (hb1.mono BB0.out.size))
  clear hb1
  by_cases hneg1 : r1 < 0

  · skip
    go_wp2
    go_ret
    exact ⟨rfl, BB1.out⟩
  · have hn0 : n0 + itTot x0 ≤ 1048576 := by have := hr1 (by omega); omega
    clear hr1
    go_wp2_with fail
    refine (l_toItemS A0 n0 c0 x0 _ (by omega) (R0.out.below BB1.out)).mono ?_
    rintro e w2 ⟨⟨A2, rfl, o2⟩, hb2⟩
    have hz2 := hb2.size
    have BB2 := hide (BB1.out.trans (hb2.mono BB1.out.size))
    clear hb2
    have S0 := hide o2
    clear o2
    go_wp2_with fail
    refine (s_variableWords A2 n0 n0 x0 _ (by omega) (S0.out)).mono ?_
    rintro e w' ⟨rfl, rfl⟩
    go_wp2_with fail
    refine (l_toItemS A0 n0 c0 x0 _ (by omega) (R0.out.below BB2.out)).mono ?_
    rintro e w3 ⟨⟨A3, rfl, o3⟩, hb3⟩
    have hz3 := hb3.size
    have BB3 := hide (BB2.out.trans (hb3.mono BB2.out.size))
    clear hb3
    have Y0 := hide o3
    clear o3
    go_wp2_with fail
    refine (i_variableWords A3 n0 n0 x0 _ (by omega) (Y0.out)).mono ?_
    rintro e w' ⟨rfl, rfl⟩
    go_wp2_with fail
    refine (l_toItemS A0 n0 c0 x0 _ (by omega) (R0.out.below BB3.out)).mono ?_
    rintro e w4 ⟨⟨A4, rfl, o4⟩, hb4⟩
    have hz4 := hb4.size
    have BB4 := hide (BB3.out.trans (hb4.mono BB3.out.size))
    have Y0_4 := hide (Y0.out.belowZ hb4)
    clear hb4
    clear Y0
    have T0 := hide o4
    clear o4
    go_wp2_with fail
    refine (l_eqItemS _ _ _ _ _ x0 _ (by omega) (Y0_4.out) (T0.out)).mono ?_
    rintro e w5 ⟨rfl, hb5⟩
    have hz5 := hb5.size
    have BB5 := hide (BB4.out.trans (hb5.mono BB4.out.size))
    have Y0_5 := hide (Y0_4.out.belowZ hb5)
    have T0_5 := hide (T0.out.belowZ hb5)
    clear hb5
    clear Y0_4 T0
    go_wp2
    go_ret
    exact ⟨rfl, BB5.out⟩
end fnExactVariableWords
end Go.Proofs.Ythhlimbaoenkkaa
