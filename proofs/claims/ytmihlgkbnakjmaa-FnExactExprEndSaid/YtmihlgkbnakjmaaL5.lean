import Derived.Test.YtmihlgkbnakjmaaIn
import Derived.Test.YtmihlgkbnakjmaaExpr
namespace Go.Proofs.Ytmihlgkbnakjmaa
open Go.RowKit
set_option maxRecDepth 100000
namespace fnExactExprEnd
set_option maxHeartbeats 400000 in
theorem walk (v0 v1 : Value) (w : World) (h0 : InToks w v0) (h1 : InInt w v1) : Calls Try.prog 5 #[v0, v1] w fun e w' => e = .returned (.bool true) ∧ Below w.heap.size w w' := by
  obtain ⟨A, n, c, l, rfl, hnc, hcm, hl, hr, hs⟩ := h0
  obtain ⟨at0, rfl, _, _⟩ := h1
  have HS := hide hs
  have HR := hide hr
  have HL := hide hl
  clear hs hr hl
  go_enter Try.func5, Try.ntmps5
  go_wp2_with fail
  refine (l_szTokS A n c l _ _ (by omega) (by omega) HL.out HR.out HS.out).mono ?_
  rintro e w1 ⟨⟨r, rfl, _, _, hr⟩, hb1⟩
  by_cases hneg : r < 0
  · go_wp2
    go_ret
    exact ⟨rfl, hb1⟩
  · obtain ⟨hn, _⟩ := hr (by omega)
    have hn' : n ≤ 1048576 := by omega
    have R1 := hide (HR.out.below hb1)
    have hz1 := hb1.size
    go_wp2_with fail
    refine (l_toTokS A n c l _ hn' HL.out R1.out).mono ?_
    rintro e w2 ⟨⟨A2, c2, rfl, r2⟩, hb2⟩
    have R2 := hide (InRow.of_arr r2)
    clear r2
    go_wp2_with fail
    refine (s_exprEnd A2 n c2 l _ _ hn' HL.out R2.out HS.out).mono ?_
    rintro e w3 ⟨rfl, hb3⟩
    have R13 := hide ((R1.out.below hb2).below hb3)
    clear R1 R2
    go_wp2_with fail
    refine (l_toTokS A n c l _ hn' HL.out R13.out).mono ?_
    rintro e w4 ⟨⟨A4, c4, rfl, r4⟩, hb4⟩
    have R4 := hide (InRow.of_arr r4)
    clear r4
    go_wp2_with fail
    refine (i_exprEnd A4 n c4 l _ _ hn' HL.out R4.out HS.out).mono ?_
    rintro e w5 ⟨rfl, hb5⟩
    have R15 := hide ((R13.out.below hb4).below hb5)
    have R45 := hide (R4.out.below hb5)
    clear R13 R4
    go_wp2_with fail
    refine (l_toTokS A n c l _ hn' HL.out R15.out).mono ?_
    rintro e w6 ⟨⟨A6, c6, rfl, r6⟩, hb6⟩
    have R6 := hide (InRow.of_arr r6)
    have R46 := hide (R45.out.below hb6)
    have hd : decide (l = l) = true := by simp
    clear r6 R45 R15
    go_wp2_with fail
    refine (l_eqTokS A4 A6 n n c4 c6 l l _ (by omega) (by omega) R46.out R6.out).mono ?_
    rintro e w7 ⟨rfl, hb7⟩
    have hz2 := hb2.size
    have hz3 := hb3.size
    have hz4 := hb4.size
    have hz5 := hb5.size
    have hz6 := hb6.size
    go_wp2
    go_ret
    exact ⟨rfl, hb1.trans ((hb2.mono hz1).trans ((hb3.mono (by omega)).trans ((hb4.mono (by omega)).trans ((hb5.mono (by omega)).trans ((hb6.mono (by omega)).trans (hb7.mono (by omega)))))))⟩
end fnExactExprEnd
namespace fnExactExprOk
set_option maxHeartbeats 400000 in
theorem walk (v0 : Value) (w : World) (h0 : InToks w v0) : Calls Try.prog 6 #[v0] w fun e w' => e = .returned (.bool true) ∧ Below w.heap.size w w' := by
  obtain ⟨A, n, c, l, rfl, hnc, hcm, hl, hr, hs⟩ := h0
  have HS := hide hs
  have HR := hide hr
  have HL := hide hl
  clear hs hr hl
  go_enter Try.func6, Try.ntmps6
  go_wp2_with fail
  refine (l_szTokS A n c l _ _ (by omega) (by omega) HL.out HR.out HS.out).mono ?_
  rintro e w1 ⟨⟨r, rfl, _, _, hr⟩, hb1⟩
  by_cases hneg : r < 0
  · go_wp2
    go_ret
    exact ⟨rfl, hb1⟩
  · obtain ⟨hn, _⟩ := hr (by omega)
    have hn' : n ≤ 1048576 := by omega
    have R1 := hide (HR.out.below hb1)
    have hz1 := hb1.size
    go_wp2_with fail
    refine (l_toTokS A n c l _ hn' HL.out R1.out).mono ?_
    rintro e w2 ⟨⟨A2, c2, rfl, r2⟩, hb2⟩
    have R2 := hide (InRow.of_arr r2)
    clear r2
    go_wp2_with fail
    refine (s_exprOk A2 n c2 l _ hn' HL.out R2.out HS.out).mono ?_
    rintro e w3 ⟨rfl, hb3⟩
    have R13 := hide ((R1.out.below hb2).below hb3)
    clear R1 R2
    go_wp2_with fail
    refine (l_toTokS A n c l _ hn' HL.out R13.out).mono ?_
    rintro e w4 ⟨⟨A4, c4, rfl, r4⟩, hb4⟩
    have R4 := hide (InRow.of_arr r4)
    clear r4
    go_wp2_with fail
    refine (i_exprOk A4 n c4 l _ hn' HL.out R4.out HS.out).mono ?_
    rintro e w5 ⟨rfl, hb5⟩
    have R15 := hide ((R13.out.below hb4).below hb5)
    have R45 := hide (R4.out.below hb5)
    clear R13 R4
    go_wp2_with fail
    refine (l_toTokS A n c l _ hn' HL.out R15.out).mono ?_
    rintro e w6 ⟨⟨A6, c6, rfl, r6⟩, hb6⟩
    have R6 := hide (InRow.of_arr r6)
    have R46 := hide (R45.out.below hb6)
    have hd : decide (l = l) = true := by simp
    clear r6 R45 R15
    go_wp2_with fail
    refine (l_eqTokS A4 A6 n n c4 c6 l l _ (by omega) (by omega) R46.out R6.out).mono ?_
    rintro e w7 ⟨rfl, hb7⟩
    have hz2 := hb2.size
    have hz3 := hb3.size
    have hz4 := hb4.size
    have hz5 := hb5.size
    have hz6 := hb6.size
    go_wp2
    go_ret
    exact ⟨rfl, hb1.trans ((hb2.mono hz1).trans ((hb3.mono (by omega)).trans ((hb4.mono (by omega)).trans ((hb5.mono (by omega)).trans ((hb6.mono (by omega)).trans (hb7.mono (by omega)))))))⟩
end fnExactExprOk
end Go.Proofs.Ytmihlgkbnakjmaa
