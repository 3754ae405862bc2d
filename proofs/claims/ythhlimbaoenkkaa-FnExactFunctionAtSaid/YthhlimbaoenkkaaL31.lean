import Derived.Test.YthhlimbaoenkkaaIn5
import Derived.Test.YthhlimbaoenkkaaSpcE
namespace Go.Proofs.Ythhlimbaoenkkaa
open Go Go.RowKit
set_option maxRecDepth 100000
set_option linter.unusedVariables false
namespace fnExactFunctionAt
set_option maxHeartbeats 1000000 in
theorem walk (v0 v1 : Value) (w : World) (h0 : InSpace w v0) (h1 : InInt w v1) : Calls Try.prog 9 #[v0, v1] w fun e w' => e = .returned (.bool true) ∧ Below w.heap.size w w' := by
  obtain ⟨x0, A0, B0, C0, a0, b0, c0, rfl, hR0, hS0⟩ := h0
  obtain ⟨x1, rfl, _, _⟩ := h1
  have BB0 := hide (show Below w.heap.size w (w.alloc (.cells #[.slice A0 x0.1.length a0, .slice B0 x0.2.1.length b0, .slice C0 x0.2.2.length c0] 53)) from by repeat (first | exact Below.refl _ _ | refine Below.alloc ?_ (by first | (simp; done) | (simp; omega)) _ | refine Below.drew ?_ | refine below_drewN ?_ _ | refine Below.setCell ?_ (by first | (simp; done) | (simp; omega)) _))
  have R0 := hide hR0
  have HS0 := hide hS0
  clear hR0 hS0
  go_enter Try.func9, Try.ntmps9
  have KB0_0 : Hid (Blk (w.alloc (.cells #[.slice A0 x0.1.length a0, .slice B0 x0.2.1.length b0, .slice C0 x0.2.2.length c0] 53)) (w.heap.size + 0) 53 #[.slice A0 x0.1.length a0, .slice B0 x0.2.1.length b0, .slice C0 x0.2.2.length c0]) := by show Blk _ _ _ _; have := Blk.new w 53 #[.slice A0 x0.1.length a0, .slice B0 x0.2.1.length b0, .slice C0 x0.2.2.length c0]; simpa using this
  go_wp2_with fail
  refine (l_szSpace x0 A0 B0 C0 a0 b0 c0 _ _ (by omega) (R0.out.below BB0.out) HS0.out).mono ?_
  rintro e w1 ⟨⟨r1, rfl, hlo1, hhi1, hr1⟩, hb1⟩
  have hz1 := hb1.size
  simp at hz1
  have KB0_1 := hide (KB0_0.out.below hb1 (by first | (simp; done) | (simp; omega) | omega))
  clear KB0_0
  have BB1 := hide (BB0.out.trans (hb1.mono BB0.out.size))
  clear hb1
  by_cases hneg1 : r1 < 0

  · skip
    have kb0_0 := KB0_1.out.cell 0
    have kb0_1 := KB0_1.out.cell 1
    have kb0_2 := KB0_1.out.cell 2
    simp at kb0_0 kb0_1 kb0_2
    go_wp2
    clear kb0_0 kb0_1 kb0_2
    go_ret
    exact ⟨rfl, BB1.out⟩
  · have hn0 : spTot x0 ≤ 1048576 := by have := hr1 (by omega); omega
    clear hr1
    have kb0_0 := KB0_1.out.cell 0
    have kb0_1 := KB0_1.out.cell 1
    have kb0_2 := KB0_1.out.cell 2
    simp at kb0_0 kb0_1 kb0_2
    go_wp2_with fail
    clear kb0_0 kb0_1 kb0_2
    refine (l_toSpace x0 A0 B0 C0 a0 b0 c0 _ (by omega) (R0.out.below BB1.out)).mono ?_
    rintro e w2 ⟨⟨A2, B2, C2, rfl, o2⟩, hb2⟩
    have hz2 := hb2.size
    have KB0_2 := hide (KB0_1.out.below hb2 (by first | (simp; done) | (simp; omega) | omega))
    clear KB0_1
    have BB2 := hide (BB1.out.trans (hb2.mono BB1.out.size))
    clear hb2
    have S0 := hide o2
    clear o2
    have kb0_0 := KB0_2.out.cell 0
    have kb0_1 := KB0_2.out.cell 1
    have kb0_2 := KB0_2.out.cell 2
    simp at kb0_0 kb0_1 kb0_2
    go_wp2_with fail
    clear kb0_0 kb0_1 kb0_2
    refine (s_functionAt x0 _ _ _ _ _ _ x1 _ hn0 (S0.out) HS0.out).mono ?_
    rintro e w3 ⟨rfl, hb3⟩
    have hz3 := hb3.size
    have KB0_3 := hide (KB0_2.out.below hb3 (by first | (simp; done) | (simp; omega) | omega))
    clear KB0_2
    have BB3 := hide (BB2.out.trans (hb3.mono BB2.out.size))
    have S0_3 := hide (S0.out.belowZ hb3)
    clear hb3
    clear S0
    have kb0_0 := KB0_3.out.cell 0
    have kb0_1 := KB0_3.out.cell 1
    have kb0_2 := KB0_3.out.cell 2
    simp at kb0_0 kb0_1 kb0_2
    go_wp2_with fail
    clear kb0_0 kb0_1 kb0_2
    refine (l_toSpace x0 A0 B0 C0 a0 b0 c0 _ (by omega) (R0.out.below BB3.out)).mono ?_
    rintro e w4 ⟨⟨A4, B4, C4, rfl, o4⟩, hb4⟩
    have hz4 := hb4.size
    have KB0_4 := hide (KB0_3.out.below hb4 (by first | (simp; done) | (simp; omega) | omega))
    clear KB0_3
    have BB4 := hide (BB3.out.trans (hb4.mono BB3.out.size))
    clear hb4
    have Y0 := hide o4
    clear o4
    have Y0_n := hide (Blk.new w4 58 #[.slice A4 x0.1.length x0.1.length, .slice B4 x0.2.1.length x0.2.1.length, .slice C4 x0.2.2.length x0.2.2.length])
    have BB4a := hide (BB4.out.alloc BB4.out.size (.cells #[.slice A4 x0.1.length x0.1.length, .slice B4 x0.2.1.length x0.2.1.length, .slice C4 x0.2.2.length x0.2.2.length] 58))
    clear BB4
    have Y0_4a := hide (Y0.out.belowZ ((Below.refl _ _).alloc (Nat.le_refl _) (.cells #[.slice A4 x0.1.length x0.1.length, .slice B4 x0.2.1.length x0.2.1.length, .slice C4 x0.2.2.length x0.2.2.length] 58)))
    clear Y0
    have KB0_4a := hide (KB0_4.out.alloc (.cells #[.slice A4 x0.1.length x0.1.length, .slice B4 x0.2.1.length x0.2.1.length, .slice C4 x0.2.2.length x0.2.2.length] 58))
    clear KB0_4
    have kb0_0 := KB0_4a.out.cell 0
    have kb0_1 := KB0_4a.out.cell 1
    have kb0_2 := KB0_4a.out.cell 2
    have kb1_0 := Y0_n.out.cell 0
    have kb1_1 := Y0_n.out.cell 1
    have kb1_2 := Y0_n.out.cell 2
    simp at kb0_0 kb0_1 kb0_2 kb1_0 kb1_1 kb1_2
    go_wp2_with fail
    clear kb0_0 kb0_1 kb0_2 kb1_0 kb1_1 kb1_2
    refine (i_functionAt x0 _ _ _ _ _ _ x1 _ hn0 (Y0_4a.out) HS0.out).mono ?_
    rintro e w5 ⟨rfl, hb5⟩
    have hz5 := hb5.size
    simp at hz5
    have KB0_5 := hide (KB0_4a.out.below hb5 (by first | (simp; done) | (simp; omega) | omega))
    clear KB0_4a
    have KB1_5 := hide (Y0_n.out.below hb5 (by first | (simp; done) | (simp; omega) | omega))
    clear Y0_n
    have BB5 := hide (BB4a.out.trans (hb5.mono BB4a.out.size))
    have Y0_5 := hide (Y0_4a.out.belowZ hb5)
    clear hb5
    clear Y0_4a
    have kb0_0 := KB0_5.out.cell 0
    have kb0_1 := KB0_5.out.cell 1
    have kb0_2 := KB0_5.out.cell 2
    have kb1_0 := KB1_5.out.cell 0
    have kb1_1 := KB1_5.out.cell 1
    have kb1_2 := KB1_5.out.cell 2
    simp at kb0_0 kb0_1 kb0_2 kb1_0 kb1_1 kb1_2
    go_wp2_with fail
    go_region_with (first | (go_at_call 35; refine (l_toSpace x0 A0 B0 C0 a0 b0 c0 _ (by omega) (R0.out.below BB5.out.drew)).mono ?_; rintro e wt ⟨⟨At, Bt, Ct, rfl, ot⟩, hbt⟩; have KT0 := KB0_5.out.drew.below hbt (by first | (simp; done) | (simp; omega) | omega); have KT1 := KB1_5.out.drew.below hbt (by first | (simp; done) | (simp; omega) | omega); have kt0_0 := KT0.cell 0; have kt0_1 := KT0.cell 1; have kt0_2 := KT0.cell 2; have kt1_0 := KT1.cell 0; have kt1_1 := KT1.cell 1; have kt1_2 := KT1.cell 2; simp at kt0_0 kt0_1 kt0_2 kt1_0 kt1_1 kt1_2) | (go_at_call 37; refine (l_eqSpace x0 _ _ _ _ _ _ _ _ _ _ _ _ _ (by omega) ((Y0_5.out.drew.belowZ hbt)) (ot)).mono ?_; rintro e we ⟨rfl, hbe⟩))
    all_goals
      have BBz := hide (BB5.out.drew.trans ((hbt.mono BB5.out.size).trans (hbe.mono (Nat.le_trans BB5.out.size hbt.size))))
      go_wp2
      go_ret
      exact ⟨rfl, BBz.out⟩
end fnExactFunctionAt
end Go.Proofs.Ythhlimbaoenkkaa
