import Derived.Test.YtaanakkenbkaoaaIn
import Derived.Test.YtaanakkenbkaoaaT2
namespace Go.Proofs.Ytaanakkenbkaoaa
open Go.RowKit

namespace fnExactConstants
theorem walk (w : World) : Calls Try.prog 3 #[] w fun e w' => e = .returned (.bool true) ∧ Below w.heap.size w w' := by
  go_enter Try.func3, Try.ntmps3
  go_wp2
  go_ret
  exact ⟨rfl, Below.refl _ _⟩
end fnExactConstants
namespace fnExactWrap
theorem walk (v0 : Value) (w : World) (h0 : InInt w v0) : Calls Try.prog 4 #[v0] w fun e w' => e = .returned (.bool true) ∧ Below w.heap.size w w' := by
  obtain ⟨a, rfl, ha, hb⟩ := h0
  go_enter Try.func4, Try.ntmps4
  go_wp2_with (first | (go_at_call 10; refine (i_wrap _ _).mono ?_; rintro e w' ⟨rfl, rfl⟩) | (go_at_call 9; refine (s_wrap _ _).mono ?_; rintro e w' ⟨rfl, rfl⟩))
  go_ret
  exact ⟨rfl, Below.refl _ _⟩
end fnExactWrap
namespace fnExactNameOk
theorem walk (v0 : Value) (w : World) (h0 : InString w v0) : Calls Try.prog 7 #[v0] w fun e w' => e = .returned (.bool true) ∧ Below w.heap.size w w' := by
  obtain ⟨s, rfl, hs⟩ := h0
  go_enter Try.func7, Try.ntmps7
  go_wp2_with (first | (go_at_call 17; refine (i_nameOk _ hs _).mono ?_; rintro e w' ⟨rfl, rfl⟩) | (go_at_call 16; refine (s_nameOk _ hs _).mono ?_; rintro e w' ⟨rfl, rfl⟩))
  all_goals go_ret
  all_goals exact ⟨rfl, Below.refl _ _⟩
end fnExactNameOk
namespace fnExactClamp
theorem walk (v0 v1 v2 : Value) (w : World) (h0 : InInt w v0) (h1 : InInt w v1) (h2 : InInt w v2) : Calls Try.prog 5 #[v0, v1, v2] w fun e w' => e = .returned (.bool true) ∧ Below w.heap.size w w' := by
  obtain ⟨a, rfl, _, _⟩ := h0
  obtain ⟨b, rfl, _, _⟩ := h1
  obtain ⟨c, rfl, _, _⟩ := h2
  go_enter Try.func5, Try.ntmps5
  go_wp2_with (first | (go_at_call 12; refine (i_clamp _ _ _ _).mono ?_; rintro e w' ⟨rfl, rfl⟩) | (go_at_call 11; refine (s_clamp _ _ _ _).mono ?_; rintro e w' ⟨rfl, rfl⟩))
  go_ret
  exact ⟨rfl, Below.refl _ _⟩
end fnExactClamp
namespace fnExactBuildOk
theorem walk (v0 : Value) (w : World) (h0 : InBuild w v0) : Calls Try.prog 6 #[v0] w fun e w' => e = .returned (.bool true) ∧ Below w.heap.size w w' := by
  obtain ⟨f, i, x, y, rfl⟩ := h0
  go_enter Try.func6, Try.ntmps6
  go_wp2_with fail
  refine (l_toBuild _ _ _ _ _).mono ?_
  rintro e w1 ⟨rfl, hb1⟩
  have hc1 : ∀ o, w1.cell? ⟨w.heap.size, o, none⟩ = _ := fun o => hb1.cell (p := ⟨w.heap.size, o, none⟩) (by simp)
  go_wp2_with fail
  refine (s_buildOk _ _ _ _ _).mono ?_
  rintro e w2 ⟨rfl, hb2⟩
  have hz1 := hb1.size
  simp at hz1
  have hc2 : ∀ o, w2.cell? ⟨w.heap.size, o, none⟩ = _ := fun o => (hb2.cell (p := ⟨w.heap.size, o, none⟩) (by simp; omega)).trans (hc1 o)
  clear hc1
  go_wp2_with fail
  refine (l_toBuild _ _ _ _ _).mono ?_
  rintro e w3 ⟨rfl, hb3⟩
  go_wp2_with fail
  refine (i_buildOk _ _ _ _ _).mono ?_
  rintro e w4 ⟨rfl, hb4⟩
  go_wp2
  go_ret
  have hz2 := hb2.size
  have hz3 := hb3.size
  exact ⟨rfl, ((((Below.refl _ _).alloc (Nat.le_refl _) _).trans (hb1.mono (by simp))).trans (hb2.mono (by omega))).trans ((hb3.mono (by omega)).trans (hb4.mono (by omega)))⟩
end fnExactBuildOk
namespace fnWrapped
theorem sub_add (a b : Int) : applyF 3 (applyF 2 a b) b = wrap32 a := by simp only [applyF, if_true]; rw [if_neg (by decide)]; unfold wrap32; omega
theorem mul_one (a : Int) : applyF 4 a 1 = wrap32 a := by simp only [applyF]; simp; have : wrap32 1 = 1 := by unfold wrap32; omega
                                                          rw [this]; simp [wrap32_wrap32]
theorem applyF_range (k a b : Int) : -2147483648 ≤ applyF k a b ∧ applyF k a b ≤ 2147483647 := by
  unfold applyF; repeat' split
  all_goals first | exact wrap32_range _ | omega
theorem rem_zero (a : Int) : ((wrap32 a - a).tmod 4294967296 == 0) = true := by
  have : (4294967296 : Int) ∣ wrap32 a - a := by unfold wrap32; omega
  simp [Int.tmod_eq_zero_of_dvd this]
theorem tri (a b : Int) : (applyF 5 a b + applyF 5 b a + applyF 6 a b == 1) = true := by
  simp only [applyF]; simp
  split <;> split <;> split <;> omega
theorem walk (v0 : Value) (w : World) (h0 : InBytes w v0) : Calls Try.prog 8 #[v0] w fun e w' => e = .returned (.bool true) ∧ Below w.heap.size w w' := by
  obtain ⟨A, n, c, rfl, hnc, hc, hrow⟩ := h0
  have hn : n ≤ maxLen := by omega
  have HR := hide hrow
  clear hrow
  by_cases hbig : 1048576 < n
  · have hd : decide (1048576 < n) = true := by simpa using hbig
    go_enter Try.func8, Try.ntmps8
    go_wp2_with (go_at_call 18; refine (l_big _ _ _ hn _).mono ?_; rintro e w' ⟨rfl, rfl⟩)
    go_ret
    exact ⟨rfl, Below.refl _ _⟩
  · have hd : decide (1048576 < n) = false := by simpa using hbig
    go_enter Try.func8, Try.ntmps8
    go_wp2_with fail
    refine (l_big _ _ _ hn _).mono ?_
    rintro e w' ⟨rfl, rfl⟩
    go_wp2_with fail
    refine (l_at _ _ _ _ (by omega) hn _ HR.out).mono ?_
    rintro e w' ⟨⟨x, rfl, hx0, hx1⟩, rfl⟩
    go_wp2_with fail
    refine (l_at _ _ _ _ (by omega) hn _ HR.out).mono ?_
    rintro e w' ⟨⟨y, rfl, hy0, hy1⟩, rfl⟩
    go_wp2_with fail
    generalize ha : (x - 128) * 16777217 * 64 = a
    generalize hbb : (y - 128) * 33554393 = b
    have H1 : (applyF 3 (applyF 2 a b) b == wrap32 a) = true := by rw [sub_add]; simp
    have H2 : (applyF 4 a 1 == wrap32 a) = true := by rw [mul_one]; simp
    have H3 := tri a b
    have H4 := rem_zero a
    obtain ⟨H5, H6⟩ := wrap32_range a
    have ha1 : -200000000000 ≤ a ∧ a ≤ 200000000000 := by omega
    have B1 := applyF_range 5 a b
    have B2 := applyF_range 5 b a
    have B3 := applyF_range 6 a b
    clear ha hbb hx0 hx1 hy0 hy1
    go_wp2_with (go_at_call 10; refine (i_wrap _ _).mono ?_; rintro e w' ⟨rfl, rfl⟩)
    repeat (refine (i_apply _ _ _ _).mono ?_; rintro e w' ⟨rfl, rfl⟩; go_wp2_with fail)
    go_ret
    exact ⟨rfl, Below.refl _ _⟩
end fnWrapped
end Go.Proofs.Ytaanakkenbkaoaa
