import Derived.Test.YtncpkhkdhckdkaaIn
import Derived.Test.YtncpkhkdhckdkaaT3
import Derived.Test.YtncpkhkdhckdkaaDraw
namespace Go.Proofs.Ytncpkhkdhckdkaa
open Go.RowKit

namespace fnExactApply
theorem walk (v0 v1 v2 : Value) (w : World) (h0 : InInt w v0) (h1 : InInt w v1) (h2 : InInt w v2) : Calls Try.prog 6 #[v0, v1, v2] w fun e w' => e = .returned (.bool true) ∧ Below w.heap.size w w' := by
  obtain ⟨a, rfl, _, _⟩ := h0
  obtain ⟨b, rfl, _, _⟩ := h1
  obtain ⟨c, rfl, _, _⟩ := h2
  go_enter Try.func6, Try.ntmps6
  go_wp2_with (first | (go_at_call 22; refine (i_apply _ _ _ _).mono ?_; rintro e w' ⟨rfl, rfl⟩) | (go_at_call 21; refine (s_apply _ _ _ _).mono ?_; rintro e w' ⟨rfl, rfl⟩))
  go_ret
  exact ⟨rfl, Below.refl _ _⟩
end fnExactApply
namespace fnExactOpSize
theorem walk (v0 : Value) (w : World) (h0 : InInt w v0) : Calls Try.prog 5 #[v0] w fun e w' => e = .returned (.bool true) ∧ Below w.heap.size w w' := by
  obtain ⟨a, rfl, _, _⟩ := h0
  go_enter Try.func5, Try.ntmps5
  go_wp2_with (first | (go_at_call 20; refine (i_opSize _ _).mono ?_; rintro e w' ⟨rfl, rfl⟩) | (go_at_call 19; refine (s_opSize _ _).mono ?_; rintro e w' ⟨rfl, rfl⟩))
  go_ret
  exact ⟨rfl, Below.refl _ _⟩
end fnExactOpSize
namespace fnExactTokOk
theorem walk (v0 : Value) (w : World) (h0 : InTok w v0) : Calls Try.prog 7 #[v0] w fun e w' => e = .returned (.bool true) ∧ Below w.heap.size w w' := by
  obtain ⟨k, n, s, rfl, hs⟩ := h0
  have hs' := hs
  unfold maxLen at hs'
  go_enter Try.func7, Try.ntmps7
  go_wp2_with fail
  refine (l_szTok _ _ _ hs _ (by omega) _).mono ?_
  rintro e w1 ⟨rfl, hb1⟩
  have hc1 : ∀ o, w1.cell? ⟨w.heap.size, o, none⟩ = _ := fun o => hb1.cell (p := ⟨w.heap.size, o, none⟩) (by simp)
  have hz1 := hb1.size
  simp at hz1
  have B1 : Below w.heap.size w w1 := ((Below.refl _ _).alloc (Nat.le_refl _) _).trans (hb1.mono (by simp))
  go_wp2_with fail
  · go_ret
    exact ⟨rfl, B1⟩
  · refine (l_toTok _ _ _ _).mono ?_
    rintro e w2 ⟨rfl, hb2⟩
    go_wp2_with fail
    refine (s_tokOk _ _ _ hs _).mono ?_
    rintro e w3 ⟨rfl, hb3⟩
    have hz2 := hb2.size
    have hz3 := hb3.size
    have hc3 : ∀ o, w3.cell? ⟨w.heap.size, o, none⟩ = _ := fun o => (hb3.cell (p := ⟨w.heap.size, o, none⟩) (by simp; omega)).trans ((hb2.cell (p := ⟨w.heap.size, o, none⟩) (by simp; omega)).trans (hc1 o))
    clear hc1
    go_wp2_with fail
    refine (l_toTok _ _ _ _).mono ?_
    rintro e w4 ⟨rfl, hb4⟩
    go_wp2_with fail
    refine (i_tokOk _ _ _ hs _).mono ?_
    rintro e w5 ⟨rfl, hb5⟩
    have hz4 := hb4.size
    go_wp2
    go_ret
    exact ⟨rfl, (B1.trans ((hb2.mono (by omega)).trans (hb3.mono (by omega)))).trans ((hb4.mono (by omega)).trans (hb5.mono (by omega)))⟩
end fnExactTokOk
namespace fnExactArity
theorem walk (v0 : Value) (w : World) (h0 : InTok w v0) : Calls Try.prog 10 #[v0] w fun e w' => e = .returned (.bool true) ∧ Below w.heap.size w w' := by
  obtain ⟨k, n, s, rfl, hs⟩ := h0
  have hs' := hs
  unfold maxLen at hs'
  go_enter Try.func10, Try.ntmps10
  go_wp2_with fail
  refine (l_szTok _ _ _ hs _ (by omega) _).mono ?_
  rintro e w1 ⟨rfl, hb1⟩
  have hc1 : ∀ o, w1.cell? ⟨w.heap.size, o, none⟩ = _ := fun o => hb1.cell (p := ⟨w.heap.size, o, none⟩) (by simp)
  have hz1 := hb1.size
  simp at hz1
  have B1 : Below w.heap.size w w1 := ((Below.refl _ _).alloc (Nat.le_refl _) _).trans (hb1.mono (by simp))
  go_wp2_with fail
  · go_ret
    exact ⟨rfl, B1⟩
  · refine (l_toTok _ _ _ _).mono ?_
    rintro e w2 ⟨rfl, hb2⟩
    go_wp2_with fail
    refine (s_arity _ _ _ hs _).mono ?_
    rintro e w3 ⟨rfl, hb3⟩
    have hz2 := hb2.size
    have hz3 := hb3.size
    have hc3 : ∀ o, w3.cell? ⟨w.heap.size, o, none⟩ = _ := fun o => (hb3.cell (p := ⟨w.heap.size, o, none⟩) (by simp; omega)).trans ((hb2.cell (p := ⟨w.heap.size, o, none⟩) (by simp; omega)).trans (hc1 o))
    clear hc1
    go_wp2_with fail
    refine (l_toTok _ _ _ _).mono ?_
    rintro e w4 ⟨rfl, hb4⟩
    go_wp2_with fail
    refine (i_arity _ _ _ hs _).mono ?_
    rintro e w5 ⟨rfl, hb5⟩
    have hz4 := hb4.size
    go_wp2
    go_ret
    exact ⟨rfl, (B1.trans ((hb2.mono (by omega)).trans (hb3.mono (by omega)))).trans ((hb4.mono (by omega)).trans (hb5.mono (by omega)))⟩
end fnExactArity
namespace fnExactOpOk
theorem walk (v0 : Value) (w : World) (h0 : InOp w v0) : Calls Try.prog 9 #[v0] w fun e w' => e = .returned (.bool true) ∧ Below w.heap.size w w' := by
  obtain ⟨k, n, rfl, hk, hn⟩ := h0
  go_enter Try.func9, Try.ntmps9
  go_wp2_with fail
  refine (l_toOp _ _ _).mono ?_
  rintro e w2 ⟨rfl, hb2⟩
  go_wp2_with fail
  refine (s_opOk _ _ _).mono ?_
  rintro e w3 ⟨rfl, hb3⟩
  have hz2 := hb2.size
  simp at hz2
  have hz3 := hb3.size
  have hc3 : ∀ o, w3.cell? ⟨w.heap.size, o, none⟩ = _ := fun o => (hb3.cell (p := ⟨w.heap.size, o, none⟩) (by simp; omega)).trans (hb2.cell (p := ⟨w.heap.size, o, none⟩) (by simp))
  go_wp2_with fail
  refine (l_toOp _ _ _).mono ?_
  rintro e w4 ⟨rfl, hb4⟩
  go_wp2_with fail
  refine (i_opOk _ _ _).mono ?_
  rintro e w5 ⟨rfl, hb5⟩
  have hz4 := hb4.size
  go_wp2
  go_ret
  exact ⟨rfl, (((Below.refl _ _).alloc (Nat.le_refl _) _).trans ((hb2.mono (by simp)).trans (hb3.mono (by omega)))).trans ((hb4.mono (by omega)).trans (hb5.mono (by omega)))⟩
end fnExactOpOk
namespace fnClamped
theorem walk (v0 : Value) (w : World) (h0 : InBytes w v0) : Calls Try.prog 8 #[v0] w fun e w' => e = .returned (.bool true) ∧ Below w.heap.size w w' := by
  obtain ⟨A, n, c, rfl, hnc, hc, hrow⟩ := h0
  have hn : n ≤ maxLen := by omega
  have HR := hide (CodeAt.of_in hnc hc hrow)
  clear hrow
  by_cases hbig : 1048576 < n
  · have hd : decide (1048576 < n) = true := by simpa using hbig
    go_enter Try.func8, Try.ntmps8
    go_wp2_with (go_at_call 27; refine (l_big _ _ _ hn _).mono ?_; rintro e w' ⟨rfl, rfl⟩)
    go_ret
    exact ⟨rfl, Below.refl _ _⟩
  · have hd : decide (1048576 < n) = false := by simpa using hbig
    go_enter Try.func8, Try.ntmps8
    go_wp2_with fail
    refine (l_big _ _ _ hn _).mono ?_
    rintro e w' ⟨rfl, rfl⟩
    go_wp2_with fail
    refine (s_DrawClamp _ _ _ _ HR.out).mono ?_
    rintro e w1 ⟨⟨x, a, b, rfl⟩, hb1⟩
    have h735 : (clampF 7 3 5 == 5) = true := by decide
    by_cases hba : b < a
    · have h1 : (clampF x a b == a) = true := by unfold clampF; rw [if_pos (.inl hba)]; simp
      go_wp2_with (go_at_call 29; refine (i_clamp _ _ _ _).mono ?_; rintro e w' ⟨rfl, rfl⟩)
      go_ret
      exact ⟨rfl, hb1⟩
    · have h2 : clampF a a b = a := by unfold clampF; repeat' split
                                       all_goals omega
      have h3 : clampF b a b = b := by unfold clampF; repeat' split
                                       all_goals omega
      by_cases hxa : x < a
      · have h1 : clampF x a b = a := by unfold clampF; rw [if_pos (.inr hxa)]
        go_wp2_with (go_at_call 29; refine (i_clamp _ _ _ _).mono ?_; rintro e w' ⟨rfl, rfl⟩)
        go_ret
        exact ⟨rfl, hb1⟩
      · by_cases hxb : b < x
        · have h1 : clampF x a b = b := by unfold clampF; rw [if_neg (by omega), if_pos hxb]
          go_wp2_with (go_at_call 29; refine (i_clamp _ _ _ _).mono ?_; rintro e w' ⟨rfl, rfl⟩)
          go_ret
          exact ⟨rfl, hb1⟩
        · have h1 : clampF x a b = x := by unfold clampF; rw [if_neg (by omega), if_neg hxb]
          go_wp2_with (go_at_call 29; refine (i_clamp _ _ _ _).mono ?_; rintro e w' ⟨rfl, rfl⟩)
          go_ret
          exact ⟨rfl, hb1⟩
end fnClamped
end Go.Proofs.Ytncpkhkdhckdkaa
