import Derived.Test.YtncpkhkdhckdkaaIn
import Derived.Test.YtncpkhkdhckdkaaHex2
namespace Go.Proofs.Ytncpkhkdhckdkaa
open Go.RowKit
namespace fnExactEncodeHex
theorem walk (v0 : Value) (w : World) (h0 : InString w v0) : Calls Try.prog 3 #[v0] w fun e w' => e = .returned (.bool true) ∧ Below w.heap.size w w' := by
  obtain ⟨s, rfl, hs⟩ := h0
  have hs' := hs
  unfold maxLen at hs'
  by_cases hbig : 1048576 < (s.size : Int)
  · go_enter Try.func3, Try.ntmps3
    go_wp2_with fail
    go_ret
    exact ⟨rfl, Below.refl _ _⟩
  · go_enter Try.func3, Try.ntmps3
    go_wp2_with fail
    refine (s_encodeHex s hs _).mono ?_
    rintro e w1 ⟨rfl, hb1⟩
    go_wp2_with fail
    refine (i_encodeHex s hs _).mono ?_
    rintro e w2 ⟨rfl, hb2⟩
    go_wp2
    go_ret
    exact ⟨rfl, hb1.trans (hb2.mono hb1.size)⟩
end fnExactEncodeHex
namespace fnExactDecodeHex
theorem walk (v0 : Value) (w : World) (h0 : InString w v0) : Calls Try.prog 4 #[v0] w fun e w' => e = .returned (.bool true) ∧ Below w.heap.size w w' := by
  obtain ⟨s, rfl, hs⟩ := h0
  have hs' := hs
  unfold maxLen at hs'
  by_cases hbig : 1048576 < (s.size : Int)
  · go_enter Try.func4, Try.ntmps4
    go_wp2_with fail
    go_ret
    exact ⟨rfl, Below.refl _ _⟩
  · go_enter Try.func4, Try.ntmps4
    go_wp2_with fail
    refine (s_decodeHex s hs _).mono ?_
    rintro e w1 ⟨rfl, hb1⟩
    go_wp2_with fail
    refine (i_decodeHex s hs _).mono ?_
    rintro e w2 ⟨rfl, hb2⟩
    go_wp2
    go_ret
    exact ⟨rfl, hb1.trans (hb2.mono hb1.size)⟩
end fnExactDecodeHex
end Go.Proofs.Ytncpkhkdhckdkaa
