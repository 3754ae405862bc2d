import Derived.Test.YtjlmkkgokknjjaaIn
import Derived.Test.YtjlmkkgokknjjaaPUint
namespace Go.Proofs.Ytjlmkkgokknjjaa
open Go.RowKit
set_option maxRecDepth 100000
set_option linter.unusedVariables false
namespace fnExactParseUint
set_option maxHeartbeats 1000000 in
theorem walk (v0 : Value) (w : World) (h0 : InString w v0) : Calls Try.prog 14 #[v0] w fun e w' => e = .returned (.bool true) ∧ Below w.heap.size w w' := by
  obtain ⟨x0, rfl, hs0⟩ := h0
  have BB0 := hide (Below.refl w.heap.size w)
  go_enter Try.func14, Try.ntmps14
  by_cases hq0 : 1048576 < (x0.size : Int)
  · go_wp2_with fail
    go_ret
    exact ⟨rfl, BB0.out⟩
  · have hq0' : (x0.size : Int) ≤ 1048576 := by omega
    clear hq0
    go_wp2_with fail
    refine (s_parseUint x0 hs0 _).mono ?_
    rintro e w1 ⟨rfl, hb1⟩
    have hz1 := hb1.size
    have BB1 := hide (BB0.out.trans (hb1.mono BB0.out.size))
    clear hb1
    go_wp2_with fail
    refine (i_parseUint x0 hs0 _).mono ?_
    rintro e w' ⟨rfl, rfl⟩
    go_wp2
    go_ret
    exact ⟨rfl, BB1.out⟩
end fnExactParseUint
end Go.Proofs.Ytjlmkkgokknjjaa
