import Derived.Test.YtcfjbaanahgpoaaIn2
import Derived.Test.YtcfjbaanahgpoaaEls
namespace Go.Proofs.Ytcfjbaanahgpoaa
open Go.RowKit
set_option maxRecDepth 100000
set_option linter.unusedVariables false
theorem lnIn_own {w : World} {lo hi : Nat} {x : Ln} {A B : Option Addr} (h : Own w lo hi (lnRows (x, A, x.2.2.1.length, B, x.2.2.2.length))) (hn : x.2.2.1.length + x.2.2.2.length ≤ 1048576) : LnIn w x A x.2.2.1.length B x.2.2.2.length :=
  lnIn_of_own (p := (x, A, x.2.2.1.length, B, x.2.2.2.length)) h.rows ⟨Nat.le_refl _, by unfold maxLen; simp only; omega, Nat.le_refl _, by unfold maxLen; simp only; omega⟩
end Go.Proofs.Ytcfjbaanahgpoaa
