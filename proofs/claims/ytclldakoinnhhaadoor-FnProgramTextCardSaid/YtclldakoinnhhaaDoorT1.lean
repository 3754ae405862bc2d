import Derived.Test.YtclldakoinnhhaaDoorRows
import Derived.Test.YtclldakoinnhhaaDoorBase
namespace Go.Proofs.YtclldakoinnhhaaDoor
open Go.RowKit


def applyF (k a b : Int) : Int :=
  if k = 2 then wrap32 (wrap32 a + wrap32 b)
  else if k = 3 then wrap32 (wrap32 a - wrap32 b)
  else if k = 4 then wrap32 (wrap32 a * wrap32 b)
  else if k = 5 then (if wrap32 a < wrap32 b then 1 else 0)
  else if k = 6 then (if wrap32 a = wrap32 b then 1 else 0)
  else 0

theorem wrap32_wrap64 (a : Int) : wrap32 (wrap64 a) = wrap32 a := by unfold wrap32 wrap64; omega


def clampF (n a b : Int) : Int := if b < a ∨ n < a then a else if b < n then b else n


def btw (n a b : Int) : Bool := decide (a ≤ n ∧ n ≤ b)

set_option maxHeartbeats 400000 in
theorem i_between (n a b : Int) (w : World) :
    Calls Tryd.prog 26 #[.int .i64 n, .int .i64 a, .int .i64 b] w fun e w' => e = .returned (.bool (btw n a b)) ∧ w = w' := by
  go_enter Tryd.func26, Tryd.ntmps26
  go_wp2
  all_goals go_ret
  all_goals refine ⟨ret_bool ?_, rfl⟩
  all_goals simp [btw]
  all_goals omega

end Go.Proofs.YtclldakoinnhhaaDoor
