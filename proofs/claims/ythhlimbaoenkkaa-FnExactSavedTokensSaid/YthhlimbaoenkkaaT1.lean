import Derived.Test.YthhlimbaoenkkaaRows
import Derived.Test.YthhlimbaoenkkaaBase
namespace Go.Proofs.Ythhlimbaoenkkaa
open Go.RowKit

set_option maxHeartbeats 400000 in
theorem i_wrap (a : Int) (w : World) :
    Calls Try.prog 149 #[.int .i64 a] w fun e w' => e = .returned (.int .i64 (wrap32 a)) ∧ w = w' := by
  go_enter Try.func149, Try.ntmps149
  go_wp2
  go_ret
  exact ⟨ret_int (by rw [wrap32_emod, wrap64_wrap32]), rfl⟩

set_option maxHeartbeats 400000 in
theorem s_wrap (a : Int) (w : World) :
    Calls Try.prog 146 #[.int .i64 a] w fun e w' => e = .returned (.int .i64 (wrap32 a)) ∧ w = w' := by
  have hb := and_mask32 a
  have h0 : 0 ≤ a % 4294967296 := by omega
  have h1 : a % 4294967296 < 4294967296 := by omega
  go_enter Try.func146, Try.ntmps146
  go_wp2
  all_goals go_ret
  all_goals exact ⟨ret_int (by unfold wrap32; omega), rfl⟩

def applyF (k a b : Int) : Int :=
  if k = 2 then wrap32 (wrap32 a + wrap32 b)
  else if k = 3 then wrap32 (wrap32 a - wrap32 b)
  else if k = 4 then wrap32 (wrap32 a * wrap32 b)
  else if k = 5 then (if wrap32 a < wrap32 b then 1 else 0)
  else if k = 6 then (if wrap32 a = wrap32 b then 1 else 0)
  else 0

theorem wrap32_wrap64 (a : Int) : wrap32 (wrap64 a) = wrap32 a := by unfold wrap32 wrap64; omega

set_option maxHeartbeats 400000 in
theorem i_apply (k a b : Int) (w : World) :
    Calls Try.prog 120 #[.int .i64 k, .int .i64 a, .int .i64 b] w fun e w' => e = .returned (.int .i64 (applyF k a b)) ∧ w = w' := by
  go_enter Try.func120, Try.ntmps120
  go_wp2_with (go_at_call 149; refine (i_wrap _ _).mono ?_; rintro e w' ⟨rfl, rfl⟩)
  all_goals go_ret
  all_goals refine ⟨ret_int ?_, rfl⟩
  all_goals simp_all [applyF, wrap32_wrap64]

def clampF (n a b : Int) : Int := if b < a ∨ n < a then a else if b < n then b else n


def btw (n a b : Int) : Bool := decide (a ≤ n ∧ n ≤ b)

set_option maxHeartbeats 400000 in
theorem i_between (n a b : Int) (w : World) :
    Calls Try.prog 67 #[.int .i64 n, .int .i64 a, .int .i64 b] w fun e w' => e = .returned (.bool (btw n a b)) ∧ w = w' := by
  go_enter Try.func67, Try.ntmps67
  go_wp2
  all_goals go_ret
  all_goals refine ⟨ret_bool ?_, rfl⟩
  all_goals simp [btw]
  all_goals omega

set_option maxHeartbeats 400000 in
theorem s_l01In (n a b : Int) (w : World) :
    Calls Try.prog 81 #[.int .i64 n, .int .i64 a, .int .i64 b] w fun e w' => e = .returned (.bool (btw n a b)) ∧ w = w' := by
  go_enter Try.func81, Try.ntmps81
  go_wp2
  all_goals go_ret
  all_goals refine ⟨ret_bool ?_, rfl⟩
  all_goals simp [btw]
  all_goals omega

end Go.Proofs.Ythhlimbaoenkkaa
