import Derived.Test.YtcfjbaanahgpoaaRows
import Derived.Test.YtcfjbaanahgpoaaBase
namespace Go.Proofs.Ytcfjbaanahgpoaa
open Go.RowKit

set_option maxHeartbeats 400000 in
theorem i_wrap (a : Int) (w : World) :
    Calls Try.prog 107 #[.int .i64 a] w fun e w' => e = .returned (.int .i64 (wrap32 a)) ∧ w = w' := by
  go_enter Try.func107, Try.ntmps107
  go_wp2
  go_ret
  exact ⟨ret_int (by rw [wrap32_emod, wrap64_wrap32]), rfl⟩

set_option maxHeartbeats 400000 in
theorem s_wrap (a : Int) (w : World) :
    Calls Try.prog 106 #[.int .i64 a] w fun e w' => e = .returned (.int .i64 (wrap32 a)) ∧ w = w' := by
  have hb := and_mask32 a
  have h0 : 0 ≤ a % 4294967296 := by omega
  have h1 : a % 4294967296 < 4294967296 := by omega
  go_enter Try.func106, Try.ntmps106
  go_wp2
  all_goals go_ret
  all_goals exact ⟨ret_int (by unfold wrap32; omega), rfl⟩

def applyF (k a b : Int) : Int :=
  if k = 2 then wrap32 (wrap32 a + wrap32 b)
  else if k = 3 then wrap32 (wrap32 a - wrap32 b)
  else if k = 4 then wrap32 (wrap32 a * wrap32 b)
  else if k = 5 then (if wrap32 a < wrap32 b then 1 else 0)
  else if k = 6 then (if wrap32 a = wrap32 b then 1 else 0)
  else 0

theorem wrap32_wrap64 (a : Int) : wrap32 (wrap64 a) = wrap32 a := by unfold wrap32 wrap64; omega

set_option maxHeartbeats 400000 in
theorem i_apply (k a b : Int) (w : World) :
    Calls Try.prog 102 #[.int .i64 k, .int .i64 a, .int .i64 b] w fun e w' => e = .returned (.int .i64 (applyF k a b)) ∧ w = w' := by
  go_enter Try.func102, Try.ntmps102
  go_wp2_with (go_at_call 107; refine (i_wrap _ _).mono ?_; rintro e w' ⟨rfl, rfl⟩)
  all_goals go_ret
  all_goals refine ⟨ret_int ?_, rfl⟩
  all_goals simp_all [applyF, wrap32_wrap64]

def clampF (n a b : Int) : Int := if b < a ∨ n < a then a else if b < n then b else n


def btw (n a b : Int) : Bool := decide (a ≤ n ∧ n ≤ b)

set_option maxHeartbeats 400000 in
theorem i_between (n a b : Int) (w : World) :
    Calls Try.prog 32 #[.int .i64 n, .int .i64 a, .int .i64 b] w fun e w' => e = .returned (.bool (btw n a b)) ∧ w = w' := by
  go_enter Try.func32, Try.ntmps32
  go_wp2
  all_goals go_ret
  all_goals refine ⟨ret_bool ?_, rfl⟩
  all_goals simp [btw]
  all_goals omega

set_option maxHeartbeats 400000 in
theorem s_l01In (n a b : Int) (w : World) :
    Calls Try.prog 63 #[.int .i64 n, .int .i64 a, .int .i64 b] w fun e w' => e = .returned (.bool (btw n a b)) ∧ w = w' := by
  go_enter Try.func63, Try.ntmps63
  go_wp2
  all_goals go_ret
  all_goals refine ⟨ret_bool ?_, rfl⟩
  all_goals simp [btw]
  all_goals omega

set_option maxHeartbeats 400000 in
theorem i_buildOk (f i : Int) (x y : Bool) (w : World) :
    Calls Try.prog 27 #[.agg #[.int .i64 f, .int .i64 i, .bool x, .bool y]] w fun e w' => e = .returned (.bool (btw f 0 63 && btw i 0 3)) ∧ Below w.heap.size w w' := by
  go_enter Try.func27, Try.ntmps27
  go_wp2_with (go_at_call 32; refine (i_between _ _ _ _).mono ?_; rintro e w' ⟨rfl, rfl⟩)
  all_goals go_ret
  all_goals exact ⟨ret_bool (by simp_all), (Below.refl _ _).alloc (Nat.le_refl _) _⟩
end Go.Proofs.Ytcfjbaanahgpoaa
