/- Plain facts on integers and bits. No program in sight. -/
import Derived.WalkKit
import Derived.WalkSpells
import Derived.WalkLawsBesides
namespace Go.Proofs.Ytaanakkenbkaoaa
open Go.RowKit

theorem hide {p : Prop} (h : p) : Hid p := h
theorem ret_int {k : IntKind} {a b : Int} (h : a = b) : Ending.returned (.int k a) = .returned (.int k b) := by rw [h]
theorem ret_bool {a b : Bool} (h : a = b) : Ending.returned (.bool a) = .returned (.bool b) := by rw [h]

theorem ofInt64_toNat (a : Int) : ((BitVec.ofInt 64 a).toNat : Int) = a % 18446744073709551616 := by
  rw [BitVec.toNat_ofInt]
  have h1 : 0 ≤ a % ((2 ^ 64 : Nat) : Int) := Int.emod_nonneg _ (by decide)
  rw [Int.toNat_of_nonneg h1]; rfl

theorem and_mask32 (a : Int) : bits .and .i64 a 4294967295 = a % 4294967296 := by
  show IntKind.i64.wrap (((BitVec.ofInt 64 a) &&& BitVec.ofInt 64 4294967295).toNat : Int) = _
  have h2 : (BitVec.ofInt 64 4294967295).toNat = 2 ^ 32 - 1 := by decide
  rw [BitVec.toNat_and, h2, Nat.and_two_pow_sub_one_eq_mod, IntKind.wrap_i64]
  have h := ofInt64_toNat a
  generalize (BitVec.ofInt 64 a).toNat = n at *
  omega

theorem wrap32_emod (a : Int) : wrap32 (a % 4294967296) = wrap32 a := by unfold wrap32; omega
theorem wrap32_range (a : Int) : -2147483648 ≤ wrap32 a ∧ wrap32 a ≤ 2147483647 := by unfold wrap32; omega
theorem wrap64_wrap32 (a : Int) : wrap64 (wrap32 a) = wrap32 a := by unfold wrap32 wrap64; omega
theorem wrap32_wrap32 (a : Int) : wrap32 (wrap32 a) = wrap32 a := by unfold wrap32; omega

end Go.Proofs.Ytaanakkenbkaoaa
