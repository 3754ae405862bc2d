import Derived.Test.YtmihlgkbnakjmaaMem
import Derived.Test.YtmihlgkbnakjmaaT3
namespace Go.Proofs.Ytmihlgkbnakjmaa
open Go.RowKit
theorem Try.info8' : (Try.prog.info? 5).map (fun i => (i.zero, i.size, i.bytes)) = some (some (.int .u8 0), 1, 1) := by kernel_rfl
/-- The bytes of an instruction. -/
def opByte (a : Int) (k : Nat) : UInt8 := UInt8.ofNat (a / 2 ^ (8 * k) % 256).toNat
def opBytes (c a : Int) (n : Nat) : List UInt8 := UInt8.ofNat (c % 256).toNat :: (List.range n).map (opByte a)
def encOpF (c a : Int) : List UInt8 := if opOkF c a then opBytes c a (opW c) else []
theorem u8_cell' (x : Int) (h : 0 ≤ x ∧ x ≤ 255) : ((UInt8.ofNat x.toNat).toNat : Int) = x := by simp; omega
theorem opByte_cell (a : Int) (k : Nat) : [Value.int .u8 (a / 2 ^ (8 * k) % 256)] = bcells [opByte a k] := by
  simp only [bcells, List.map_cons, List.map_nil, opByte]
  rw [u8_cell' _ (by omega)]
theorem opByte_head (c : Int) : [Value.int .u8 (c % 256)] = bcells [UInt8.ofNat (c % 256).toNat] := by
  simp only [bcells, List.map_cons, List.map_nil]
  rw [u8_cell' _ (by omega)]
theorem opBytes_succ (c a : Int) (n : Nat) : opBytes c a (n + 1) = opBytes c a n ++ [opByte a n] := by
  unfold opBytes; rw [List.range_succ, List.map_append, List.cons_append]; rfl
end Go.Proofs.Ytmihlgkbnakjmaa
