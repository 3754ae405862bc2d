import Derived.Test.YtcfjbaanahgpoaaTokX
import Derived.Test.YtcfjbaanahgpoaaIntS
namespace Go.Proofs.Ytcfjbaanahgpoaa
open Go.RowKit
set_option maxRecDepth 100000
theorem toList_inj {a b : ByteArray} (h : a.toList = b.toList) : a = b := by
  rw [ByteArray.toList_eq, ByteArray.toList_eq] at h
  exact ByteArray.ext (Array.toList_inj.1 h)
theorem beqT {a b : ByteArray} (h : a = b) : (a.toList == b.toList) = true := by rw [h]; simp
theorem beqF {a b : ByteArray} (h : a ≠ b) : (a.toList == b.toList) = false := by
  rw [beq_eq_false_iff_ne]; exact fun e => h (toList_inj e)
theorem bneT {a b : ByteArray} (h : a ≠ b) : (!a.toList == b.toList) = true := by rw [beqF h]; rfl
theorem bneF {a b : ByteArray} (h : a = b) : (!a.toList == b.toList) = false := by rw [beqT h]; rfl
theorem strCells_length (l : List ByteArray) : (strCells l).length = l.length := by simp [strCells]
theorem strCells_at (l : List ByteArray) (i : Nat) (hi : i < l.length) : (strCells l)[i]? = some (.string l[i]) := by simp [strCells, hi]
theorem strCells_snoc (l : List ByteArray) (x : ByteArray) : strCells (l ++ [x]) = strCells l ++ [.string x] := by simp [strCells]
theorem InRow.str {w : World} {A : Option Addr} {n : Nat} {l : List ByteArray} (h : InRow w A n 1 (strCells l)) (k : Nat) (hk : k < l.length) : ∃ b o, A = some ⟨b, o, none⟩ ∧ b < w.heap.size ∧ w.cell? ⟨b, o + k, none⟩ = some (.string l[k]) := by
  have hl : l.length = n * 1 := by rw [← strCells_length]; exact h.1
  obtain ⟨b, o, e, hb, hc⟩ := h.2 (by omega)
  exact ⟨b, o, e, hb, (hc k (by omega)).trans (strCells_at l k hk)⟩
theorem strCells_step (l : List ByteArray) (k : Nat) (h : k < l.length) (zs : List Value) (hz : zs.length = l.length) : (strCells (l.take k) ++ zs.drop k).set k (.string l[k]) = strCells (l.take (k + 1)) ++ zs.drop (k + 1) := by
  have e : (strCells (l.take k)).length = k := by rw [strCells_length, List.length_take]; omega
  have := set_prefix (strCells (l.take k)) zs (.string l[k]) (by omega)
  rw [List.length_append, e] at this
  rw [this, List.take_succ_eq_append_getElem h, strCells_snoc]
  rfl
def markStrs (k0 : Int) (n : Nat) : List Value := (List.range n).map fun (j : Nat) => .string (markT (k0 + (j : Int)))
theorem markStrs_length (k0 : Int) (n : Nat) : (markStrs k0 n).length = n := by simp [markStrs]
theorem markStrs_at (k0 : Int) (n j : Nat) (h : j < n) : (markStrs k0 n)[j]? = some (.string (markT (k0 + j))) := by simp [markStrs, h]
theorem markStrs_step (k0 : Int) (i : Nat) (xs : List Value) (h : i < xs.length) : (markStrs k0 i ++ xs.drop i).set i (.string (markT (k0 + i))) = markStrs k0 (i + 1) ++ xs.drop (i + 1) := by
  have e := markStrs_length k0 i
  have := set_prefix (markStrs k0 i) xs (.string (markT (k0 + i))) (by omega)
  rw [List.length_append, e] at this
  rw [this]
  simp [markStrs, List.range_succ]
theorem Try.infoStr : (Try.prog.info? 9).map (fun i => (i.zero, i.size, i.bytes)) = some (some (.string ByteArray.empty), 1, 16) := by kernel_rfl
end Go.Proofs.Ytcfjbaanahgpoaa
