import Derived.Test.YtclldakoinnhhaaDoorStrS
import Derived.Test.YtclldakoinnhhaaDoorT2
import Derived.Test.YtclldakoinnhhaaDoorHex
namespace Go.Proofs.YtclldakoinnhhaaDoor
open Go.RowKit
set_option maxRecDepth 100000
/-! The fields of a line: those that begin at b, looked at from i on. -/
def fldFrom (s : ByteArray) (b i : Nat) : List ByteArray :=
  if h : i < s.size then
    if s[i] = 32 then (if b < i then [s.extract b i] else []) ++ fldFrom s (i + 1) (i + 1) else fldFrom s b (i + 1)
  else if b < i then [s.extract b i] else []
termination_by s.size - i
def fieldsF (s : ByteArray) : List ByteArray := fldFrom s 0 0
theorem fld_skip (s : ByteArray) (b i : Nat) (h : i < s.size) (hc : s[i] ≠ 32) : fldFrom s b i = fldFrom s b (i + 1) := by rw [fldFrom, dif_pos h, if_neg hc]
theorem fld_blank (s : ByteArray) (b i : Nat) (h : i < s.size) (hc : s[i] = 32) : fldFrom s b i = (if b < i then [s.extract b i] else []) ++ fldFrom s (i + 1) (i + 1) := by rw [fldFrom, dif_pos h, if_pos hc]
theorem fld_end (s : ByteArray) (b i : Nat) (h : ¬ i < s.size) : fldFrom s b i = if b < i then [s.extract b i] else [] := by rw [fldFrom, dif_neg h]
theorem fld_out (s : ByteArray) (b i : Nat) (hb : b < i) (h : i < s.size → ∃ h, s[i]'h = 32) : fldFrom s b i = s.extract b i :: fldFrom s i i := by
  by_cases hi : i < s.size
  · obtain ⟨h', hc⟩ := h hi
    rw [fld_blank s b i hi hc, fld_blank s i i hi hc, if_pos hb, if_neg (by omega)]; rfl
  · rw [fld_end s b i hi, fld_end s i i hi, if_pos hb, if_neg (by omega)]
def printB (c : UInt8) : Bool := decide (32 ≤ (c.toNat : Int)) && decide ((c.toNat : Int) ≤ 126)
def sfOk (s : ByteArray) : Prop := s.size ≤ 600 ∧ s.data.toList.all printB = true ∧ (fieldsF s).length ≤ 24
noncomputable def sfB (s : ByteArray) : Bool := @decide (sfOk s) (Classical.propDecidable _)
noncomputable def sfV (s : ByteArray) : List ByteArray := if sfB s = true then fieldsF s else []
theorem sf_not {s : ByteArray} (h : ¬ sfOk s) : sfV s = [] ∧ sfB s = false := by
  have : sfB s = false := @decide_eq_false _ (Classical.propDecidable _) h
  exact ⟨by unfold sfV; rw [this]; rfl, this⟩
theorem sf_yes {s : ByteArray} (h : sfOk s) : sfV s = fieldsF s ∧ sfB s = true := by
  have : sfB s = true := @decide_eq_true _ (Classical.propDecidable _) h
  exact ⟨by unfold sfV; rw [this]; rfl, this⟩
theorem sfV_length (s : ByteArray) : (sfV s).length ≤ 24 := by
  by_cases h : sfOk s
  · rw [(sf_yes h).1]; exact h.2.2
  · rw [(sf_not h).1]; exact Nat.zero_le _
theorem ret_tup2 {v : Value} {x y : Bool} (h : x = y) : Ending.returned (.tuple #[v, .bool x]) = .returned (.tuple #[v, .bool y]) := by rw [h]
theorem print_bad {c : UInt8} (h : printB c = false) : (c.toNat : Int) < 32 ∨ 126 < (c.toNat : Int) := by
  unfold printB at h
  rw [Bool.and_eq_false_iff] at h
  rcases h with h | h
  · exact .inl (by have := of_decide_eq_false h; omega)
  · exact .inr (by have := of_decide_eq_false h; omega)
theorem print_good {c : UInt8} (h : printB c = true) : 32 ≤ (c.toNat : Int) ∧ (c.toNat : Int) ≤ 126 := by unfold printB at h; simpa using h
theorem blankB {c : UInt8} (h : c = 32) : ((c.toNat : Int) == 32) = true := by rw [h]; rfl
theorem blankNB {c : UInt8} (h : c ≠ 32) : ((c.toNat : Int) == 32) = false := by
  rw [beq_eq_false_iff_ne]; intro e; exact h (UInt8.toNat_inj.1 (by show c.toNat = 32; omega))
theorem blankNE {c : UInt8} (h : c = 32) : ((c.toNat : Int) != 32) = false := by rw [h]; rfl
theorem blankNNE {c : UInt8} (h : c ≠ 32) : ((c.toNat : Int) != 32) = true := by
  rw [bne_iff_ne]; intro e; exact h (UInt8.toNat_inj.1 (by show c.toNat = 32; omega))
end Go.Proofs.YtclldakoinnhhaaDoor
