import Derived.Test.YteghjebbeclanaaDoorStrS
import Derived.Test.YteghjebbeclanaaDoorT2
import Derived.Test.YteghjebbeclanaaDoorHex
namespace Go.Proofs.YteghjebbeclanaaDoor
open Go.RowKit
set_option maxRecDepth 100000
/-! The fields of a line: those that begin at b, looked at from i on. -/
def fldFrom (s : ByteArray) (b i : Nat) : List ByteArray :=
  if h : i < s.size then
    if s[i] = 32 then (if b < i then [s.extract b i] else []) ++ fldFrom s (i + 1) (i + 1) else fldFrom s b (i + 1)
  else if b < i then [s.extract b i] else []
termination_by s.size - i
def fieldsF (s : ByteArray) : List ByteArray := fldFrom s 0 0
theorem fld_skip (s : ByteArray) (b i : Nat) (h : i < s.size) (hc : s[i] ≠ 32) : fldFrom s b i = fldFrom s b (i + 1) := by rw [fldFrom, dif_pos h, if_neg hc]
theorem fld_blank (s : ByteArray) (b i : Nat) (h : i < s.size) (hc : s[i] = 32) : fldFrom s b i = (if b < i then [s.extract b i] else []) ++ fldFrom s (i + 1) (i + 1) := by rw [fldFrom, dif_pos h, if_pos hc]
theorem fld_end (s : ByteArray) (b i : Nat) (h : ¬ i < s.size) : fldFrom s b i = if b < i then [s.extract b i] else [] := by rw [fldFrom, dif_neg h]
theorem fld_out (s : ByteArray) (b i : Nat) (hb : b < i) (h : i < s.size → ∃ h, s[i]'h = 32) : fldFrom s b i = s.extract b i :: fldFrom s i i := by
  by_cases hi : i < s.size
  · obtain ⟨h', hc⟩ := h hi
    rw [fld_blank s b i hi hc, fld_blank s i i hi hc, if_pos hb, if_neg (by omega)]; rfl
  · rw [fld_end s b i hi, fld_end s i i hi, if_pos hb, if_neg (by omega)]
def printB (c : UInt8) : Bool := decide (32 ≤ (c.toNat : Int)) && decide ((c.toNat : Int) ≤ 126)
def sfOk (s : ByteArray) : Prop := s.size ≤ 600 ∧ s.data.toList.all printB = true ∧ (fieldsF s).length ≤ 24
noncomputable def sfB (s : ByteArray) : Bool := @decide (sfOk s) (Classical.propDecidable _)
noncomputable def sfV (s : ByteArray) : List ByteArray := if sfB s = true then fieldsF s else []
theorem sf_not {s : ByteArray} (h : ¬ sfOk s) : sfV s = [] ∧ sfB s = false := by
  have : sfB s = false := @decide_eq_false _ (Classical.propDecidable _) h
  exact ⟨by unfold sfV; rw [this]; rfl, this⟩
theorem sf_yes {s : ByteArray} (h : sfOk s) : sfV s = fieldsF s ∧ sfB s = true := by
  have : sfB s = true := @decide_eq_true _ (Classical.propDecidable _) h
  exact ⟨by unfold sfV; rw [this]; rfl, this⟩
theorem sfV_length (s : ByteArray) : (sfV s).length ≤ 24 := by
  by_cases h : sfOk s
  · rw [(sf_yes h).1]; exact h.2.2
  · rw [(sf_not h).1]; exact Nat.zero_le _
theorem ret_tup2 {v : Value} {x y : Bool} (h : x = y) : Ending.returned (.tuple #[v, .bool x]) = .returned (.tuple #[v, .bool y]) := by rw [h]
theorem print_bad {c : UInt8} (h : printB c = false) : (c.toNat : Int) < 32 ∨ 126 < (c.toNat : Int) := by
  unfold printB at h
  rw [Bool.and_eq_false_iff] at h
  rcases h with h | h
  · exact .inl (by have := of_decide_eq_false h; omega)
  · exact .inr (by have := of_decide_eq_false h; omega)
theorem print_good {c : UInt8} (h : printB c = true) : 32 ≤ (c.toNat : Int) ∧ (c.toNat : Int) ≤ 126 := by unfold printB at h; simpa using h
theorem blankB {c : UInt8} (h : c = 32) : ((c.toNat : Int) == 32) = true := by rw [h]; rfl
theorem blankNB {c : UInt8} (h : c ≠ 32) : ((c.toNat : Int) == 32) = false := by
  rw [beq_eq_false_iff_ne]; intro e; exact h (UInt8.toNat_inj.1 (by show c.toNat = 32; omega))
theorem blankNE {c : UInt8} (h : c = 32) : ((c.toNat : Int) != 32) = false := by rw [h]; rfl
theorem blankNNE {c : UInt8} (h : c ≠ 32) : ((c.toNat : Int) != 32) = true := by
  rw [bne_iff_ne]; intro e; exact h (UInt8.toNat_inj.1 (by show c.toNat = 32; omega))
set_option maxHeartbeats 1000000 in
theorem s_splitFields (s : ByteArray) (hs : s.size ≤ maxLen) (w : World) :
    Calls Tryd.prog 57 #[.string s] w fun e w' => (∃ v, e = .returned (.tuple #[v, .bool (sfB s)]) ∧ w'.ownsRow w.heap.size 9 1 v (sfV s).length (strCells (sfV s))) ∧ Below w.heap.size w w' := by
  obtain ⟨i0, hi, hz0, hz1, hz2⟩ := info_parts Tryd.infoStr
  unfold maxLen at hs
  by_cases hbig : 600 < (s.size : Int)
  · have HN := hide (sf_not (s := s) (fun h => by have := h.1; omega))
    go_enter Tryd.func57, Tryd.ntmps57
    go_wp2_with fail
    go_ret2
    refine ⟨⟨_, ret_tup2 HN.out.2.symm, ?_⟩, (Below.refl _ _).alloc (Nat.le_refl _) _⟩
    rw [HN.out.1]; exact World.ownsRow_lit w #[] 0 (Nat.le_refl _) (Nat.zero_le _) rfl
  have hsm : (s.size : Int) ≤ 600 := by omega
  go_enter Tryd.func57, Tryd.ntmps57
  go_wp2_with fail
  clear hbig
  go_loopw [4, 5, 6] (fun v b i wr => ∃ (j q : Nat) (acc : List ByteArray), q ≤ s.size + 1 ∧ j ≤ q ∧ i = .int .i64 q ∧ b = .int .i64 j ∧ acc.length ≤ q ∧ (q ≤ s.size → fieldsF s = acc ++ fldFrom s j q) ∧ (q = s.size + 1 → fieldsF s = acc) ∧ (s.data.toList.take q).all printB = true ∧ wr.ownsRow w.heap.size 9 1 v acc.length (strCells acc) ∧ Below w.heap.size w wr) (fun _ _ i _ => s.size + 1 - (intOf i).toNat)
  case atStart => exact ⟨0, 0, [], Nat.zero_le _, Nat.le_refl _, rfl, rfl, Nat.zero_le _, fun _ => rfl, fun h => by omega, rfl, World.ownsRow_lit w #[] 0 (Nat.le_refl _) (Nat.zero_le _) rfl, (Below.refl _ _).alloc (Nat.le_refl _) _⟩
  case round =>
    obtain ⟨j, q, acc, hq, hjq, rfl, rfl, hacc, he, he2, ha, hown, hb⟩ := hrel
    have HE := hide he
    have HE2 := hide he2
    have HA := hide ha
    have HO := hide hown
    have HB := hide hb
    clear he he2 ha hown hb
    by_cases hqs : q < s.size
    · cases hc : printB s[q]
      · have HN := hide (sf_not (s := s) (fun h => by have := List.all_eq_true.1 h.2.1 _ (getElem_mem_toList s q hqs); rw [hc] at this; cases this))
        rcases print_bad hc with hcc | hcc
        all_goals clear hc
        all_goals go_wp2_with fail
        all_goals go_ret2
        all_goals refine ⟨⟨_, ret_tup2 HN.out.2.symm, ?_⟩, HB.out.alloc HB.out.size _⟩
        all_goals rw [HN.out.1]; exact World.ownsRow_lit wr #[] 0 HB.out.size (Nat.zero_le _) rfl
      · have hcc := print_good hc
        have HP : Hid ((s.data.toList.take (q + 1)).all printB = true) := by show _ = _; rw [take_snoc s q hqs, List.all_append, HA.out]; simpa using hc
        clear hc
        by_cases hbl : s[q] = 32
        · have z := blankNE hbl
          by_cases hlt : j < q
          · have HN : Hid (fieldsF s = (acc ++ [s.extract j q]) ++ fldFrom s (q + 1) (q + 1)) := by show _ = _; rw [HE.out (by omega), fld_blank s j q hqs hbl, if_pos hlt]; simp
            have hsn := hide (strCells_snoc acc (s.extract j q))
            clear hbl
            go_wp2_with (first | (at_builtin; refine wpList_app _ rfl (.tmp 48) (.tmp 53) _ rfl w.heap.size 9 i0 _ 1 16 Tryd.underlying28 hi hz0 hz1 hz2 rfl (by decide) u4 _ _ rfl HO.out 1 [.string (s.extract j q)] rfl ?c1 ?c2 ?c3 ?c4 ?c5 ?_) | fail)
            try case c1 => rfl
            case c2 => first | rfl | (intro u hu; obtain rfl := List.mem_singleton.1 hu; rfl)
            case c3 => omega
            try case c4 => decide
            case c5 => exact HB.out.size
            intro v' w3 hown3 hb3 _ _
            rw [← hsn.out] at hown3
            have HO3 := hide hown3
            have HB3 := hide (HB.out.trans hb3)
            clear hown3 hb3
            go_wp2_with fail
            go_roundw
            case rel => exact ⟨q + 1, q + 1, acc ++ [s.extract j q], by omega, by omega, by go_num, by go_num, by simp; omega, fun _ => HN.out, fun h => by omega, HP.out, by simpa using HO3.out, HB3.out⟩
            case measure => simp [intOf]; omega
          · have HN : Hid (fieldsF s = acc ++ fldFrom s (q + 1) (q + 1)) := by show _ = _; rw [HE.out (by omega), fld_blank s j q hqs hbl, if_neg hlt]; rfl
            clear hbl
            go_wp2_with fail
            go_roundw
            case rel => exact ⟨q + 1, q + 1, acc, by omega, by omega, by go_num, by go_num, by omega, fun _ => HN.out, fun h => by omega, HP.out, HO.out, HB.out⟩
            case measure => simp [intOf]; omega
        · have HN : Hid (fieldsF s = acc ++ fldFrom s j (q + 1)) := by show _ = _; rw [HE.out (by omega), fld_skip s j q hqs hbl]
          have z := blankNNE hbl
          clear hbl
          go_wp2_with fail
          go_roundw
          case rel => exact ⟨j, q + 1, acc, by omega, by omega, by go_num, rfl, by omega, fun _ => HN.out, fun h => by omega, HP.out, HO.out, HB.out⟩
          case measure => simp [intOf]; omega
    · by_cases hqe : q = s.size
      · have HP : Hid ((s.data.toList.take (q + 1)).all printB = true) := by have := HA.out; rw [take_all s q (by omega)] at this; show _ = _; rw [take_all s (q + 1) (by omega)]; exact this
        have hle : (q : Int) ≤ (s.size : Int) := by omega
        by_cases hlt : j < q
        · have HN : Hid (fieldsF s = acc ++ [s.extract j q]) := by show _ = _; rw [HE.out (by omega), fld_end s j q hqs, if_pos hlt]
          have hsn := hide (strCells_snoc acc (s.extract j q))
          have HQE := hide hqe
          clear hqe
          go_wp2_with (first | (at_builtin; refine wpList_app _ rfl (.tmp 48) (.tmp 53) _ rfl w.heap.size 9 i0 _ 1 16 Tryd.underlying28 hi hz0 hz1 hz2 rfl (by decide) u4 _ _ rfl HO.out 1 [.string (s.extract j q)] rfl ?d1 ?d2 ?d3 ?d4 ?d5 ?_) | fail)
          try case d1 => rfl
          case d2 => first | rfl | (intro u hu; obtain rfl := List.mem_singleton.1 hu; rfl)
          case d3 => omega
          try case d4 => decide
          case d5 => exact HB.out.size
          intro v' w3 hown3 hb3 _ _
          rw [← hsn.out] at hown3
          have HO3 := hide hown3
          have HB3 := hide (HB.out.trans hb3)
          clear hown3 hb3
          go_wp2_with fail
          go_roundw
          case rel => exact ⟨q + 1, q + 1, acc ++ [s.extract j q], by omega, by omega, by go_num, by go_num, by simp; omega, fun h => by have := HQE.out; omega, fun _ => HN.out, HP.out, by simpa using HO3.out, HB3.out⟩
          case measure => simp [intOf]; omega
        · have HN : Hid (fieldsF s = acc) := by show _ = _; rw [HE.out (by omega), fld_end s j q hqs, if_neg hlt, List.append_nil]
          have HQE := hide hqe
          clear hqe
          go_wp2_with fail
          go_roundw
          case rel => exact ⟨q + 1, q + 1, acc, by omega, by omega, by go_num, by go_num, by omega, fun h => by have := HQE.out; omega, fun _ => HN.out, HP.out, HO.out, HB.out⟩
          case measure => simp [intOf]; omega
      · have HF : Hid (fieldsF s = acc) := HE2.out (by omega)
        have HP : Hid (s.data.toList.all printB = true) := by have := HA.out; rwa [take_all s q (by omega)] at this
        have hgt : ¬ (q : Int) ≤ (s.size : Int) := by omega
        obtain ⟨A, c, hv, _, _⟩ := Arr.of_own HO.out
        subst hv
        by_cases h24 : 24 < (acc.length : Int)
        · have HN := hide (sf_not (s := s) (fun h => by have := h.2.2; rw [HF.out] at this; omega))
          go_wp2_with fail
          go_ret2
          refine ⟨⟨_, ret_tup2 HN.out.2.symm, ?_⟩, HB.out.alloc HB.out.size _⟩
          rw [HN.out.1]; exact World.ownsRow_lit wr #[] 0 HB.out.size (Nat.zero_le _) rfl
        · have HN := hide (sf_yes (s := s) ⟨by omega, HP.out, by rw [HF.out]; omega⟩)
          go_wp2_with fail
          go_ret2
          refine ⟨⟨_, ret_tup2 HN.out.2.symm, ?_⟩, HB.out⟩
          rw [HN.out.1, HF.out]; exact HO.out
end Go.Proofs.YteghjebbeclanaaDoor
