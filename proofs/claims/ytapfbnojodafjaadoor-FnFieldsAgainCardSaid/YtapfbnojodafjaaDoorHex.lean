import Derived.Test.YtapfbnojodafjaaDoorMem
import Derived.Test.YtapfbnojodafjaaDoorT2
namespace Go.Proofs.YtapfbnojodafjaaDoor
open Go.RowKit
set_option maxRecDepth 100000

def hexD (n : Nat) : UInt8 := if n < 10 then UInt8.ofNat (48 + n) else UInt8.ofNat (87 + n)
def hexL (l : List UInt8) : List UInt8 := l.flatMap fun b => [hexD (b.toNat / 16), hexD (b.toNat % 16)]
theorem hexL_length (l : List UInt8) : (hexL l).length = 2 * l.length := by
  induction l with
  | nil => rfl
  | cons b l ih => simp only [hexL, List.flatMap_cons, List.length_append, List.length_cons, List.length_nil] at ih ⊢; omega
theorem hexL_snoc (l : List UInt8) (b : UInt8) : hexL (l ++ [b]) = hexL l ++ [hexD (b.toNat / 16), hexD (b.toNat % 16)] := by simp [hexL]
theorem hexD_toNat (n : Nat) (h : n < 16) : ((hexD n).toNat : Int) = if n < 10 then 48 + n else 87 + n := by
  unfold hexD; split <;> simp <;> omega

theorem Tryd.info8 : (Tryd.prog.info? 5).map (fun i => (i.zero, i.size, i.bytes)) = some (some (.int .u8 0), 1, 1) := by kernel_rfl
def digits16 : List UInt8 := [48, 49, 50, 51, 52, 53, 54, 55, 56, 57, 97, 98, 99, 100, 101, 102]
theorem digits16_at (n : Nat) (h : n < 16) : digits16.getD n 0 = hexD n := by
  have : n = 0 ∨ n = 1 ∨ n = 2 ∨ n = 3 ∨ n = 4 ∨ n = 5 ∨ n = 6 ∨ n = 7 ∨ n = 8 ∨ n = 9 ∨ n = 10 ∨ n = 11 ∨ n = 12 ∨ n = 13 ∨ n = 14 ∨ n = 15 := by omega
  rcases this with rfl | rfl | rfl | rfl | rfl | rfl | rfl | rfl | rfl | rfl | rfl | rfl | rfl | rfl | rfl | rfl <;> decide

def encHexF (l : List UInt8) : List UInt8 := if l.length ≤ 20000 then hexL l else []
def encHexB (l : List UInt8) : Bool := decide (l.length ≤ 20000)
theorem ret_strbool {a b : List UInt8} {x y : Bool} (h : a = b) (h' : x = y) : Ending.returned (.tuple #[.string ⟨a.toArray⟩, .bool x]) = .returned (.tuple #[.string ⟨b.toArray⟩, .bool y]) := by rw [h, h']
theorem u8_and_15 (b : UInt8) : bits .and .u8 (b.toNat : Int) 15 = (b.toNat : Int) % 16 := by
  have h := u8_and_nat b.toNat 15 b.toNat_lt (by omega)
  have e : b.toNat &&& 15 = b.toNat % 16 := nat_mask4 _
  rw [e] at h
  exact h
theorem hex_step (s : ByteArray) (k : Nat) (h : k < s.size) : hexL (s.data.toList.take (k + 1)) = hexL (s.data.toList.take k) ++ [hexD (s[k].toNat / 16), hexD (s[k].toNat % 16)] := by
  rw [take_snoc s k h, hexL_snoc]
theorem dig_at (n : Nat) (h : n < 16) (h' : n < (({ data := #[48, 49, 50, 51, 52, 53, 54, 55, 56, 57, 97, 98, 99, 100, 101, 102] } : ByteArray)).size) :
    ({ data := #[48, 49, 50, 51, 52, 53, 54, 55, 56, 57, 97, 98, 99, 100, 101, 102] } : ByteArray)[n] = hexD n := by
  have : n = 0 ∨ n = 1 ∨ n = 2 ∨ n = 3 ∨ n = 4 ∨ n = 5 ∨ n = 6 ∨ n = 7 ∨ n = 8 ∨ n = 9 ∨ n = 10 ∨ n = 11 ∨ n = 12 ∨ n = 13 ∨ n = 14 ∨ n = 15 := by omega
  rcases this with rfl | rfl | rfl | rfl | rfl | rfl | rfl | rfl | rfl | rfl | rfl | rfl | rfl | rfl | rfl | rfl <;> rfl
set_option maxHeartbeats 400000 in
theorem i_encodeHex (s : ByteArray) (hs : s.size ≤ maxLen) (w : World) :
    Calls Tryd.prog 21 #[.string s] w fun e w' => e = .returned (.tuple #[.string ⟨(encHexF s.data.toList).toArray⟩, .bool (encHexB s.data.toList)]) ∧ Below w.heap.size w w' := by
  unfold maxLen at hs
  obtain ⟨i0, hi, hz0, hz1, hz2⟩ := info_parts Tryd.info8
  by_cases hbig : s.size ≤ 20000
  · have hfin : Hid (encHexF s.data.toList = hexL s.data.toList ∧ encHexB s.data.toList = true) := ⟨by unfold encHexF; rw [len_toList, if_pos hbig], by unfold encHexB; rw [len_toList, decide_eq_true hbig]⟩
    go_enter Tryd.func21, Tryd.ntmps21
    go_wp2_with (at_make; refine wpList_make_own _ rfl _ _ 24 rfl w.heap.size 5 i0 (.int .u8 0) 1 Tryd.underlying24 hi hz0 hz1 _ _ _ (2 * s.size) rfl rfl ?c1 ?c2 ?c3 ?c4 ?_)
    case c1 => omega
    case c2 => rw [hz2]; omega
    case c3 => unfold maxLen; omega
    case c4 => exact Nat.le_refl _
    intro w1 hown1 hg1
    have hb1 : Below w.heap.size w w1 := (Below.refl _ _).grown hg1 (Nat.le_refl _) (by simp)
    go_wp2
    go_loopw [4, 5] (fun v i wr => ∃ k : Nat, k ≤ s.size ∧ i = .int .i64 k ∧ wr.ownsRow w.heap.size 5 1 v (2 * k) (bcells (hexL (s.data.toList.take k))) ∧ Below w.heap.size w wr) (fun _ i _ => s.size - (intOf i).toNat)
    case atStart => exact ⟨0, Nat.zero_le _, rfl, hown1, hb1⟩
    case round =>
      obtain ⟨k, hk, rfl, hown, hb⟩ := hrel
      have HO := hide hown
      have HB := hide hb
      clear hown hb hown1 hb1 hg1
      by_cases hlt : k < s.size
      · have hq : s[k].toNat < 256 := s[k].toNat_lt
        have q0 : 0 ≤ (s[k].toNat : Int) / 16 := by omega
        have q1 : (s[k].toNat : Int) / 16 < 16 := by omega
        have ha := u8_and_15 s[k]
        have a0 : 0 ≤ (s[k].toNat : Int) % 16 := by omega
        have a1 : (s[k].toNat : Int) % 16 < 16 := by omega
        have hstep := hide (hex_step s k hlt)
        go_wp2
        go_region_law (refine step_app wr.drew rfl (.tmp 19) (.tmp 30) _ rfl w.heap.size 5 i0 (.int .u8 0) 1 1 Tryd.underlying24 hi hz0 hz1 hz2 rfl (by decide) u4 _ _ rfl HO.out 2 _ rfl rfl (by intro u hu; simp at hu; rcases hu with rfl | rfl <;> rfl) (by omega) (by decide) HB.out.size ?_; intro v' w3 hown3 hb3 _ _)
        all_goals
          have hown4 : Hid (w3.ownsRow w.heap.size 5 1 v' (2 * k + 2) (bcells (hexL (s.data.toList.take (k + 1))))) := by
            rw [hstep.out, bcells_append]
            rw [dig_at ((s[k].toNat : Int) / 16).toNat (by omega), dig_at ((s[k].toNat : Int) % 16).toNat (by omega), show ((s[k].toNat : Int) / 16).toNat = s[k].toNat / 16 by omega, show ((s[k].toNat : Int) % 16).toNat = s[k].toNat % 16 by omega] at hown3
            exact hown3
          have hb4 := hide (HB.out.drew.trans hb3)
          clear hown3 hb3
          go_wp2
          go_roundw
          case rel => exact ⟨k + 1, by omega, by go_num, hown4.out, hb4.out⟩
          case measure => simp [intOf]; omega
      · have hconv := conv_own (P := Tryd.prog) Tryd.underlying24 Tryd.underlying5 HO.out 9 Tryd.underlying9
        have hend := hide (take_all s k (by omega))
        go_wp2
        go_ret2
        refine ⟨ret_strbool ?_ hfin.out.2.symm, HB.out⟩
        rw [hfin.out.1, hend.out]
  · have hfin : Hid (encHexF s.data.toList = [] ∧ encHexB s.data.toList = false) := ⟨by unfold encHexF; rw [len_toList, if_neg hbig], by unfold encHexB; rw [len_toList, decide_eq_false hbig]⟩
    go_enter Tryd.func21, Tryd.ntmps21
    go_wp2_with fail
    go_ret2
    exact ⟨ret_strbool hfin.out.1.symm hfin.out.2.symm, Below.refl _ _⟩

set_option maxHeartbeats 400000 in
theorem s_figure (x : Int) (h : 0 ≤ x ∧ x < 16) (w : World) :
    Calls Tryd.prog 68 #[.int .i64 x] w fun e w' => e = .returned (.int .u8 (((hexD x.toNat).toNat : Nat) : Int)) ∧ w = w' := by
  have hd := hide (hexD_toNat x.toNat (by omega))
  obtain ⟨h0, h1⟩ := h
  go_enter Tryd.func68, Tryd.ntmps68
  go_wp2
  all_goals go_ret
  all_goals refine ⟨ret_int ?_, rfl⟩
  all_goals rw [hd.out]
  all_goals split <;> omega
end Go.Proofs.YtapfbnojodafjaaDoor
