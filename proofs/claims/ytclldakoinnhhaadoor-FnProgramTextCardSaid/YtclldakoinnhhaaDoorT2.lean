import Derived.Test.YtclldakoinnhhaaDoorT1
namespace Go.Proofs.YtclldakoinnhhaaDoor
open Go.RowKit

def lower (c : UInt8) : Bool := decide (97 ≤ (c.toNat : Int) ∧ (c.toNat : Int) ≤ 122)
def nameOkF (l : List UInt8) : Bool := l.all lower && btw l.length 1 8

theorem len_toList (s : ByteArray) : s.data.toList.length = s.size := rfl
theorem take_snoc (s : ByteArray) (k : Nat) (h : k < s.size) : s.data.toList.take (k + 1) = s.data.toList.take k ++ [s[k]] := by
  rw [List.take_succ_eq_append_getElem (by simpa using h)]; rfl
theorem take_all (s : ByteArray) (k : Nat) (h : s.size ≤ k) : s.data.toList.take k = s.data.toList := List.take_of_length_le (by rw [len_toList]; exact h)
theorem getElem_mem_toList (s : ByteArray) (k : Nat) (h : k < s.size) : s[k] ∈ s.data.toList := by
  have : s.data.toList[k]'(by rw [len_toList]; exact h) ∈ s.data.toList := List.getElem_mem _
  exact this

theorem getD_toList (s : ByteArray) (k : Nat) (h : k < s.size) : s.data.toList.getD k 0 = s[k] := by
  rw [List.getD_eq_getElem?_getD, List.getElem?_eq_getElem (by rw [len_toList]; exact h)]; rfl
theorem nameOk_bad (s : ByteArray) (k : Nat) (h : k < s.size) (hc : lower s[k] = false) : nameOkF s.data.toList = false := by
  unfold nameOkF
  have : s.data.toList.all lower = false := by
    rw [List.all_eq_false]
    exact ⟨_, getElem_mem_toList s k h, by simp [hc]⟩
  rw [this]; rfl
theorem nameOk_step (s : ByteArray) (k : Nat) (h : k < s.size) (ha : (s.data.toList.take k).all lower = true) (hc : lower s[k] = true) : (s.data.toList.take (k + 1)).all lower = true := by
  rw [take_snoc s k h, List.all_append, ha]; simp [hc]
theorem nameOk_end (s : ByteArray) (k : Nat) (h : s.size ≤ k) (ha : (s.data.toList.take k).all lower = true) : nameOkF s.data.toList = btw s.size 1 8 := by
  rw [take_all s k h] at ha
  unfold nameOkF; rw [ha, len_toList]; rfl

set_option maxHeartbeats 400000 in
theorem i_nameOk (s : ByteArray) (hs : s.size ≤ maxLen) (w : World) :
    Calls Tryd.prog 35 #[.string s] w fun e w' => e = .returned (.bool (nameOkF s.data.toList)) ∧ w = w' := by
  unfold maxLen at hs
  go_enter Tryd.func35, Tryd.ntmps35
  go_wp2
  go_loop [3] (fun i => ∃ k : Nat, k ≤ s.size ∧ i = .int .i64 k ∧ (s.data.toList.take k).all lower = true) (fun i => s.size - (intOf i).toNat)
  case atStart => exact ⟨0, Nat.zero_le _, rfl, rfl⟩
  case round =>
    obtain ⟨k, hk, rfl, ha⟩ := hrel
    have HA := hide ha
    clear ha
    by_cases hlt : k < s.size
    · have hbad := hide (nameOk_bad s k hlt)
      have hgood := hide (nameOk_step s k hlt HA.out)
      go_wp2
      · go_ret; exact ⟨ret_bool (by rw [hbad.out (by simp [lower]; omega)]), rfl⟩
      · go_round
        case rel => exact ⟨k + 1, by omega, by go_num, hgood.out (by simp [lower]; omega)⟩
        case measure => simp [intOf]; omega
      · go_ret; exact ⟨ret_bool (by rw [hbad.out (by simp [lower]; omega)]), rfl⟩
    · have hend := hide (nameOk_end s k (by omega) HA.out)
      go_wp2_with (go_at_call 26; refine (i_between _ _ _ _).mono ?_; rintro e w' ⟨rfl, rfl⟩)
      go_ret
      exact ⟨ret_bool hend.out.symm, rfl⟩

set_option maxHeartbeats 400000 in
theorem l_big (A : Option Addr) (n c : Nat) (hn : n ≤ maxLen) (w : World) :
    Calls Tryd.prog 5 #[.slice A n c] w fun e w' => e = .returned (.bool (decide (1048576 < n))) ∧ w = w' := by
  unfold maxLen at hn
  go_enter Tryd.func5, Tryd.ntmps5
  go_wp2
  go_ret
  exact ⟨ret_bool (by simp; omega), rfl⟩
end Go.Proofs.YtclldakoinnhhaaDoor
