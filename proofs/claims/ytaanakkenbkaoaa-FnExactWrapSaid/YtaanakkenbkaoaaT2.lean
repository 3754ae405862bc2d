import Derived.Test.YtaanakkenbkaoaaT1
namespace Go.Proofs.Ytaanakkenbkaoaa
open Go.RowKit

def lower (c : UInt8) : Bool := decide (97 ≤ (c.toNat : Int) ∧ (c.toNat : Int) ≤ 122)
def nameOkF (l : List UInt8) : Bool := l.all lower && btw l.length 1 8

theorem len_toList (s : ByteArray) : s.data.toList.length = s.size := rfl
theorem take_snoc (s : ByteArray) (k : Nat) (h : k < s.size) : s.data.toList.take (k + 1) = s.data.toList.take k ++ [s[k]] := by
  rw [List.take_succ_eq_append_getElem (by simpa using h)]; rfl
theorem take_all (s : ByteArray) (k : Nat) (h : s.size ≤ k) : s.data.toList.take k = s.data.toList := List.take_of_length_le (by rw [len_toList]; exact h)
theorem getElem_mem_toList (s : ByteArray) (k : Nat) (h : k < s.size) : s[k] ∈ s.data.toList := by
  have : s.data.toList[k]'(by rw [len_toList]; exact h) ∈ s.data.toList := List.getElem_mem _
  exact this

theorem nameOk_bad (s : ByteArray) (k : Nat) (h : k < s.size) (hc : lower s[k] = false) : nameOkF s.data.toList = false := by
  unfold nameOkF
  have : s.data.toList.all lower = false := by
    rw [List.all_eq_false]
    exact ⟨_, getElem_mem_toList s k h, by simp [hc]⟩
  rw [this]; rfl
theorem nameOk_step (s : ByteArray) (k : Nat) (h : k < s.size) (ha : (s.data.toList.take k).all lower = true) (hc : lower s[k] = true) : (s.data.toList.take (k + 1)).all lower = true := by
  rw [take_snoc s k h, List.all_append, ha]; simp [hc]
theorem nameOk_end (s : ByteArray) (k : Nat) (h : s.size ≤ k) (ha : (s.data.toList.take k).all lower = true) : nameOkF s.data.toList = btw s.size 1 8 := by
  rw [take_all s k h] at ha
  unfold nameOkF; rw [ha, len_toList]; rfl

set_option maxHeartbeats 400000 in
theorem i_nameOk (s : ByteArray) (hs : s.size ≤ maxLen) (w : World) :
    Calls Try.prog 17 #[.string s] w fun e w' => e = .returned (.bool (nameOkF s.data.toList)) ∧ w = w' := by
  unfold maxLen at hs
  go_enter Try.func17, Try.ntmps17
  go_wp2
  go_loop [3] (fun i => ∃ k : Nat, k ≤ s.size ∧ i = .int .i64 k ∧ (s.data.toList.take k).all lower = true) (fun i => s.size - (intOf i).toNat)
  case atStart => exact ⟨0, Nat.zero_le _, rfl, rfl⟩
  case round =>
    obtain ⟨k, hk, rfl, ha⟩ := hrel
    have HA := hide ha
    clear ha
    by_cases hlt : k < s.size
    · have hbad := hide (nameOk_bad s k hlt)
      have hgood := hide (nameOk_step s k hlt HA.out)
      go_wp2
      · go_ret; exact ⟨ret_bool (by rw [hbad.out (by simp [lower]; omega)]), rfl⟩
      · go_round
        case rel => exact ⟨k + 1, by omega, by go_num, hgood.out (by simp [lower]; omega)⟩
        case measure => simp [intOf]; omega
      · go_ret; exact ⟨ret_bool (by rw [hbad.out (by simp [lower]; omega)]), rfl⟩
    · have hend := hide (nameOk_end s k (by omega) HA.out)
      go_wp2_with (go_at_call 22; refine (i_between _ _ _ _).mono ?_; rintro e w' ⟨rfl, rfl⟩)
      go_ret
      exact ⟨ret_bool hend.out.symm, rfl⟩

set_option maxHeartbeats 400000 in
theorem s_nameOk (s : ByteArray) (hs : s.size ≤ maxLen) (w : World) :
    Calls Try.prog 16 #[.string s] w fun e w' => e = .returned (.bool (nameOkF s.data.toList)) ∧ w = w' := by
  unfold maxLen at hs
  go_enter Try.func16, Try.ntmps16
  go_wp2
  go_loop [3] (fun i => ∃ k : Nat, k ≤ s.size ∧ i = .int .i64 k ∧ (s.data.toList.take k).all lower = true) (fun i => s.size - (intOf i).toNat)
  case atStart => exact ⟨0, Nat.zero_le _, rfl, rfl⟩
  case round =>
    obtain ⟨k, hk, rfl, ha⟩ := hrel
    have HA := hide ha
    clear ha
    by_cases hlt : k < s.size
    · have hbad := hide (nameOk_bad s k hlt)
      have hgood := hide (nameOk_step s k hlt HA.out)
      go_wp2
      · go_ret; exact ⟨ret_bool (by rw [hbad.out (by simp [lower]; omega)]), rfl⟩
      · go_round
        case rel => exact ⟨k + 1, by omega, by go_num, hgood.out (by simp [lower]; omega)⟩
        case measure => simp [intOf]; omega
      · go_ret; exact ⟨ret_bool (by rw [hbad.out (by simp [lower]; omega)]), rfl⟩
    · have hend := hide (nameOk_end s k (by omega) HA.out)
      go_wp2_with (go_at_call 21; refine (s_l01In _ _ _ _).mono ?_; rintro e w' ⟨rfl, rfl⟩)
      go_ret
      exact ⟨ret_bool hend.out.symm, rfl⟩

set_option maxHeartbeats 400000 in
theorem l_toBuild (f i : Int) (x y : Bool) (w : World) :
    Calls Try.prog 14 #[.agg #[.int .i64 f, .int .i64 i, .bool x, .bool y]] w fun e w' => e = .returned (.agg #[.int .i64 f, .int .i64 i, .bool x, .bool y]) ∧ Below w.heap.size w w' := by
  go_enter Try.func14, Try.ntmps14
  go_wp2
  exact bodyPost_ret (v := .agg #[.int .i64 f, .int .i64 i, .bool x, .bool y]) (by simp [results, Try.results14, go_sem]) rfl ⟨rfl, by repeat (first | exact Below.refl _ _ | refine Below.alloc ?_ (by first | (simp; done) | (simp; omega)) _ | refine Below.drew ?_ | refine Below.setCell ?_ (by first | (simp; done) | (simp; omega)) _)⟩
set_option maxHeartbeats 400000 in
theorem l_big (A : Option Addr) (n c : Nat) (hn : n ≤ maxLen) (w : World) :
    Calls Try.prog 18 #[.slice A n c] w fun e w' => e = .returned (.bool (decide (1048576 < n))) ∧ w = w' := by
  unfold maxLen at hn
  go_enter Try.func18, Try.ntmps18
  go_wp2
  go_ret
  exact ⟨ret_bool (by simp; omega), rfl⟩
set_option maxHeartbeats 400000 in
theorem l_at (A : Option Addr) (n c : Nat) (i : Int) (hi : 0 ≤ i ∧ i ≤ 100) (hn : n ≤ maxLen) (w : World)
    (h : 0 < n → ∃ (ad : Addr) (f : Nat → Int), A = some ad ∧ ∀ i, i < n → w.cell? (ad.add i) = some (.int .u8 (f i)) ∧ 0 ≤ f i ∧ f i ≤ 255) :
    Calls Try.prog 19 #[.slice A n c, .int .i64 i] w fun e w' => (∃ a : Int, e = .returned (.int .i64 a) ∧ 0 ≤ a ∧ a ≤ 255) ∧ w = w' := by
  unfold maxLen at hn
  rcases Nat.eq_zero_or_pos n with h0 | h0
  · subst h0
    go_enter Try.func19, Try.ntmps19
    go_wp2
    go_ret
    exact ⟨⟨0, rfl, by omega, by omega⟩, rfl⟩
  · obtain ⟨ad, f, rfl, hc⟩ := h h0
    clear h
    have m0 : 0 ≤ (i * 5 + 1) % (n : Int) := Int.emod_nonneg _ (by omega)
    have m1 : (i * 5 + 1) % (n : Int) < n := Int.emod_lt_of_pos _ (by omega)
    obtain ⟨hcell, b0, b1⟩ := hc ((i * 5 + 1) % (n : Int)).toNat (by omega)
    have hn0 : ((n : Int) == 0) = false := by simp; omega
    clear hc
    go_enter Try.func19, Try.ntmps19
    go_wp2
    go_ret
    exact ⟨⟨_, rfl, b0, b1⟩, rfl⟩
end Go.Proofs.Ytaanakkenbkaoaa
