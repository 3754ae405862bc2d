import Derived.Test.YtcfjbaanahgpoaaRows
import Derived.Test.YtcfjbaanahgpoaaBase
namespace Go.Proofs.Ytcfjbaanahgpoaa
open Go.RowKit

set_option maxHeartbeats 400000 in
theorem i_wrap (a : Int) (w : World) :
    Calls Try.prog 107 #[.int .i64 a] w fun e w' => e = .returned (.int .i64 (wrap32 a)) ∧ w = w' := by
  go_enter Try.func107, Try.ntmps107
  go_wp2
  go_ret
  exact ⟨ret_int (by rw [wrap32_emod, wrap64_wrap32]), rfl⟩

set_option maxHeartbeats 400000 in
theorem s_wrap (a : Int) (w : World) :
    Calls Try.prog 106 #[.int .i64 a] w fun e w' => e = .returned (.int .i64 (wrap32 a)) ∧ w = w' := by
  have hb := and_mask32 a
  have h0 : 0 ≤ a % 4294967296 := by omega
  have h1 : a % 4294967296 < 4294967296 := by omega
  go_enter Try.func106, Try.ntmps106
  go_wp2
  all_goals go_ret
  all_goals exact ⟨ret_int (by unfold wrap32; omega), rfl⟩

def applyF (k a b : Int) : Int :=
  if k = 2 then wrap32 (wrap32 a + wrap32 b)
  else if k = 3 then wrap32 (wrap32 a - wrap32 b)
  else if k = 4 then wrap32 (wrap32 a * wrap32 b)
  else if k = 5 then (if wrap32 a < wrap32 b then 1 else 0)
  else if k = 6 then (if wrap32 a = wrap32 b then 1 else 0)
  else 0

theorem wrap32_wrap64 (a : Int) : wrap32 (wrap64 a) = wrap32 a := by unfold wrap32 wrap64; omega

set_option maxHeartbeats 400000 in
theorem i_apply (k a b : Int) (w : World) :
    Calls Try.prog 102 #[.int .i64 k, .int .i64 a, .int .i64 b] w fun e w' => e = .returned (.int .i64 (applyF k a b)) ∧ w = w' := by
  go_enter Try.func102, Try.ntmps102
  go_wp2_with (go_at_call 107; refine (i_wrap _ _).mono ?_; rintro e w' ⟨rfl, rfl⟩)
  all_goals go_ret
  all_goals refine ⟨ret_int ?_, rfl⟩
  all_goals simp_all [applyF, wrap32_wrap64]

def clampF (n a b : Int) : Int := if b < a ∨ n < a then a else if b < n then b else n


def btw (n a b : Int) : Bool := decide (a ≤ n ∧ n ≤ b)

set_option maxHeartbeats 400000 in
theorem i_between (n a b : Int) (w : World) :
    Calls Try.prog 32 #[.int .i64 n, .int .i64 a, .int .i64 b] w fun e w' => e = .returned (.bool (btw n a b)) ∧ w = w' := by
  go_enter Try.func32, Try.ntmps32
  go_wp2
  all_goals go_ret
  all_goals refine ⟨ret_bool ?_, rfl⟩
  all_goals simp [btw]
  all_goals omega

set_option maxHeartbeats 400000 in
theorem s_l01In (n a b : Int) (w : World) :
    Calls Try.prog 63 #[.int .i64 n, .int .i64 a, .int .i64 b] w fun e w' => e = .returned (.bool (btw n a b)) ∧ w = w' := by
  go_enter Try.func63, Try.ntmps63
  go_wp2
  all_goals go_ret
  all_goals refine ⟨ret_bool ?_, rfl⟩
  all_goals simp [btw]
  all_goals omega

set_option maxHeartbeats 400000 in
theorem i_buildOk (f i : Int) (x y : Bool) (w : World) :
    Calls Try.prog 27 #[.agg #[.int .i64 f, .int .i64 i, .bool x, .bool y]] w fun e w' => e = .returned (.bool (btw f 0 63 && btw i 0 3)) ∧ Below w.heap.size w w' := by
  go_enter Try.func27, Try.ntmps27
  go_wp2_with (go_at_call 32; refine (i_between _ _ _ _).mono ?_; rintro e w' ⟨rfl, rfl⟩)
  all_goals go_ret
  all_goals exact ⟨ret_bool (by simp_all), (Below.refl _ _).alloc (Nat.le_refl _) _⟩
end Go.Proofs.Ytcfjbaanahgpoaa
namespace Go.Proofs.Ytcfjbaanahgpoaa
open Go.RowKit

def lower (c : UInt8) : Bool := decide (97 ≤ (c.toNat : Int) ∧ (c.toNat : Int) ≤ 122)
def nameOkF (l : List UInt8) : Bool := l.all lower && btw l.length 1 8

theorem len_toList (s : ByteArray) : s.data.toList.length = s.size := rfl
theorem take_snoc (s : ByteArray) (k : Nat) (h : k < s.size) : s.data.toList.take (k + 1) = s.data.toList.take k ++ [s[k]] := by
  rw [List.take_succ_eq_append_getElem (by simpa using h)]; rfl
theorem take_all (s : ByteArray) (k : Nat) (h : s.size ≤ k) : s.data.toList.take k = s.data.toList := List.take_of_length_le (by rw [len_toList]; exact h)
theorem getElem_mem_toList (s : ByteArray) (k : Nat) (h : k < s.size) : s[k] ∈ s.data.toList := by
  have : s.data.toList[k]'(by rw [len_toList]; exact h) ∈ s.data.toList := List.getElem_mem _
  exact this

theorem getD_toList (s : ByteArray) (k : Nat) (h : k < s.size) : s.data.toList.getD k 0 = s[k] := by
  rw [List.getD_eq_getElem?_getD, List.getElem?_eq_getElem (by rw [len_toList]; exact h)]; rfl
theorem nameOk_bad (s : ByteArray) (k : Nat) (h : k < s.size) (hc : lower s[k] = false) : nameOkF s.data.toList = false := by
  unfold nameOkF
  have : s.data.toList.all lower = false := by
    rw [List.all_eq_false]
    exact ⟨_, getElem_mem_toList s k h, by simp [hc]⟩
  rw [this]; rfl
theorem nameOk_step (s : ByteArray) (k : Nat) (h : k < s.size) (ha : (s.data.toList.take k).all lower = true) (hc : lower s[k] = true) : (s.data.toList.take (k + 1)).all lower = true := by
  rw [take_snoc s k h, List.all_append, ha]; simp [hc]
theorem nameOk_end (s : ByteArray) (k : Nat) (h : s.size ≤ k) (ha : (s.data.toList.take k).all lower = true) : nameOkF s.data.toList = btw s.size 1 8 := by
  rw [take_all s k h] at ha
  unfold nameOkF; rw [ha, len_toList]; rfl

set_option maxHeartbeats 400000 in
theorem i_nameOk (s : ByteArray) (hs : s.size ≤ maxLen) (w : World) :
    Calls Try.prog 48 #[.string s] w fun e w' => e = .returned (.bool (nameOkF s.data.toList)) ∧ w = w' := by
  unfold maxLen at hs
  go_enter Try.func48, Try.ntmps48
  go_wp2
  go_loop [3] (fun i => ∃ k : Nat, k ≤ s.size ∧ i = .int .i64 k ∧ (s.data.toList.take k).all lower = true) (fun i => s.size - (intOf i).toNat)
  case atStart => exact ⟨0, Nat.zero_le _, rfl, rfl⟩
  case round =>
    obtain ⟨k, hk, rfl, ha⟩ := hrel
    have HA := hide ha
    clear ha
    by_cases hlt : k < s.size
    · have hbad := hide (nameOk_bad s k hlt)
      have hgood := hide (nameOk_step s k hlt HA.out)
      go_wp2
      · go_ret; exact ⟨ret_bool (by rw [hbad.out (by simp [lower]; omega)]), rfl⟩
      · go_round
        case rel => exact ⟨k + 1, by omega, by go_num, hgood.out (by simp [lower]; omega)⟩
        case measure => simp [intOf]; omega
      · go_ret; exact ⟨ret_bool (by rw [hbad.out (by simp [lower]; omega)]), rfl⟩
    · have hend := hide (nameOk_end s k (by omega) HA.out)
      go_wp2_with (go_at_call 32; refine (i_between _ _ _ _).mono ?_; rintro e w' ⟨rfl, rfl⟩)
      go_ret
      exact ⟨ret_bool hend.out.symm, rfl⟩

set_option maxHeartbeats 400000 in
theorem s_nameOk (s : ByteArray) (hs : s.size ≤ maxLen) (w : World) :
    Calls Try.prog 64 #[.string s] w fun e w' => e = .returned (.bool (nameOkF s.data.toList)) ∧ w = w' := by
  unfold maxLen at hs
  go_enter Try.func64, Try.ntmps64
  go_wp2
  go_loop [3] (fun i => ∃ k : Nat, k ≤ s.size ∧ i = .int .i64 k ∧ (s.data.toList.take k).all lower = true) (fun i => s.size - (intOf i).toNat)
  case atStart => exact ⟨0, Nat.zero_le _, rfl, rfl⟩
  case round =>
    obtain ⟨k, hk, rfl, ha⟩ := hrel
    have HA := hide ha
    clear ha
    by_cases hlt : k < s.size
    · have hbad := hide (nameOk_bad s k hlt)
      have hgood := hide (nameOk_step s k hlt HA.out)
      go_wp2
      · go_ret; exact ⟨ret_bool (by rw [hbad.out (by simp [lower]; omega)]), rfl⟩
      · go_round
        case rel => exact ⟨k + 1, by omega, by go_num, hgood.out (by simp [lower]; omega)⟩
        case measure => simp [intOf]; omega
      · go_ret; exact ⟨ret_bool (by rw [hbad.out (by simp [lower]; omega)]), rfl⟩
    · have hend := hide (nameOk_end s k (by omega) HA.out)
      go_wp2_with (go_at_call 63; refine (s_l01In _ _ _ _).mono ?_; rintro e w' ⟨rfl, rfl⟩)
      go_ret
      exact ⟨ret_bool hend.out.symm, rfl⟩

set_option maxHeartbeats 400000 in
theorem l_big (A : Option Addr) (n c : Nat) (hn : n ≤ maxLen) (w : World) :
    Calls Try.prog 7 #[.slice A n c] w fun e w' => e = .returned (.bool (decide (1048576 < n))) ∧ w = w' := by
  unfold maxLen at hn
  go_enter Try.func7, Try.ntmps7
  go_wp2
  go_ret
  exact ⟨ret_bool (by simp; omega), rfl⟩
end Go.Proofs.Ytcfjbaanahgpoaa
namespace Go.Proofs.Ytcfjbaanahgpoaa
open Go.RowKit
set_option maxHeartbeats 400000 in
theorem s_apply (k a b : Int) (w : World) :
    Calls Try.prog 96 #[.int .i64 k, .int .i64 a, .int .i64 b] w fun e w' => e = .returned (.int .i64 (applyF k a b)) ∧ w = w' := by
  go_enter Try.func96, Try.ntmps96
  go_wp2_with (go_at_call 106; refine (s_wrap _ _).mono ?_; rintro e w' ⟨rfl, rfl⟩)
  all_goals go_ret
  all_goals refine ⟨ret_int ?_, rfl⟩
  all_goals simp_all [applyF, wrap32_wrap64]
def opW (c : Int) : Nat :=
  if c = 0 then 4 else if c = 1 ∨ c = 2 ∨ c = 3 ∨ c = 4 ∨ c = 10 ∨ c = 11 ∨ c = 16 then 2 else if c = 12 ∨ c = 13 ∨ c = 14 ∨ c = 15 then 1 else 0
def opS (c : Int) : Bool := decide (c = 0 ∨ c = 1 ∨ c = 2 ∨ c = 3 ∨ c = 4 ∨ c = 10 ∨ c = 11)
def opSizeF (c : Int) : Int := if 0 ≤ c ∧ c ≤ 17 then opW c + 1 else 0
theorem ret_pair {a b : Int} {x y : Bool} (h : a = b) (h' : x = y) : Ending.returned (.tuple #[.int .i64 a, .bool x]) = .returned (.tuple #[.int .i64 b, .bool y]) := by rw [h, h']
set_option maxHeartbeats 400000 in
theorem i_argument (c : Int) (w : World) :
    Calls Try.prog 76 #[.int .i64 c] w fun e w' => e = .returned (.tuple #[.int .i64 (opW c), .bool (opS c)]) ∧ w = w' := by
  go_enter Try.func76, Try.ntmps76
  go_wp2
  all_goals go_ret2
  all_goals refine ⟨ret_pair ?_ ?_, rfl⟩
  all_goals simp_all [opW, opS]
set_option maxHeartbeats 400000 in
theorem s_width (c : Int) (w : World) :
    Calls Try.prog 46 #[.int .i64 c] w fun e w' => e = .returned (.tuple #[.int .i64 (opW c), .bool (opS c)]) ∧ w = w' := by
  go_enter Try.func46, Try.ntmps46
  go_wp2
  all_goals go_ret2
  all_goals refine ⟨ret_pair ?_ ?_, rfl⟩
  all_goals simp_all [opW, opS]
theorem opW_le (c : Int) : opW c ≤ 4 := by
  unfold opW
  repeat' split
  all_goals omega
set_option maxHeartbeats 400000 in
theorem i_opSize (c : Int) (w : World) :
    Calls Try.prog 74 #[.int .i64 c] w fun e w' => e = .returned (.int .i64 (opSizeF c)) ∧ w = w' := by
  have hw := opW_le c
  go_enter Try.func74, Try.ntmps74
  go_wp2_with (first | (go_at_call 32; refine (i_between _ _ _ _).mono ?_; rintro e w' ⟨rfl, rfl⟩) | (go_at_call 76; refine (i_argument _ _).mono ?_; rintro e w' ⟨rfl, rfl⟩))
  all_goals go_ret
  all_goals refine ⟨ret_int ?_, rfl⟩
  all_goals simp_all [opSizeF, btw]
  all_goals omega
set_option maxHeartbeats 400000 in
theorem s_opSize (c : Int) (w : World) :
    Calls Try.prog 47 #[.int .i64 c] w fun e w' => e = .returned (.int .i64 (opSizeF c)) ∧ w = w' := by
  have hw := opW_le c
  go_enter Try.func47, Try.ntmps47
  go_wp2_with (first | (go_at_call 63; refine (s_l01In _ _ _ _).mono ?_; rintro e w' ⟨rfl, rfl⟩) | (go_at_call 46; refine (s_width _ _).mono ?_; rintro e w' ⟨rfl, rfl⟩))
  all_goals go_ret
  all_goals refine ⟨ret_int ?_, rfl⟩
  all_goals simp_all [opSizeF, btw]
  all_goals omega
def tokOkF (k n : Int) (s : List UInt8) : Bool :=
  if k = 0 then btw n 0 999 && s.isEmpty
  else if k = 7 then btw n 0 4 && nameOkF s
  else if k = 1 then decide (n = 0) && nameOkF s
  else btw k 2 6 && decide (n = 0) && s.isEmpty
set_option maxHeartbeats 400000 in
theorem i_tokOk (k n : Int) (s : ByteArray) (hs : s.size ≤ maxLen) (w : World) :
    Calls Try.prog 97 #[.agg #[.int .i64 k, .int .i64 n, .string s]] w fun e w' => e = .returned (.bool (tokOkF k n s.data.toList)) ∧ Below w.heap.size w w' := by
  go_enter Try.func97, Try.ntmps97
  go_wp2_with (first | (go_at_call 32; refine (i_between _ _ _ _).mono ?_; rintro e w' ⟨rfl, rfl⟩) | (go_at_call 48; refine (i_nameOk _ hs _).mono ?_; rintro e w' ⟨rfl, rfl⟩))
  all_goals go_ret
  all_goals refine ⟨ret_bool ?_, by repeat (first | exact Below.refl _ _ | refine Below.alloc ?_ (by first | (simp; done) | (simp; omega)) _ | refine Below.drew ?_ | refine below_drewN ?_ _ | refine Below.setCell ?_ (by first | (simp; done) | (simp; omega)) _)⟩
  all_goals simp_all [tokOkF, ByteArray.toList_eq]
set_option maxHeartbeats 400000 in
theorem s_tokOk (k n : Int) (s : ByteArray) (hs : s.size ≤ maxLen) (w : World) :
    Calls Try.prog 99 #[.agg #[.int .i64 k, .int .i64 n, .string s]] w fun e w' => e = .returned (.bool (tokOkF k n s.data.toList)) ∧ Below w.heap.size w w' := by
  go_enter Try.func99, Try.ntmps99
  go_wp2_with (first | (go_at_call 63; refine (s_l01In _ _ _ _).mono ?_; rintro e w' ⟨rfl, rfl⟩) | (go_at_call 64; refine (s_nameOk _ hs _).mono ?_; rintro e w' ⟨rfl, rfl⟩))
  all_goals go_ret
  all_goals refine ⟨ret_bool ?_, by repeat (first | exact Below.refl _ _ | refine Below.alloc ?_ (by first | (simp; done) | (simp; omega)) _ | refine Below.drew ?_ | refine below_drewN ?_ _ | refine Below.setCell ?_ (by first | (simp; done) | (simp; omega)) _)⟩
  all_goals go_light
  all_goals simp_all [tokOkF, ByteArray.toList_eq, btw]
  all_goals first | (intros; omega) | (rw [if_neg (by omega), if_neg (by omega), if_neg (by omega)]; intros; omega)
def arityF (k n : Int) (s : List UInt8) : Int := if tokOkF k n s = false then -1 else if k = 7 then n else if k = 0 ∨ k = 1 then 0 else 2
set_option maxHeartbeats 400000 in
theorem i_arity (k n : Int) (s : ByteArray) (hs : s.size ≤ maxLen) (w : World) :
    Calls Try.prog 98 #[.agg #[.int .i64 k, .int .i64 n, .string s]] w fun e w' => e = .returned (.int .i64 (arityF k n s.data.toList)) ∧ Below w.heap.size w w' := by
  cases hok : tokOkF k n s.data.toList
  all_goals go_enter Try.func98, Try.ntmps98
  all_goals go_wp2_with fail
  all_goals refine (i_tokOk _ _ _ hs _).mono ?_
  all_goals rintro e w1 ⟨rfl, hb⟩
  all_goals obtain ⟨hc, hf⟩ := bcell hb
  all_goals have hz := hb.size
  all_goals go_wp2
  all_goals go_ret
  all_goals refine ⟨ret_int ?_, (((Below.refl _ _).alloc (Nat.le_refl _) _).trans (hb.mono (by simp)))⟩
  all_goals simp_all [arityF]
set_option maxHeartbeats 400000 in
theorem s_arity (k n : Int) (s : ByteArray) (hs : s.size ≤ maxLen) (w : World) :
    Calls Try.prog 100 #[.agg #[.int .i64 k, .int .i64 n, .string s]] w fun e w' => e = .returned (.int .i64 (arityF k n s.data.toList)) ∧ Below w.heap.size w w' := by
  cases hok : tokOkF k n s.data.toList
  all_goals go_enter Try.func100, Try.ntmps100
  all_goals go_wp2_with fail
  all_goals refine (s_tokOk _ _ _ hs _).mono ?_
  all_goals rintro e w1 ⟨rfl, hb⟩
  all_goals obtain ⟨hc, hf⟩ := bcell hb
  all_goals have hz := hb.size
  all_goals go_wp2
  all_goals go_ret
  all_goals refine ⟨ret_int ?_, (((Below.refl _ _).alloc (Nat.le_refl _) _).trans (hb.mono (by simp)))⟩
  all_goals simp_all [arityF]
def opOkF (c a : Int) : Bool :=
  btw c 0 17 && (if opS c then btw a (-((2 ^ (8 * opW c - 1) : Nat) : Int)) (((2 ^ (8 * opW c - 1) : Nat) : Int) - 1) else btw a 0 (((2 ^ (8 * opW c) : Nat) : Int) - 1))
theorem opOk_in {c a : Int} (h : btw c 0 17 = true) {W : Nat} {S : Bool} (hW : opW c = W) (hS : opS c = S) :
    opOkF c a = (if S then btw a (-((2 ^ (8 * W - 1) : Nat) : Int)) (((2 ^ (8 * W - 1) : Nat) : Int) - 1) else btw a 0 (((2 ^ (8 * W) : Nat) : Int) - 1)) := by
  subst hW hS; unfold opOkF; rw [h]; rfl
theorem opOk_out {c a : Int} (h : btw c 0 17 = false) : opOkF c a = false := by unfold opOkF; rw [h]; rfl
theorem opCases (c : Int) : (opW c = 4 ∧ opS c = true) ∨ (opW c = 2 ∧ opS c = true) ∨ (opW c = 2 ∧ opS c = false) ∨ (opW c = 1 ∧ opS c = false) ∨ (opW c = 0 ∧ opS c = false) := by
  unfold opW opS
  repeat' split
  all_goals simp_all
  all_goals omega
theorem opSize_zero (c : Int) : (opSizeF c == 0) = !btw c 0 17 := by
  unfold opSizeF btw
  by_cases h : 0 ≤ c ∧ c ≤ 17
  · rw [if_pos h, decide_eq_true h]
    have : ¬ ((opW c : Int) + 1 = 0) := by omega
    simpa using this
  · rw [if_neg h, decide_eq_false h]; rfl
set_option maxHeartbeats 400000 in
theorem i_opOk (c a : Int) (w : World) :
    Calls Try.prog 75 #[.agg #[.int .i64 c, .int .i64 a]] w fun e w' => e = .returned (.bool (opOkF c a)) ∧ Below w.heap.size w w' := by
  have h0 := opSize_zero c
  cases hr : btw c 0 17
  · have hfin := hide (opOk_out (a := a) hr)
    rw [hr] at h0
    clear hr
    go_enter Try.func75, Try.ntmps75
    go_wp2_with (go_at_call 74; refine (i_opSize _ _).mono ?_; rintro e w' ⟨rfl, rfl⟩)
    go_ret
    exact ⟨ret_bool hfin.out.symm, by repeat (first | exact Below.refl _ _ | refine Below.alloc ?_ (by first | (simp; done) | (simp; omega)) _ | refine Below.drew ?_ | refine below_drewN ?_ _ | refine Below.setCell ?_ (by first | (simp; done) | (simp; omega)) _)⟩
  · rw [hr] at h0
    rcases opCases c with ⟨hW, hS⟩ | ⟨hW, hS⟩ | ⟨hW, hS⟩ | ⟨hW, hS⟩ | ⟨hW, hS⟩
    all_goals have hfin := hide (opOk_in (a := a) hr hW hS)
    all_goals clear hr
    all_goals go_enter Try.func75, Try.ntmps75
    all_goals go_wp2_with (first | (go_at_call 32; refine (i_between _ _ _ _).mono ?_; rintro e w' ⟨rfl, rfl⟩) | (go_at_call 76; refine (i_argument _ _).mono ?_; rintro e w' ⟨rfl, rfl⟩) | (go_at_call 74; refine (i_opSize _ _).mono ?_; rintro e w' ⟨rfl, rfl⟩))
    · go_ret
      exact ⟨ret_bool hfin.out.symm, by repeat (first | exact Below.refl _ _ | refine Below.alloc ?_ (by first | (simp; done) | (simp; omega)) _ | refine Below.drew ?_ | refine below_drewN ?_ _ | refine Below.setCell ?_ (by first | (simp; done) | (simp; omega)) _)⟩
    · go_ret
      exact ⟨ret_bool hfin.out.symm, by repeat (first | exact Below.refl _ _ | refine Below.alloc ?_ (by first | (simp; done) | (simp; omega)) _ | refine Below.drew ?_ | refine below_drewN ?_ _ | refine Below.setCell ?_ (by first | (simp; done) | (simp; omega)) _)⟩
    all_goals go_quiet ((go_at_call 32; exact quiet_left (i_between _ _ _ _)))
    all_goals go_wp2
    all_goals go_ret
    all_goals exact ⟨ret_bool hfin.out.symm, below_drewN (by repeat (first | exact Below.refl _ _ | refine Below.alloc ?_ (by first | (simp; done) | (simp; omega)) _ | refine Below.drew ?_ | refine below_drewN ?_ _ | refine Below.setCell ?_ (by first | (simp; done) | (simp; omega)) _)) _⟩
end Go.Proofs.Ytcfjbaanahgpoaa
