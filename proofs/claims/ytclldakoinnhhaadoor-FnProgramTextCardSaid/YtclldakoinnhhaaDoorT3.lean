import Derived.Test.YtclldakoinnhhaaDoorT2
namespace Go.Proofs.YtclldakoinnhhaaDoor
open Go.RowKit
def opW (c : Int) : Nat :=
  if c = 0 then 4 else if c = 1 ∨ c = 2 ∨ c = 3 ∨ c = 4 ∨ c = 10 ∨ c = 11 ∨ c = 16 then 2 else if c = 12 ∨ c = 13 ∨ c = 14 ∨ c = 15 then 1 else 0
def opS (c : Int) : Bool := decide (c = 0 ∨ c = 1 ∨ c = 2 ∨ c = 3 ∨ c = 4 ∨ c = 10 ∨ c = 11)
def opSizeF (c : Int) : Int := if 0 ≤ c ∧ c ≤ 17 then opW c + 1 else 0
theorem ret_pair {a b : Int} {x y : Bool} (h : a = b) (h' : x = y) : Ending.returned (.tuple #[.int .i64 a, .bool x]) = .returned (.tuple #[.int .i64 b, .bool y]) := by rw [h, h']
theorem opW_le (c : Int) : opW c ≤ 4 := by
  unfold opW
  repeat' split
  all_goals omega
def tokOkF (k n : Int) (s : List UInt8) : Bool :=
  if k = 0 then btw n 0 999 && s.isEmpty
  else if k = 7 then btw n 0 4 && nameOkF s
  else if k = 1 then decide (n = 0) && nameOkF s
  else btw k 2 6 && decide (n = 0) && s.isEmpty
set_option maxHeartbeats 400000 in
theorem i_tokOk (k n : Int) (s : ByteArray) (hs : s.size ≤ maxLen) (w : World) :
    Calls Tryd.prog 23 #[.agg #[.int .i64 k, .int .i64 n, .string s]] w fun e w' => e = .returned (.bool (tokOkF k n s.data.toList)) ∧ Below w.heap.size w w' := by
  go_enter Tryd.func23, Tryd.ntmps23
  go_wp2_with (first | (go_at_call 26; refine (i_between _ _ _ _).mono ?_; rintro e w' ⟨rfl, rfl⟩) | (go_at_call 35; refine (i_nameOk _ hs _).mono ?_; rintro e w' ⟨rfl, rfl⟩))
  all_goals go_ret
  all_goals refine ⟨ret_bool ?_, by repeat (first | exact Below.refl _ _ | refine Below.alloc ?_ (by first | (simp; done) | (simp; omega)) _ | refine Below.drew ?_ | refine below_drewN ?_ _ | refine Below.setCell ?_ (by first | (simp; done) | (simp; omega)) _)⟩
  all_goals simp_all [tokOkF, ByteArray.toList_eq]
def arityF (k n : Int) (s : List UInt8) : Int := if tokOkF k n s = false then -1 else if k = 7 then n else if k = 0 ∨ k = 1 then 0 else 2
set_option maxHeartbeats 400000 in
theorem i_arity (k n : Int) (s : ByteArray) (hs : s.size ≤ maxLen) (w : World) :
    Calls Tryd.prog 13 #[.agg #[.int .i64 k, .int .i64 n, .string s]] w fun e w' => e = .returned (.int .i64 (arityF k n s.data.toList)) ∧ Below w.heap.size w w' := by
  cases hok : tokOkF k n s.data.toList
  all_goals go_enter Tryd.func13, Tryd.ntmps13
  all_goals go_wp2_with fail
  all_goals refine (i_tokOk _ _ _ hs _).mono ?_
  all_goals rintro e w1 ⟨rfl, hb⟩
  all_goals obtain ⟨hc, hf⟩ := bcell hb
  all_goals have hz := hb.size
  all_goals go_wp2
  all_goals go_ret
  all_goals refine ⟨ret_int ?_, (((Below.refl _ _).alloc (Nat.le_refl _) _).trans (hb.mono (by simp)))⟩
  all_goals simp_all [arityF]
def opOkF (c a : Int) : Bool :=
  btw c 0 17 && (if opS c then btw a (-((2 ^ (8 * opW c - 1) : Nat) : Int)) (((2 ^ (8 * opW c - 1) : Nat) : Int) - 1) else btw a 0 (((2 ^ (8 * opW c) : Nat) : Int) - 1))
theorem opOk_in {c a : Int} (h : btw c 0 17 = true) {W : Nat} {S : Bool} (hW : opW c = W) (hS : opS c = S) :
    opOkF c a = (if S then btw a (-((2 ^ (8 * W - 1) : Nat) : Int)) (((2 ^ (8 * W - 1) : Nat) : Int) - 1) else btw a 0 (((2 ^ (8 * W) : Nat) : Int) - 1)) := by
  subst hW hS; unfold opOkF; rw [h]; rfl
theorem opOk_out {c a : Int} (h : btw c 0 17 = false) : opOkF c a = false := by unfold opOkF; rw [h]; rfl
theorem opCases (c : Int) : (opW c = 4 ∧ opS c = true) ∨ (opW c = 2 ∧ opS c = true) ∨ (opW c = 2 ∧ opS c = false) ∨ (opW c = 1 ∧ opS c = false) ∨ (opW c = 0 ∧ opS c = false) := by
  unfold opW opS
  repeat' split
  all_goals simp_all
  all_goals omega
theorem opSize_zero (c : Int) : (opSizeF c == 0) = !btw c 0 17 := by
  unfold opSizeF btw
  by_cases h : 0 ≤ c ∧ c ≤ 17
  · rw [if_pos h, decide_eq_true h]
    have : ¬ ((opW c : Int) + 1 = 0) := by omega
    simpa using this
  · rw [if_neg h, decide_eq_false h]; rfl
end Go.Proofs.YtclldakoinnhhaaDoor
