import Derived.Test.YtcfjbaanahgpoaaLinS2
namespace Go.Proofs.Ytcfjbaanahgpoaa
open Go.RowKit
set_option maxRecDepth 100000
theorem drop_step {α : Type} (l : List α) (k : Nat) (h : k < l.length) : l.drop k = l[k] :: l.drop (k + 1) := List.drop_eq_getElem_cons h
def findFrom (s : ByteArray) : List Ln → Nat → Int
  | [], _ => -1
  | x :: L, k => if x.1 = 0 ∧ x.2.1 = s then (k : Int) else findFrom s L (k + 1)
def findF (L : List Ln) (s : ByteArray) : Int := findFrom s L 0
def opensF (k : Int) : Bool := decide (k = 0 ∨ k = 3 ∨ k = 5)
def depF (k : Int) : Int := (if opensF k = true then 1 else 0) - (if k = 7 then 1 else 0)
def endFrom : List Ln → Nat → Int → Int
  | [], _, _ => -1
  | x :: L, i, o => if o + depF x.1 = 0 then (i : Int) else endFrom L (i + 1) (o + depF x.1)
def lnAtD (L : List Ln) (i : Nat) : Ln := L.getD i (1, ByteArray.empty, [], [])
def endOfF (L : List Ln) (k : Int) : Int := if 0 ≤ k ∧ k < L.length ∧ opensF (lnAtD L k.toNat).1 = true then endFrom (L.drop k.toNat) k.toNat 0 else -1
def funsFrom : List Ln → Nat → List Int
  | [], _ => []
  | x :: L, i => if x.1 = 0 then (i : Int) :: funsFrom L (i + 1) else funsFrom L (i + 1)
def funsF (L : List Ln) : List Int := funsFrom L 0
set_option maxHeartbeats 400000 in
theorem i_findFunction (A : Option Addr) (n c : Nat) (L : List Ln) (s : ByteArray) (w : World) (hn : n ≤ 1048576) (h : InLines w A n L) :
    Calls Try.prog 15 #[.slice A n c, .string s] w fun e w' => e = .returned (.int .i64 (findF L s)) ∧ Below w.heap.size w w' := by
  have H := hide h
  have HL := hide h.len
  clear h
  go_enter Try.func15, Try.ntmps15
  go_wp2_with fail
  go_loopw [9] (fun i wr => ∃ k : Nat, k ≤ n ∧ i = .int .i64 k ∧ findF L s = findFrom s (L.drop k) k ∧ Below w.heap.size w wr) (fun i _ => n - (intOf i).toNat)
  case atStart => exact ⟨0, Nat.zero_le _, rfl, rfl, Below.refl _ _⟩
  case round =>
    obtain ⟨k, hk, rfl, he, hb⟩ := hrel
    have HE := hide he
    have HB := hide hb
    have R := hide (H.out.below hb)
    have hz := hb.size
    clear he hb
    by_cases hlt : k < n
    · have hkl : k < L.length := by rw [HL.out]; exact hlt
      obtain ⟨b, o, A1, c1, A2, c2, rfl, hbl, c0, c1', c2', c3', _⟩ := R.out.ln k hkl
      have HD := hide (drop_step L k hkl)
      by_cases h0 : L[k].1 = 0
      · by_cases h1 : L[k].2.1 = s
        · have HF : Hid (findF L s = k) := by show _ = _; rw [HE.out, HD.out]; unfold findFrom; rw [if_pos ⟨h0, h1⟩]
          have z0 : (L[k].1 == 0) = true := by simp [h0]
          have z1 := beqT h1
          clear h0 h1
          go_wp2
          go_ret
          exact ⟨by rw [HF.out]; rfl, HB.out.alloc hz _⟩
        · have HF : Hid (findF L s = findFrom s (L.drop (k + 1)) (k + 1)) := by show _ = _; rw [HE.out, HD.out, findFrom, if_neg (fun h => h1 h.2)]
          have z0 : (L[k].1 == 0) = true := by simp [h0]
          have z1 := beqF h1
          clear h0 h1
          go_wp2
          go_roundw
          case rel => exact ⟨k + 1, by omega, by go_num, HF.out, HB.out.alloc hz _⟩
          case measure => simp [intOf]; omega
      · have HF : Hid (findF L s = findFrom s (L.drop (k + 1)) (k + 1)) := by show _ = _; rw [HE.out, HD.out, findFrom, if_neg (fun h => h0 h.1)]
        have z0 : (L[k].1 == 0) = false := by simp [h0]
        clear h0
        go_wp2
        go_roundw
        case rel => exact ⟨k + 1, by omega, by go_num, HF.out, HB.out.alloc hz _⟩
        case measure => simp [intOf]; omega
    · have HF : Hid (findF L s = -1) := by show _ = _; rw [HE.out, List.drop_of_length_le (by rw [HL.out]; omega)]; rfl
      go_wp2
      go_ret
      exact ⟨by rw [HF.out]; rfl, HB.out⟩
set_option maxHeartbeats 400000 in
theorem s_findFunction (A : Option Addr) (n c : Nat) (L : List Ln) (s : ByteArray) (w : World) (hn : n ≤ 1048576) (h : InLines w A n L) :
    Calls Try.prog 37 #[.slice A n c, .string s] w fun e w' => e = .returned (.int .i64 (findF L s)) ∧ w = w' := by
  have H := hide h
  have HL := hide h.len
  clear h
  go_enter Try.func37, Try.ntmps37
  go_wp2_with fail
  go_loop [5] (fun i => ∃ k : Nat, k ≤ n ∧ i = .int .i64 k ∧ findF L s = findFrom s (L.drop k) k) (fun i => n - (intOf i).toNat)
  case atStart => exact ⟨0, Nat.zero_le _, rfl, rfl⟩
  case round =>
    obtain ⟨k, hk, rfl, he⟩ := hrel
    have HE := hide he
    clear he
    by_cases hlt : k < n
    · have hkl : k < L.length := by rw [HL.out]; exact hlt
      obtain ⟨b, o, A1, c1, A2, c2, rfl, hbl, c0, c1', c2', c3', _⟩ := H.out.ln k hkl
      have HD := hide (drop_step L k hkl)
      by_cases h0 : L[k].1 = 0
      · by_cases h1 : L[k].2.1 = s
        · have HF : Hid (findF L s = k) := by show _ = _; rw [HE.out, HD.out]; unfold findFrom; rw [if_pos ⟨h0, h1⟩]
          have z0 : (L[k].1 == 0) = true := by simp [h0]
          have z1 := beqT h1
          clear h0 h1
          go_wp2
          go_ret
          exact ⟨by rw [HF.out]; rfl, rfl⟩
        · have HF : Hid (findF L s = findFrom s (L.drop (k + 1)) (k + 1)) := by show _ = _; rw [HE.out, HD.out, findFrom, if_neg (fun h => h1 h.2)]
          have z0 : (L[k].1 == 0) = true := by simp [h0]
          have z1 := beqF h1
          clear h0 h1
          go_wp2
          go_round
          case rel => exact ⟨k + 1, by omega, by go_num, HF.out⟩
          case measure => simp [intOf]; omega
      · have HF : Hid (findF L s = findFrom s (L.drop (k + 1)) (k + 1)) := by show _ = _; rw [HE.out, HD.out, findFrom, if_neg (fun h => h0 h.1)]
        have z0 : (L[k].1 == 0) = false := by simp [h0]
        clear h0
        go_wp2
        go_round
        case rel => exact ⟨k + 1, by omega, by go_num, HF.out⟩
        case measure => simp [intOf]; omega
    · have HF : Hid (findF L s = -1) := by show _ = _; rw [HE.out, List.drop_of_length_le (by rw [HL.out]; omega)]; rfl
      go_wp2
      go_ret
      exact ⟨by rw [HF.out]; rfl, rfl⟩
set_option maxHeartbeats 400000 in
theorem i_opens (k : Int) (w : World) : Calls Try.prog 39 #[.int .i64 k] w fun e w' => e = .returned (.bool (opensF k)) ∧ w = w' := by
  go_enter Try.func39, Try.ntmps39
  go_wp2
  all_goals go_ret
  all_goals refine ⟨ret_bool ?_, rfl⟩
  all_goals unfold opensF
  all_goals by_cases h5 : k = 5 <;> simp_all
set_option maxHeartbeats 400000 in
theorem s_opens (k : Int) (w : World) : Calls Try.prog 40 #[.int .i64 k] w fun e w' => e = .returned (.bool (opensF k)) ∧ w = w' := by
  go_enter Try.func40, Try.ntmps40
  go_wp2
  all_goals go_ret
  all_goals refine ⟨ret_bool ?_, rfl⟩
  all_goals unfold opensF
  all_goals by_cases h5 : k = 5 <;> simp_all
end Go.Proofs.Ytcfjbaanahgpoaa
