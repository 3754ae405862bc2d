import Derived.Test.YtcfjbaanahgpoaaLinSX
namespace Go.Proofs.Ytcfjbaanahgpoaa
open Go.RowKit
set_option maxRecDepth 100000
theorem drop_step {α : Type} (l : List α) (k : Nat) (h : k < l.length) : l.drop k = l[k] :: l.drop (k + 1) := List.drop_eq_getElem_cons h
def findFrom (s : ByteArray) : List Ln → Nat → Int
  | [], _ => -1
  | x :: L, k => if x.1 = 0 ∧ x.2.1 = s then (k : Int) else findFrom s L (k + 1)
def findF (L : List Ln) (s : ByteArray) : Int := findFrom s L 0
def opensF (k : Int) : Bool := decide (k = 0 ∨ k = 3 ∨ k = 5)
def depF (k : Int) : Int := (if opensF k = true then 1 else 0) - (if k = 7 then 1 else 0)
def endFrom : List Ln → Nat → Int → Int
  | [], _, _ => -1
  | x :: L, i, o => if o + depF x.1 = 0 then (i : Int) else endFrom L (i + 1) (o + depF x.1)
def lnAtD (L : List Ln) (i : Nat) : Ln := L.getD i (1, ByteArray.empty, [], [])
def endOfF (L : List Ln) (k : Int) : Int := if 0 ≤ k ∧ k < L.length ∧ opensF (lnAtD L k.toNat).1 = true then endFrom (L.drop k.toNat) k.toNat 0 else -1
def funsFrom : List Ln → Nat → List Int
  | [], _ => []
  | x :: L, i => if x.1 = 0 then (i : Int) :: funsFrom L (i + 1) else funsFrom L (i + 1)
def funsF (L : List Ln) : List Int := funsFrom L 0
set_option maxHeartbeats 400000 in
theorem i_findFunction (A : Option Addr) (n c : Nat) (L : List Ln) (s : ByteArray) (w : World) (hn : n ≤ 1048576) (h : InLines w A n L) :
    Calls Try.prog 15 #[.slice A n c, .string s] w fun e w' => e = .returned (.int .i64 (findF L s)) ∧ Below w.heap.size w w' := by
  have H := hide h
  have HL := hide h.len
  clear h
  go_enter Try.func15, Try.ntmps15
  go_wp2_with fail
  go_loopw [9] (fun i wr => ∃ k : Nat, k ≤ n ∧ i = .int .i64 k ∧ findF L s = findFrom s (L.drop k) k ∧ Below w.heap.size w wr) (fun i _ => n - (intOf i).toNat)
  case atStart => exact ⟨0, Nat.zero_le _, rfl, rfl, Below.refl _ _⟩
  case round =>
    obtain ⟨k, hk, rfl, he, hb⟩ := hrel
    have HE := hide he
    have HB := hide hb
    have R := hide (H.out.below hb)
    have hz := hb.size
    clear he hb
    by_cases hlt : k < n
    · have hkl : k < L.length := by rw [HL.out]; exact hlt
      obtain ⟨b, o, A1, c1, A2, c2, rfl, hbl, c0, c1', c2', c3', _⟩ := R.out.ln k hkl
      have HD := hide (drop_step L k hkl)
      by_cases h0 : L[k].1 = 0
      · by_cases h1 : L[k].2.1 = s
        · have HF : Hid (findF L s = k) := by show _ = _; rw [HE.out, HD.out]; unfold findFrom; rw [if_pos ⟨h0, h1⟩]
          have z0 : (L[k].1 == 0) = true := by simp [h0]
          have z1 := beqT h1
          clear h0 h1
          go_wp2
          go_ret
          exact ⟨by rw [HF.out]; rfl, HB.out.alloc hz _⟩
        · have HF : Hid (findF L s = findFrom s (L.drop (k + 1)) (k + 1)) := by show _ = _; rw [HE.out, HD.out, findFrom, if_neg (fun h => h1 h.2)]
          have z0 : (L[k].1 == 0) = true := by simp [h0]
          have z1 := beqF h1
          clear h0 h1
          go_wp2
          go_roundw
          case rel => exact ⟨k + 1, by omega, by go_num, HF.out, HB.out.alloc hz _⟩
          case measure => simp [intOf]; omega
      · have HF : Hid (findF L s = findFrom s (L.drop (k + 1)) (k + 1)) := by show _ = _; rw [HE.out, HD.out, findFrom, if_neg (fun h => h0 h.1)]
        have z0 : (L[k].1 == 0) = false := by simp [h0]
        clear h0
        go_wp2
        go_roundw
        case rel => exact ⟨k + 1, by omega, by go_num, HF.out, HB.out.alloc hz _⟩
        case measure => simp [intOf]; omega
    · have HF : Hid (findF L s = -1) := by show _ = _; rw [HE.out, List.drop_of_length_le (by rw [HL.out]; omega)]; rfl
      go_wp2
      go_ret
      exact ⟨by rw [HF.out]; rfl, HB.out⟩
set_option maxHeartbeats 400000 in
theorem s_findFunction (A : Option Addr) (n c : Nat) (L : List Ln) (s : ByteArray) (w : World) (hn : n ≤ 1048576) (h : InLines w A n L) :
    Calls Try.prog 37 #[.slice A n c, .string s] w fun e w' => e = .returned (.int .i64 (findF L s)) ∧ w = w' := by
  have H := hide h
  have HL := hide h.len
  clear h
  go_enter Try.func37, Try.ntmps37
  go_wp2_with fail
  go_loop [5] (fun i => ∃ k : Nat, k ≤ n ∧ i = .int .i64 k ∧ findF L s = findFrom s (L.drop k) k) (fun i => n - (intOf i).toNat)
  case atStart => exact ⟨0, Nat.zero_le _, rfl, rfl⟩
  case round =>
    obtain ⟨k, hk, rfl, he⟩ := hrel
    have HE := hide he
    clear he
    by_cases hlt : k < n
    · have hkl : k < L.length := by rw [HL.out]; exact hlt
      obtain ⟨b, o, A1, c1, A2, c2, rfl, hbl, c0, c1', c2', c3', _⟩ := H.out.ln k hkl
      have HD := hide (drop_step L k hkl)
      by_cases h0 : L[k].1 = 0
      · by_cases h1 : L[k].2.1 = s
        · have HF : Hid (findF L s = k) := by show _ = _; rw [HE.out, HD.out]; unfold findFrom; rw [if_pos ⟨h0, h1⟩]
          have z0 : (L[k].1 == 0) = true := by simp [h0]
          have z1 := beqT h1
          clear h0 h1
          go_wp2
          go_ret
          exact ⟨by rw [HF.out]; rfl, rfl⟩
        · have HF : Hid (findF L s = findFrom s (L.drop (k + 1)) (k + 1)) := by show _ = _; rw [HE.out, HD.out, findFrom, if_neg (fun h => h1 h.2)]
          have z0 : (L[k].1 == 0) = true := by simp [h0]
          have z1 := beqF h1
          clear h0 h1
          go_wp2
          go_round
          case rel => exact ⟨k + 1, by omega, by go_num, HF.out⟩
          case measure => simp [intOf]; omega
      · have HF : Hid (findF L s = findFrom s (L.drop (k + 1)) (k + 1)) := by show _ = _; rw [HE.out, HD.out, findFrom, if_neg (fun h => h0 h.1)]
        have z0 : (L[k].1 == 0) = false := by simp [h0]
        clear h0
        go_wp2
        go_round
        case rel => exact ⟨k + 1, by omega, by go_num, HF.out⟩
        case measure => simp [intOf]; omega
    · have HF : Hid (findF L s = -1) := by show _ = _; rw [HE.out, List.drop_of_length_le (by rw [HL.out]; omega)]; rfl
      go_wp2
      go_ret
      exact ⟨by rw [HF.out]; rfl, rfl⟩
set_option maxHeartbeats 400000 in
theorem i_opens (k : Int) (w : World) : Calls Try.prog 39 #[.int .i64 k] w fun e w' => e = .returned (.bool (opensF k)) ∧ w = w' := by
  go_enter Try.func39, Try.ntmps39
  go_wp2
  all_goals go_ret
  all_goals refine ⟨ret_bool ?_, rfl⟩
  all_goals unfold opensF
  all_goals by_cases h5 : k = 5 <;> simp_all
set_option maxHeartbeats 400000 in
theorem s_opens (k : Int) (w : World) : Calls Try.prog 40 #[.int .i64 k] w fun e w' => e = .returned (.bool (opensF k)) ∧ w = w' := by
  go_enter Try.func40, Try.ntmps40
  go_wp2
  all_goals go_ret
  all_goals refine ⟨ret_bool ?_, rfl⟩
  all_goals unfold opensF
  all_goals by_cases h5 : k = 5 <;> simp_all
end Go.Proofs.Ytcfjbaanahgpoaa
namespace Go.Proofs.Ytcfjbaanahgpoaa
open Go.RowKit
set_option maxRecDepth 100000
set_option maxHeartbeats 1000000 in
theorem i_endOf (A : Option Addr) (n c : Nat) (L : List Ln) (k0 : Int) (w : World) (hn : n ≤ 1048576) (h : InLines w A n L) :
    Calls Try.prog 11 #[.slice A n c, .int .i64 k0] w fun e w' => e = .returned (.int .i64 (endOfF L k0)) ∧ w = w' := by
  have H := hide h
  have HL := hide h.len
  clear h
  by_cases hr : 0 ≤ k0 ∧ k0 < n
  · obtain ⟨r0, r1⟩ := hr
    obtain ⟨p, rfl⟩ := Int.eq_ofNat_of_zero_le r0
    have hkl0 : p < L.length := by rw [HL.out]; omega
    have HAT : Hid (lnAtD L p = L[p]) := by show _ = _; unfold lnAtD; rw [List.getD_eq_getElem?_getD, List.getElem?_eq_getElem hkl0]; rfl
    clear r0
    obtain ⟨b, o, A1, c1, A2, c2, rfl, hbl, c0, c1', c2', c3', _⟩ := H.out.ln p hkl0
    have hin : btw (p : Int) 0 ((n : Int) - 1) = true := by simp [btw]; omega
    cases hop : opensF L[p].1
    · have HF : Hid (endOfF L (p : Int) = -1) := by show _ = _; unfold endOfF; rw [if_neg (by rw [Int.toNat_natCast, HAT.out, hop]; simp)]
      go_enter Try.func11, Try.ntmps11
      go_wp2_with (first | (go_at_call 32; refine (i_between _ _ _ _).mono ?_; rintro e w' ⟨rfl, rfl⟩) | (go_at_call 39; refine (i_opens _ _).mono ?_; rintro e w' ⟨rfl, rfl⟩) | fail)
      go_ret
      exact ⟨by rw [HF.out]; rfl, rfl⟩
    · have HF : Hid (endOfF L (p : Int) = endFrom (L.drop p) p 0) := by show _ = _; unfold endOfF; rw [Int.toNat_natCast, if_pos ⟨by omega, by rw [HL.out]; omega, by rw [HAT.out, hop]⟩]
      go_enter Try.func11, Try.ntmps11
      go_wp2_with (first | (go_at_call 32; refine (i_between _ _ _ _).mono ?_; rintro e w' ⟨rfl, rfl⟩) | (go_at_call 39; refine (i_opens _ _).mono ?_; rintro e w' ⟨rfl, rfl⟩) | fail)
      clear hop c0 c1' c2' c3'
      go_loop [5, 6] (fun od i => ∃ (k : Nat) (q : Int), k ≤ n ∧ i = .int .i64 k ∧ od = .int .i64 q ∧ -(k : Int) ≤ q ∧ q ≤ k ∧ endOfF L (p : Int) = endFrom (L.drop k) k q) (fun _ i => n - (intOf i).toNat)
      case atStart => exact ⟨p, 0, by omega, rfl, rfl, by omega, by omega, HF.out⟩
      case round =>
        obtain ⟨k, q, hk, rfl, rfl, q0, q1, he⟩ := hrel
        have HE := hide he
        clear he
        by_cases hlt : k < n
        · have hkl : k < L.length := by rw [HL.out]; exact hlt
          obtain ⟨b2, o2, B1, d1, B2, d2, eA, hbl2, c0, c1', c2', c3', _⟩ := H.out.ln k hkl
          obtain ⟨rfl, rfl⟩ : b = b2 ∧ o = o2 := by injection eA with eA; injection eA with eA eB; exact ⟨eA, eB⟩
          clear eA
          cases hop : opensF L[k].1
          · by_cases h7 : L[k].1 = 7
            ·
              have z7 : (L[k].1 == 7) = true := by simp [h7]
              have hd : depF L[k].1 = -1 := by unfold depF; rw [hop]; simp [h7]
              by_cases hz : q - 1 = 0
              · have HN : Hid (endOfF L (p : Int) = k) := by show _ = _; rw [HE.out, drop_step L k hkl, endFrom, hd, if_pos (by omega)]
                have zz : (q - 1 == 0) = true := by simp [hz]
                clear hz hd h7
                go_wp2_with (first | (go_at_call 39; refine (i_opens _ _).mono ?_; rintro e w' ⟨rfl, rfl⟩) | fail)
                go_ret
                exact ⟨by rw [HN.out]; rfl, rfl⟩
              · have HN : Hid (endOfF L (p : Int) = endFrom (L.drop (k + 1)) (k + 1) (q - 1)) := by show _ = _; rw [HE.out, drop_step L k hkl, endFrom, hd, if_neg (by omega)]; try rfl
                have zz : (q - 1 == 0) = false := by simpa using hz
                clear hz hd h7
                go_wp2_with (first | (go_at_call 39; refine (i_opens _ _).mono ?_; rintro e w' ⟨rfl, rfl⟩) | fail)
                go_round
                case rel => exact ⟨k + 1, q - 1, by omega, by go_num, by first | rfl | go_num, by omega, by omega, HN.out⟩
                case measure => simp [intOf]; omega
            ·
              have z7 : (L[k].1 == 7) = false := by simp [h7]
              have hd : depF L[k].1 = 0 := by unfold depF; rw [hop]; simp [h7]
              by_cases hz : q = 0
              · have HN : Hid (endOfF L (p : Int) = k) := by show _ = _; rw [HE.out, drop_step L k hkl, endFrom, hd, if_pos (by omega)]
                have zz : (q == 0) = true := by simp [hz]
                clear hz hd h7
                go_wp2_with (first | (go_at_call 39; refine (i_opens _ _).mono ?_; rintro e w' ⟨rfl, rfl⟩) | fail)
                go_ret
                exact ⟨by rw [HN.out]; rfl, rfl⟩
              · have HN : Hid (endOfF L (p : Int) = endFrom (L.drop (k + 1)) (k + 1) (q)) := by show _ = _; rw [HE.out, drop_step L k hkl, endFrom, hd, if_neg (by omega), Int.add_zero]
                have zz : (q == 0) = false := by simpa using hz
                clear hz hd h7
                go_wp2_with (first | (go_at_call 39; refine (i_opens _ _).mono ?_; rintro e w' ⟨rfl, rfl⟩) | fail)
                go_round
                case rel => exact ⟨k + 1, q, by omega, by go_num, by first | rfl | go_num, by omega, by omega, HN.out⟩
                case measure => simp [intOf]; omega
          · have h7 : L[k].1 ≠ 7 := by intro e; rw [e] at hop; simp [opensF] at hop
            ·
              have z7 : (L[k].1 == 7) = false := by simp [h7]
              have hd : depF L[k].1 = 1 := by unfold depF; rw [hop]; simp [h7]
              by_cases hz : q + 1 = 0
              · have HN : Hid (endOfF L (p : Int) = k) := by show _ = _; rw [HE.out, drop_step L k hkl, endFrom, hd, if_pos (by omega)]
                have zz : (q + 1 == 0) = true := by simp [hz]
                clear hz hd h7
                go_wp2_with (first | (go_at_call 39; refine (i_opens _ _).mono ?_; rintro e w' ⟨rfl, rfl⟩) | fail)
                go_ret
                exact ⟨by rw [HN.out]; rfl, rfl⟩
              · have HN : Hid (endOfF L (p : Int) = endFrom (L.drop (k + 1)) (k + 1) (q + 1)) := by show _ = _; rw [HE.out, drop_step L k hkl, endFrom, hd, if_neg (by omega)]; try rfl
                have zz : (q + 1 == 0) = false := by simpa using hz
                clear hz hd h7
                go_wp2_with (first | (go_at_call 39; refine (i_opens _ _).mono ?_; rintro e w' ⟨rfl, rfl⟩) | fail)
                go_round
                case rel => exact ⟨k + 1, q + 1, by omega, by go_num, by first | rfl | go_num, by omega, by omega, HN.out⟩
                case measure => simp [intOf]; omega
        · have HN : Hid (endOfF L (p : Int) = -1) := by show _ = _; rw [HE.out, List.drop_of_length_le (by rw [HL.out]; omega)]; rfl
          go_wp2
          go_ret
          exact ⟨by rw [HN.out]; rfl, rfl⟩
  · have HF : Hid (endOfF L k0 = -1) := by show _ = _; unfold endOfF; rw [if_neg (fun h => hr ⟨h.1, by have := h.2.1; rw [HL.out] at this; exact this⟩)]
    have hin : btw k0 0 ((n : Int) - 1) = false := by simp [btw]; omega
    clear hr
    go_enter Try.func11, Try.ntmps11
    go_wp2_with (first | (go_at_call 32; refine (i_between _ _ _ _).mono ?_; rintro e w' ⟨rfl, rfl⟩) | (go_at_call 39; refine (i_opens _ _).mono ?_; rintro e w' ⟨rfl, rfl⟩) | fail)
    go_ret
    exact ⟨by rw [HF.out]; rfl, rfl⟩
set_option maxHeartbeats 1000000 in
theorem s_endOf (A : Option Addr) (n c : Nat) (L : List Ln) (k0 : Int) (w : World) (hn : n ≤ 1048576) (h : InLines w A n L) :
    Calls Try.prog 13 #[.slice A n c, .int .i64 k0] w fun e w' => e = .returned (.int .i64 (endOfF L k0)) ∧ w = w' := by
  have H := hide h
  have HL := hide h.len
  clear h
  by_cases hr : 0 ≤ k0 ∧ k0 < n
  · obtain ⟨r0, r1⟩ := hr
    obtain ⟨p, rfl⟩ := Int.eq_ofNat_of_zero_le r0
    have hkl0 : p < L.length := by rw [HL.out]; omega
    have HAT : Hid (lnAtD L p = L[p]) := by show _ = _; unfold lnAtD; rw [List.getD_eq_getElem?_getD, List.getElem?_eq_getElem hkl0]; rfl
    clear r0
    obtain ⟨b, o, A1, c1, A2, c2, rfl, hbl, c0, c1', c2', c3', _⟩ := H.out.ln p hkl0
    have hge : decide (n ≤ p) = false := by simp; omega
    have hge0 : decide ((p : Int) < 0) = false := by simp
    cases hop : opensF L[p].1
    · have HF : Hid (endOfF L (p : Int) = -1) := by show _ = _; unfold endOfF; rw [if_neg (by rw [Int.toNat_natCast, HAT.out, hop]; simp)]
      go_enter Try.func13, Try.ntmps13
      go_wp2_with (first | (go_at_call 40; refine (s_opens _ _).mono ?_; rintro e w' ⟨rfl, rfl⟩) | fail)
      go_ret
      exact ⟨by rw [HF.out]; rfl, rfl⟩
    · have HF : Hid (endOfF L (p : Int) = endFrom (L.drop p) p 0) := by show _ = _; unfold endOfF; rw [Int.toNat_natCast, if_pos ⟨by omega, by rw [HL.out]; omega, by rw [HAT.out, hop]⟩]
      go_enter Try.func13, Try.ntmps13
      go_wp2_with (first | (go_at_call 40; refine (s_opens _ _).mono ?_; rintro e w' ⟨rfl, rfl⟩) | fail)
      clear hop c0 c1' c2' c3'
      go_loop [5, 6] (fun od i => ∃ (k : Nat) (q : Int), k ≤ n ∧ i = .int .i64 k ∧ od = .int .i64 q ∧ -(k : Int) ≤ q ∧ q ≤ k ∧ endOfF L (p : Int) = endFrom (L.drop k) k q) (fun _ i => n - (intOf i).toNat)
      case atStart => exact ⟨p, 0, by omega, rfl, rfl, by omega, by omega, HF.out⟩
      case round =>
        obtain ⟨k, q, hk, rfl, rfl, q0, q1, he⟩ := hrel
        have HE := hide he
        clear he
        by_cases hlt : k < n
        · have hkl : k < L.length := by rw [HL.out]; exact hlt
          obtain ⟨b2, o2, B1, d1, B2, d2, eA, hbl2, c0, c1', c2', c3', _⟩ := H.out.ln k hkl
          obtain ⟨rfl, rfl⟩ : b = b2 ∧ o = o2 := by injection eA with eA; injection eA with eA eB; exact ⟨eA, eB⟩
          clear eA
          cases hop : opensF L[k].1
          · by_cases h7 : L[k].1 = 7
            ·
              have z7 : (L[k].1 == 7) = true := by simp [h7]
              have hd : depF L[k].1 = -1 := by unfold depF; rw [hop]; simp [h7]
              by_cases hz : q - 1 = 0
              · have HN : Hid (endOfF L (p : Int) = k) := by show _ = _; rw [HE.out, drop_step L k hkl, endFrom, hd, if_pos (by omega)]
                have zz : (q - 1 == 0) = true := by simp [hz]
                clear hz hd h7
                go_wp2_with (first | (go_at_call 40; refine (s_opens _ _).mono ?_; rintro e w' ⟨rfl, rfl⟩) | fail)
                go_ret
                exact ⟨by rw [HN.out]; rfl, rfl⟩
              · have HN : Hid (endOfF L (p : Int) = endFrom (L.drop (k + 1)) (k + 1) (q - 1)) := by show _ = _; rw [HE.out, drop_step L k hkl, endFrom, hd, if_neg (by omega)]; try rfl
                have zz : (q - 1 == 0) = false := by simpa using hz
                clear hz hd h7
                go_wp2_with (first | (go_at_call 40; refine (s_opens _ _).mono ?_; rintro e w' ⟨rfl, rfl⟩) | fail)
                go_round
                case rel => exact ⟨k + 1, q - 1, by omega, by go_num, by first | rfl | go_num, by omega, by omega, HN.out⟩
                case measure => simp [intOf]; omega
            ·
              have z7 : (L[k].1 == 7) = false := by simp [h7]
              have hd : depF L[k].1 = 0 := by unfold depF; rw [hop]; simp [h7]
              by_cases hz : q = 0
              · have HN : Hid (endOfF L (p : Int) = k) := by show _ = _; rw [HE.out, drop_step L k hkl, endFrom, hd, if_pos (by omega)]
                have zz : (q == 0) = true := by simp [hz]
                clear hz hd h7
                go_wp2_with (first | (go_at_call 40; refine (s_opens _ _).mono ?_; rintro e w' ⟨rfl, rfl⟩) | fail)
                go_ret
                exact ⟨by rw [HN.out]; rfl, rfl⟩
              · have HN : Hid (endOfF L (p : Int) = endFrom (L.drop (k + 1)) (k + 1) (q)) := by show _ = _; rw [HE.out, drop_step L k hkl, endFrom, hd, if_neg (by omega), Int.add_zero]
                have zz : (q == 0) = false := by simpa using hz
                clear hz hd h7
                go_wp2_with (first | (go_at_call 40; refine (s_opens _ _).mono ?_; rintro e w' ⟨rfl, rfl⟩) | fail)
                go_round
                case rel => exact ⟨k + 1, q, by omega, by go_num, by first | rfl | go_num, by omega, by omega, HN.out⟩
                case measure => simp [intOf]; omega
          · have h7 : L[k].1 ≠ 7 := by intro e; rw [e] at hop; simp [opensF] at hop
            ·
              have z7 : (L[k].1 == 7) = false := by simp [h7]
              have hd : depF L[k].1 = 1 := by unfold depF; rw [hop]; simp [h7]
              by_cases hz : q + 1 = 0
              · have HN : Hid (endOfF L (p : Int) = k) := by show _ = _; rw [HE.out, drop_step L k hkl, endFrom, hd, if_pos (by omega)]
                have zz : (q + 1 == 0) = true := by simp [hz]
                clear hz hd h7
                go_wp2_with (first | (go_at_call 40; refine (s_opens _ _).mono ?_; rintro e w' ⟨rfl, rfl⟩) | fail)
                go_ret
                exact ⟨by rw [HN.out]; rfl, rfl⟩
              · have HN : Hid (endOfF L (p : Int) = endFrom (L.drop (k + 1)) (k + 1) (q + 1)) := by show _ = _; rw [HE.out, drop_step L k hkl, endFrom, hd, if_neg (by omega)]; try rfl
                have zz : (q + 1 == 0) = false := by simpa using hz
                clear hz hd h7
                go_wp2_with (first | (go_at_call 40; refine (s_opens _ _).mono ?_; rintro e w' ⟨rfl, rfl⟩) | fail)
                go_round
                case rel => exact ⟨k + 1, q + 1, by omega, by go_num, by first | rfl | go_num, by omega, by omega, HN.out⟩
                case measure => simp [intOf]; omega
        · have HN : Hid (endOfF L (p : Int) = -1) := by show _ = _; rw [HE.out, List.drop_of_length_le (by rw [HL.out]; omega)]; rfl
          go_wp2
          go_ret
          exact ⟨by rw [HN.out]; rfl, rfl⟩
  · have HF : Hid (endOfF L k0 = -1) := by show _ = _; unfold endOfF; rw [if_neg (fun h => hr ⟨h.1, by have := h.2.1; rw [HL.out] at this; exact this⟩)]
    by_cases h0 : k0 < 0
    · clear hr
      go_enter Try.func13, Try.ntmps13
      go_wp2_with fail
      go_ret
      exact ⟨by rw [HF.out]; rfl, rfl⟩
    have h1 : (n : Int) ≤ k0 := by omega
    clear hr
    go_enter Try.func13, Try.ntmps13
    go_wp2_with fail
    go_ret
    exact ⟨by rw [HF.out]; rfl, rfl⟩
end Go.Proofs.Ytcfjbaanahgpoaa
namespace Go.Proofs.Ytcfjbaanahgpoaa
open Go.RowKit
set_option maxRecDepth 100000
/-! The plain law on ends. -/
theorem depF_le (k : Int) : -1 ≤ depF k ∧ depF k ≤ 1 := by unfold depF; split <;> split <;> omega
theorem depF_open (k : Int) (h : opensF k = true) : depF k = 1 := by
  have h7 : k ≠ 7 := by intro e; rw [e] at h; simp [opensF] at h
  unfold depF; rw [if_pos h, if_neg h7]; rfl
theorem endFrom_ge : ∀ (M : List Ln) (i : Nat) (o : Int), endFrom M i o = -1 ∨ ((i : Int) ≤ endFrom M i o ∧ endFrom M i o < i + M.length) := by
  intro M
  induction M with
  | nil => intro i o; exact .inl rfl
  | cons x M ih =>
    intro i o
    rw [endFrom]
    split
    · right; simp; omega
    · rcases ih (i + 1) (o + depF x.1) with h | ⟨h1, h2⟩
      · exact .inl h
      · right; simp; omega
theorem endFrom_inner : ∀ (M : List Ln) (i : Nat) (a d : Int), 1 ≤ a → 1 ≤ d → 0 ≤ endFrom M i (a + d) → (i : Int) ≤ endFrom M i a ∧ endFrom M i a < endFrom M i (a + d) := by
  intro M
  induction M with
  | nil => intro i a d _ _ h; simp [endFrom] at h
  | cons x M ih =>
    intro i a d ha hd h
    have hx := depF_le x.1
    have e1 : endFrom (x :: M) i (a + d) = endFrom M (i + 1) (a + depF x.1 + d) := by rw [endFrom, if_neg (by omega), show a + d + depF x.1 = a + depF x.1 + d by omega]
    rw [e1] at h ⊢
    rw [endFrom]
    by_cases h0 : a + depF x.1 = 0
    · rw [if_pos h0]
      rcases endFrom_ge M (i + 1) (a + depF x.1 + d) with hg | hg <;> omega
    · rw [if_neg h0]
      have := ih (i + 1) (a + depF x.1) d (by omega) hd h
      omega
theorem endFrom_skip : ∀ (t : Nat) (M : List Ln) (i : Nat) (a : Int), 1 ≤ a → (i : Int) + t ≤ endFrom M i a → ∃ o, 1 ≤ o ∧ endFrom M i a = endFrom (M.drop t) (i + t) o := by
  intro t
  induction t with
  | zero => intro M i a ha _; exact ⟨a, ha, rfl⟩
  | succ t ih =>
    intro M i a ha h
    cases M with
    | nil => simp [endFrom] at h; omega
    | cons x M =>
      have hx := depF_le x.1
      rw [endFrom] at h ⊢
      by_cases h0 : a + depF x.1 = 0
      · rw [if_pos h0] at h; omega
      · rw [if_neg h0] at h ⊢
        obtain ⟨o, h1, h2⟩ := ih M (i + 1) (a + depF x.1) (by omega) (by omega)
        exact ⟨o, h1, by rw [h2, List.drop_succ_cons, show i + 1 + t = i + (t + 1) by omega]⟩
theorem lnAtD_of (L : List Ln) (i : Nat) (h : i < L.length) : lnAtD L i = L[i] := by
  unfold lnAtD; rw [List.getD_eq_getElem?_getD, List.getElem?_eq_getElem h]; rfl
theorem endFrom_open (L : List Ln) (i : Nat) (hi : i < L.length) (ho : opensF (lnAtD L i).1 = true) (o : Int) (h : 0 ≤ o) : endFrom (L.drop i) i o = endFrom (L.drop (i + 1)) (i + 1) (o + 1) := by
  rw [lnAtD_of L i hi] at ho
  rw [drop_step L i hi, endFrom, depF_open _ ho, if_neg (by omega)]
theorem endOf_pos (L : List Ln) (k : Int) (h : 0 ≤ endOfF L k) : ∃ p : Nat, k = p ∧ p < L.length ∧ opensF (lnAtD L p).1 = true ∧ (p : Int) < endOfF L k ∧ endOfF L k < L.length ∧ endOfF L k = endFrom (L.drop (p + 1)) (p + 1) 1 := by
  have h2 := h
  unfold endOfF at h
  split at h
  · rename_i hc
    obtain ⟨p, rfl⟩ := Int.eq_ofNat_of_zero_le hc.1
    have hp : p < L.length := by omega
    have ho := hc.2.2
    rw [Int.toNat_natCast] at ho
    have he : endOfF L (p : Int) = endFrom (L.drop (p + 1)) (p + 1) 1 := by
      unfold endOfF; rw [if_pos hc, Int.toNat_natCast, endFrom_open L p hp ho 0 (by omega)]; rfl
    refine ⟨p, rfl, hp, ho, ?_, ?_, he⟩
    · rcases endFrom_ge (L.drop (p + 1)) (p + 1) 1 with hg | hg
      · rw [he, hg] at h2; omega
      · rw [he]; omega
    · rcases endFrom_ge (L.drop (p + 1)) (p + 1) 1 with hg | hg
      · rw [he, hg] at h2; omega
      · rw [he]; simp at hg; omega
  · omega
theorem endOf_nest (L : List Ln) (k i : Nat) (hk : 0 ≤ endOfF L k) (h1 : k < i) (h2 : (i : Int) < endOfF L k) (ho : opensF (lnAtD L i).1 = true) : (i : Int) < endOfF L i ∧ endOfF L i < endOfF L k := by
  obtain ⟨p, e, hp, hop, ha, hb, he⟩ := endOf_pos L k hk
  obtain rfl : k = p := by omega
  have hi : i < L.length := by omega
  obtain ⟨o, ho1, hs⟩ := endFrom_skip (i - (k + 1)) (L.drop (k + 1)) (k + 1) 1 (by omega) (by rw [← he]; omega)
  rw [List.drop_drop, show k + 1 + (i - (k + 1)) = i by omega, endFrom_open L i hi ho o (by omega), Int.add_comm] at hs
  have hin := endFrom_inner (L.drop (i + 1)) (i + 1) 1 o (by omega) ho1 (by rw [← hs, ← he]; exact hk)
  have hei : endOfF L (i : Int) = endFrom (L.drop (i + 1)) (i + 1) 1 := by
    unfold endOfF; rw [if_pos ⟨by omega, by omega, by rw [Int.toNat_natCast]; exact ho⟩, Int.toNat_natCast, endFrom_open L i hi ho 0 (by omega)]; rfl
  rw [hei, he, hs]
  omega
def elseFrom (L : List Ln) (e i : Nat) : Int :=
  if i < e then
    if (lnAtD L i).1 = 4 then (i : Int)
    else if (lnAtD L i).1 = 3 ∨ (lnAtD L i).1 = 5 then elseFrom L e (max (i + 1) ((endOfF L i).toNat + 1))
    else elseFrom L e (i + 1)
  else -1
termination_by e - i
def elseOfF (L : List Ln) (k : Int) : Int := if 0 ≤ endOfF L k ∧ (lnAtD L k.toNat).1 = 3 then elseFrom L (endOfF L k).toNat (k.toNat + 1) else -1
theorem else_out (L : List Ln) (e i : Nat) (h : ¬ i < e) : elseFrom L e i = -1 := by rw [elseFrom, if_neg h]
theorem else_hit (L : List Ln) (e i : Nat) (h : i < e) (h4 : (lnAtD L i).1 = 4) : elseFrom L e i = i := by rw [elseFrom, if_pos h, if_pos h4]
theorem else_skip (L : List Ln) (e i j : Nat) (h : i < e) (h35 : (lnAtD L i).1 = 3 ∨ (lnAtD L i).1 = 5) (hj : endOfF L i = j) (hij : i < j) : elseFrom L e i = elseFrom L e (j + 1) := by
  rw [elseFrom, if_pos h, if_neg (by omega), if_pos h35, hj, Int.toNat_natCast, Nat.max_eq_right (by omega)]
theorem else_next (L : List Ln) (e i : Nat) (h : i < e) (h4 : ¬ (lnAtD L i).1 = 4) (h35 : ¬ ((lnAtD L i).1 = 3 ∨ (lnAtD L i).1 = 5)) : elseFrom L e i = elseFrom L e (i + 1) := by
  rw [elseFrom, if_pos h, if_neg h4, if_neg h35]
set_option maxHeartbeats 1000000 in
theorem i_elseOf (A : Option Addr) (n c : Nat) (L : List Ln) (k0 : Int) (w : World) (hn : n ≤ 1048576) (h : InLines w A n L) :
    Calls Try.prog 12 #[.slice A n c, .int .i64 k0] w fun e w' => e = .returned (.int .i64 (elseOfF L k0)) ∧ w = w' := by
  have H := hide h
  have HL := hide h.len
  clear h
  by_cases hneg : endOfF L k0 < 0
  · have HF : Hid (elseOfF L k0 = -1) := by show _ = _; unfold elseOfF; rw [if_neg (fun h => by omega)]
    go_enter Try.func12, Try.ntmps12
    go_wp2_with fail
    refine (i_endOf A n c L k0 _ hn H.out).mono ?_
    rintro e w' ⟨rfl, rfl⟩
    go_wp2
    go_ret
    exact ⟨by rw [HF.out]; rfl, rfl⟩
  · obtain ⟨p, rfl, hpl, hop, hpe, hel, _⟩ := endOf_pos L k0 (by omega)
    obtain ⟨ee, he⟩ := Int.eq_ofNat_of_zero_le (show 0 ≤ endOfF L (p : Int) by omega)
    have NEST := hide (fun i h1 h2 h3 => endOf_nest L p i (by omega) h1 h2 h3)
    rw [he] at hpe hel NEST
    have HE := hide he
    have HLn := HL.out
    have hen : ee < n := by omega
    have hpe' : p < ee := by omega
    clear he hneg hop HLn hpe hel
    obtain ⟨b, o, A1, c1, A2, c2, rfl, hbl, c0, c1', c2', c3', _⟩ := H.out.ln p hpl
    by_cases h3 : L[p].1 = 3
    · have HF : Hid (elseOfF L (p : Int) = elseFrom L ee (p + 1)) := by
        show _ = _; unfold elseOfF; rw [HE.out, if_pos ⟨by omega, by rw [Int.toNat_natCast, lnAtD_of L p hpl]; exact h3⟩]; rfl
      have z3 : (L[p].1 != 3) = false := by simp [h3]
      clear h3
      go_enter Try.func12, Try.ntmps12
      go_wp2_with fail
      refine (i_endOf _ n c L _ _ hn H.out).mono ?_
      rintro e w' ⟨rfl, rfl⟩
      rw [HE.out]
      go_wp2
      clear c0 c1' c2' c3' z3
      go_loop [6] (fun i => ∃ q : Nat, p + 1 ≤ q ∧ q ≤ ee ∧ i = .int .i64 q ∧ elseOfF L (p : Int) = elseFrom L ee q) (fun i => ee - (intOf i).toNat)
      case atStart => exact ⟨p + 1, by omega, by omega, by go_num, HF.out⟩
      case round =>
        obtain ⟨q, hq1, hq2, rfl, hx⟩ := hrel
        have HX := hide hx
        clear hx
        by_cases hlt : q < ee
        · have hql : q < L.length := by rw [HL.out]; omega
          obtain ⟨b2, o2, B1, d1, B2, d2, eA, hbl2, c0, c1', c2', c3', _⟩ := H.out.ln q hql
          obtain ⟨rfl, rfl⟩ : b = b2 ∧ o = o2 := by injection eA with eA; injection eA with eA eB; exact ⟨eA, eB⟩
          have HQ := hide (lnAtD_of L q hql)
          clear eA
          by_cases h4 : L[q].1 = 4
          · have HN : Hid (elseOfF L (p : Int) = q) := by show _ = _; rw [HX.out, else_hit L ee q hlt (by rw [HQ.out]; exact h4)]
            have z4 : (L[q].1 == 4) = true := by simp [h4]
            have z3 : (L[q].1 == 3) = false := by simp [h4]
            have z5 : (L[q].1 == 5) = false := by simp [h4]
            clear h4
            go_wp2_with fail
            go_ret
            exact ⟨by rw [HN.out]; rfl, rfl⟩
          · by_cases h35 : L[q].1 = 3 ∨ L[q].1 = 5
            · have hnest := NEST.out q (by omega) (by omega) (by rw [HQ.out]; unfold opensF; rcases h35 with h | h <;> simp [h])
              obtain ⟨j, hj⟩ := Int.eq_ofNat_of_zero_le (show 0 ≤ endOfF L (q : Int) by omega)
              rw [hj] at hnest
              have HN : Hid (elseOfF L (p : Int) = elseFrom L ee (j + 1)) := by show _ = _; rw [HX.out, else_skip L ee q j hlt (by rw [HQ.out]; exact h35) hj (by omega)]
              have HJ := hide hj
              have z4 : (L[q].1 == 4) = false := by simp [h4]
              clear hj h4
              rcases h35 with h3 | h5
              · have z3 : (L[q].1 == 3) = true := by simp [h3]
                clear h3
                go_wp2_with fail
                refine (i_endOf _ n c L _ _ hn H.out).mono ?_
                rintro e w' ⟨rfl, rfl⟩
                rw [HJ.out]
                go_wp2
                go_round
                case rel => exact ⟨j + 1, by omega, by omega, by go_num, HN.out⟩
                case measure => simp [intOf]; omega
              · have z3 : (L[q].1 == 3) = false := by simp [h5]
                have z5 : (L[q].1 == 5) = true := by simp [h5]
                clear h5
                go_wp2_with fail
                refine (i_endOf _ n c L _ _ hn H.out).mono ?_
                rintro e w' ⟨rfl, rfl⟩
                rw [HJ.out]
                go_wp2
                go_round
                case rel => exact ⟨j + 1, by omega, by omega, by go_num, HN.out⟩
                case measure => simp [intOf]; omega
            · have HN : Hid (elseOfF L (p : Int) = elseFrom L ee (q + 1)) := by show _ = _; rw [HX.out, else_next L ee q hlt (by rw [HQ.out]; exact h4) (by rw [HQ.out]; exact h35)]
              have z4 : (L[q].1 == 4) = false := by simp [h4]
              have z3 : (L[q].1 == 3) = false := by simp; exact fun h => h35 (.inl h)
              have z5 : (L[q].1 == 5) = false := by simp; exact fun h => h35 (.inr h)
              clear h4 h35
              go_wp2_with fail
              go_round
              case rel => exact ⟨q + 1, by omega, by omega, by go_num, HN.out⟩
              case measure => simp [intOf]; omega
        · have HN : Hid (elseOfF L (p : Int) = -1) := by show _ = _; rw [HX.out, else_out L ee q hlt]
          go_wp2
          go_ret
          exact ⟨by rw [HN.out]; rfl, rfl⟩
    · have HF : Hid (elseOfF L (p : Int) = -1) := by
        show _ = _; unfold elseOfF; rw [if_neg (fun h => h3 (by have := h.2; rw [Int.toNat_natCast, lnAtD_of L p hpl] at this; exact this))]
      have z3 : (L[p].1 != 3) = true := by simpa using h3
      clear h3
      go_enter Try.func12, Try.ntmps12
      go_wp2_with fail
      refine (i_endOf _ n c L _ _ hn H.out).mono ?_
      rintro e w' ⟨rfl, rfl⟩
      rw [HE.out]
      go_wp2
      go_ret
      exact ⟨by rw [HF.out]; rfl, rfl⟩
set_option maxHeartbeats 1000000 in
theorem s_elseOf (A : Option Addr) (n c : Nat) (L : List Ln) (k0 : Int) (w : World) (hn : n ≤ 1048576) (h : InLines w A n L) :
    Calls Try.prog 68 #[.slice A n c, .int .i64 k0] w fun e w' => e = .returned (.int .i64 (elseOfF L k0)) ∧ w = w' := by
  have H := hide h
  have HL := hide h.len
  clear h
  by_cases hneg : endOfF L k0 < 0
  · have HF : Hid (elseOfF L k0 = -1) := by show _ = _; unfold elseOfF; rw [if_neg (fun h => by omega)]
    go_enter Try.func68, Try.ntmps68
    go_wp2_with fail
    refine (s_endOf A n c L k0 _ hn H.out).mono ?_
    rintro e w' ⟨rfl, rfl⟩
    go_wp2
    go_ret
    exact ⟨by rw [HF.out]; rfl, rfl⟩
  · obtain ⟨p, rfl, hpl, hop, hpe, hel, _⟩ := endOf_pos L k0 (by omega)
    obtain ⟨ee, he⟩ := Int.eq_ofNat_of_zero_le (show 0 ≤ endOfF L (p : Int) by omega)
    have NEST := hide (fun i h1 h2 h3 => endOf_nest L p i (by omega) h1 h2 h3)
    rw [he] at hpe hel NEST
    have HE := hide he
    have HLn := HL.out
    have hen : ee < n := by omega
    have hpe' : p < ee := by omega
    clear he hneg hop HLn hpe hel
    obtain ⟨b, o, A1, c1, A2, c2, rfl, hbl, c0, c1', c2', c3', _⟩ := H.out.ln p hpl
    by_cases h3 : L[p].1 = 3
    · have HF : Hid (elseOfF L (p : Int) = elseFrom L ee (p + 1)) := by
        show _ = _; unfold elseOfF; rw [HE.out, if_pos ⟨by omega, by rw [Int.toNat_natCast, lnAtD_of L p hpl]; exact h3⟩]; rfl
      have z3 : (L[p].1 != 3) = false := by simp [h3]
      clear h3
      go_enter Try.func68, Try.ntmps68
      go_wp2_with fail
      refine (s_endOf _ n c L _ _ hn H.out).mono ?_
      rintro e w' ⟨rfl, rfl⟩
      rw [HE.out]
      go_wp2
      clear c0 c1' c2' c3' z3
      go_loop [6] (fun i => ∃ q : Nat, p + 1 ≤ q ∧ q ≤ ee ∧ i = .int .i64 q ∧ elseOfF L (p : Int) = elseFrom L ee q) (fun i => ee - (intOf i).toNat)
      case atStart => exact ⟨p + 1, by omega, by omega, by go_num, HF.out⟩
      case round =>
        obtain ⟨q, hq1, hq2, rfl, hx⟩ := hrel
        have HX := hide hx
        clear hx
        by_cases hlt : q < ee
        · have hql : q < L.length := by rw [HL.out]; omega
          obtain ⟨b2, o2, B1, d1, B2, d2, eA, hbl2, c0, c1', c2', c3', _⟩ := H.out.ln q hql
          obtain ⟨rfl, rfl⟩ : b = b2 ∧ o = o2 := by injection eA with eA; injection eA with eA eB; exact ⟨eA, eB⟩
          have HQ := hide (lnAtD_of L q hql)
          clear eA
          by_cases h4 : L[q].1 = 4
          · have HN : Hid (elseOfF L (p : Int) = q) := by show _ = _; rw [HX.out, else_hit L ee q hlt (by rw [HQ.out]; exact h4)]
            have z4 : (L[q].1 == 4) = true := by simp [h4]
            have z3 : (L[q].1 == 3) = false := by simp [h4]
            have z5 : (L[q].1 == 5) = false := by simp [h4]
            clear h4
            go_wp2_with fail
            go_ret
            exact ⟨by rw [HN.out]; rfl, rfl⟩
          · by_cases h35 : L[q].1 = 3 ∨ L[q].1 = 5
            · have hnest := NEST.out q (by omega) (by omega) (by rw [HQ.out]; unfold opensF; rcases h35 with h | h <;> simp [h])
              obtain ⟨j, hj⟩ := Int.eq_ofNat_of_zero_le (show 0 ≤ endOfF L (q : Int) by omega)
              rw [hj] at hnest
              have HN : Hid (elseOfF L (p : Int) = elseFrom L ee (j + 1)) := by show _ = _; rw [HX.out, else_skip L ee q j hlt (by rw [HQ.out]; exact h35) hj (by omega)]
              have HJ := hide hj
              have z4 : (L[q].1 == 4) = false := by simp [h4]
              clear hj h4
              rcases h35 with h3 | h5
              · have z3 : (L[q].1 == 3) = true := by simp [h3]
                clear h3
                go_wp2_with fail
                refine (s_endOf _ n c L _ _ hn H.out).mono ?_
                rintro e w' ⟨rfl, rfl⟩
                rw [HJ.out]
                go_wp2
                go_round
                case rel => exact ⟨j + 1, by omega, by omega, by go_num, HN.out⟩
                case measure => simp [intOf]; omega
              · have z3 : (L[q].1 == 3) = false := by simp [h5]
                have z5 : (L[q].1 == 5) = true := by simp [h5]
                clear h5
                go_wp2_with fail
                refine (s_endOf _ n c L _ _ hn H.out).mono ?_
                rintro e w' ⟨rfl, rfl⟩
                rw [HJ.out]
                go_wp2
                go_round
                case rel => exact ⟨j + 1, by omega, by omega, by go_num, HN.out⟩
                case measure => simp [intOf]; omega
            · have HN : Hid (elseOfF L (p : Int) = elseFrom L ee (q + 1)) := by show _ = _; rw [HX.out, else_next L ee q hlt (by rw [HQ.out]; exact h4) (by rw [HQ.out]; exact h35)]
              have z4 : (L[q].1 == 4) = false := by simp [h4]
              have z3 : (L[q].1 == 3) = false := by simp; exact fun h => h35 (.inl h)
              have z5 : (L[q].1 == 5) = false := by simp; exact fun h => h35 (.inr h)
              clear h4 h35
              go_wp2_with fail
              go_round
              case rel => exact ⟨q + 1, by omega, by omega, by go_num, HN.out⟩
              case measure => simp [intOf]; omega
        · have HN : Hid (elseOfF L (p : Int) = -1) := by show _ = _; rw [HX.out, else_out L ee q hlt]
          go_wp2
          go_ret
          exact ⟨by rw [HN.out]; rfl, rfl⟩
    · have HF : Hid (elseOfF L (p : Int) = -1) := by
        show _ = _; unfold elseOfF; rw [if_neg (fun h => h3 (by have := h.2; rw [Int.toNat_natCast, lnAtD_of L p hpl] at this; exact this))]
      have z3 : (L[p].1 != 3) = true := by simpa using h3
      clear h3
      go_enter Try.func68, Try.ntmps68
      go_wp2_with fail
      refine (s_endOf _ n c L _ _ hn H.out).mono ?_
      rintro e w' ⟨rfl, rfl⟩
      rw [HE.out]
      go_wp2
      go_ret
      exact ⟨by rw [HF.out]; rfl, rfl⟩
set_option maxHeartbeats 1000000 in
theorem i_funs (A : Option Addr) (n c : Nat) (L : List Ln) (w : World) (hn : n ≤ 1048576) (h : InLines w A n L) :
    Calls Try.prog 14 #[.slice A n c] w fun e w' => (∃ v, e = .returned v ∧ w'.ownsRow w.heap.size 3 1 v (funsF L).length (intCells (funsF L))) ∧ Below w.heap.size w w' := by
  obtain ⟨i0, hi, hz0, hz1, hz2⟩ := info_parts Try.infoInt
  have H := hide h
  have HL := hide h.len
  clear h
  go_enter Try.func14, Try.ntmps14
  go_wp2_with fail
  go_loopw [3, 9] (fun v i wr => ∃ (k : Nat) (acc : List Int), k ≤ n ∧ i = .int .i64 k ∧ acc.length ≤ k ∧ funsF L = acc ++ funsFrom (L.drop k) k ∧ wr.ownsRow w.heap.size 3 1 v acc.length (intCells acc) ∧ Below w.heap.size w wr) (fun _ i _ => n - (intOf i).toNat)
  case atStart => exact ⟨0, [], Nat.zero_le _, rfl, Nat.zero_le _, rfl, World.ownsRow_lit w #[] 0 (Nat.le_refl _) (Nat.zero_le _) rfl, (Below.refl _ _).alloc (Nat.le_refl _) _⟩
  case round =>
    obtain ⟨k, acc, hk, rfl, hacc, ho, hown, hb⟩ := hrel
    have HO := hide hown
    have HB := hide hb
    have HE := hide ho
    have R := hide (H.out.below hb)
    clear hown hb ho
    by_cases hlt : k < n
    · have hkl : k < L.length := by rw [HL.out]; exact hlt
      obtain ⟨b, o, A1, c1, A2, c2, rfl, hbl, c0, c1', c2', c3', _⟩ := R.out.ln k hkl
      by_cases h0 : L[k].1 = 0
      · have z0 : (L[k].1 == 0) = true := by simp [h0]
        have HE2 : Hid (funsF L = (acc ++ [(k : Int)]) ++ funsFrom (L.drop (k + 1)) (k + 1)) := by show _ = _; rw [HE.out, drop_step L k hkl, funsFrom, if_pos h0]; simp
        have hsn := hide (intCells_snoc acc (k : Int))
        clear h0
        go_wp2_with (first | (at_builtin; refine wpList_appN _ rfl (.tmp 17) (.tmp 19) _ rfl w.heap.size 3 i0 _ 1 8 Try.underlying28 hi hz0 hz1 hz2 rfl (by decide) u3 _ _ rfl (HO.out.alloc _) 1 [.int .i64 (k : Int)] rfl ?c0 ?c1 ?c2 ?c3 ?c4 ?c5 ?_) | fail)
        case c0 => simp
        case c1 => rfl
        case c2 => intro u hu; obtain rfl := List.mem_singleton.1 hu; rfl
        case c3 => omega
        case c4 => decide
        case c5 => have := HB.out.size; simp; omega
        intro v' w3 hown3 hb3 _ _
        rw [← hsn.out] at hown3
        have HO3 := hide hown3
        have HB3 := hide ((HB.out.alloc HB.out.size _).trans hb3)
        clear hown3 hb3
        go_wp2
        go_roundw
        case rel => exact ⟨k + 1, acc ++ [(k : Int)], by omega, by go_num, by simp; omega, HE2.out, by simpa using HO3.out, HB3.out⟩
        case measure => simp [intOf]; omega
      · have z0 : (L[k].1 == 0) = false := by simp [h0]
        have HE2 : Hid (funsF L = acc ++ funsFrom (L.drop (k + 1)) (k + 1)) := by show _ = _; rw [HE.out, drop_step L k hkl, funsFrom, if_neg h0]
        clear h0
        go_wp2_with fail
        go_roundw
        case rel => exact ⟨k + 1, acc, by omega, by go_num, by omega, HE2.out, (HO.out.alloc _), (HB.out.alloc HB.out.size _)⟩
        case measure => simp [intOf]; omega
    · have HF2 : Hid (funsF L = acc) := by show _ = _; rw [HE.out, List.drop_of_length_le (by rw [HL.out]; omega), funsFrom]; exact List.append_nil _
      go_wp2
      go_ret
      refine ⟨⟨u3, rfl, ?_⟩, HB.out⟩
      rw [HF2.out]
      exact HO.out
set_option maxHeartbeats 1000000 in
theorem s_funs (A : Option Addr) (n c : Nat) (L : List Ln) (w : World) (hn : n ≤ 1048576) (h : InLines w A n L) :
    Calls Try.prog 24 #[.slice A n c] w fun e w' => (∃ v, e = .returned v ∧ w'.ownsRow w.heap.size 3 1 v (funsF L).length (intCells (funsF L))) ∧ Below w.heap.size w w' := by
  obtain ⟨i0, hi, hz0, hz1, hz2⟩ := info_parts Try.infoInt
  have H := hide h
  have HL := hide h.len
  clear h
  go_enter Try.func24, Try.ntmps24
  go_wp2_with fail
  go_loopw [3, 4] (fun v i wr => ∃ (k : Nat) (acc : List Int), k ≤ n ∧ i = .int .i64 k ∧ acc.length ≤ k ∧ funsF L = acc ++ funsFrom (L.drop k) k ∧ wr.ownsRow w.heap.size 3 1 v acc.length (intCells acc) ∧ Below w.heap.size w wr) (fun _ i _ => n - (intOf i).toNat)
  case atStart => exact ⟨0, [], Nat.zero_le _, rfl, Nat.zero_le _, rfl, World.ownsRow_lit w #[] 0 (Nat.le_refl _) (Nat.zero_le _) rfl, (Below.refl _ _).alloc (Nat.le_refl _) _⟩
  case round =>
    obtain ⟨k, acc, hk, rfl, hacc, ho, hown, hb⟩ := hrel
    have HO := hide hown
    have HB := hide hb
    have HE := hide ho
    have R := hide (H.out.below hb)
    clear hown hb ho
    by_cases hlt : k < n
    · have hkl : k < L.length := by rw [HL.out]; exact hlt
      obtain ⟨b, o, A1, c1, A2, c2, rfl, hbl, c0, c1', c2', c3', _⟩ := R.out.ln k hkl
      by_cases h0 : L[k].1 = 0
      · have z0 : (L[k].1 == 0) = true := by simp [h0]
        have HE2 : Hid (funsF L = (acc ++ [(k : Int)]) ++ funsFrom (L.drop (k + 1)) (k + 1)) := by show _ = _; rw [HE.out, drop_step L k hkl, funsFrom, if_pos h0]; simp
        have hsn := hide (intCells_snoc acc (k : Int))
        clear h0
        go_wp2_with (first | (at_builtin; refine wpList_app _ rfl (.tmp 18) (.tmp 20) _ rfl w.heap.size 3 i0 _ 1 8 Try.underlying28 hi hz0 hz1 hz2 rfl (by decide) u3 _ _ rfl HO.out 1 [.int .i64 (k : Int)] rfl ?c1 ?c2 ?c3 ?c4 ?c5 ?_) | fail)
        case c1 => rfl
        case c2 => intro u hu; obtain rfl := List.mem_singleton.1 hu; rfl
        case c3 => omega
        case c4 => decide
        case c5 => exact HB.out.size
        intro v' w3 hown3 hb3 _ _
        rw [← hsn.out] at hown3
        have HO3 := hide hown3
        have HB3 := hide (HB.out.trans hb3)
        clear hown3 hb3
        go_wp2
        go_roundw
        case rel => exact ⟨k + 1, acc ++ [(k : Int)], by omega, by go_num, by simp; omega, HE2.out, by simpa using HO3.out, HB3.out⟩
        case measure => simp [intOf]; omega
      · have z0 : (L[k].1 == 0) = false := by simp [h0]
        have HE2 : Hid (funsF L = acc ++ funsFrom (L.drop (k + 1)) (k + 1)) := by show _ = _; rw [HE.out, drop_step L k hkl, funsFrom, if_neg h0]
        clear h0
        go_wp2_with fail
        go_roundw
        case rel => exact ⟨k + 1, acc, by omega, by go_num, by omega, HE2.out, HO.out, HB.out⟩
        case measure => simp [intOf]; omega
    · have HF2 : Hid (funsF L = acc) := by show _ = _; rw [HE.out, List.drop_of_length_le (by rw [HL.out]; omega), funsFrom]; exact List.append_nil _
      go_wp2
      go_ret
      refine ⟨⟨u3, rfl, ?_⟩, HB.out⟩
      rw [HF2.out]
      exact HO.out
end Go.Proofs.Ytcfjbaanahgpoaa
