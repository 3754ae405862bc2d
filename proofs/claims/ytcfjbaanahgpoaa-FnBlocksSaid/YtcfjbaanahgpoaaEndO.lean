import Derived.Test.YtcfjbaanahgpoaaStrc
namespace Go.Proofs.Ytcfjbaanahgpoaa
open Go.RowKit
set_option maxRecDepth 100000
set_option maxHeartbeats 1000000 in
theorem i_endOf (A : Option Addr) (n c : Nat) (L : List Ln) (k0 : Int) (w : World) (hn : n ≤ 1048576) (h : InLines w A n L) :
    Calls Try.prog 11 #[.slice A n c, .int .i64 k0] w fun e w' => e = .returned (.int .i64 (endOfF L k0)) ∧ w = w' := by
  have H := hide h
  have HL := hide h.len
  clear h
  by_cases hr : 0 ≤ k0 ∧ k0 < n
  · obtain ⟨r0, r1⟩ := hr
    obtain ⟨p, rfl⟩ := Int.eq_ofNat_of_zero_le r0
    have hkl0 : p < L.length := by rw [HL.out]; omega
    have HAT : Hid (lnAtD L p = L[p]) := by show _ = _; unfold lnAtD; rw [List.getD_eq_getElem?_getD, List.getElem?_eq_getElem hkl0]; rfl
    clear r0
    obtain ⟨b, o, A1, c1, A2, c2, rfl, hbl, c0, c1', c2', c3', _⟩ := H.out.ln p hkl0
    have hin : btw (p : Int) 0 ((n : Int) - 1) = true := by simp [btw]; omega
    cases hop : opensF L[p].1
    · have HF : Hid (endOfF L (p : Int) = -1) := by show _ = _; unfold endOfF; rw [if_neg (by rw [Int.toNat_natCast, HAT.out, hop]; simp)]
      go_enter Try.func11, Try.ntmps11
      go_wp2_with (first | (go_at_call 32; refine (i_between _ _ _ _).mono ?_; rintro e w' ⟨rfl, rfl⟩) | (go_at_call 39; refine (i_opens _ _).mono ?_; rintro e w' ⟨rfl, rfl⟩) | fail)
      go_ret
      exact ⟨by rw [HF.out]; rfl, rfl⟩
    · have HF : Hid (endOfF L (p : Int) = endFrom (L.drop p) p 0) := by show _ = _; unfold endOfF; rw [Int.toNat_natCast, if_pos ⟨by omega, by rw [HL.out]; omega, by rw [HAT.out, hop]⟩]
      go_enter Try.func11, Try.ntmps11
      go_wp2_with (first | (go_at_call 32; refine (i_between _ _ _ _).mono ?_; rintro e w' ⟨rfl, rfl⟩) | (go_at_call 39; refine (i_opens _ _).mono ?_; rintro e w' ⟨rfl, rfl⟩) | fail)
      clear hop c0 c1' c2' c3'
      go_loop [5, 6] (fun od i => ∃ (k : Nat) (q : Int), k ≤ n ∧ i = .int .i64 k ∧ od = .int .i64 q ∧ -(k : Int) ≤ q ∧ q ≤ k ∧ endOfF L (p : Int) = endFrom (L.drop k) k q) (fun _ i => n - (intOf i).toNat)
      case atStart => exact ⟨p, 0, by omega, rfl, rfl, by omega, by omega, HF.out⟩
      case round =>
        obtain ⟨k, q, hk, rfl, rfl, q0, q1, he⟩ := hrel
        have HE := hide he
        clear he
        by_cases hlt : k < n
        · have hkl : k < L.length := by rw [HL.out]; exact hlt
          obtain ⟨b2, o2, B1, d1, B2, d2, eA, hbl2, c0, c1', c2', c3', _⟩ := H.out.ln k hkl
          obtain ⟨rfl, rfl⟩ : b = b2 ∧ o = o2 := by injection eA with eA; injection eA with eA eB; exact ⟨eA, eB⟩
          clear eA
          cases hop : opensF L[k].1
          · by_cases h7 : L[k].1 = 7
            ·
              have z7 : (L[k].1 == 7) = true := by simp [h7]
              have hd : depF L[k].1 = -1 := by unfold depF; rw [hop]; simp [h7]
              by_cases hz : q - 1 = 0
              · have HN : Hid (endOfF L (p : Int) = k) := by show _ = _; rw [HE.out, drop_step L k hkl, endFrom, hd, if_pos (by omega)]
                have zz : (q - 1 == 0) = true := by simp [hz]
                clear hz hd h7
                go_wp2_with (first | (go_at_call 39; refine (i_opens _ _).mono ?_; rintro e w' ⟨rfl, rfl⟩) | fail)
                go_ret
                exact ⟨by rw [HN.out]; rfl, rfl⟩
              · have HN : Hid (endOfF L (p : Int) = endFrom (L.drop (k + 1)) (k + 1) (q - 1)) := by show _ = _; rw [HE.out, drop_step L k hkl, endFrom, hd, if_neg (by omega)]; try rfl
                have zz : (q - 1 == 0) = false := by simpa using hz
                clear hz hd h7
                go_wp2_with (first | (go_at_call 39; refine (i_opens _ _).mono ?_; rintro e w' ⟨rfl, rfl⟩) | fail)
                go_round
                case rel => exact ⟨k + 1, q - 1, by omega, by go_num, by first | rfl | go_num, by omega, by omega, HN.out⟩
                case measure => simp [intOf]; omega
            ·
              have z7 : (L[k].1 == 7) = false := by simp [h7]
              have hd : depF L[k].1 = 0 := by unfold depF; rw [hop]; simp [h7]
              by_cases hz : q = 0
              · have HN : Hid (endOfF L (p : Int) = k) := by show _ = _; rw [HE.out, drop_step L k hkl, endFrom, hd, if_pos (by omega)]
                have zz : (q == 0) = true := by simp [hz]
                clear hz hd h7
                go_wp2_with (first | (go_at_call 39; refine (i_opens _ _).mono ?_; rintro e w' ⟨rfl, rfl⟩) | fail)
                go_ret
                exact ⟨by rw [HN.out]; rfl, rfl⟩
              · have HN : Hid (endOfF L (p : Int) = endFrom (L.drop (k + 1)) (k + 1) (q)) := by show _ = _; rw [HE.out, drop_step L k hkl, endFrom, hd, if_neg (by omega), Int.add_zero]
                have zz : (q == 0) = false := by simpa using hz
                clear hz hd h7
                go_wp2_with (first | (go_at_call 39; refine (i_opens _ _).mono ?_; rintro e w' ⟨rfl, rfl⟩) | fail)
                go_round
                case rel => exact ⟨k + 1, q, by omega, by go_num, by first | rfl | go_num, by omega, by omega, HN.out⟩
                case measure => simp [intOf]; omega
          · have h7 : L[k].1 ≠ 7 := by intro e; rw [e] at hop; simp [opensF] at hop
            ·
              have z7 : (L[k].1 == 7) = false := by simp [h7]
              have hd : depF L[k].1 = 1 := by unfold depF; rw [hop]; simp [h7]
              by_cases hz : q + 1 = 0
              · have HN : Hid (endOfF L (p : Int) = k) := by show _ = _; rw [HE.out, drop_step L k hkl, endFrom, hd, if_pos (by omega)]
                have zz : (q + 1 == 0) = true := by simp [hz]
                clear hz hd h7
                go_wp2_with (first | (go_at_call 39; refine (i_opens _ _).mono ?_; rintro e w' ⟨rfl, rfl⟩) | fail)
                go_ret
                exact ⟨by rw [HN.out]; rfl, rfl⟩
              · have HN : Hid (endOfF L (p : Int) = endFrom (L.drop (k + 1)) (k + 1) (q + 1)) := by show _ = _; rw [HE.out, drop_step L k hkl, endFrom, hd, if_neg (by omega)]; try rfl
                have zz : (q + 1 == 0) = false := by simpa using hz
                clear hz hd h7
                go_wp2_with (first | (go_at_call 39; refine (i_opens _ _).mono ?_; rintro e w' ⟨rfl, rfl⟩) | fail)
                go_round
                case rel => exact ⟨k + 1, q + 1, by omega, by go_num, by first | rfl | go_num, by omega, by omega, HN.out⟩
                case measure => simp [intOf]; omega
        · have HN : Hid (endOfF L (p : Int) = -1) := by show _ = _; rw [HE.out, List.drop_of_length_le (by rw [HL.out]; omega)]; rfl
          go_wp2
          go_ret
          exact ⟨by rw [HN.out]; rfl, rfl⟩
  · have HF : Hid (endOfF L k0 = -1) := by show _ = _; unfold endOfF; rw [if_neg (fun h => hr ⟨h.1, by have := h.2.1; rw [HL.out] at this; exact this⟩)]
    have hin : btw k0 0 ((n : Int) - 1) = false := by simp [btw]; omega
    clear hr
    go_enter Try.func11, Try.ntmps11
    go_wp2_with (first | (go_at_call 32; refine (i_between _ _ _ _).mono ?_; rintro e w' ⟨rfl, rfl⟩) | (go_at_call 39; refine (i_opens _ _).mono ?_; rintro e w' ⟨rfl, rfl⟩) | fail)
    go_ret
    exact ⟨by rw [HF.out]; rfl, rfl⟩
set_option maxHeartbeats 1000000 in
theorem s_endOf (A : Option Addr) (n c : Nat) (L : List Ln) (k0 : Int) (w : World) (hn : n ≤ 1048576) (h : InLines w A n L) :
    Calls Try.prog 13 #[.slice A n c, .int .i64 k0] w fun e w' => e = .returned (.int .i64 (endOfF L k0)) ∧ w = w' := by
  have H := hide h
  have HL := hide h.len
  clear h
  by_cases hr : 0 ≤ k0 ∧ k0 < n
  · obtain ⟨r0, r1⟩ := hr
    obtain ⟨p, rfl⟩ := Int.eq_ofNat_of_zero_le r0
    have hkl0 : p < L.length := by rw [HL.out]; omega
    have HAT : Hid (lnAtD L p = L[p]) := by show _ = _; unfold lnAtD; rw [List.getD_eq_getElem?_getD, List.getElem?_eq_getElem hkl0]; rfl
    clear r0
    obtain ⟨b, o, A1, c1, A2, c2, rfl, hbl, c0, c1', c2', c3', _⟩ := H.out.ln p hkl0
    have hge : decide (n ≤ p) = false := by simp; omega
    have hge0 : decide ((p : Int) < 0) = false := by simp
    cases hop : opensF L[p].1
    · have HF : Hid (endOfF L (p : Int) = -1) := by show _ = _; unfold endOfF; rw [if_neg (by rw [Int.toNat_natCast, HAT.out, hop]; simp)]
      go_enter Try.func13, Try.ntmps13
      go_wp2_with (first | (go_at_call 40; refine (s_opens _ _).mono ?_; rintro e w' ⟨rfl, rfl⟩) | fail)
      go_ret
      exact ⟨by rw [HF.out]; rfl, rfl⟩
    · have HF : Hid (endOfF L (p : Int) = endFrom (L.drop p) p 0) := by show _ = _; unfold endOfF; rw [Int.toNat_natCast, if_pos ⟨by omega, by rw [HL.out]; omega, by rw [HAT.out, hop]⟩]
      go_enter Try.func13, Try.ntmps13
      go_wp2_with (first | (go_at_call 40; refine (s_opens _ _).mono ?_; rintro e w' ⟨rfl, rfl⟩) | fail)
      clear hop c0 c1' c2' c3'
      go_loop [5, 6] (fun od i => ∃ (k : Nat) (q : Int), k ≤ n ∧ i = .int .i64 k ∧ od = .int .i64 q ∧ -(k : Int) ≤ q ∧ q ≤ k ∧ endOfF L (p : Int) = endFrom (L.drop k) k q) (fun _ i => n - (intOf i).toNat)
      case atStart => exact ⟨p, 0, by omega, rfl, rfl, by omega, by omega, HF.out⟩
      case round =>
        obtain ⟨k, q, hk, rfl, rfl, q0, q1, he⟩ := hrel
        have HE := hide he
        clear he
        by_cases hlt : k < n
        · have hkl : k < L.length := by rw [HL.out]; exact hlt
          obtain ⟨b2, o2, B1, d1, B2, d2, eA, hbl2, c0, c1', c2', c3', _⟩ := H.out.ln k hkl
          obtain ⟨rfl, rfl⟩ : b = b2 ∧ o = o2 := by injection eA with eA; injection eA with eA eB; exact ⟨eA, eB⟩
          clear eA
          cases hop : opensF L[k].1
          · by_cases h7 : L[k].1 = 7
            ·
              have z7 : (L[k].1 == 7) = true := by simp [h7]
              have hd : depF L[k].1 = -1 := by unfold depF; rw [hop]; simp [h7]
              by_cases hz : q - 1 = 0
              · have HN : Hid (endOfF L (p : Int) = k) := by show _ = _; rw [HE.out, drop_step L k hkl, endFrom, hd, if_pos (by omega)]
                have zz : (q - 1 == 0) = true := by simp [hz]
                clear hz hd h7
                go_wp2_with (first | (go_at_call 40; refine (s_opens _ _).mono ?_; rintro e w' ⟨rfl, rfl⟩) | fail)
                go_ret
                exact ⟨by rw [HN.out]; rfl, rfl⟩
              · have HN : Hid (endOfF L (p : Int) = endFrom (L.drop (k + 1)) (k + 1) (q - 1)) := by show _ = _; rw [HE.out, drop_step L k hkl, endFrom, hd, if_neg (by omega)]; try rfl
                have zz : (q - 1 == 0) = false := by simpa using hz
                clear hz hd h7
                go_wp2_with (first | (go_at_call 40; refine (s_opens _ _).mono ?_; rintro e w' ⟨rfl, rfl⟩) | fail)
                go_round
                case rel => exact ⟨k + 1, q - 1, by omega, by go_num, by first | rfl | go_num, by omega, by omega, HN.out⟩
                case measure => simp [intOf]; omega
            ·
              have z7 : (L[k].1 == 7) = false := by simp [h7]
              have hd : depF L[k].1 = 0 := by unfold depF; rw [hop]; simp [h7]
              by_cases hz : q = 0
              · have HN : Hid (endOfF L (p : Int) = k) := by show _ = _; rw [HE.out, drop_step L k hkl, endFrom, hd, if_pos (by omega)]
                have zz : (q == 0) = true := by simp [hz]
                clear hz hd h7
                go_wp2_with (first | (go_at_call 40; refine (s_opens _ _).mono ?_; rintro e w' ⟨rfl, rfl⟩) | fail)
                go_ret
                exact ⟨by rw [HN.out]; rfl, rfl⟩
              · have HN : Hid (endOfF L (p : Int) = endFrom (L.drop (k + 1)) (k + 1) (q)) := by show _ = _; rw [HE.out, drop_step L k hkl, endFrom, hd, if_neg (by omega), Int.add_zero]
                have zz : (q == 0) = false := by simpa using hz
                clear hz hd h7
                go_wp2_with (first | (go_at_call 40; refine (s_opens _ _).mono ?_; rintro e w' ⟨rfl, rfl⟩) | fail)
                go_round
                case rel => exact ⟨k + 1, q, by omega, by go_num, by first | rfl | go_num, by omega, by omega, HN.out⟩
                case measure => simp [intOf]; omega
          · have h7 : L[k].1 ≠ 7 := by intro e; rw [e] at hop; simp [opensF] at hop
            ·
              have z7 : (L[k].1 == 7) = false := by simp [h7]
              have hd : depF L[k].1 = 1 := by unfold depF; rw [hop]; simp [h7]
              by_cases hz : q + 1 = 0
              · have HN : Hid (endOfF L (p : Int) = k) := by show _ = _; rw [HE.out, drop_step L k hkl, endFrom, hd, if_pos (by omega)]
                have zz : (q + 1 == 0) = true := by simp [hz]
                clear hz hd h7
                go_wp2_with (first | (go_at_call 40; refine (s_opens _ _).mono ?_; rintro e w' ⟨rfl, rfl⟩) | fail)
                go_ret
                exact ⟨by rw [HN.out]; rfl, rfl⟩
              · have HN : Hid (endOfF L (p : Int) = endFrom (L.drop (k + 1)) (k + 1) (q + 1)) := by show _ = _; rw [HE.out, drop_step L k hkl, endFrom, hd, if_neg (by omega)]; try rfl
                have zz : (q + 1 == 0) = false := by simpa using hz
                clear hz hd h7
                go_wp2_with (first | (go_at_call 40; refine (s_opens _ _).mono ?_; rintro e w' ⟨rfl, rfl⟩) | fail)
                go_round
                case rel => exact ⟨k + 1, q + 1, by omega, by go_num, by first | rfl | go_num, by omega, by omega, HN.out⟩
                case measure => simp [intOf]; omega
        · have HN : Hid (endOfF L (p : Int) = -1) := by show _ = _; rw [HE.out, List.drop_of_length_le (by rw [HL.out]; omega)]; rfl
          go_wp2
          go_ret
          exact ⟨by rw [HN.out]; rfl, rfl⟩
  · have HF : Hid (endOfF L k0 = -1) := by show _ = _; unfold endOfF; rw [if_neg (fun h => hr ⟨h.1, by have := h.2.1; rw [HL.out] at this; exact this⟩)]
    by_cases h0 : k0 < 0
    · clear hr
      go_enter Try.func13, Try.ntmps13
      go_wp2_with fail
      go_ret
      exact ⟨by rw [HF.out]; rfl, rfl⟩
    have h1 : (n : Int) ≤ k0 := by omega
    clear hr
    go_enter Try.func13, Try.ntmps13
    go_wp2_with fail
    go_ret
    exact ⟨by rw [HF.out]; rfl, rfl⟩
end Go.Proofs.Ytcfjbaanahgpoaa
