import Derived.Test.YtcfjbaanahgpoaaSym
namespace Go.Proofs.Ytcfjbaanahgpoaa
open Go.RowKit
set_option maxRecDepth 100000
def symFrom (off : Int) : List Sy → Nat → Int
  | [], _ => -1
  | x :: l, k => if btw x.2.1 0 1000000 = true ∧ btw x.2.2 0 1000000 = true ∧ x.2.1 ≤ off ∧ off < x.2.1 + x.2.2 then (k : Int) else symFrom off l (k + 1)
def symF (l : List Sy) (off : Int) : Int := symFrom off l 0
theorem symFrom_ge (off : Int) (l : List Sy) : ∀ k : Nat, symFrom off l k = -1 ∨ ((k : Int) ≤ symFrom off l k ∧ symFrom off l k < k + l.length) := by
  induction l with
  | nil => intro k; exact .inl rfl
  | cons x l ih =>
    intro k
    rw [symFrom]
    split
    · right; simp; omega
    · rcases ih (k + 1) with h | h
      · exact .inl h
      · right; simp; omega
set_option maxHeartbeats 1000000 in
theorem i_symbolAt (x : Im) (A : Option Addr) (c : Nat) (off : Int) (w : World) (hn : x.2.length ≤ 1048576) (h : ImIn w x A c) :
    Calls Try.prog 22 #[.agg #[.string x.1, .slice A x.2.length c], .int .i64 off] w fun e w' => e = .returned (.int .i64 (symF x.2 off)) ∧ Below w.heap.size w w' := by
  obtain ⟨s, l⟩ := x
  obtain ⟨h1, _⟩ := h
  simp only at h1 hn ⊢
  have H := hide (h1.below ((Below.refl _ _).alloc (Nat.le_refl _) (.cells #[.string s, .slice A l.length c] 42)))
  have K := hide (Blk.new w 42 #[.string s, .slice A l.length c])
  clear h1
  go_enter Try.func22, Try.ntmps22
  go_wp2_with fail
  go_loopw [10] (fun i wr => ∃ k : Nat, k ≤ l.length ∧ i = .int .i64 k ∧ symF l off = symFrom off (l.drop k) k ∧ Below (w.heap.size + 1) (w.alloc (.cells #[.string s, .slice A l.length c] 42)) wr) (fun i _ => l.length - (intOf i).toNat)
  case atStart => exact ⟨0, Nat.zero_le _, rfl, rfl, Below.refl _ _⟩
  case round =>
    obtain ⟨k, hk, rfl, he, hb⟩ := hrel
    have HE := hide he
    have HB := hide hb
    have hz : w.heap.size + 1 ≤ wr.heap.size := by have := hb.size; simpa using this
    have hb' : Below (w.alloc (.cells #[.string s, .slice A l.length c] 42)).heap.size (w.alloc (.cells #[.string s, .slice A l.length c] 42)) wr := by simpa using hb
    have R := hide (H.out.below hb')
    have KR := K.out.below hb (by omega)
    have k0 := KR.cell 0
    have k1 := KR.cell 1
    simp at k0 k1
    have BW := hide (show Below w.heap.size w wr from ((Below.refl _ _).alloc (Nat.le_refl _) _).trans (hb.mono (by omega)))
    clear he hb hb' KR
    by_cases hlt : k < l.length
    · obtain ⟨b, o, rfl, hbl, c0, c1, c2⟩ := R.out.sym k hlt
      have HD := hide (List.drop_eq_getElem_cons hlt)
      cases h1 : btw l[k].2.1 0 1000000
      · skip
        have HF : Hid (symF l off = symFrom off (l.drop (k + 1)) (k + 1)) := by show _ = _; rw [HE.out, HD.out, symFrom, if_neg (fun hh => by rw [h1] at hh; cases hh.1)]
        go_wp2_with (first | (go_at_call 32; refine (i_between _ _ _ _).mono ?_; rintro e w' ⟨rfl, rfl⟩))
        go_roundw
        case rel => exact ⟨k + 1, by omega, by go_num, HF.out, HB.out.alloc hz _⟩
        case measure => simp [intOf]; omega
      · cases h2 : btw l[k].2.2 0 1000000
        · skip
          have HF : Hid (symF l off = symFrom off (l.drop (k + 1)) (k + 1)) := by show _ = _; rw [HE.out, HD.out, symFrom, if_neg (fun hh => by rw [h2] at hh; cases hh.2.1)]
          go_wp2_with (first | (go_at_call 32; refine (i_between _ _ _ _).mono ?_; rintro e w' ⟨rfl, rfl⟩))
          go_roundw
          case rel => exact ⟨k + 1, by omega, by go_num, HF.out, HB.out.alloc hz _⟩
          case measure => simp [intOf]; omega
        · have b1 : 0 ≤ l[k].2.1 ∧ l[k].2.1 ≤ 1000000 := by simpa [btw] using h1
          have b2 : 0 ≤ l[k].2.2 ∧ l[k].2.2 ≤ 1000000 := by simpa [btw] using h2
          by_cases h3 : l[k].2.1 ≤ off
          · by_cases h4 : off < l[k].2.1 + l[k].2.2
            · have HF : Hid (symF l off = k) := by show _ = _; rw [HE.out, HD.out, symFrom, if_pos ⟨h1, h2, h3, h4⟩]
              go_wp2_with (first | (go_at_call 32; refine (i_between _ _ _ _).mono ?_; rintro e w' ⟨rfl, rfl⟩))
              go_ret
              exact ⟨by rw [HF.out]; rfl, BW.out.alloc (by omega) _⟩
            · skip
              have HF : Hid (symF l off = symFrom off (l.drop (k + 1)) (k + 1)) := by show _ = _; rw [HE.out, HD.out, symFrom, if_neg (fun hh => h4 hh.2.2.2)]
              go_wp2_with (first | (go_at_call 32; refine (i_between _ _ _ _).mono ?_; rintro e w' ⟨rfl, rfl⟩))
              go_roundw
              case rel => exact ⟨k + 1, by omega, by go_num, HF.out, HB.out.alloc hz _⟩
              case measure => simp [intOf]; omega
          · skip
            have HF : Hid (symF l off = symFrom off (l.drop (k + 1)) (k + 1)) := by show _ = _; rw [HE.out, HD.out, symFrom, if_neg (fun hh => h3 hh.2.2.1)]
            go_wp2_with (first | (go_at_call 32; refine (i_between _ _ _ _).mono ?_; rintro e w' ⟨rfl, rfl⟩))
            go_roundw
            case rel => exact ⟨k + 1, by omega, by go_num, HF.out, HB.out.alloc hz _⟩
            case measure => simp [intOf]; omega
    · have HF : Hid (symF l off = -1) := by show _ = _; rw [HE.out, List.drop_of_length_le (by omega)]; rfl
      go_wp2_with fail
      go_ret
      exact ⟨by rw [HF.out]; rfl, BW.out⟩
end Go.Proofs.Ytcfjbaanahgpoaa
