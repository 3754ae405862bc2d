import Derived.Test.YtapfbnojodafjaaDoorFmtI
import Derived.Test.YtapfbnojodafjaaDoorDraw
namespace Go.Proofs.YtapfbnojodafjaaDoor
open Go Go.RowKit
set_option maxRecDepth 100000
theorem digD_all : ∀ n : Nat, (digD n).all isDig = true := by
  intro n
  induction n using Nat.strongRecOn with
  | _ n ih =>
    rcases Nat.eq_zero_or_pos n with h0 | h0
    · subst h0; rw [digD_zero]; rfl
    · rw [digD_pos n h0, List.all_append, ih (n / 10) (by omega)]
      have : (UInt8.ofNat (48 + n % 10)).toNat = 48 + n % 10 := by simp; omega
      simp [isDig]
      omega
theorem decV_digD : ∀ n : Nat, decV (digD n) = n := by
  intro n
  induction n using Nat.strongRecOn with
  | _ n ih =>
    rcases Nat.eq_zero_or_pos n with h0 | h0
    · subst h0; rw [digD_zero]; rfl
    · have : (UInt8.ofNat (48 + n % 10)).toNat = 48 + n % 10 := by simp; omega
      rw [digD_pos n h0, decV_snoc, ih (n / 10) (by omega), this]
      omega
theorem decT_all (n : Nat) : (decT n).all isDig = true := by
  unfold decT; split
  · decide
  · exact digD_all n
theorem decV_decT (n : Nat) : decV (decT n) = n := by
  unfold decT; split
  · rename_i h; subst h; decide
  · exact decV_digD n
theorem itoa_pu (n : Int) : puB (Lib.itoa n) = (decide (0 ≤ n) && decide (n ≤ 1000000000)) ∧ ((0 ≤ n ∧ n ≤ 1000000000) → puV (Lib.itoa n) = n) ∧ (Lib.itoa n).isEmpty = false := by
  by_cases hn : n < 0
  · have e : Lib.itoa n = 45 :: digD n.natAbs := by unfold Lib.itoa; rw [if_pos hn, digD_dec _ (by omega)]
    have hk : ¬ puOk (Lib.itoa n) := fun h => by
      have := h.2.2.1
      rw [e] at this
      have h2 : isDig 45 = true := by simp at this; exact this.1
      revert h2; decide
    refine ⟨?_, fun h => by omega, by rw [e]; rfl⟩
    rw [(pu_not hk).2, decide_eq_false (by omega)]; rfl
  · have e : Lib.itoa n = decT n.toNat := by unfold Lib.itoa; rw [if_neg hn, decT_dec]
    have hne : (decT n.toNat).isEmpty = false := by
      cases h : decT n.toNat with
      | nil => exact absurd (.inl h) (decT_lead n.toNat)
      | cons _ _ => rfl
    by_cases h9 : n ≤ 1000000000
    · have hk : puOk (Lib.itoa n) := by
        rw [e]
        refine ⟨?_, decT_lead _, decT_all _, by rw [decV_decT]; omega⟩
        unfold decT
        split
        · decide
        · exact digD_len 10 _ (Nat.lt_of_le_of_lt (show n.toNat ≤ 1000000000 by omega) (by decide))
      refine ⟨?_, fun _ => ?_, by rw [e]; exact hne⟩
      · rw [(pu_yes hk).2, decide_eq_true (by omega), decide_eq_true h9]; rfl
      · rw [(pu_yes hk).1, e, decV_decT]; omega
    · have hk : ¬ puOk (Lib.itoa n) := fun h => by have := h.2.2.2; rw [e, decV_decT] at this; omega
      refine ⟨?_, fun h => by omega, by rw [e]; exact hne⟩
      rw [(pu_not hk).2, decide_eq_true (show 0 ≤ n by omega), decide_eq_false h9]; rfl
theorem wrap64_range (x : Int) : -9223372036854775808 ≤ wrap64 x ∧ wrap64 x ≤ 9223372036854775807 := by unfold wrap64; omega
theorem mul_range (x y : Int) (h0 : 0 ≤ x) (h1 : x < 1000000) (h2 : 0 ≤ y) (h3 : y < 2000000) : -1000000000000 ≤ x * (y - 1000000) ∧ x * (y - 1000000) ≤ 1000000000000 := by
  have a : x * (y - 1000000) ≤ x * 1000000 := Int.mul_le_mul_of_nonneg_left (by omega) h0
  have b : x * (-1000000) ≤ x * (y - 1000000) := Int.mul_le_mul_of_nonneg_left (by omega) h0
  omega
set_option maxHeartbeats 400000 in
theorem s_drawFormatInt (A : Option Addr) (n c : Nat) (w : World) (hc : CodeAt w.heap.size w A n) :
    Calls Tryd.prog 18 #[.slice A n c] w fun e w' => (∃ x : Int, e = .returned (.int .i64 x) ∧ -9223372036854775808 ≤ x ∧ x ≤ 9223372036854775807) ∧ Below w.heap.size w w' := by
  go_enter Tryd.func18, Tryd.ntmps18
  go_wp2_with fail
  refine (s_l01New A n c w hc).mono ?_
  rintro e w1 ⟨rfl, hc1, hb1⟩
  go_wp2_with fail
  refine (s_l01Once _ _ _ _ hc1).mono ?_
  rintro e w2 ⟨⟨b, rfl⟩, hc2, hg2⟩
  have B2 := hide (below_only hb1 hg2 hb1.size (Nat.le_refl _))
  clear hb1 hg2
  cases b
  · go_wp2_with fail
    refine (s_l01Number _ _ _ hc2).mono ?_
    rintro e w3 ⟨⟨x, rfl, hx0, hx1⟩, hc3, hg3⟩
    go_wp2_with fail
    go_ret
    exact ⟨⟨x, rfl, hx0, hx1⟩, below_only B2.out hg3 B2.out.size (Nat.le_refl _)⟩
  · go_wp2_with fail
    refine (s_l01Below _ _ _ _ hc2).mono ?_
    rintro e w3 ⟨⟨x, rfl, hx0, hx1, _⟩, hc3, hg3⟩
    have hx1 := hx1 (by omega)
    have B3 := hide (below_only B2.out hg3 B2.out.size (Nat.le_refl _))
    clear hg3
    go_wp2_with fail
    refine (s_l01Below _ _ _ _ hc3).mono ?_
    rintro e w4 ⟨⟨y, rfl, hy0, hy1, _⟩, hc4, hg4⟩
    have hy1 := hy1 (by omega)
    have hm := mul_range x y hx0 hx1 hy0 hy1
    go_wp2_with fail
    go_ret
    exact ⟨⟨_, rfl, by omega, by omega⟩, below_only B3.out hg4 B3.out.size (Nat.le_refl _)⟩
namespace fnNumbers
set_option maxHeartbeats 1000000 in
theorem walk (v0 : Value) (w : World) (hp : PowIs w) (h0 : InBytes w v0) : Calls Tryd.prog 4 #[v0] w fun e w' => e = .returned (.bool true) ∧ Below w.heap.size w w' := by
  obtain ⟨A, n, c, rfl, hnc, hc, hrow⟩ := h0
  have hn : n ≤ maxLen := by omega
  have HP := hide hp
  have HR := hide (CodeAt.of_in hnc hc hrow)
  clear hrow hp
  by_cases hbig : 1048576 < n
  · have hd : decide (1048576 < n) = true := by simpa using hbig
    go_enter Tryd.func4, Tryd.ntmps4
    go_wp2_with (go_at_call 17; refine (l_big _ _ _ hn _).mono ?_; rintro e w' ⟨rfl, rfl⟩)
    go_ret
    exact ⟨rfl, Below.refl _ _⟩
  · have hd : decide (1048576 < n) = false := by simpa using hbig
    go_enter Tryd.func4, Tryd.ntmps4
    go_wp2_with fail
    refine (l_big _ _ _ hn _).mono ?_
    rintro e w' ⟨rfl, rfl⟩
    go_wp2_with fail
    refine (s_drawFormatInt _ _ _ _ HR.out).mono ?_
    rintro e w1 ⟨⟨x, rfl, hx0, hx1⟩, hb1⟩
    have B1 := hide hb1
    clear hb1 hd hbig
    go_wp2_with fail
    refine (i_formatInt x hx0 hx1 _ (HP.out.below B1.out)).mono ?_
    rintro e w2 ⟨rfl, hb2⟩
    have B2 := hide (B1.out.trans (hb2.mono B1.out.size))
    clear hb2
    have hl : (⟨(Lib.itoa x).toArray⟩ : ByteArray).size ≤ maxLen := Nat.le_trans (Lib.itoa_length_le x hx0 hx1) (by decide)
    obtain ⟨q1, q2, q3⟩ := itoa_pu x
    obtain ⟨t, ht⟩ : ∃ t : ByteArray, t = ⟨(Lib.itoa x).toArray⟩ := ⟨_, rfl⟩
    have e1 : t.data.toList = Lib.itoa x := by rw [ht]
    rw [← e1] at q1 q2 q3
    rw [← ht] at hl ⊢
    have q4 : t.toList.isEmpty = false := by rw [ByteArray.toList_eq]; exact q3
    have HL := hide hl
    have Q1 := hide q1
    have Q2 := hide q2
    clear ht e1 q3 hl q1 q2
    go_wp2_with fail
    refine (i_parseUint t HL.out _).mono ?_
    rintro e w' ⟨rfl, rfl⟩
    rw [Q1.out]
    by_cases h0 : 0 ≤ x
    · by_cases h9 : x ≤ 1000000000
      · rw [decide_eq_true h0, decide_eq_true h9, Q2.out ⟨h0, h9⟩]
        go_wp2_with fail
        go_ret
        exact ⟨rfl, B2.out⟩
      · rw [decide_eq_true h0, decide_eq_false h9]
        generalize puV t.data.toList = pv
        go_wp2_with fail
        go_ret
        exact ⟨rfl, B2.out⟩
    · rw [decide_eq_false h0]
      generalize puV t.data.toList = pv
      go_wp2_with fail
      go_ret
      exact ⟨rfl, B2.out⟩
end fnNumbers
end Go.Proofs.YtapfbnojodafjaaDoor
