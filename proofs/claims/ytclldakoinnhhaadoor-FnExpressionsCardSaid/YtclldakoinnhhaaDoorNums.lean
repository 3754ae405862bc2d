import Derived.Test.YtclldakoinnhhaaDoorFmtI
import Derived.Test.YtclldakoinnhhaaDoorDraw
namespace Go.Proofs.YtclldakoinnhhaaDoor
open Go Go.RowKit
set_option maxRecDepth 100000
theorem digD_all : ∀ n : Nat, (digD n).all isDig = true := by
  intro n
  induction n using Nat.strongRecOn with
  | _ n ih =>
    rcases Nat.eq_zero_or_pos n with h0 | h0
    · subst h0; rw [digD_zero]; rfl
    · rw [digD_pos n h0, List.all_append, ih (n / 10) (by omega)]
      have : (UInt8.ofNat (48 + n % 10)).toNat = 48 + n % 10 := by simp; omega
      simp [isDig]
      omega
theorem decV_digD : ∀ n : Nat, decV (digD n) = n := by
  intro n
  induction n using Nat.strongRecOn with
  | _ n ih =>
    rcases Nat.eq_zero_or_pos n with h0 | h0
    · subst h0; rw [digD_zero]; rfl
    · have : (UInt8.ofNat (48 + n % 10)).toNat = 48 + n % 10 := by simp; omega
      rw [digD_pos n h0, decV_snoc, ih (n / 10) (by omega), this]
      omega
theorem decT_all (n : Nat) : (decT n).all isDig = true := by
  unfold decT; split
  · decide
  · exact digD_all n
theorem decV_decT (n : Nat) : decV (decT n) = n := by
  unfold decT; split
  · rename_i h; subst h; decide
  · exact decV_digD n
theorem itoa_pu (n : Int) : puB (Lib.itoa n) = (decide (0 ≤ n) && decide (n ≤ 1000000000)) ∧ ((0 ≤ n ∧ n ≤ 1000000000) → puV (Lib.itoa n) = n) ∧ (Lib.itoa n).isEmpty = false := by
  by_cases hn : n < 0
  · have e : Lib.itoa n = 45 :: digD n.natAbs := by unfold Lib.itoa; rw [if_pos hn, digD_dec _ (by omega)]
    have hk : ¬ puOk (Lib.itoa n) := fun h => by
      have := h.2.2.1
      rw [e] at this
      have h2 : isDig 45 = true := by simp at this; exact this.1
      revert h2; decide
    refine ⟨?_, fun h => by omega, by rw [e]; rfl⟩
    rw [(pu_not hk).2, decide_eq_false (by omega)]; rfl
  · have e : Lib.itoa n = decT n.toNat := by unfold Lib.itoa; rw [if_neg hn, decT_dec]
    have hne : (decT n.toNat).isEmpty = false := by
      cases h : decT n.toNat with
      | nil => exact absurd (.inl h) (decT_lead n.toNat)
      | cons _ _ => rfl
    by_cases h9 : n ≤ 1000000000
    · have hk : puOk (Lib.itoa n) := by
        rw [e]
        refine ⟨?_, decT_lead _, decT_all _, by rw [decV_decT]; omega⟩
        unfold decT
        split
        · decide
        · exact digD_len 10 _ (Nat.lt_of_le_of_lt (show n.toNat ≤ 1000000000 by omega) (by decide))
      refine ⟨?_, fun _ => ?_, by rw [e]; exact hne⟩
      · rw [(pu_yes hk).2, decide_eq_true (by omega), decide_eq_true h9]; rfl
      · rw [(pu_yes hk).1, e, decV_decT]; omega
    · have hk : ¬ puOk (Lib.itoa n) := fun h => by have := h.2.2.2; rw [e, decV_decT] at this; omega
      refine ⟨?_, fun h => by omega, by rw [e]; exact hne⟩
      rw [(pu_not hk).2, decide_eq_true (show 0 ≤ n by omega), decide_eq_false h9]; rfl
end Go.Proofs.YtclldakoinnhhaaDoor
