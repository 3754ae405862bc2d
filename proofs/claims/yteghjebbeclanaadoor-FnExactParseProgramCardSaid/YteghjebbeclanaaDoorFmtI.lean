import Derived.Test.YteghjebbeclanaaDoorPUint
import Derived.Test.YteghjebbeclanaaDoorDoor
import Derived.Test.YteghjebbeclanaaDoorShelf
namespace Go.Proofs.YteghjebbeclanaaDoor
open Go Go.RowKit
set_option maxRecDepth 100000
theorem digD_dec (n : Nat) : 0 < n → digD n = Lib.decDigits n := by
  induction n using Nat.strongRecOn with
  | _ n ih =>
    intro h
    rw [digD_pos n h, Lib.decDigits]
    by_cases h10 : n < 10
    · rw [dif_pos h10, show n / 10 = 0 by omega, digD_zero, List.nil_append, show n % 10 = n by omega]
    · rw [dif_neg h10, ih (n / 10) (by omega) (by omega)]
theorem decT_dec (n : Nat) : decT n = Lib.decDigits n := by
  unfold decT
  split
  · rename_i h; subst h; rw [Lib.decDigits]; rfl
  · exact digD_dec n (by omega)
set_option maxHeartbeats 400000 in
theorem i_formatInt (n : Int) (h0 : -9223372036854775808 ≤ n) (h1 : n ≤ 9223372036854775807) (w : World) (hp : PowIs w) :
    Calls Tryd.prog 55 #[.int .i64 n] w fun e w' => e = .returned (.string ⟨(Lib.itoa n).toArray⟩) ∧ Below w.heap.size w w' := by
  have HP := hide hp
  clear hp
  go_enter Tryd.func55, Tryd.ntmps55
  go_wp2_with fail
  refine (Tryd.strconv_Itoa n h0 h1 _ HP.out).mono ?_
  rintro e w' ⟨rfl, k, os, rfl⟩
  have hb := hide (Lib.below_grow w.heap.size w (Nat.le_refl _) k os)
  go_wp2_with fail
  go_ret
  exact ⟨rfl, hb.out⟩
set_option maxHeartbeats 1000000 in
theorem s_formatNeg (k : Int) (hk : -9223372036854775808 ≤ k ∧ k < 0) (w : World) :
    Calls Tryd.prog 73 #[.int .i64 k] w fun e w' => e = .returned (.string ⟨(45 :: digD k.natAbs).toArray⟩) ∧ Below w.heap.size w w' := by
  have hL : (digD k.natAbs).length ≤ 20 := digD_len 20 _ (Nat.lt_of_le_of_lt (show k.natAbs ≤ 9223372036854775808 by omega) (by decide))
  have HL := hide hL
  have z0 : (k == 0) = false := by rw [beq_eq_false_iff_ne]; omega
  obtain ⟨hk0, hk1⟩ := hk
  have hkn : decide (k < 0) = true := by simpa using hk1
  clear hL
  go_enter Tryd.func73, Tryd.ntmps73
  go_wp2
  go_loopw [0, 4] (fun m out wr => ∃ (a : Int) (s : List UInt8), m = .int .i64 a ∧ k ≤ a ∧ a ≤ 0 ∧ out = .string ⟨s.toArray⟩ ∧ digD k.natAbs = digD a.natAbs ++ s ∧ Below w.heap.size w wr) (fun m _ _ => (intOf m).natAbs)
  case atStart => exact ⟨k, [], rfl, by omega, by omega, rfl, by simp, Below.refl _ _⟩
  case round =>
    obtain ⟨a, s, rfl, ha0, ha1, rfl, hs, hb⟩ := hrel
    have hlen : s.length ≤ 20 := by
      have h1 := congrArg List.length hs
      rw [List.length_append] at h1
      have := HL.out
      omega
    have HS := hide hs
    have HB := hide hb
    clear hs hb
    by_cases hq0 : a < 0
    · have zq : (a != 0) = true := by rw [bne_iff_ne]; omega
      obtain ⟨p, hp⟩ : ∃ p : Nat, a = -(p : Int) := ⟨a.natAbs, by omega⟩
      obtain ⟨r, hr⟩ : ∃ r : Int, a.tmod 10 = r := ⟨_, rfl⟩
      obtain ⟨q, hq⟩ : ∃ q : Int, a.tdiv 10 = q := ⟨_, rfl⟩
      have hrp : r = -((p % 10 : Nat) : Int) := by rw [← hr, hp, Int.neg_tmod, Int.tmod_eq_emod_of_nonneg (by omega)]; omega
      have hqp : q = -((p / 10 : Nat) : Int) := by rw [← hq, hp, Int.neg_tdiv, Int.tdiv_eq_ediv_of_nonneg (by omega)]; omega
      have hr0 : -9 ≤ r ∧ r ≤ 0 := by omega
      have hq1 : a ≤ q ∧ q ≤ 0 ∧ q.natAbs < a.natAbs := by omega
      obtain ⟨g, hg⟩ : ∃ g : Nat, g = (hexD (-r).toNat).toNat := ⟨_, rfl⟩
      have hgv : g = 48 + p % 10 := by
        have := hexD_toNat (-r).toNat (by omega)
        rw [if_pos (by omega)] at this
        omega
      have HG := hide hg.symm
      clear hg
      have hcv := fun (W : World) => conv_one (P := Tryd.prog) Tryd.underlying38 Tryd.underlying5 9 Tryd.underlying9 W (g : Int) (by omega)
      obtain ⟨d, hd⟩ : ∃ d : ByteArray, d = ⟨[UInt8.ofNat (g : Int).toNat].toArray⟩ := ⟨_, rfl⟩
      rw [← hd] at hcv
      have hsz : d.size = 1 := by rw [hd]; rfl
      have hsz2 : (⟨s.toArray⟩ : ByteArray).size = s.length := rfl
      have hap : Hid (Value.string (d ++ ⟨s.toArray⟩) = .string ⟨(UInt8.ofNat (48 + p % 10) :: s).toArray⟩) := by
        show _ = _
        rw [hd, bapp, Int.toNat_natCast, hgv]; rfl
      have hstep : Hid (digD k.natAbs = digD q.natAbs ++ (UInt8.ofNat (48 + p % 10) :: s)) := by
        show _ = _
        rw [HS.out, show a.natAbs = p by omega, show q.natAbs = p / 10 by omega, digD_pos p (by omega)]; simp
      clear hd hgv hp hrp hqp
      by_cases hr1 : r < 0
      · go_wp2_with fail
        refine (s_figure _ ⟨by omega, by omega⟩ _).mono ?_
        rintro e w' ⟨rfl, rfl⟩
        rw [HG.out]
        go_wp2
        go_roundw
        case rel => exact ⟨q, _, rfl, by omega, by omega, hap.out, hstep.out, HB.out.alloc HB.out.size _⟩
        case measure => simp [intOf]; omega
      · obtain rfl : r = 0 := by omega
        have HG2 : Hid ((hexD (0 : Int).toNat).toNat = g) := by show _ = _; have := HG.out; simpa using this
        go_wp2_with fail
        refine (s_figure _ ⟨by omega, by omega⟩ _).mono ?_
        rintro e w' ⟨rfl, rfl⟩
        rw [HG2.out]
        go_wp2
        go_roundw
        case rel => exact ⟨q, _, rfl, by omega, by omega, hap.out, hstep.out, HB.out.alloc HB.out.size _⟩
        case measure => simp [intOf]; omega
    · obtain rfl : a = 0 := by omega
      have hsz2 : (⟨s.toArray⟩ : ByteArray).size = s.length := rfl
      have hap : Hid (Value.string ((⟨[45].toArray⟩ : ByteArray) ++ ⟨s.toArray⟩) = .string ⟨(45 :: s).toArray⟩) := by
        show _ = _
        rw [bapp]; rfl
      go_wp2
      go_ret
      refine ⟨?_, HB.out⟩
      rw [HS.out, show (0 : Int).natAbs = 0 from rfl, digD_zero, List.nil_append]
      exact congrArg Ending.returned hap.out
theorem s_formatInt (n : Int) (h0 : -9223372036854775808 ≤ n) (h1 : n ≤ 9223372036854775807) (w : World) :
    Calls Tryd.prog 73 #[.int .i64 n] w fun e w' => e = .returned (.string ⟨(Lib.itoa n).toArray⟩) ∧ Below w.heap.size w w' := by
  by_cases hn : n < 0
  · have : Lib.itoa n = 45 :: digD n.natAbs := by unfold Lib.itoa; rw [if_pos hn, digD_dec _ (by omega)]
    rw [this]
    exact s_formatNeg n ⟨h0, hn⟩ w
  · have : Lib.itoa n = decT n.toNat := by unfold Lib.itoa; rw [if_neg hn, decT_dec]
    rw [this]
    exact s_formatNat n ⟨by omega, h1⟩ w
end Go.Proofs.YteghjebbeclanaaDoor
