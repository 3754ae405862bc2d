import Derived.Test.YthhlimbaoenkkaaTokS
namespace Go.Proofs.Ythhlimbaoenkkaa
open Go.RowKit
set_option maxRecDepth 100000
set_option maxHeartbeats 400000 in
theorem l_eqTok (a b : Tk) (w : World) :
    Calls Try.prog 77 #[.agg #[.int .i64 a.1, .int .i64 a.2.1, .string a.2.2], .agg #[.int .i64 b.1, .int .i64 b.2.1, .string b.2.2]] w fun e w' => e = .returned (.bool (decide (a = b))) ∧ Below w.heap.size w w' := by
  obtain ⟨a1, a2, a3⟩ := a
  obtain ⟨b1, b2, b3⟩ := b
  go_enter Try.func77, Try.ntmps77
  go_wp2
  all_goals go_ret
  all_goals refine ⟨ret_bool ?_, by repeat (first | exact Below.refl _ _ | refine Below.alloc ?_ (by first | (simp; done) | (simp; omega)) _ | refine Below.drew ?_ | refine below_drewN ?_ _ | refine Below.setCell ?_ (by first | (simp; done) | (simp; omega)) _)⟩
  all_goals go_light
  all_goals simp_all [ByteArray.toList_eq]
  all_goals first | (intro e; subst e; simp_all; done) | exact ByteArray.ext ‹_›
set_option maxHeartbeats 400000 in
theorem l_eqTokS (A A' : Option Addr) (n n' c c' : Nat) (l l' : List Tk) (w : World) (hn : n ≤ 1099511627776) (hn' : n' ≤ 1099511627776)
    (h : InRow w A n 3 (tokCells l)) (h' : InRow w A' n' 3 (tokCells l')) :
    Calls Try.prog 30 #[.slice A n c, .slice A' n' c'] w fun e w' => e = .returned (.bool (decide (l = l'))) ∧ Below w.heap.size w w' := by
  have hl : l.length = n := by have := h.1; rw [tokCells_length] at this; omega
  have hl' : l'.length = n' := by have := h'.1; rw [tokCells_length] at this; omega
  by_cases hne : n = n'
  · subst hne
    have H := hide h
    have H' := hide h'
    have HL := hide hl
    have HL' := hide hl'
    clear h h' hl hl'
    go_enter Try.func30, Try.ntmps30
    go_wp2
    go_loopw [5] (fun i wr => ∃ k : Nat, k ≤ n ∧ i = .int .i64 k ∧ l.take k = l'.take k ∧ Below w.heap.size w wr) (fun i _ => n - (intOf i).toNat)
    case atStart => exact ⟨0, Nat.zero_le _, rfl, rfl, Below.refl _ _⟩
    case round =>
      obtain ⟨k, hk, rfl, ht, hb⟩ := hrel
      have HT := hide ht
      have HB := hide hb
      have R := hide (H.out.below hb)
      have R' := hide (H'.out.below hb)
      clear ht hb
      by_cases hlt : k < n
      · have hkl : k < l.length := by rw [HL.out]; exact hlt
        have hkl' : k < l'.length := by rw [HL'.out]; exact hlt
        obtain ⟨b, o, rfl, _, c0, c1, c2⟩ := R.out.tok k hkl
        obtain ⟨b', o', rfl, _, d0, d1, d2⟩ := R'.out.tok k hkl'
        by_cases heq : l[k] = l'[k]
        · have hdec := decide_eq_true heq
          have HN := hide (take_eq_step l l' k hkl hkl' HT.out heq)
          clear heq
          go_wp2
          refine wp_region_still_tail 8 (by kernel_rfl) (by kernel_rfl) ?_
          simp only [List.take_succ_cons, List.take_zero, List.drop_succ_cons, List.drop_zero]
          repeat still_step
          refine wpStill_nil ?_
          change wpList _ _ _ _ _ wr.drew
          go_wp2_with fail
          refine (l_eqTok l[k] l'[k] _).mono ?_
          rintro e w2 ⟨rfl, hb2⟩
          go_wp2
          go_roundw
          case rel => exact ⟨k + 1, by omega, by go_num, HN.out, HB.out.drew.trans (hb2.mono HB.out.size)⟩
          case measure => simp [intOf]; omega
        · have hdec := decide_eq_false heq
          have HN : Hid (decide (l = l') = false) := decide_eq_false (fun e => heq (by subst e; rfl))
          clear heq
          go_wp2
          refine wp_region_still_tail 8 (by kernel_rfl) (by kernel_rfl) ?_
          simp only [List.take_succ_cons, List.take_zero, List.drop_succ_cons, List.drop_zero]
          repeat still_step
          refine wpStill_nil ?_
          change wpList _ _ _ _ _ wr.drew
          go_wp2_with fail
          refine (l_eqTok l[k] l'[k] _).mono ?_
          rintro e w2 ⟨rfl, hb2⟩
          go_wp2
          go_ret
          exact ⟨ret_bool HN.out.symm, HB.out.drew.trans (hb2.mono HB.out.size)⟩
      · have HN : Hid (decide (l = l') = true) := decide_eq_true (by
          have := HT.out
          rw [List.take_of_length_le (by rw [HL.out]; omega), List.take_of_length_le (by rw [HL'.out]; omega)] at this
          exact this)
        go_wp2
        go_ret
        exact ⟨ret_bool HN.out.symm, HB.out⟩
  · have hd : (((n : Nat) : Int) != (n' : Int)) = true := by rw [bne_iff_ne]; omega
    have hf : Hid (decide (l = l') = false) := decide_eq_false (fun e => hne (by rw [← hl, ← hl', e]))
    clear h h' hl hl' hne
    go_enter Try.func30, Try.ntmps30
    go_wp2
    go_ret
    exact ⟨ret_bool hf.out.symm, Below.refl _ _⟩
/-- The decimal digits of a number above 0 (none of 0). -/
def digD (n : Nat) : List UInt8 := if _h : n = 0 then [] else digD (n / 10) ++ [UInt8.ofNat (48 + n % 10)]
termination_by n
decreasing_by omega
theorem digD_zero : digD 0 = [] := by rw [digD]; rfl
theorem digD_pos (n : Nat) (h : 0 < n) : digD n = digD (n / 10) ++ [UInt8.ofNat (48 + n % 10)] := by rw [digD]; rw [dif_neg (by omega)]
def markT (k : Int) : ByteArray := if k ≤ 0 then ⟨#[109, 48]⟩ else ⟨(109 :: digD k.toNat).toArray⟩
theorem conv_one {P : Program} {src e : Nat} (hs : P.underlying src = some (.slice e)) (he : P.underlying e = some (.int .u8)) (dst : Nat) (hd : P.underlying dst = some .string) (W : World) (b : Int) (hb : 0 ≤ b ∧ b ≤ 255) :
    (convert src dst (.slice (some ⟨W.heap.size, 0, none⟩) 1 1)).run P (W.alloc (.cells #[.int .u8 b] e)) = .ok (.string ⟨[UInt8.ofNat b.toNat].toArray⟩) (W.alloc (.cells #[.int .u8 b] e)) := by
  refine run_convert_bytes_back _ src dst e ⟨W.heap.size, 0, none⟩ 1 [UInt8.ofNat b.toNat] hs he hd fun j hj => ?_
  rw [add_zero_off, (Blk.new W e _).cell j]
  have : j = 0 := by simpa using hj
  subst this
  simp
  omega
set_option maxHeartbeats 400000 in
theorem l_markText (k : Int) (hk : 0 ≤ k ∧ k ≤ 9007199254740992) (w : World) :
    Calls Try.prog 78 #[.int .i64 k] w fun e w' => e = .returned (.string (markT k)) ∧ Below w.heap.size w w' := by
  by_cases h0 : k ≤ 0
  · have hf : Hid (markT k = ⟨#[109, 48]⟩) := by unfold markT; rw [if_pos h0]; rfl
    go_enter Try.func78, Try.ntmps78
    go_wp2
    go_ret
    exact ⟨by rw [hf.out]; rfl, Below.refl _ _⟩
  · have hf : Hid (markT k = ⟨(109 :: digD k.toNat).toArray⟩) := by unfold markT; rw [if_neg h0]; rfl
    go_enter Try.func78, Try.ntmps78
    go_wp2
    go_loopw [0, 3] (fun m out wr => ∃ (q : Nat) (s : List UInt8), m = .int .i64 q ∧ (q : Int) ≤ k ∧ out = .string ⟨s.toArray⟩ ∧ (s.length : Int) + q ≤ k ∧ digD k.toNat = digD q ++ s ∧ Below w.heap.size w wr) (fun m _ _ => (intOf m).toNat)
    case atStart => exact ⟨k.toNat, [], by rw [Int.toNat_of_nonneg hk.1], by omega, rfl, by simp; omega, by simp, Below.refl _ _⟩
    case round =>
      obtain ⟨q, s, rfl, hq, rfl, hlen, hs, hb⟩ := hrel
      have HS := hide hs
      have HB := hide hb
      clear hs hb
      by_cases hq0 : 0 < q
      · have hcv := fun (W : World) => conv_one (P := Try.prog) Try.underlying22 Try.underlying5 9 Try.underlying9 W (48 + (q : Int) % 10) (by omega)
        obtain ⟨d, hd⟩ : ∃ d : ByteArray, d = ⟨[UInt8.ofNat (48 + (q : Int) % 10).toNat].toArray⟩ := ⟨_, rfl⟩
        rw [← hd] at hcv
        have hsz : d.size = 1 := by rw [hd]; rfl
        have hsz2 : (⟨s.toArray⟩ : ByteArray).size = s.length := rfl
        have hap : Hid (Value.string (d ++ ⟨s.toArray⟩) = .string ⟨(UInt8.ofNat (48 + q % 10) :: s).toArray⟩) := by
          show _ = _
          rw [hd, bapp, show (48 + (q : Int) % 10).toNat = 48 + q % 10 by omega]; rfl
        have hstep : Hid (digD k.toNat = digD (q / 10) ++ (UInt8.ofNat (48 + q % 10) :: s)) := by
          show _ = _
          rw [HS.out, digD_pos q hq0]; simp
        clear hd
        go_wp2
        go_roundw
        case rel =>
          exact ⟨q / 10, _, by go_num, by omega, hap.out, by simp; omega, hstep.out, HB.out.alloc HB.out.size _⟩
        case measure => simp [intOf]; omega
      · have HQ : Hid (q = 0) := by show q = 0; omega
        have hsz2 : (⟨s.toArray⟩ : ByteArray).size = s.length := rfl
        have hap : Hid (Value.string ((⟨[109].toArray⟩ : ByteArray) ++ ⟨s.toArray⟩) = .string ⟨(109 :: s).toArray⟩) := by
          show _ = _
          rw [bapp]; rfl
        go_wp2
        go_ret
        refine ⟨?_, HB.out⟩
        rw [hf.out, HS.out, HQ.out, digD_zero, List.nil_append]
        exact congrArg Ending.returned hap.out
end Go.Proofs.Ythhlimbaoenkkaa
