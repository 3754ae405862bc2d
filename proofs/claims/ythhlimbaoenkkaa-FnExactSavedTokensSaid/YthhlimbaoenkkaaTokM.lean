import Derived.Test.YthhlimbaoenkkaaTokS2
namespace Go.Proofs.Ythhlimbaoenkkaa
open Go.RowKit
set_option maxRecDepth 100000
def markTok1 (k0 : Int) (i : Nat) : List Value := [.int .i64 (k0 + (i * 3 : Nat)), .int .i64 (k0 + (i * 3 : Nat) + 1), .string (markT (k0 + (i * 3 : Nat) + 2))]
def markToks (k0 : Int) (n : Nat) : List Value := (List.range n).flatMap (markTok1 k0)
theorem markToks_length (k0 : Int) (n : Nat) : (markToks k0 n).length = n * 3 := by rw [markToks, flat_length _ 3 (fun _ => rfl), List.length_range]
theorem markToks_at (k0 : Int) (n i j : Nat) (h : i < n) (hj : j < 3) : (markToks k0 n)[i * 3 + j]? = (markTok1 k0 i)[j]? := by
  have := flat_at (markTok1 k0) 3 (fun _ => rfl) (List.range n) i j (by simpa using h) hj
  simpa [markToks] using this
theorem markToks_succ (k0 : Int) (n : Nat) : markToks k0 (n + 1) = markToks k0 n ++ [.int .i64 (k0 + (n * 3 : Nat))] ++ [.int .i64 (k0 + (n * 3 : Nat) + 1)] ++ [.string (markT (k0 + (n * 3 : Nat) + 2))] := by
  unfold markToks; rw [List.range_succ, List.flatMap_append]; simp [markTok1]
theorem markToks_set3 (k0 : Int) (i : Nat) (xs : List Value) (h : (i + 1) * 3 ≤ xs.length) :
    (((markToks k0 i ++ xs.drop (i * 3)).set (i * 3) (.int .i64 (k0 + (i * 3 : Nat)))).set (i * 3 + 1) (.int .i64 (k0 + (i * 3 : Nat) + 1))).set (i * 3 + 2) (.string (markT (k0 + (i * 3 : Nat) + 2))) = markToks k0 (i + 1) ++ xs.drop ((i + 1) * 3) := by
  have e := markToks_length k0 i
  have s1 := set_prefix (markToks k0 i) xs (.int .i64 (k0 + (i * 3 : Nat))) (by omega)
  have s2 := set_prefix (markToks k0 i ++ [.int .i64 (k0 + (i * 3 : Nat))]) xs (.int .i64 (k0 + (i * 3 : Nat) + 1)) (by simp; omega)
  have s3 := set_prefix (markToks k0 i ++ [.int .i64 (k0 + (i * 3 : Nat))] ++ [.int .i64 (k0 + (i * 3 : Nat) + 1)]) xs (.string (markT (k0 + (i * 3 : Nat) + 2))) (by simp; omega)
  simp only [List.length_append, List.length_cons, List.length_nil, e, Nat.zero_add] at s1 s2 s3
  rw [s1, s2, s3, markToks_succ, show i * 3 + 1 + 1 + 1 = (i + 1) * 3 by omega]
set_option maxHeartbeats 1000000 in
theorem l_markTokS (A : Option Addr) (n c lo hi : Nat) (xs : List Value) (k0 : Int) (w : World) (hn : n ≤ 1099511627776) (hk0 : 0 ≤ k0 ∧ k0 ≤ 1099511627776)
    (h : Arr w lo hi A n 3 xs) :
    Calls Try.prog 31 #[.slice A n c, .int .i64 k0] w fun e w' => e = .returned (.int .i64 (k0 + ((n * 3 : Nat) : Int))) ∧ Arr w' lo hi A n 3 (markToks k0 n) ∧ Within lo hi w w' := by
  have hx := hide h.1
  go_enter Try.func31, Try.ntmps31
  go_wp2
  go_loopw [1, 5] (fun m i wr => ∃ k : Nat, k ≤ n ∧ i = .int .i64 k ∧ m = .int .i64 (k0 + ((k * 3 : Nat) : Int)) ∧ Arr wr lo hi A n 3 (markToks k0 k ++ xs.drop (k * 3)) ∧ Within lo hi w wr) (fun _ i _ => n - (intOf i).toNat)
  case atStart => exact ⟨0, Nat.zero_le _, rfl, by simp, by simpa [markToks] using h, Within.refl _ _ _⟩
  case round =>
    obtain ⟨k, hk, rfl, rfl, hR, hW⟩ := hrel
    clear h
    have R := hide hR
    have W := hide hW
    clear hR hW
    by_cases hlt : k < n
    · obtain ⟨g, rfl, g1, g2, _, hc⟩ := R.out.2 (by omega)
      have s3 := hide (markToks_set3 k0 k xs (by have := hx.out; omega))
      obtain ⟨q, hq⟩ : ∃ q : Int, q = k0 + ((k * 3 : Nat) : Int) := ⟨_, rfl⟩
      have hq0 : 0 ≤ q ∧ q ≤ 9000000000000 := by omega
      have R2 := hide ((R.out.set_ (j := k * 3) (by omega) (.int .i64 q)).set_ (j := k * 3 + 1) (by omega) (.int .i64 (q + 1)))
      obtain ⟨u0, c0⟩ : ∃ u, wr.cell? ⟨g, k * 3, none⟩ = some u := ⟨_, (hc (k * 3) (by omega)).1.trans (List.getElem?_eq_getElem (by rw [R.out.1]; omega))⟩
      obtain ⟨u1, c1⟩ : ∃ u, wr.cell? ⟨g, k * 3 + 1, none⟩ = some u := ⟨_, (hc (k * 3 + 1) (by omega)).1.trans (List.getElem?_eq_getElem (by rw [R.out.1]; omega))⟩
      have f0 := (hc (k * 3) (by omega)).2
      have f1 := (hc (k * 3 + 1) (by omega)).2
      have W2 := hide ((W.out.trans (Within.setCell wr (p := ⟨g, k * 3, none⟩) g1 g2 (.int .i64 q))).trans (Within.setCell _ (p := ⟨g, k * 3 + 1, none⟩) g1 g2 (.int .i64 (q + 1))))
      clear hc
      rw [← hq] at s3 ⊢
      have HQ := hide hq
      clear hq
      go_wp2_with fail
      refine (l_markText _ (by omega) _).mono ?_
      rintro e w2 ⟨rfl, hb2⟩
      have R3 := hide (R2.out.belowZ hb2)
      have W3 := hide (W2.out.trans (Within.of_below hb2 lo hi))
      have R4 := hide (R3.out.set_ (j := k * 3 + 2) (by omega) (.string (markT (q + 1 + 1))))
      obtain ⟨g', eg, _, _, _, hc⟩ := R3.out.2 (by omega)
      obtain rfl : g = g' := by injection eg with eg; injection eg
      obtain ⟨u2, d2⟩ : ∃ u, w2.cell? ⟨g, k * 3 + 2, none⟩ = some u := ⟨_, (hc (k * 3 + 2) (by omega)).1.trans (List.getElem?_eq_getElem (by rw [R3.out.1]; omega))⟩
      have f2 := (hc (k * 3 + 2) (by omega)).2
      have e2 : Hid (q + 1 + 1 = q + 2) := by show _ = _; omega
      clear hc eg hb2 c0 c1 f0 f1
      go_wp2
      go_roundw
      case rel =>
        refine ⟨k + 1, by omega, by go_num, by have := HQ.out; congr 1; omega, ?_, W3.out.trans (Within.setCell w2 (p := ⟨g, k * 3 + 2, none⟩) g1 g2 _)⟩
        rw [← s3.out, ← e2.out]
        exact R4.out
      case measure => simp [intOf]; omega
    · have HK : Hid (k = n) := by show k = n; omega
      go_wp2
      go_ret
      refine ⟨?_, ?_, W.out⟩
      · rw [HK.out]; rfl
      · have := R.out
        rw [HK.out, List.drop_of_length_le (by rw [hx.out]; omega), List.append_nil] at this
        exact this
set_option maxHeartbeats 1000000 in
theorem l_heldTokS (A : Option Addr) (n c lo hi : Nat) (k0 : Int) (w : World) (hn : n ≤ 1099511627776) (hk0 : 0 ≤ k0 ∧ k0 ≤ 1099511627776)
    (h : Arr w lo hi A n 3 (markToks k0 n)) :
    Calls Try.prog 32 #[.slice A n c, .int .i64 k0] w fun e w' => e = .returned (.int .i64 (k0 + ((n * 3 : Nat) : Int))) ∧ Below w.heap.size w w' := by
  have H := hide h
  clear h
  go_enter Try.func32, Try.ntmps32
  go_wp2
  go_loopw [1, 5] (fun m i wr => ∃ k : Nat, k ≤ n ∧ i = .int .i64 k ∧ m = .int .i64 (k0 + ((k * 3 : Nat) : Int)) ∧ Below w.heap.size w wr) (fun _ i _ => n - (intOf i).toNat)
  case atStart => exact ⟨0, Nat.zero_le _, rfl, by simp, Below.refl _ _⟩
  case round =>
    obtain ⟨k, hk, rfl, rfl, hb⟩ := hrel
    have HB := hide hb
    have R := hide (H.out.belowZ hb)
    clear hb
    by_cases hlt : k < n
    · obtain ⟨g, rfl, g1, g2, g3, hc⟩ := R.out.2 (by omega)
      obtain ⟨q, hq⟩ : ∃ q : Int, q = k0 + ((k * 3 : Nat) : Int) := ⟨_, rfl⟩
      have hq0 : 0 ≤ q ∧ q ≤ 9000000000000 := by omega
      have c0 : wr.cell? ⟨g, k * 3, none⟩ = some (.int .i64 q) := ((hc (k * 3) (by omega)).1.trans (markToks_at k0 n k 0 (by omega) (by omega))).trans (by rw [hq]; rfl)
      have c1 : wr.cell? ⟨g, k * 3 + 1, none⟩ = some (.int .i64 (q + 1)) := ((hc (k * 3 + 1) (by omega)).1.trans (markToks_at k0 n k 1 (by omega) (by omega))).trans (by rw [hq]; rfl)
      have c2 : wr.cell? ⟨g, k * 3 + 2, none⟩ = some (.string (markT (q + 1 + 1))) := ((hc (k * 3 + 2) (by omega)).1.trans (markToks_at k0 n k 2 (by omega) (by omega))).trans (by rw [show q + 1 + 1 = q + 2 by omega, hq]; rfl)
      clear hc
      rw [← hq]
      have HQ := hide hq
      clear hq
      have gl : g < wr.heap.size := by omega
      have hsz := HB.out.size
      go_wp2_with fail
      go_region_with (go_at_call 78; refine (l_markText _ (by omega) _).mono ?_; rintro e w2 ⟨rfl, hb2⟩; have d2 := (hb2.cell (p := ⟨g, k * 3 + 2, none⟩) gl).trans c2)
      all_goals
        have HB2 := hide (HB.out.drew.trans (hb2.mono hsz))
        clear hb2
        go_wp2
        go_roundw
        case rel => exact ⟨k + 1, by omega, by go_num, by have := HQ.out; congr 1; omega, HB2.out⟩
        case measure => simp [intOf]; omega
    · have HK : Hid (k = n) := by show k = n; omega
      go_wp2
      go_ret
      exact ⟨by rw [HK.out]; rfl, HB.out⟩
end Go.Proofs.Ythhlimbaoenkkaa
