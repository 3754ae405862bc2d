import Derived.Test.YthhlimbaoenkkaaArr
import Derived.Test.YthhlimbaoenkkaaT3
namespace Go.Proofs.Ythhlimbaoenkkaa
open Go.RowKit
set_option maxRecDepth 100000

theorem take_eq_step {α : Type} (l l' : List α) (k : Nat) (h : k < l.length) (h' : k < l'.length) (ht : l.take k = l'.take k) (e : l[k] = l'[k]) : l.take (k + 1) = l'.take (k + 1) := by
  rw [List.take_succ_eq_append_getElem h, List.take_succ_eq_append_getElem h', ht, e]
theorem tokCells_take_succ (l : List Tk) (k : Nat) (h : k < l.length) : tokCells (l.take (k + 1)) = tokCells (l.take k) ++ [.int .i64 l[k].1] ++ [.int .i64 l[k].2.1] ++ [.string l[k].2.2] := by
  rw [List.take_succ_eq_append_getElem h]; unfold tokCells; rw [List.flatMap_append]; simp [tokC]
theorem tokCells_set3 (l : List Tk) (k : Nat) (h : k < l.length) (zs : List Value) (hz : zs.length = l.length * 3) :
    (((tokCells (l.take k) ++ zs.drop (k * 3)).set (k * 3) (.int .i64 l[k].1)).set (k * 3 + 1) (.int .i64 l[k].2.1)).set (k * 3 + 2) (.string l[k].2.2) = tokCells (l.take (k + 1)) ++ zs.drop ((k + 1) * 3) := by
  have e : (tokCells (l.take k)).length = k * 3 := by rw [tokCells_length, List.length_take]; omega
  have s1 := set_prefix (tokCells (l.take k)) zs (.int .i64 l[k].1) (by omega)
  have s2 := set_prefix (tokCells (l.take k) ++ [.int .i64 l[k].1]) zs (.int .i64 l[k].2.1) (by simp; omega)
  have s3 := set_prefix (tokCells (l.take k) ++ [.int .i64 l[k].1] ++ [.int .i64 l[k].2.1]) zs (.string l[k].2.2) (by simp; omega)
  simp only [List.length_append, List.length_cons, List.length_nil, e, Nat.zero_add] at s1 s2 s3
  rw [s1, s2, s3, tokCells_take_succ l k h, show k * 3 + 1 + 1 + 1 = (k + 1) * 3 by omega]
theorem Try.infoTok : (Try.prog.info? 105).map (fun i => (i.zero, i.size, i.bytes)) = some (some (.agg #[.int .i64 0, .int .i64 0, .string ByteArray.empty]), 3, 32) := by kernel_rfl
set_option maxHeartbeats 400000 in
theorem l_szTokS (A : Option Addr) (n c : Nat) (l : List Tk) (L : Int) (w : World) (hn : n ≤ maxLen) (hL : -1 ≤ L ∧ L ≤ 1048576) (hl : l.length = n) (h : InRow w A n 3 (tokCells l)) (hs : ∀ t ∈ l, t.2.2.size ≤ maxLen) :
    Calls Try.prog 26 #[.slice A n c, .int .i64 L] w fun e w' => (∃ r : Int, e = .returned (.int .i64 r) ∧ -1 ≤ r ∧ r ≤ L ∧ (0 ≤ r → (n : Int) + r ≤ L ∧ ∀ t ∈ l, (t.2.2.size : Int) ≤ L)) ∧ Below w.heap.size w w' := by
  unfold maxLen at hn
  have H := hide h
  have HL := hide hl
  have HS := hide hs
  clear h hl hs
  by_cases hlen : L - n < 0
  · go_enter Try.func26, Try.ntmps26
    go_wp2_with fail
    go_ret
    exact ⟨⟨-1, rfl, by omega, by omega, fun h => by omega⟩, Below.refl _ _⟩
  · go_enter Try.func26, Try.ntmps26
    go_wp2_with fail
    go_loopw [1, 5] (fun m i wr => ∃ (k : Nat) (r : Int), k ≤ n ∧ i = .int .i64 k ∧ m = .int .i64 r ∧ 0 ≤ r ∧ r ≤ L - n ∧ (∀ t ∈ l.take k, (t.2.2.size : Int) ≤ L) ∧ Below w.heap.size w wr) (fun _ i _ => n - (intOf i).toNat)
    case atStart => exact ⟨0, L - n, Nat.zero_le _, rfl, rfl, by omega, Int.le_refl _, fun t h => by simp at h, Below.refl _ _⟩
    case round =>
      obtain ⟨k, r, hk, rfl, rfl, hr0, hr1, ht, hb⟩ := hrel
      have HT := hide ht
      have HB := hide hb
      have R := hide (H.out.below hb)
      clear ht hb
      by_cases hlt : k < n
      · have hkl : k < l.length := by rw [HL.out]; exact hlt
        obtain ⟨b, o, rfl, _, c0, c1, c2⟩ := R.out.tok k hkl
        have hsz := HS.out _ (List.getElem_mem hkl)
        have hst := hide (List.take_succ_eq_append_getElem hkl)
        have hs2 := hsz
        unfold maxLen at hs2
        go_wp2_with fail
        refine (l_szTok _ _ _ hsz _ (by omega) _).mono ?_
        rintro e w2 ⟨rfl, hb2⟩
        have hbn := hide (HB.out.trans (hb2.mono HB.out.size))
        clear hb2
        by_cases hbad : r - (l[k].2.2.size : Int) < 0
        · rw [if_pos hbad]
          clear hbad
          go_wp2
          go_ret
          exact ⟨⟨-1, rfl, by omega, by omega, fun h => by omega⟩, hbn.out⟩
        · rw [if_neg hbad]
          go_wp2
          go_roundw
          case rel =>
            refine ⟨k + 1, r - l[k].2.2.size, by omega, by go_num, rfl, by omega, by omega, fun t ht => ?_, hbn.out⟩
            rw [hst.out, List.mem_append] at ht
            rcases ht with ht | ht
            · exact HT.out t ht
            · simp at ht
              subst ht
              omega
          case measure => simp [intOf]; omega
      · have hall : l.take k = l := List.take_of_length_le (by rw [HL.out]; omega)
        have HA := hide hall
        clear hall
        go_wp2
        go_ret
        refine ⟨⟨r, rfl, by omega, by omega, fun h => ⟨by omega, fun t ht => HT.out t (by rw [HA.out]; exact ht)⟩⟩, HB.out⟩
set_option maxHeartbeats 400000 in
theorem l_toTokSn (A : Option Addr) (n c : Nat) (l : List Tk) (w : World) (hn : n ≤ 1048576) (hl : l.length = n) (h : InRow w A n 3 (tokCells l)) :
    Calls Try.prog 28 #[.slice A n c] w fun e w' => (∃ A', e = .returned (.slice A' n n) ∧ Arr w' w.heap.size w'.heap.size A' n 3 (tokCells l)) ∧ Below w.heap.size w w' := by
  obtain ⟨i0, hi, hz0, hz1, hz2⟩ := info_parts Try.infoTok
  have H := hide h
  have HL := hide hl
  clear h hl
  go_enter Try.func28, Try.ntmps28
  go_wp2_with (at_make; refine wpList_mk _ rfl _ _ 44 rfl 105 i0 _ 3 Try.underlying44 hi hz0 hz1 _ _ _ _ n rfl rfl ?c1 ?c2 ?c3 ?c4 ?_)
  case c1 => rfl
  case c2 => rfl
  case c3 => rw [hz2]; omega
  case c4 => unfold maxLen; omega
  intro w1 zs ha1 hb1
  have HZ := hide ha1.1
  go_wp2
  go_loopw [4] (fun i wr => ∃ k : Nat, k ≤ n ∧ i = .int .i64 k ∧ Arr wr w.heap.size wr.heap.size (some ⟨w.heap.size, 0, none⟩) n 3 (tokCells (l.take k) ++ zs.drop (k * 3)) ∧ Below w.heap.size w wr) (fun i _ => n - (intOf i).toNat)
  case atStart => exact ⟨0, Nat.zero_le _, rfl, by simpa [tokCells] using ha1, hb1⟩
  case round =>
    obtain ⟨k, hk, rfl, hr, hb⟩ := hrel
    have R := hide hr
    have HB := hide hb
    have RI := hide (H.out.below hb)
    clear hr hb
    by_cases hlt : k < n
    · have hkl : k < l.length := by rw [HL.out]; exact hlt
      obtain ⟨b, o, rfl, _, c0, c1, c2⟩ := RI.out.tok k hkl
      go_wp2_with fail
      refine (l_toTok _ _ _ _).mono ?_
      rintro e w2 ⟨rfl, hb2⟩
      have R2 := hide (R.out.belowZ hb2)
      have s3 := hide (tokCells_set3 l k hkl zs (by rw [HZ.out, HL.out]))
      have R3 := hide (((R2.out.set_ (j := k * 3) (by omega) (.int .i64 l[k].1)).set_ (j := k * 3 + 1) (by omega) (.int .i64 l[k].2.1)).set_ (j := k * 3 + 2) (by omega) (.string l[k].2.2))
      obtain ⟨g', eg, g1, g2, g3, hc⟩ := R2.out.2 (by omega)
      obtain rfl : w.heap.size = g' := by injection eg with eg; injection eg
      obtain ⟨u0, d0⟩ : ∃ u, w2.cell? ⟨w.heap.size, k * 3, none⟩ = some u := ⟨_, (hc (k * 3) (by omega)).1.trans (List.getElem?_eq_getElem (by rw [R2.out.1]; omega))⟩
      obtain ⟨u1, d1⟩ : ∃ u, w2.cell? ⟨w.heap.size, k * 3 + 1, none⟩ = some u := ⟨_, (hc (k * 3 + 1) (by omega)).1.trans (List.getElem?_eq_getElem (by rw [R2.out.1]; omega))⟩
      obtain ⟨u2, d2⟩ : ∃ u, w2.cell? ⟨w.heap.size, k * 3 + 2, none⟩ = some u := ⟨_, (hc (k * 3 + 2) (by omega)).1.trans (List.getElem?_eq_getElem (by rw [R2.out.1]; omega))⟩
      have f0 := (hc (k * 3) (by omega)).2
      have f1 := (hc (k * 3 + 1) (by omega)).2
      have f2 := (hc (k * 3 + 2) (by omega)).2
      have HB2 := hide (HB.out.trans (hb2.mono HB.out.size))
      clear hc eg hb2
      go_wp2
      go_roundw
      case rel =>
        refine ⟨k + 1, by omega, by go_num, ?_, ?_⟩
        · rw [← s3.out]
          exact R3.out.more (Nat.le_refl _) (by simpa [World.setCell] using g3) (Nat.le_refl _)
        · exact ((HB2.out.setCell (p := ⟨w.heap.size, k * 3, none⟩) (Nat.le_refl _) _).setCell (p := ⟨w.heap.size, k * 3 + 1, none⟩) (Nat.le_refl _) _).setCell (p := ⟨w.heap.size, k * 3 + 2, none⟩) (Nat.le_refl _) _
      case measure => simp [intOf]; omega
    · have hall : tokCells (l.take k) ++ zs.drop (k * 3) = tokCells l := by
        rw [List.take_of_length_le (by rw [HL.out]; omega), List.drop_of_length_le (by rw [HZ.out]; omega), List.append_nil]
      have R2 := hide R.out
      rw [hall] at R2
      clear hall
      go_wp2
      go_ret
      exact ⟨⟨_, rfl, R2.out⟩, HB.out⟩
theorem l_toTokS (A : Option Addr) (n c : Nat) (l : List Tk) (w : World) (hn : n ≤ 1048576) (hl : l.length = n) (h : InRow w A n 3 (tokCells l)) :
    Calls Try.prog 28 #[.slice A n c] w fun e w' => (∃ A' c', e = .returned (.slice A' n c') ∧ Arr w' w.heap.size w'.heap.size A' n 3 (tokCells l)) ∧ Below w.heap.size w w' :=
  (l_toTokSn A n c l w hn hl h).mono fun _ _ ⟨⟨A', e, ha⟩, hb⟩ => ⟨⟨A', n, e, ha⟩, hb⟩
end Go.Proofs.Ythhlimbaoenkkaa
