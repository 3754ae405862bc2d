import Derived.Test.YthhlimbaoenkkaaTokM
import Derived.Test.YthhlimbaoenkkaaIntS
namespace Go.Proofs.Ythhlimbaoenkkaa
open Go.RowKit
set_option maxRecDepth 100000
theorem toList_inj {a b : ByteArray} (h : a.toList = b.toList) : a = b := by
  rw [ByteArray.toList_eq, ByteArray.toList_eq] at h
  exact ByteArray.ext (Array.toList_inj.1 h)
theorem beqT {a b : ByteArray} (h : a = b) : (a.toList == b.toList) = true := by rw [h]; simp
theorem beqF {a b : ByteArray} (h : a ≠ b) : (a.toList == b.toList) = false := by
  rw [beq_eq_false_iff_ne]; exact fun e => h (toList_inj e)
theorem bneT {a b : ByteArray} (h : a ≠ b) : (!a.toList == b.toList) = true := by rw [beqF h]; rfl
theorem bneF {a b : ByteArray} (h : a = b) : (!a.toList == b.toList) = false := by rw [beqT h]; rfl
theorem strCells_length (l : List ByteArray) : (strCells l).length = l.length := by simp [strCells]
theorem strCells_at (l : List ByteArray) (i : Nat) (hi : i < l.length) : (strCells l)[i]? = some (.string l[i]) := by simp [strCells, hi]
theorem strCells_snoc (l : List ByteArray) (x : ByteArray) : strCells (l ++ [x]) = strCells l ++ [.string x] := by simp [strCells]
theorem InRow.str {w : World} {A : Option Addr} {n : Nat} {l : List ByteArray} (h : InRow w A n 1 (strCells l)) (k : Nat) (hk : k < l.length) : ∃ b o, A = some ⟨b, o, none⟩ ∧ b < w.heap.size ∧ w.cell? ⟨b, o + k, none⟩ = some (.string l[k]) := by
  have hl : l.length = n * 1 := by rw [← strCells_length]; exact h.1
  obtain ⟨b, o, e, hb, hc⟩ := h.2 (by omega)
  exact ⟨b, o, e, hb, (hc k (by omega)).trans (strCells_at l k hk)⟩
theorem strCells_step (l : List ByteArray) (k : Nat) (h : k < l.length) (zs : List Value) (hz : zs.length = l.length) : (strCells (l.take k) ++ zs.drop k).set k (.string l[k]) = strCells (l.take (k + 1)) ++ zs.drop (k + 1) := by
  have e : (strCells (l.take k)).length = k := by rw [strCells_length, List.length_take]; omega
  have := set_prefix (strCells (l.take k)) zs (.string l[k]) (by omega)
  rw [List.length_append, e] at this
  rw [this, List.take_succ_eq_append_getElem h, strCells_snoc]
  rfl
def markStrs (k0 : Int) (n : Nat) : List Value := (List.range n).map fun (j : Nat) => .string (markT (k0 + (j : Int)))
theorem markStrs_length (k0 : Int) (n : Nat) : (markStrs k0 n).length = n := by simp [markStrs]
theorem markStrs_at (k0 : Int) (n j : Nat) (h : j < n) : (markStrs k0 n)[j]? = some (.string (markT (k0 + j))) := by simp [markStrs, h]
theorem markStrs_step (k0 : Int) (i : Nat) (xs : List Value) (h : i < xs.length) : (markStrs k0 i ++ xs.drop i).set i (.string (markT (k0 + i))) = markStrs k0 (i + 1) ++ xs.drop (i + 1) := by
  have e := markStrs_length k0 i
  have := set_prefix (markStrs k0 i) xs (.string (markT (k0 + i))) (by omega)
  rw [List.length_append, e] at this
  rw [this]
  simp [markStrs, List.range_succ]
theorem Try.infoStr : (Try.prog.info? 9).map (fun i => (i.zero, i.size, i.bytes)) = some (some (.string ByteArray.empty), 1, 16) := by kernel_rfl
set_option maxHeartbeats 400000 in
theorem l_szStringS (A : Option Addr) (n c : Nat) (l : List ByteArray) (L : Int) (w : World) (hn : n ≤ maxLen) (hL : -1 ≤ L ∧ L ≤ 1048576) (hl : l.length = n) (h : InRow w A n 1 (strCells l)) (hs : ∀ s ∈ l, s.size ≤ maxLen) :
    Calls Try.prog 140 #[.slice A n c, .int .i64 L] w fun e w' => (∃ r : Int, e = .returned (.int .i64 r) ∧ -1 ≤ r ∧ r ≤ L ∧ (0 ≤ r → (n : Int) + r ≤ L ∧ ∀ s ∈ l, (s.size : Int) ≤ L)) ∧ w = w' := by
  unfold maxLen at hn
  have H := hide h
  have HL := hide hl
  have HS := hide hs
  clear h hl hs
  by_cases hlen : L - n < 0
  · go_enter Try.func140, Try.ntmps140
    go_wp2_with fail
    go_ret
    exact ⟨⟨-1, rfl, by omega, by omega, fun h => by omega⟩, rfl⟩
  · go_enter Try.func140, Try.ntmps140
    go_wp2_with fail
    go_loop [1, 5] (fun m i => ∃ (k : Nat) (r : Int), k ≤ n ∧ i = .int .i64 k ∧ m = .int .i64 r ∧ 0 ≤ r ∧ r ≤ L - n ∧ (∀ s ∈ l.take k, (s.size : Int) ≤ L)) (fun _ i => n - (intOf i).toNat)
    case atStart => exact ⟨0, L - n, Nat.zero_le _, rfl, rfl, by omega, Int.le_refl _, fun t h => by simp at h⟩
    case round =>
      obtain ⟨k, r, hk, rfl, rfl, hr0, hr1, ht⟩ := hrel
      have HT := hide ht
      clear ht
      by_cases hlt : k < n
      · have hkl : k < l.length := by rw [HL.out]; exact hlt
        obtain ⟨b, o, rfl, _, c0⟩ := H.out.str k hkl
        have hsz := HS.out _ (List.getElem_mem hkl)
        have hst := hide (List.take_succ_eq_append_getElem hkl)
        unfold maxLen at hsz
        by_cases hbad : r - (l[k].size : Int) < 0
        · go_wp2
          go_ret
          exact ⟨⟨-1, rfl, by omega, by omega, fun h => by omega⟩, rfl⟩
        · go_wp2
          go_round
          case rel =>
            refine ⟨k + 1, r - l[k].size, by omega, by go_num, by first | rfl | go_num, by omega, by omega, fun t ht => ?_⟩
            rw [hst.out, List.mem_append] at ht
            rcases ht with ht | ht
            · exact HT.out t ht
            · simp at ht
              subst ht
              omega
          case measure => simp [intOf]; omega
      · have HA := hide (List.take_of_length_le (l := l) (i := k) (by rw [HL.out]; omega))
        go_wp2
        go_ret
        refine ⟨⟨r, rfl, by omega, by omega, fun h => ⟨by omega, fun t ht => HT.out t (by rw [HA.out]; exact ht)⟩⟩, rfl⟩
set_option maxHeartbeats 400000 in
theorem l_toStringS (A : Option Addr) (n c : Nat) (l : List ByteArray) (w : World) (hn : n ≤ 1048576) (hl : l.length = n) (h : InRow w A n 1 (strCells l)) :
    Calls Try.prog 141 #[.slice A n c] w fun e w' => (∃ A', e = .returned (.slice A' n n) ∧ Arr w' w.heap.size w'.heap.size A' n 1 (strCells l)) ∧ Below w.heap.size w w' := by
  obtain ⟨i0, hi, hz0, hz1, hz2⟩ := info_parts Try.infoStr
  have H := hide h
  have HL := hide hl
  clear h hl
  go_enter Try.func141, Try.ntmps141
  go_wp2_with (at_make; refine wpList_mk _ rfl _ _ 74 rfl 9 i0 _ 1 Try.underlying74 hi hz0 hz1 _ _ _ _ n rfl rfl ?c1 ?c2 ?c3 ?c4 ?_)
  case c1 => rfl
  case c2 => rfl
  case c3 => rw [hz2]; omega
  case c4 => unfold maxLen; omega
  intro w1 zs ha1 hb1
  have HZ := hide ha1.1
  go_wp2
  go_loopw [4] (fun i wr => ∃ k : Nat, k ≤ n ∧ i = .int .i64 k ∧ Arr wr w.heap.size wr.heap.size (some ⟨w.heap.size, 0, none⟩) n 1 (strCells (l.take k) ++ zs.drop k) ∧ Below w.heap.size w wr) (fun i _ => n - (intOf i).toNat)
  case atStart => exact ⟨0, Nat.zero_le _, rfl, by simpa [strCells] using ha1, hb1⟩
  case round =>
    obtain ⟨k, hk, rfl, hr, hb⟩ := hrel
    have R := hide hr
    have HB := hide hb
    have RI := hide (H.out.below hb)
    clear hr hb
    by_cases hlt : k < n
    · have hkl : k < l.length := by rw [HL.out]; exact hlt
      obtain ⟨b, o, rfl, _, c0⟩ := RI.out.str k hkl
      have s1 := hide (strCells_step l k hkl zs (by rw [HZ.out, HL.out]; omega))
      have R3 := hide (R.out.set_ (j := k) (by omega) (.string l[k]))
      obtain ⟨g', eg, g1, g2, g3, hc⟩ := R.out.2 (by omega)
      obtain rfl : w.heap.size = g' := by injection eg with eg; injection eg
      obtain ⟨u0, d0⟩ : ∃ u, wr.cell? ⟨w.heap.size, k, none⟩ = some u := ⟨_, (hc k (by omega)).1.trans (List.getElem?_eq_getElem (by rw [R.out.1]; omega))⟩
      have f0 := (hc k (by omega)).2
      clear hc eg
      go_wp2
      go_roundw
      case rel =>
        refine ⟨k + 1, by omega, by go_num, ?_, ?_⟩
        · rw [← s1.out]
          exact R3.out.more (Nat.le_refl _) (by simp [World.setCell]) (Nat.le_refl _)
        · exact HB.out.setCell (p := ⟨w.heap.size, k, none⟩) (Nat.le_refl _) _
      case measure => simp [intOf]; omega
    · have hall : strCells (l.take k) ++ zs.drop k = strCells l := by
        rw [List.take_of_length_le (by rw [HL.out]; omega), List.drop_of_length_le (by rw [HZ.out]; omega), List.append_nil]
      have R2 := hide R.out
      rw [hall] at R2
      clear hall
      go_wp2
      go_ret
      exact ⟨⟨_, rfl, R2.out⟩, HB.out⟩
set_option maxHeartbeats 400000 in
theorem l_eqStringS (A A' : Option Addr) (n n' c c' : Nat) (l l' : List ByteArray) (w : World) (hn : n ≤ 1099511627776) (hn' : n' ≤ 1099511627776)
    (h : InRow w A n 1 (strCells l)) (h' : InRow w A' n' 1 (strCells l')) :
    Calls Try.prog 142 #[.slice A n c, .slice A' n' c'] w fun e w' => e = .returned (.bool (decide (l = l'))) ∧ Below w.heap.size w w' := by
  have hl : l.length = n := by have := h.1; rw [strCells_length] at this; omega
  have hl' : l'.length = n' := by have := h'.1; rw [strCells_length] at this; omega
  by_cases hne : n = n'
  · subst hne
    have H := hide h
    have H' := hide h'
    have HL := hide hl
    have HL' := hide hl'
    clear h h' hl hl'
    go_enter Try.func142, Try.ntmps142
    go_wp2
    go_loopw [5] (fun i wr => ∃ k : Nat, k ≤ n ∧ i = .int .i64 k ∧ l.take k = l'.take k ∧ Below w.heap.size w wr) (fun i _ => n - (intOf i).toNat)
    case atStart => exact ⟨0, Nat.zero_le _, rfl, rfl, Below.refl _ _⟩
    case round =>
      obtain ⟨k, hk, rfl, ht, hb⟩ := hrel
      have HT := hide ht
      have HB := hide hb
      have R := hide (H.out.below hb)
      have R' := hide (H'.out.below hb)
      clear ht hb
      by_cases hlt : k < n
      · have hkl : k < l.length := by rw [HL.out]; exact hlt
        have hkl' : k < l'.length := by rw [HL'.out]; exact hlt
        obtain ⟨b, o, rfl, _, c0⟩ := R.out.str k hkl
        obtain ⟨b', o', rfl, _, d0⟩ := R'.out.str k hkl'
        by_cases heq : l[k] = l'[k]
        · have hd := bneF heq
          have HN := hide (take_eq_step1 l l' k hkl hkl' HT.out heq)
          clear heq
          go_wp2
          go_quiet (fail)
          go_wp2
          go_roundw
          case rel => exact ⟨k + 1, by omega, by go_num, HN.out, below_drewN HB.out _⟩
          case measure => simp [intOf]; omega
        · have hd := bneT heq
          have HN : Hid (decide (l = l') = false) := decide_eq_false (fun e => heq (by subst e; rfl))
          clear heq
          go_wp2
          go_quiet (fail)
          go_wp2
          go_ret
          exact ⟨ret_bool HN.out.symm, below_drewN HB.out _⟩
      · have HN : Hid (decide (l = l') = true) := decide_eq_true (by
          have := HT.out
          rw [List.take_of_length_le (by rw [HL.out]; omega), List.take_of_length_le (by rw [HL'.out]; omega)] at this
          exact this)
        go_wp2
        go_ret
        exact ⟨ret_bool HN.out.symm, HB.out⟩
  · have hd : (((n : Nat) : Int) != (n' : Int)) = true := by rw [bne_iff_ne]; omega
    have hf : Hid (decide (l = l') = false) := decide_eq_false (fun e => hne (by rw [← hl, ← hl', e]))
    clear h h' hl hl' hne
    go_enter Try.func142, Try.ntmps142
    go_wp2
    go_ret
    exact ⟨ret_bool hf.out.symm, Below.refl _ _⟩
set_option maxHeartbeats 1000000 in
theorem l_markStringS (A : Option Addr) (n c lo hi : Nat) (xs : List Value) (k0 : Int) (w : World) (hn : n ≤ 1099511627776) (hk0 : 0 ≤ k0 ∧ k0 ≤ 1099511627776)
    (h : Arr w lo hi A n 1 xs) :
    Calls Try.prog 110 #[.slice A n c, .int .i64 k0] w fun e w' => e = .returned (.int .i64 (k0 + (n : Int))) ∧ Arr w' lo hi A n 1 (markStrs k0 n) ∧ Within lo hi w w' := by
  have hx := hide h.1
  go_enter Try.func110, Try.ntmps110
  go_wp2
  go_loopw [1, 5] (fun m i wr => ∃ k : Nat, k ≤ n ∧ i = .int .i64 k ∧ m = .int .i64 (k0 + k) ∧ Arr wr lo hi A n 1 (markStrs k0 k ++ xs.drop k) ∧ Within lo hi w wr) (fun _ i _ => n - (intOf i).toNat)
  case atStart => exact ⟨0, Nat.zero_le _, rfl, by simp, by simpa [markStrs] using h, Within.refl _ _ _⟩
  case round =>
    obtain ⟨k, hk, rfl, rfl, hR, hW⟩ := hrel
    clear h
    have R := hide hR
    have W := hide hW
    clear hR hW
    by_cases hlt : k < n
    · obtain ⟨g, rfl, g1, g2, _, hc⟩ := R.out.2 (by omega)
      have s1 := hide (markStrs_step k0 k xs (by have := hx.out; omega))
      clear hc
      go_wp2_with fail
      refine (l_markText _ (by omega) _).mono ?_
      rintro e w2 ⟨rfl, hb2⟩
      have R3 := hide (R.out.belowZ hb2)
      have W3 := hide (W.out.trans (Within.of_below hb2 lo hi))
      have R4 := hide (R3.out.set_ (j := k) (by omega) (.string (markT (k0 + k))))
      obtain ⟨g', eg, _, _, _, hc⟩ := R3.out.2 (by omega)
      obtain rfl : g = g' := by injection eg with eg; injection eg
      obtain ⟨u0, c0⟩ : ∃ u, w2.cell? ⟨g, k, none⟩ = some u := ⟨_, (hc k (by omega)).1.trans (List.getElem?_eq_getElem (by rw [R3.out.1]; omega))⟩
      have f0 := (hc k (by omega)).2
      clear hc eg hb2
      go_wp2
      go_roundw
      case rel =>
        refine ⟨k + 1, by omega, by go_num, by go_num, ?_, W3.out.trans (Within.setCell w2 (p := ⟨g, k, none⟩) g1 g2 _)⟩
        rw [← s1.out]
        exact R4.out
      case measure => simp [intOf]; omega
    · have HK : Hid (k = n) := by show k = n; omega
      go_wp2
      go_ret
      refine ⟨?_, ?_, W.out⟩
      · rw [HK.out]; rfl
      · have := R.out
        rw [HK.out, List.drop_of_length_le (by rw [hx.out]; omega), List.append_nil] at this
        exact this
set_option maxHeartbeats 1000000 in
theorem l_heldStringS (A : Option Addr) (n c lo hi : Nat) (k0 : Int) (w : World) (hn : n ≤ 1099511627776) (hk0 : 0 ≤ k0 ∧ k0 ≤ 1099511627776)
    (h : Arr w lo hi A n 1 (markStrs k0 n)) :
    Calls Try.prog 111 #[.slice A n c, .int .i64 k0] w fun e w' => e = .returned (.int .i64 (k0 + (n : Int))) ∧ Below w.heap.size w w' := by
  have H := hide h
  clear h
  go_enter Try.func111, Try.ntmps111
  go_wp2
  go_loopw [1, 5] (fun m i wr => ∃ k : Nat, k ≤ n ∧ i = .int .i64 k ∧ m = .int .i64 (k0 + k) ∧ Below w.heap.size w wr) (fun _ i _ => n - (intOf i).toNat)
  case atStart => exact ⟨0, Nat.zero_le _, rfl, by simp, Below.refl _ _⟩
  case round =>
    obtain ⟨k, hk, rfl, rfl, hb⟩ := hrel
    have HB := hide hb
    have R := hide (H.out.belowZ hb)
    clear hb
    by_cases hlt : k < n
    · obtain ⟨g, rfl, g1, g2, g3, hc⟩ := R.out.2 (by omega)
      have c2 : wr.cell? ⟨g, k, none⟩ = some (.string (markT (k0 + k))) := (hc k (by omega)).1.trans (markStrs_at k0 n k (by omega))
      clear hc
      have gl : g < wr.heap.size := by omega
      have hsz := HB.out.size
      go_wp2_with fail
      go_region_with (go_at_call 78; refine (l_markText _ (by omega) _).mono ?_; rintro e w2 ⟨rfl, hb2⟩; have d2 := (hb2.cell (p := ⟨g, k, none⟩) gl).trans c2)
      all_goals
        have HB2 := hide (HB.out.drew.trans (hb2.mono hsz))
        clear hb2
        go_wp2
        go_roundw
        case rel => exact ⟨k + 1, by omega, by go_num, by go_num, HB2.out⟩
        case measure => simp [intOf]; omega
    · have HK : Hid (k = n) := by show k = n; omega
      go_wp2
      go_ret
      exact ⟨by rw [HK.out]; rfl, HB.out⟩
end Go.Proofs.Ythhlimbaoenkkaa
