import Derived.Test.YthhlimbaoenkkaaTokS2
import Derived.Test.YthhlimbaoenkkaaLin
namespace Go.Proofs.Ythhlimbaoenkkaa
open Go.RowKit
set_option maxRecDepth 100000
abbrev Sy := ByteArray × Int × Int
def symC (t : Sy) : List Value := [.string t.1, .int .i64 t.2.1, .int .i64 t.2.2]
def symCells (l : List Sy) : List Value := l.flatMap symC
theorem symCells_length (l : List Sy) : (symCells l).length = l.length * 3 := flat_length _ 3 (fun _ => rfl) l
theorem InRow.sym {w : World} {A : Option Addr} {n : Nat} {l : List Sy} (h : InRow w A n 3 (symCells l)) (k : Nat) (hk : k < l.length) : ∃ b o, A = some ⟨b, o, none⟩ ∧ b < w.heap.size ∧
    w.cell? ⟨b, o + k * 3, none⟩ = some (.string l[k].1) ∧ w.cell? ⟨b, o + k * 3 + 1, none⟩ = some (.int .i64 l[k].2.1) ∧ w.cell? ⟨b, o + k * 3 + 2, none⟩ = some (.int .i64 l[k].2.2) := by
  have hl : l.length * 3 = n * 3 := by rw [← symCells_length]; exact h.1
  obtain ⟨b, o, e, hb, hc⟩ := h.2 (by omega)
  have t := fun j hj => flat_at symC 3 (fun _ => rfl) l k j hk hj
  exact ⟨b, o, e, hb, (hc (k * 3) (by omega)).trans (t 0 (by omega)), (hc (k * 3 + 1) (by omega)).trans (t 1 (by omega)), (hc (k * 3 + 2) (by omega)).trans (t 2 (by omega))⟩
theorem symCells_take_succ (l : List Sy) (k : Nat) (h : k < l.length) : symCells (l.take (k + 1)) = symCells (l.take k) ++ [.string l[k].1] ++ [.int .i64 l[k].2.1] ++ [.int .i64 l[k].2.2] := by
  rw [List.take_succ_eq_append_getElem h]; unfold symCells; rw [List.flatMap_append]; simp [symC]
theorem symCells_set3 (l : List Sy) (k : Nat) (h : k < l.length) (zs : List Value) (hz : zs.length = l.length * 3) :
    (((symCells (l.take k) ++ zs.drop (k * 3)).set (k * 3) (.string l[k].1)).set (k * 3 + 1) (.int .i64 l[k].2.1)).set (k * 3 + 2) (.int .i64 l[k].2.2) = symCells (l.take (k + 1)) ++ zs.drop ((k + 1) * 3) := by
  have e : (symCells (l.take k)).length = k * 3 := by rw [symCells_length, List.length_take]; omega
  have s1 := set_prefix (symCells (l.take k)) zs (.string l[k].1) (by omega)
  have s2 := set_prefix (symCells (l.take k) ++ [.string l[k].1]) zs (.int .i64 l[k].2.1) (by simp; omega)
  have s3 := set_prefix (symCells (l.take k) ++ [.string l[k].1] ++ [.int .i64 l[k].2.1]) zs (.int .i64 l[k].2.2) (by simp; omega)
  simp only [List.length_append, List.length_cons, List.length_nil, e, Nat.zero_add] at s1 s2 s3
  rw [s1, s2, s3, symCells_take_succ l k h, show k * 3 + 1 + 1 + 1 = (k + 1) * 3 by omega]
theorem Try.infoSym : (Try.prog.info? 117).map (fun i => (i.zero, i.size, i.bytes)) = some (some (.agg #[.string ByteArray.empty, .int .i64 0, .int .i64 0]), 3, 32) := by kernel_rfl
set_option maxHeartbeats 400000 in
theorem l_szSymbol (s : ByteArray) (k n : Int) (hs : s.size ≤ maxLen) (l : Int) (hl : -1 ≤ l ∧ l ≤ 1048576) (w : World) :
    Calls Try.prog 156 #[.agg #[.string s, .int .i64 k, .int .i64 n], .int .i64 l] w fun e w' => e = .returned (.int .i64 (if l - s.size < 0 then -1 else l - s.size)) ∧ Below w.heap.size w w' := by
  unfold maxLen at hs
  go_enter Try.func156, Try.ntmps156
  go_wp2
  all_goals go_ret
  all_goals refine ⟨ret_int ?_, by repeat (first | exact Below.refl _ _ | refine Below.alloc ?_ (by first | (simp; done) | (simp; omega)) _ | refine Below.drew ?_ | refine below_drewN ?_ _ | refine Below.setCell ?_ (by first | (simp; done) | (simp; omega)) _)⟩
  all_goals first | rfl | (split <;> omega)
set_option maxHeartbeats 400000 in
theorem l_toSymbol (s : ByteArray) (k n : Int) (w : World) :
    Calls Try.prog 157 #[.agg #[.string s, .int .i64 k, .int .i64 n]] w fun e w' => e = .returned (.agg #[.string s, .int .i64 k, .int .i64 n]) ∧ Below w.heap.size w w' := by
  go_enter Try.func157, Try.ntmps157
  go_wp2
  exact bodyPost_ret (v := .agg #[.string s, .int .i64 k, .int .i64 n]) (by simp [results, Try.results157, go_sem]) rfl ⟨rfl, by repeat (first | exact Below.refl _ _ | refine Below.alloc ?_ (by first | (simp; done) | (simp; omega)) _ | refine Below.drew ?_ | refine below_drewN ?_ _ | refine Below.setCell ?_ (by first | (simp; done) | (simp; omega)) _)⟩
set_option maxHeartbeats 400000 in
theorem l_eqSymbol (a b : Sy) (w : World) :
    Calls Try.prog 158 #[.agg #[.string a.1, .int .i64 a.2.1, .int .i64 a.2.2], .agg #[.string b.1, .int .i64 b.2.1, .int .i64 b.2.2]] w fun e w' => e = .returned (.bool (decide (a = b))) ∧ Below w.heap.size w w' := by
  obtain ⟨a1, a2, a3⟩ := a
  obtain ⟨b1, b2, b3⟩ := b
  go_enter Try.func158, Try.ntmps158
  go_wp2
  all_goals go_ret
  all_goals refine ⟨ret_bool ?_, by repeat (first | exact Below.refl _ _ | refine Below.alloc ?_ (by first | (simp; done) | (simp; omega)) _ | refine Below.drew ?_ | refine below_drewN ?_ _ | refine Below.setCell ?_ (by first | (simp; done) | (simp; omega)) _)⟩
  all_goals go_light
  all_goals simp_all [ByteArray.toList_eq]
  all_goals first | (intro e; subst e; simp_all; done) | exact ByteArray.ext ‹_›
set_option maxHeartbeats 400000 in
theorem l_szSymbolS (A : Option Addr) (n c : Nat) (l : List Sy) (L : Int) (w : World) (hn : n ≤ maxLen) (hL : -1 ≤ L ∧ L ≤ 1048576) (hl : l.length = n) (h : InRow w A n 3 (symCells l)) (hs : ∀ t ∈ l, t.1.size ≤ maxLen) :
    Calls Try.prog 150 #[.slice A n c, .int .i64 L] w fun e w' => (∃ r : Int, e = .returned (.int .i64 r) ∧ -1 ≤ r ∧ r ≤ L ∧ (0 ≤ r → (n : Int) + r ≤ L ∧ ∀ t ∈ l, (t.1.size : Int) ≤ L)) ∧ Below w.heap.size w w' := by
  unfold maxLen at hn
  have H := hide h
  have HL := hide hl
  have HS := hide hs
  clear h hl hs
  by_cases hlen : L - n < 0
  · go_enter Try.func150, Try.ntmps150
    go_wp2_with fail
    go_ret
    exact ⟨⟨-1, rfl, by omega, by omega, fun h => by omega⟩, Below.refl _ _⟩
  · go_enter Try.func150, Try.ntmps150
    go_wp2_with fail
    go_loopw [1, 5] (fun m i wr => ∃ (k : Nat) (r : Int), k ≤ n ∧ i = .int .i64 k ∧ m = .int .i64 r ∧ 0 ≤ r ∧ r ≤ L - n ∧ (∀ t ∈ l.take k, (t.1.size : Int) ≤ L) ∧ Below w.heap.size w wr) (fun _ i _ => n - (intOf i).toNat)
    case atStart => exact ⟨0, L - n, Nat.zero_le _, rfl, rfl, by omega, Int.le_refl _, fun t h => by simp at h, Below.refl _ _⟩
    case round =>
      obtain ⟨k, r, hk, rfl, rfl, hr0, hr1, ht, hb⟩ := hrel
      have HT := hide ht
      have HB := hide hb
      have R := hide (H.out.below hb)
      clear ht hb
      by_cases hlt : k < n
      · have hkl : k < l.length := by rw [HL.out]; exact hlt
        obtain ⟨b, o, rfl, _, c0, c1, c2⟩ := R.out.sym k hkl
        have hsz := HS.out _ (List.getElem_mem hkl)
        have hst := hide (List.take_succ_eq_append_getElem hkl)
        have hs2 := hsz
        unfold maxLen at hs2
        go_wp2_with fail
        refine (l_szSymbol _ _ _ hsz _ (by omega) _).mono ?_
        rintro e w2 ⟨rfl, hb2⟩
        have hbn := hide (HB.out.trans (hb2.mono HB.out.size))
        clear hb2
        by_cases hbad : r - (l[k].1.size : Int) < 0
        · rw [if_pos hbad]
          clear hbad
          go_wp2
          go_ret
          exact ⟨⟨-1, rfl, by omega, by omega, fun h => by omega⟩, hbn.out⟩
        · rw [if_neg hbad]
          go_wp2
          go_roundw
          case rel =>
            refine ⟨k + 1, r - l[k].1.size, by omega, by go_num, rfl, by omega, by omega, fun t ht => ?_, hbn.out⟩
            rw [hst.out, List.mem_append] at ht
            rcases ht with ht | ht
            · exact HT.out t ht
            · simp at ht
              subst ht
              omega
          case measure => simp [intOf]; omega
      · have hall : l.take k = l := List.take_of_length_le (by rw [HL.out]; omega)
        have HA := hide hall
        clear hall
        go_wp2
        go_ret
        refine ⟨⟨r, rfl, by omega, by omega, fun h => ⟨by omega, fun t ht => HT.out t (by rw [HA.out]; exact ht)⟩⟩, HB.out⟩
set_option maxHeartbeats 400000 in
theorem l_toSymbolSn (A : Option Addr) (n c : Nat) (l : List Sy) (w : World) (hn : n ≤ 1048576) (hl : l.length = n) (h : InRow w A n 3 (symCells l)) :
    Calls Try.prog 151 #[.slice A n c] w fun e w' => (∃ A', e = .returned (.slice A' n n) ∧ Arr w' w.heap.size w'.heap.size A' n 3 (symCells l)) ∧ Below w.heap.size w w' := by
  obtain ⟨i0, hi, hz0, hz1, hz2⟩ := info_parts Try.infoSym
  have H := hide h
  have HL := hide hl
  clear h hl
  go_enter Try.func151, Try.ntmps151
  go_wp2_with (at_make; refine wpList_mk _ rfl _ _ 112 rfl 117 i0 _ 3 Try.underlying112 hi hz0 hz1 _ _ _ _ n rfl rfl ?c1 ?c2 ?c3 ?c4 ?_)
  case c1 => rfl
  case c2 => rfl
  case c3 => rw [hz2]; omega
  case c4 => unfold maxLen; omega
  intro w1 zs ha1 hb1
  have HZ := hide ha1.1
  go_wp2
  go_loopw [4] (fun i wr => ∃ k : Nat, k ≤ n ∧ i = .int .i64 k ∧ Arr wr w.heap.size wr.heap.size (some ⟨w.heap.size, 0, none⟩) n 3 (symCells (l.take k) ++ zs.drop (k * 3)) ∧ Below w.heap.size w wr) (fun i _ => n - (intOf i).toNat)
  case atStart => exact ⟨0, Nat.zero_le _, rfl, by simpa [symCells] using ha1, hb1⟩
  case round =>
    obtain ⟨k, hk, rfl, hr, hb⟩ := hrel
    have R := hide hr
    have HB := hide hb
    have RI := hide (H.out.below hb)
    clear hr hb
    by_cases hlt : k < n
    · have hkl : k < l.length := by rw [HL.out]; exact hlt
      obtain ⟨b, o, rfl, _, c0, c1, c2⟩ := RI.out.sym k hkl
      go_wp2_with fail
      refine (l_toSymbol _ _ _ _).mono ?_
      rintro e w2 ⟨rfl, hb2⟩
      have R2 := hide (R.out.belowZ hb2)
      have s3 := hide (symCells_set3 l k hkl zs (by rw [HZ.out, HL.out]))
      have R3 := hide (((R2.out.set_ (j := k * 3) (by omega) (.string l[k].1)).set_ (j := k * 3 + 1) (by omega) (.int .i64 l[k].2.1)).set_ (j := k * 3 + 2) (by omega) (.int .i64 l[k].2.2))
      obtain ⟨g', eg, g1, g2, g3, hc⟩ := R2.out.2 (by omega)
      obtain rfl : w.heap.size = g' := by injection eg with eg; injection eg
      obtain ⟨u0, d0⟩ : ∃ u, w2.cell? ⟨w.heap.size, k * 3, none⟩ = some u := ⟨_, (hc (k * 3) (by omega)).1.trans (List.getElem?_eq_getElem (by rw [R2.out.1]; omega))⟩
      obtain ⟨u1, d1⟩ : ∃ u, w2.cell? ⟨w.heap.size, k * 3 + 1, none⟩ = some u := ⟨_, (hc (k * 3 + 1) (by omega)).1.trans (List.getElem?_eq_getElem (by rw [R2.out.1]; omega))⟩
      obtain ⟨u2, d2⟩ : ∃ u, w2.cell? ⟨w.heap.size, k * 3 + 2, none⟩ = some u := ⟨_, (hc (k * 3 + 2) (by omega)).1.trans (List.getElem?_eq_getElem (by rw [R2.out.1]; omega))⟩
      have f0 := (hc (k * 3) (by omega)).2
      have f1 := (hc (k * 3 + 1) (by omega)).2
      have f2 := (hc (k * 3 + 2) (by omega)).2
      have HB2 := hide (HB.out.trans (hb2.mono HB.out.size))
      clear hc eg hb2
      go_wp2
      go_roundw
      case rel =>
        refine ⟨k + 1, by omega, by go_num, ?_, ?_⟩
        · rw [← s3.out]
          exact R3.out.more (Nat.le_refl _) (by simpa [World.setCell] using g3) (Nat.le_refl _)
        · exact ((HB2.out.setCell (p := ⟨w.heap.size, k * 3, none⟩) (Nat.le_refl _) _).setCell (p := ⟨w.heap.size, k * 3 + 1, none⟩) (Nat.le_refl _) _).setCell (p := ⟨w.heap.size, k * 3 + 2, none⟩) (Nat.le_refl _) _
      case measure => simp [intOf]; omega
    · have hall : symCells (l.take k) ++ zs.drop (k * 3) = symCells l := by
        rw [List.take_of_length_le (by rw [HL.out]; omega), List.drop_of_length_le (by rw [HZ.out]; omega), List.append_nil]
      have R2 := hide R.out
      rw [hall] at R2
      clear hall
      go_wp2
      go_ret
      exact ⟨⟨_, rfl, R2.out⟩, HB.out⟩
set_option maxHeartbeats 400000 in
theorem l_eqSymbolS (A A' : Option Addr) (n n' c c' : Nat) (l l' : List Sy) (w : World) (hn : n ≤ 1099511627776) (hn' : n' ≤ 1099511627776)
    (h : InRow w A n 3 (symCells l)) (h' : InRow w A' n' 3 (symCells l')) :
    Calls Try.prog 152 #[.slice A n c, .slice A' n' c'] w fun e w' => e = .returned (.bool (decide (l = l'))) ∧ Below w.heap.size w w' := by
  have hl : l.length = n := by have := h.1; rw [symCells_length] at this; omega
  have hl' : l'.length = n' := by have := h'.1; rw [symCells_length] at this; omega
  by_cases hne : n = n'
  · subst hne
    have H := hide h
    have H' := hide h'
    have HL := hide hl
    have HL' := hide hl'
    clear h h' hl hl'
    go_enter Try.func152, Try.ntmps152
    go_wp2
    go_loopw [5] (fun i wr => ∃ k : Nat, k ≤ n ∧ i = .int .i64 k ∧ l.take k = l'.take k ∧ Below w.heap.size w wr) (fun i _ => n - (intOf i).toNat)
    case atStart => exact ⟨0, Nat.zero_le _, rfl, rfl, Below.refl _ _⟩
    case round =>
      obtain ⟨k, hk, rfl, ht, hb⟩ := hrel
      have HT := hide ht
      have HB := hide hb
      have R := hide (H.out.below hb)
      have R' := hide (H'.out.below hb)
      clear ht hb
      by_cases hlt : k < n
      · have hkl : k < l.length := by rw [HL.out]; exact hlt
        have hkl' : k < l'.length := by rw [HL'.out]; exact hlt
        obtain ⟨b, o, rfl, _, c0, c1, c2⟩ := R.out.sym k hkl
        obtain ⟨b', o', rfl, _, d0, d1, d2⟩ := R'.out.sym k hkl'
        by_cases heq : l[k] = l'[k]
        · have hdec := decide_eq_true heq
          have HN := hide (take_eq_step l l' k hkl hkl' HT.out heq)
          clear heq
          go_wp2
          refine wp_region_still_tail 8 (by kernel_rfl) (by kernel_rfl) ?_
          simp only [List.take_succ_cons, List.take_zero, List.drop_succ_cons, List.drop_zero]
          repeat still_step
          refine wpStill_nil ?_
          change wpList _ _ _ _ _ wr.drew
          go_wp2_with fail
          refine (l_eqSymbol l[k] l'[k] _).mono ?_
          rintro e w2 ⟨rfl, hb2⟩
          go_wp2
          go_roundw
          case rel => exact ⟨k + 1, by omega, by go_num, HN.out, HB.out.drew.trans (hb2.mono HB.out.size)⟩
          case measure => simp [intOf]; omega
        · have hdec := decide_eq_false heq
          have HN : Hid (decide (l = l') = false) := decide_eq_false (fun e => heq (by subst e; rfl))
          clear heq
          go_wp2
          refine wp_region_still_tail 8 (by kernel_rfl) (by kernel_rfl) ?_
          simp only [List.take_succ_cons, List.take_zero, List.drop_succ_cons, List.drop_zero]
          repeat still_step
          refine wpStill_nil ?_
          change wpList _ _ _ _ _ wr.drew
          go_wp2_with fail
          refine (l_eqSymbol l[k] l'[k] _).mono ?_
          rintro e w2 ⟨rfl, hb2⟩
          go_wp2
          go_ret
          exact ⟨ret_bool HN.out.symm, HB.out.drew.trans (hb2.mono HB.out.size)⟩
      · have HN : Hid (decide (l = l') = true) := decide_eq_true (by
          have := HT.out
          rw [List.take_of_length_le (by rw [HL.out]; omega), List.take_of_length_le (by rw [HL'.out]; omega)] at this
          exact this)
        go_wp2
        go_ret
        exact ⟨ret_bool HN.out.symm, HB.out⟩
  · have hd : (((n : Nat) : Int) != (n' : Int)) = true := by rw [bne_iff_ne]; omega
    have hf : Hid (decide (l = l') = false) := decide_eq_false (fun e => hne (by rw [← hl, ← hl', e]))
    clear h h' hl hl' hne
    go_enter Try.func152, Try.ntmps152
    go_wp2
    go_ret
    exact ⟨ret_bool hf.out.symm, Below.refl _ _⟩
abbrev Im := ByteArray × List Sy
def ImIn (w : World) (x : Im) (A : Option Addr) (c : Nat) : Prop := InRow w A x.2.length 3 (symCells x.2) ∧ x.2.length ≤ c ∧ c ≤ maxLen
def ImSz (x : Im) : Prop := x.1.size ≤ maxLen ∧ ∀ t ∈ x.2, t.1.size ≤ maxLen
theorem ImIn.below {w w' : World} {x : Im} {A : Option Addr} {c : Nat} (h : ImIn w x A c) (hb : Below w.heap.size w w') : ImIn w' x A c := ⟨h.1.below hb, h.2⟩
theorem imIn_own {w : World} {lo hi : Nat} {x : Im} {A : Option Addr} (h : Arr w lo hi A x.2.length 3 (symCells x.2)) (hn : x.1.size + x.2.length ≤ 1048576) : ImIn w x A x.2.length := ⟨.of_arr h, Nat.le_refl _, by unfold maxLen; omega⟩
set_option maxHeartbeats 400000 in
theorem l_szImage (x : Im) (A : Option Addr) (c : Nat) (L : Int) (w : World) (hL : -1 ≤ L ∧ L ≤ 1048576) (h : ImIn w x A c) (hs : ImSz x) :
    Calls Try.prog 121 #[.agg #[.string x.1, .slice A x.2.length c], .int .i64 L] w fun e w' =>
      (∃ r : Int, e = .returned (.int .i64 r) ∧ -1 ≤ r ∧ r ≤ L ∧ (0 ≤ r → (x.1.size : Int) + x.2.length + r ≤ L)) ∧ Below w.heap.size w w' := by
  obtain ⟨s, l⟩ := x
  obtain ⟨h1, h2, h3⟩ := h
  obtain ⟨s1, s2⟩ := hs
  simp only at h1 h2 h3 s1 s2 ⊢
  have S1 := s1
  unfold maxLen at s1
  by_cases hbad : L - (s.size : Int) < 0
  · go_enter Try.func121, Try.ntmps121
    go_wp2_with fail
    go_ret
    exact ⟨⟨-1, rfl, by omega, by omega, fun h => by omega⟩, by repeat (first | exact Below.refl _ _ | refine Below.alloc ?_ (by first | (simp; done) | (simp; omega)) _ | refine Below.drew ?_ | refine below_drewN ?_ _ | refine Below.setCell ?_ (by first | (simp; done) | (simp; omega)) _)⟩
  · go_enter Try.func121, Try.ntmps121
    go_wp2_with fail
    refine (l_szSymbolS A _ c l _ _ (by omega) (by omega) rfl (h1.below (by repeat (first | exact Below.refl _ _ | refine Below.alloc ?_ (by first | (simp; done) | (simp; omega)) _ | refine Below.drew ?_ | refine below_drewN ?_ _ | refine Below.setCell ?_ (by first | (simp; done) | (simp; omega)) _))) s2).mono ?_
    rintro e w2 ⟨⟨r, rfl, r0, r1, r2⟩, hb2⟩
    have hbb := hide (show Below w.heap.size w w2 from Below.trans (by repeat (first | exact Below.refl _ _ | refine Below.alloc ?_ (by first | (simp; done) | (simp; omega)) _ | refine Below.drew ?_ | refine below_drewN ?_ _ | refine Below.setCell ?_ (by first | (simp; done) | (simp; omega)) _)) (hb2.mono (by simp)))
    by_cases hb1 : r < 0
    · go_wp2_with fail
      go_ret
      exact ⟨⟨-1, rfl, by omega, by omega, fun h => by omega⟩, hbb.out⟩
    · obtain ⟨r3, _⟩ := r2 (by omega)
      go_wp2_with fail
      go_ret
      exact ⟨⟨r, rfl, by omega, by omega, fun h => by omega⟩, hbb.out⟩
set_option maxHeartbeats 400000 in
theorem l_toImage (x : Im) (A : Option Addr) (c : Nat) (w : World) (hn : x.2.length ≤ 1048576) (h : ImIn w x A c) :
    Calls Try.prog 124 #[.agg #[.string x.1, .slice A x.2.length c]] w fun e w' =>
      (∃ B, e = .returned (.agg #[.string x.1, .slice B x.2.length x.2.length]) ∧ Arr w' w.heap.size w'.heap.size B x.2.length 3 (symCells x.2)) ∧ Below w.heap.size w w' := by
  obtain ⟨s, l⟩ := x
  obtain ⟨h1, h2, h3⟩ := h
  simp only at h1 h2 h3 hn ⊢
  go_enter Try.func124, Try.ntmps124
  go_wp2_with fail
  refine (l_toSymbolSn A _ c l _ hn rfl (h1.below (by repeat (first | exact Below.refl _ _ | refine Below.alloc ?_ (by first | (simp; done) | (simp; omega)) _ | refine Below.drew ?_ | refine below_drewN ?_ _ | refine Below.setCell ?_ (by first | (simp; done) | (simp; omega)) _)))).mono ?_
  rintro e w2 ⟨⟨B1, rfl, r1⟩, hb2⟩
  have Z2 := hb2.size
  simp at Z2
  have K1 : Blk w2 (w.heap.size + 1) 114 #[.string ⟨#[]⟩, .slice none 0 0] := by
    have := ((Blk.new (w.alloc (.cells #[.string s, .slice A l.length c] 146)) 114 #[.string ⟨#[]⟩, .slice none 0 0]).alloc _).below hb2 (by simp)
    simpa using this
  have K2 : Blk w2 (w.heap.size + 1 + 1) 114 #[.string s, .slice none 0 0] := by
    have := (Blk.new ((w.alloc (.cells #[.string s, .slice A l.length c] 146)).alloc (.cells #[.string ⟨#[]⟩, .slice none 0 0] 114)) 114 #[.string s, .slice none 0 0]).below hb2 (by simp)
    simpa using this
  have hB2 := hide (show Below w.heap.size w w2 from Below.trans (by repeat (first | exact Below.refl _ _ | refine Below.alloc ?_ (by first | (simp; done) | (simp; omega)) _ | refine Below.drew ?_ | refine below_drewN ?_ _ | refine Below.setCell ?_ (by first | (simp; done) | (simp; omega)) _)) (hb2.mono (by first | (simp; done) | (simp; omega) | omega)))
  have r1' : Hid (Arr w2 (w.heap.size + 3) w2.heap.size B1 l.length 3 (symCells l)) := r1.more (by first | (simp; done) | (simp; omega) | omega) (Nat.le_refl _) (Nat.le_refl _)
  clear hb2 r1
  have y0 := K2.cell 0
  have y1 := K2.cell 1
  have y2 := K2.frozen 1
  have z0 := K1.cell 0
  have z1 := K1.cell 1
  have z2 := K1.frozen 0
  have z3 := K1.frozen 1
  simp at y0 y1 z0 z1
  go_wp2_with fail
  have hne1 : ¬ w.heap.size + 1 + 1 = w.heap.size + 1 := by omega
  have hne2 : ¬ w.heap.size + 1 = w.heap.size + 1 + 1 := by omega
  refine bodyPost_ret (v := .agg #[.string s, .slice B1 l.length l.length]) (by simp [results, Try.results124, go_sem, z0, z1]) rfl ⟨⟨B1, rfl, ?_⟩, ?_⟩
  · refine Arr.more (lo := w.heap.size + 3) (hi := w2.heap.size) ?_ (by first | (simp; done) | (simp; omega) | omega) (by first | (simp; done) | (simp; omega) | omega) (by first | (simp; done) | (simp; omega) | omega)
    iterate 3 refine Arr.far ?_ (.inl (by first | (simp; done) | (simp; omega) | omega)) _
    exact r1'.out
  · iterate 3 refine Below.setCell ?_ (by first | (simp; done) | (simp; omega) | omega) _
    exact hB2.out
set_option maxHeartbeats 400000 in
theorem l_eqImage (x y : Im) (A B : Option Addr) (c d : Nat) (w : World) (hx : x.2.length ≤ 1099511627776) (hy : y.2.length ≤ 1099511627776) (h : ImIn w x A c) (h' : ImIn w y B d) :
    Calls Try.prog 126 #[.agg #[.string x.1, .slice A x.2.length c], .agg #[.string y.1, .slice B y.2.length d]] w fun e w' => e = .returned (.bool (same x y)) ∧ Below w.heap.size w w' := by
  obtain ⟨s, l⟩ := x
  obtain ⟨s', l'⟩ := y
  obtain ⟨h1, _⟩ := h
  obtain ⟨h1', _⟩ := h'
  simp only at h1 h1' hx hy ⊢
  by_cases e2 : s = s'
  · have z2 : (!s.toList == s'.toList) = false := by rw [e2]; simp
    have hd : Hid (same (s, l) (s', l') = decide (l = l')) := by
      show _ = _
      subst e2
      by_cases e4 : l = l'
      · rw [same_of (by rw [e4]), decide_eq_true e4]
      · rw [same_not (fun e => e4 (by injection e)), decide_eq_false e4]
    clear e2
    go_enter Try.func126, Try.ntmps126
    go_wp2_with fail
    refine (l_eqSymbolS A B _ _ c d l l' _ hx hy (h1.below (by repeat (first | exact Below.refl _ _ | refine Below.alloc ?_ (by first | (simp; done) | (simp; omega)) _ | refine Below.drew ?_ | refine below_drewN ?_ _ | refine Below.setCell ?_ (by first | (simp; done) | (simp; omega)) _))) (h1'.below (by repeat (first | exact Below.refl _ _ | refine Below.alloc ?_ (by first | (simp; done) | (simp; omega)) _ | refine Below.drew ?_ | refine below_drewN ?_ _ | refine Below.setCell ?_ (by first | (simp; done) | (simp; omega)) _)))).mono ?_
    rintro e w2 ⟨rfl, hb2⟩
    have hB2 := hide (show Below w.heap.size w w2 from Below.trans (b := (w.alloc (.cells #[.string s, .slice A l.length c] 114)).alloc (.cells #[.string s', .slice B l'.length d] 114)) (by repeat (first | exact Below.refl _ _ | refine Below.alloc ?_ (by first | (simp; done) | (simp; omega)) _ | refine Below.drew ?_ | refine below_drewN ?_ _ | refine Below.setCell ?_ (by first | (simp; done) | (simp; omega)) _)) (hb2.mono (by first | (simp; done) | (simp; omega) | omega)))
    clear hb2 z2
    cases hq : decide (l = l')
    all_goals rw [hq] at hd
    all_goals clear hq
    all_goals go_wp2
    all_goals go_ret
    all_goals exact ⟨ret_bool hd.out.symm, hB2.out⟩
  · have z2 : (!s.toList == s'.toList) = true := by
      have : (s.toList == s'.toList) = false := by
        rw [beq_eq_false_iff_ne]
        intro e
        rw [ByteArray.toList_eq, ByteArray.toList_eq] at e
        exact e2 (ByteArray.ext (Array.toList_inj.1 e))
      rw [this]; rfl
    have hd : Hid (same (s, l) (s', l') = false) := same_not (fun e => e2 (by injection e))
    clear e2
    go_enter Try.func126, Try.ntmps126
    go_wp2_with fail
    go_ret
    exact ⟨ret_bool hd.out.symm, by repeat (first | exact Below.refl _ _ | refine Below.alloc ?_ (by first | (simp; done) | (simp; omega)) _ | refine Below.drew ?_ | refine below_drewN ?_ _ | refine Below.setCell ?_ (by first | (simp; done) | (simp; omega)) _)⟩
end Go.Proofs.Ythhlimbaoenkkaa
