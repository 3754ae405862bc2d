import Derived.Test.YthhlimbaoenkkaaLin
namespace Go.Proofs.Ythhlimbaoenkkaa
open Go.RowKit
set_option maxRecDepth 100000
set_option maxHeartbeats 400000 in
theorem l_szLine (x : Ln) (A1 A2 : Option Addr) (c1 c2 : Nat) (L : Int) (w : World) (hL : -1 ≤ L ∧ L ≤ 1048576) (h : LnIn w x A1 c1 A2 c2) (hs : LnSz x) :
    Calls Try.prog 105 #[.agg #[.int .i64 x.1, .string x.2.1, .slice A1 x.2.2.1.length c1, .slice A2 x.2.2.2.length c2], .int .i64 L] w fun e w' =>
      (∃ r : Int, e = .returned (.int .i64 r) ∧ -1 ≤ r ∧ r ≤ L ∧ (0 ≤ r → (x.2.2.1.length : Int) + x.2.2.2.length + r ≤ L)) ∧ Below w.heap.size w w' := by
  obtain ⟨k, s, ar, ex⟩ := x
  obtain ⟨h1, h2, h3, h4, h5, h6⟩ := h
  obtain ⟨s1, s2, s3⟩ := hs
  simp only at h1 h2 h3 h4 h5 h6 s1 s2 s3 ⊢
  have S1 := s1
  unfold maxLen at s1
  by_cases hbad : L - (s.size : Int) < 0
  · go_enter Try.func105, Try.ntmps105
    go_wp2_with fail
    go_ret
    exact ⟨⟨-1, rfl, by omega, by omega, fun h => by omega⟩, by repeat (first | exact Below.refl _ _ | refine Below.alloc ?_ (by first | (simp; done) | (simp; omega)) _ | refine Below.drew ?_ | refine below_drewN ?_ _ | refine Below.setCell ?_ (by first | (simp; done) | (simp; omega)) _)⟩
  · go_enter Try.func105, Try.ntmps105
    go_wp2_with fail
    refine (l_szStringS A1 _ c1 ar _ _ (by omega) (by omega) rfl (h1.below (by repeat (first | exact Below.refl _ _ | refine Below.alloc ?_ (by first | (simp; done) | (simp; omega)) _ | refine Below.drew ?_ | refine below_drewN ?_ _ | refine Below.setCell ?_ (by first | (simp; done) | (simp; omega)) _))) s2).mono ?_
    rintro e w2 ⟨⟨r, rfl, r0, r1, r2⟩, rfl⟩
    by_cases hb1 : r < 0
    · go_wp2_with fail
      go_ret
      exact ⟨⟨-1, rfl, by omega, by omega, fun h => by omega⟩, by repeat (first | exact Below.refl _ _ | refine Below.alloc ?_ (by first | (simp; done) | (simp; omega)) _ | refine Below.drew ?_ | refine below_drewN ?_ _ | refine Below.setCell ?_ (by first | (simp; done) | (simp; omega)) _)⟩
    · obtain ⟨r3, _⟩ := r2 (by omega)
      go_wp2_with fail
      refine (l_szTokS A2 _ c2 ex _ _ (by omega) (by omega) rfl (h2.below (by repeat (first | exact Below.refl _ _ | refine Below.alloc ?_ (by first | (simp; done) | (simp; omega)) _ | refine Below.drew ?_ | refine below_drewN ?_ _ | refine Below.setCell ?_ (by first | (simp; done) | (simp; omega)) _))) s3).mono ?_
      rintro e w3 ⟨⟨q, rfl, q0, q1, q2⟩, hb3⟩
      have hbb := hide (show Below w.heap.size w w3 from Below.trans (by repeat (first | exact Below.refl _ _ | refine Below.alloc ?_ (by first | (simp; done) | (simp; omega)) _ | refine Below.drew ?_ | refine below_drewN ?_ _ | refine Below.setCell ?_ (by first | (simp; done) | (simp; omega)) _)) (hb3.mono (by simp)))
      by_cases hb2 : q < 0
      · go_wp2_with fail
        go_ret
        exact ⟨⟨-1, rfl, by omega, by omega, fun h => by omega⟩, hbb.out⟩
      · obtain ⟨q3, _⟩ := q2 (by omega)
        go_wp2_with fail
        go_ret
        exact ⟨⟨q, rfl, by omega, by omega, fun h => by omega⟩, hbb.out⟩
theorem sumLn (L : List Ln) : lnsCnt L ≤ 3 * (L.map fun x => x.2.2.1.length + x.2.2.2.length).sum + 2 * L.length := by
  unfold lnsCnt
  induction L with
  | nil => simp
  | cons x L ih => simp [lnCnt] at ih ⊢; omega
def lnTot (L : List Ln) : Nat := (L.map fun x => x.2.2.1.length + x.2.2.2.length).sum
theorem lnTot_mem (L : List Ln) (x : Ln) (h : x ∈ L) : x.2.2.1.length + x.2.2.2.length ≤ lnTot L := by
  unfold lnTot
  induction L with
  | nil => simp at h
  | cons y L ih =>
    simp only [List.map_cons, List.sum_cons]
    rcases List.mem_cons.1 h with rfl | h
    · omega
    · have := ih h; omega
theorem lnTot_snoc (L : List Ln) (x : Ln) : lnTot (L ++ [x]) = lnTot L + (x.2.2.1.length + x.2.2.2.length) := by simp [lnTot]
set_option maxHeartbeats 400000 in
theorem l_szLineS (A : Option Addr) (n c : Nat) (l : List Ln) (L : Int) (w : World) (hn : n ≤ maxLen) (hL : -1 ≤ L ∧ L ≤ 1048576) (h : InLines w A n l) (hs : ∀ x ∈ l, LnSz x) :
    Calls Try.prog 54 #[.slice A n c, .int .i64 L] w fun e w' => (∃ r : Int, e = .returned (.int .i64 r) ∧ -1 ≤ r ∧ r ≤ L ∧ (0 ≤ r → (n : Int) + lnTot l + r ≤ L)) ∧ Below w.heap.size w w' := by
  unfold maxLen at hn
  have H := hide h
  have HL := hide h.len
  have HS := hide hs
  clear h hs
  by_cases hlen : L - n < 0
  · go_enter Try.func54, Try.ntmps54
    go_wp2_with fail
    go_ret
    exact ⟨⟨-1, rfl, by omega, by omega, fun h => by omega⟩, Below.refl _ _⟩
  · go_enter Try.func54, Try.ntmps54
    go_wp2_with fail
    go_loopw [1, 5] (fun m i wr => ∃ (k : Nat) (r : Int), k ≤ n ∧ i = .int .i64 k ∧ m = .int .i64 r ∧ 0 ≤ r ∧ r ≤ L - n - lnTot (l.take k) ∧ Below w.heap.size w wr) (fun _ i _ => n - (intOf i).toNat)
    case atStart => exact ⟨0, L - n, Nat.zero_le _, rfl, rfl, by omega, by simp [lnTot], Below.refl _ _⟩
    case round =>
      obtain ⟨k, r, hk, rfl, rfl, hr0, hr1, hb⟩ := hrel
      have HB := hide hb
      have R := hide (H.out.below hb)
      clear hb
      by_cases hlt : k < n
      · have hkl : k < l.length := by rw [HL.out]; exact hlt
        obtain ⟨b, o, A1, c1, A2, c2, rfl, _, k0, k1, k2, k3, hln⟩ := R.out.ln k hkl
        have hst := hide (List.take_succ_eq_append_getElem hkl)
        have hsz := hide (HS.out _ (List.getElem_mem hkl))
        have HN := hide hln
        clear hln
        go_wp2_with fail
        refine (l_szLine l[k] A1 A2 c1 c2 _ _ (by omega) HN.out hsz.out).mono ?_
        rintro e w2 ⟨⟨q, rfl, q0, q1, q2⟩, hb2⟩
        have hbn := hide (HB.out.trans (hb2.mono HB.out.size))
        clear hb2
        by_cases hbad : q < 0
        · go_wp2
          go_ret
          exact ⟨⟨-1, rfl, by omega, by omega, fun h => by omega⟩, hbn.out⟩
        · have q3 := q2 (by omega)
          clear q2
          go_wp2
          go_roundw
          case rel =>
            refine ⟨k + 1, q, by omega, by go_num, rfl, by omega, ?_, hbn.out⟩
            rw [hst.out, lnTot_snoc]
            omega
          case measure => simp [intOf]; omega
      · have HA := hide (List.take_of_length_le (l := l) (i := k) (by rw [HL.out]; omega))
        rw [HA.out] at hr1
        go_wp2
        go_ret
        exact ⟨⟨r, rfl, by omega, by omega, fun h => by omega⟩, HB.out⟩
set_option maxHeartbeats 400000 in
theorem l_toLine (x : Ln) (A1 A2 : Option Addr) (c1 c2 : Nat) (w : World) (hn1 : x.2.2.1.length ≤ 1048576) (hn2 : x.2.2.2.length ≤ 1048576) (h : LnIn w x A1 c1 A2 c2) :
    Calls Try.prog 106 #[.agg #[.int .i64 x.1, .string x.2.1, .slice A1 x.2.2.1.length c1, .slice A2 x.2.2.2.length c2]] w fun e w' =>
      (∃ B1 B2, e = .returned (.agg #[.int .i64 x.1, .string x.2.1, .slice B1 x.2.2.1.length x.2.2.1.length, .slice B2 x.2.2.2.length x.2.2.2.length]) ∧ Own w' w.heap.size w'.heap.size (lnRows (x, B1, x.2.2.1.length, B2, x.2.2.2.length))) ∧ Below w.heap.size w w' := by
  obtain ⟨k, s, ar, ex⟩ := x
  obtain ⟨h1, h2, h3, h4, h5, h6⟩ := h
  simp only at h1 h2 h3 h4 h5 h6 hn1 hn2 ⊢
  go_enter Try.func106, Try.ntmps106
  go_wp2_with fail
  refine (l_toStringS A1 _ c1 ar _ hn1 rfl (h1.below (by repeat (first | exact Below.refl _ _ | refine Below.alloc ?_ (by first | (simp; done) | (simp; omega)) _ | refine Below.drew ?_ | refine below_drewN ?_ _ | refine Below.setCell ?_ (by first | (simp; done) | (simp; omega)) _)))).mono ?_
  rintro e w2 ⟨⟨B1, rfl, r1⟩, hb2⟩
  have Z2 := hb2.size
  simp at Z2
  have K0 : Blk w2 w.heap.size 131 #[.int .i64 k, .string s, .slice A1 ar.length c1, .slice A2 ex.length c2] := (((Blk.new w _ _).alloc _).alloc _).below hb2 (by simp; omega)
  have K1 : Blk w2 (w.heap.size + 1) 76 #[.int .i64 0, .string ⟨#[]⟩, .slice none 0 0, .slice none 0 0] := by
    have := ((Blk.new (w.alloc (.cells #[.int .i64 k, .string s, .slice A1 ar.length c1, .slice A2 ex.length c2] 131)) 76 #[.int .i64 0, .string ⟨#[]⟩, .slice none 0 0, .slice none 0 0]).alloc _).below hb2 (by simp)
    simpa using this
  have K2 : Blk w2 (w.heap.size + 1 + 1) 76 #[.int .i64 k, .string s, .slice none 0 0, .slice none 0 0] := by
    have := (Blk.new ((w.alloc (.cells #[.int .i64 k, .string s, .slice A1 ar.length c1, .slice A2 ex.length c2] 131)).alloc (.cells #[.int .i64 0, .string ⟨#[]⟩, .slice none 0 0, .slice none 0 0] 76)) 76 #[.int .i64 k, .string s, .slice none 0 0, .slice none 0 0]).below hb2 (by simp)
    simpa using this
  have hB2 := hide (show Below w.heap.size w w2 from Below.trans (by repeat (first | exact Below.refl _ _ | refine Below.alloc ?_ (by first | (simp; done) | (simp; omega)) _ | refine Below.drew ?_ | refine below_drewN ?_ _ | refine Below.setCell ?_ (by first | (simp; done) | (simp; omega)) _)) (hb2.mono (by first | (simp; done) | (simp; omega) | omega)))
  have r1' : Hid (Arr w2 (w.heap.size + 3) w2.heap.size B1 ar.length 1 (strCells ar)) := r1.more (by first | (simp; done) | (simp; omega) | omega) (Nat.le_refl _) (Nat.le_refl _)
  clear hb2 r1
  have x0 := K0.cell 3
  have y0 := K2.cell 2
  have y1 := K2.frozen 2
  simp at x0 y0
  go_wp2_with fail
  refine (l_toTokSn A2 _ c2 ex _ hn2 rfl (h2.below (hB2.out.setCell (p := ⟨_, _, _⟩) (by first | (simp; done) | (simp; omega) | omega) _))).mono ?_
  rintro e w3 ⟨⟨B2, rfl, r2⟩, hb3⟩
  have Z3 := hb3.size
  simp at Z3
  have E1 := (K1.far (p := ⟨w.heap.size + 1 + 1, 2, none⟩) (by first | (simp; done) | (simp; omega) | omega) (.slice B1 ar.length ar.length)).below hb3 (by first | (simp; done) | (simp; omega) | omega)
  have E2 := (K2.set_ 2 (.slice B1 ar.length ar.length)).below hb3 (by first | (simp; done) | (simp; omega) | omega)
  have hB3 := hide ((hB2.out.setCell (p := ⟨w.heap.size + 1 + 1, 2, none⟩) (by first | (simp; done) | (simp; omega) | omega) (.slice B1 ar.length ar.length)).trans (hb3.mono (by first | (simp; done) | (simp; omega) | omega)))
  have r3 : Hid (Arr w3 (w.heap.size + 3) w2.heap.size B1 ar.length 1 (strCells ar)) := (r1'.out.far (p := ⟨w.heap.size + 1 + 1, 2, none⟩) (.inl (by first | (simp; done) | (simp; omega) | omega)) (.slice B1 ar.length ar.length)).belowZ hb3
  have r4 : Hid (Arr w3 w2.heap.size w3.heap.size B2 ex.length 3 (tokCells ex)) := r2.more (by first | (simp; done) | (simp; omega) | omega) (Nat.le_refl _) (Nat.le_refl _)
  clear hb3 r2 K0 K1 K2 x0 y0 y1
  have x0 := E2.cell 0
  have x1 := E2.cell 1
  have x2 := E2.cell 2
  have x3 := E2.cell 3
  have xf := E2.frozen 3
  have y0 := E1.cell 0
  have y1 := E1.cell 1
  have y2 := E1.cell 2
  have y3 := E1.cell 3
  have z0 := E1.frozen 0
  have z1 := E1.frozen 1
  have z2 := E1.frozen 2
  have z3 := E1.frozen 3
  simp at x0 x1 x2 x3 y0 y1 y2 y3
  go_wp2_with fail
  have hne1 : ¬ w.heap.size + 1 + 1 = w.heap.size + 1 := by omega
  have hne2 : ¬ w.heap.size + 1 = w.heap.size + 1 + 1 := by omega
  refine bodyPost_ret (v := .agg #[.int .i64 k, .string s, .slice B1 ar.length ar.length, .slice B2 ex.length ex.length]) (by simp [results, Try.results106, go_sem, y0, y1, y2, y3]) rfl ⟨⟨B1, B2, rfl, ?_⟩, ?_⟩
  · refine Own.join (a := w.heap.size + 3) (b := w2.heap.size) (c := w2.heap.size) (d := w3.heap.size) (Own.one ?_) (Own.one ?_) (.inl (Nat.le_refl _)) (by first | (simp; done) | (simp; omega) | omega) (by first | (simp; done) | (simp; omega) | omega) (by first | (simp; done) | (simp; omega) | omega) (by first | (simp; done) | (simp; omega) | omega) (by first | (simp; done) | (simp; omega) | omega)
    · iterate 5 refine Arr.far ?_ (.inl (by first | (simp; done) | (simp; omega) | omega)) _
      exact r3.out
    · iterate 5 refine Arr.far ?_ (.inl (by first | (simp; done) | (simp; omega) | omega)) _
      exact r4.out
  · iterate 5 refine Below.setCell ?_ (by first | (simp; done) | (simp; omega) | omega) _
    exact hB3.out
end Go.Proofs.Ythhlimbaoenkkaa
