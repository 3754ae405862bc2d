import Derived.Test.YteghjebbeclanaaDoorLinS
namespace Go.Proofs.YteghjebbeclanaaDoor
open Go.RowKit
set_option maxRecDepth 100000
theorem lnC_flat_length (P : List LP) : (P.flatMap lnC).length = P.length * 4 := flat_length lnC 4 (fun _ => rfl) P
theorem Tryd.infoLine : (Tryd.prog.info? 43).map (fun i => (i.zero, i.size, i.bytes)) = some (some (.agg #[.int .i64 0, .string ByteArray.empty, .slice none 0 0, .slice none 0 0]), 4, 72) := by kernel_rfl
set_option maxHeartbeats 400000 in
theorem l_eqLine (x y : Ln) (A1 A2 B1 B2 : Option Addr) (c1 c2 d1 d2 : Nat) (w : World) (hx1 : x.2.2.1.length ≤ 1099511627776) (hx2 : x.2.2.2.length ≤ 1099511627776) (hy1 : y.2.2.1.length ≤ 1099511627776) (hy2 : y.2.2.2.length ≤ 1099511627776)
    (h : LnIn w x A1 c1 A2 c2) (h' : LnIn w y B1 d1 B2 d2) :
    Calls Tryd.prog 31 #[.agg #[.int .i64 x.1, .string x.2.1, .slice A1 x.2.2.1.length c1, .slice A2 x.2.2.2.length c2], .agg #[.int .i64 y.1, .string y.2.1, .slice B1 y.2.2.1.length d1, .slice B2 y.2.2.2.length d2]] w fun e w' =>
      e = .returned (.bool (same x y)) ∧ Below w.heap.size w w' := by
  obtain ⟨k, s, ar, ex⟩ := x
  obtain ⟨k', s', ar', ex'⟩ := y
  obtain ⟨h1, h2, _⟩ := h
  obtain ⟨h1', h2', _⟩ := h'
  simp only at h1 h2 h1' h2' hx1 hx2 hy1 hy2 ⊢
  by_cases e1 : k = k'
  · by_cases e2 : s = s'
    · have z1 : (k != k') = false := by rw [e1]; simp
      have z2 := bneF e2
      have E1 := hide e1
      have E2 := hide e2
      clear e1 e2
      go_enter Tryd.func31, Tryd.ntmps31
      go_wp2_with fail
      refine (l_eqStringS A1 B1 _ _ c1 d1 ar ar' _ hx1 hy1 (h1.below (by repeat (first | exact Below.refl _ _ | refine Below.alloc ?_ (by first | (simp; done) | (simp; omega)) _ | refine Below.drew ?_ | refine below_drewN ?_ _ | refine Below.setCell ?_ (by first | (simp; done) | (simp; omega)) _))) (h1'.below (by repeat (first | exact Below.refl _ _ | refine Below.alloc ?_ (by first | (simp; done) | (simp; omega)) _ | refine Below.drew ?_ | refine below_drewN ?_ _ | refine Below.setCell ?_ (by first | (simp; done) | (simp; omega)) _)))).mono ?_
      rintro e w2 ⟨rfl, hb2⟩
      have Z2 := hb2.size
      simp at Z2
      have K0 : Blk w2 w.heap.size 43 #[.int .i64 k, .string s, .slice A1 ar.length c1, .slice A2 ex.length c2] := Blk.below (g := w.heap.size) ((Blk.new w _ _).alloc _) hb2 (by simp; omega)
      have K1 : Blk w2 (w.heap.size + 1) 43 #[.int .i64 k', .string s', .slice B1 ar'.length d1, .slice B2 ex'.length d2] := by
        have := (Blk.new (w.alloc (.cells #[.int .i64 k, .string s, .slice A1 ar.length c1, .slice A2 ex.length c2] 43)) 43 #[.int .i64 k', .string s', .slice B1 ar'.length d1, .slice B2 ex'.length d2]).below hb2 (by simp)
        simpa using this
      have hB2 := hide (show Below w.heap.size w w2 from Below.trans (b := (w.alloc (.cells #[.int .i64 k, .string s, .slice A1 ar.length c1, .slice A2 ex.length c2] 43)).alloc (.cells #[.int .i64 k', .string s', .slice B1 ar'.length d1, .slice B2 ex'.length d2] 43)) (by repeat (first | exact Below.refl _ _ | refine Below.alloc ?_ (by first | (simp; done) | (simp; omega)) _ | refine Below.drew ?_ | refine below_drewN ?_ _ | refine Below.setCell ?_ (by first | (simp; done) | (simp; omega)) _)) (hb2.mono (by first | (simp; done) | (simp; omega) | omega)))
      clear hb2
      by_cases e3 : ar = ar'
      · rw [decide_eq_true e3]
        have E3 := hide e3
        clear e3
        have x0 := K0.cell 3
        have y0 := K1.cell 3
        simp at x0 y0
        go_wp2_with fail
        refine (l_eqTokS A2 B2 _ _ c2 d2 ex ex' _ hx2 hy2 (h2.below hB2.out) (h2'.below hB2.out)).mono ?_
        rintro e w3 ⟨rfl, hb3⟩
        have hB3 := hide (hB2.out.trans (hb3.mono hB2.out.size))
        have hd : Hid (same (k, s, ar, ex) (k', s', ar', ex') = decide (ex = ex')) := by
          show _ = _
          obtain rfl := E1.out
          obtain rfl := E2.out
          obtain rfl := E3.out
          by_cases e4 : ex = ex'
          · rw [same_of (by rw [e4]), decide_eq_true e4]
          · rw [same_not (fun e => e4 (by injection e with _ e; injection e with _ e; injection e)), decide_eq_false e4]
        clear hb3 z1 z2 x0 y0
        cases hq : decide (ex = ex')
        all_goals rw [hq] at hd
        all_goals clear hq
        all_goals go_wp2
        all_goals go_ret
        all_goals exact ⟨ret_bool hd.out.symm, hB3.out⟩
      · have hd : Hid (same (k, s, ar, ex) (k', s', ar', ex') = false) := by
          show _ = _
          exact same_not (fun e => e3 (by injection e with _ e; injection e with _ e; injection e))
        rw [decide_eq_false e3]
        clear e3 z1 z2
        go_wp2
        go_ret
        exact ⟨ret_bool hd.out.symm, hB2.out⟩
    · have z1 : (k != k') = false := by rw [e1]; simp
      have z2 := bneT e2
      have hd : Hid (same (k, s, ar, ex) (k', s', ar', ex') = false) := by
        show _ = _
        exact same_not (fun e => e2 (by injection e with _ e; injection e))
      clear e1 e2
      go_enter Tryd.func31, Tryd.ntmps31
      go_wp2_with fail
      go_ret
      exact ⟨ret_bool hd.out.symm, by repeat (first | exact Below.refl _ _ | refine Below.alloc ?_ (by first | (simp; done) | (simp; omega)) _ | refine Below.drew ?_ | refine below_drewN ?_ _ | refine Below.setCell ?_ (by first | (simp; done) | (simp; omega)) _)⟩
  · have z1 : (k != k') = true := by simpa using e1
    have hd : Hid (same (k, s, ar, ex) (k', s', ar', ex') = false) := by
      show _ = _
      exact same_not (fun e => e1 (by injection e))
    clear e1
    go_enter Tryd.func31, Tryd.ntmps31
    go_wp2_with fail
    go_ret
    exact ⟨ret_bool hd.out.symm, by repeat (first | exact Below.refl _ _ | refine Below.alloc ?_ (by first | (simp; done) | (simp; omega)) _ | refine Below.drew ?_ | refine below_drewN ?_ _ | refine Below.setCell ?_ (by first | (simp; done) | (simp; omega)) _)⟩
set_option maxHeartbeats 400000 in
theorem l_eqLineS (A A' : Option Addr) (n n' c c' : Nat) (l l' : List Ln) (w : World) (hn : n + lnTot l ≤ 1099511627776) (hn' : n' + lnTot l' ≤ 1099511627776)
    (h : InLines w A n l) (h' : InLines w A' n' l') :
    Calls Tryd.prog 36 #[.slice A n c, .slice A' n' c'] w fun e w' => e = .returned (.bool (same l l')) ∧ Below w.heap.size w w' := by
  have hl : l.length = n := h.len
  have hl' : l'.length = n' := h'.len
  by_cases hne : n = n'
  · subst hne
    have H := hide h
    have H' := hide h'
    have HL := hide hl
    have HL' := hide hl'
    clear h h' hl hl'
    go_enter Tryd.func36, Tryd.ntmps36
    go_wp2
    go_loopw [5] (fun i wr => ∃ k : Nat, k ≤ n ∧ i = .int .i64 k ∧ l.take k = l'.take k ∧ Below w.heap.size w wr) (fun i _ => n - (intOf i).toNat)
    case atStart => exact ⟨0, Nat.zero_le _, rfl, rfl, Below.refl _ _⟩
    case round =>
      obtain ⟨k, hk, rfl, ht, hb⟩ := hrel
      have HT := hide ht
      have HB := hide hb
      have R := hide (H.out.below hb)
      have R' := hide (H'.out.below hb)
      clear ht hb
      by_cases hlt : k < n
      · have hkl : k < l.length := by rw [HL.out]; exact hlt
        have hkl' : k < l'.length := by rw [HL'.out]; exact hlt
        have m := lnTot_mem l _ (List.getElem_mem hkl)
        have m' := lnTot_mem l' _ (List.getElem_mem hkl')
        obtain ⟨b, o, A1, c1, A2, c2, rfl, _, x0, x1, x2, x3, hx⟩ := R.out.ln k hkl
        obtain ⟨b', o', B1, d1, B2, d2, rfl, _, y0, y1, y2, y3, hy⟩ := R'.out.ln k hkl'
        have X := hide hx
        have Y := hide hy
        clear hx hy
        by_cases heq : l[k] = l'[k]
        · have hdec := same_of heq
          have HN := hide (take_eq_step l l' k hkl hkl' HT.out heq)
          clear heq
          go_wp2
          refine wp_region_still_tail 8 (by kernel_rfl) (by kernel_rfl) ?_
          simp only [List.take_succ_cons, List.take_zero, List.drop_succ_cons, List.drop_zero]
          repeat still_step
          refine wpStill_nil ?_
          change wpList _ _ _ _ _ wr.drew
          go_wp2_with fail
          refine (l_eqLine l[k] l'[k] A1 A2 B1 B2 c1 c2 d1 d2 _ (by omega) (by omega) (by omega) (by omega) X.out.drew Y.out.drew).mono ?_
          rintro e w2 ⟨rfl, hb2⟩
          go_wp2
          go_roundw
          case rel => exact ⟨k + 1, by omega, by go_num, HN.out, HB.out.drew.trans (hb2.mono HB.out.size)⟩
          case measure => simp [intOf]; omega
        · have hdec := same_not heq
          have HN : Hid (same l l' = false) := same_not (fun e => heq (by subst e; rfl))
          clear heq
          go_wp2
          refine wp_region_still_tail 8 (by kernel_rfl) (by kernel_rfl) ?_
          simp only [List.take_succ_cons, List.take_zero, List.drop_succ_cons, List.drop_zero]
          repeat still_step
          refine wpStill_nil ?_
          change wpList _ _ _ _ _ wr.drew
          go_wp2_with fail
          refine (l_eqLine l[k] l'[k] A1 A2 B1 B2 c1 c2 d1 d2 _ (by omega) (by omega) (by omega) (by omega) X.out.drew Y.out.drew).mono ?_
          rintro e w2 ⟨rfl, hb2⟩
          go_wp2
          go_ret
          exact ⟨ret_bool HN.out.symm, HB.out.drew.trans (hb2.mono HB.out.size)⟩
      · have HN : Hid (same l l' = true) := same_of (by
          have := HT.out
          rw [List.take_of_length_le (by rw [HL.out]; omega), List.take_of_length_le (by rw [HL'.out]; omega)] at this
          exact this)
        go_wp2
        go_ret
        exact ⟨ret_bool HN.out.symm, HB.out⟩
  · have hd : (((n : Nat) : Int) != (n' : Int)) = true := by rw [bne_iff_ne]; omega
    have hf : Hid (same l l' = false) := same_not (fun e => hne (by rw [← hl, ← hl', e]))
    clear h h' hl hl' hne
    go_enter Tryd.func36, Tryd.ntmps36
    go_wp2
    go_ret
    exact ⟨ret_bool hf.out.symm, Below.refl _ _⟩
end Go.Proofs.YteghjebbeclanaaDoor
