import Derived.Test.YthhlimbaoenkkaaLinS
namespace Go.Proofs.Ythhlimbaoenkkaa
open Go.RowKit
set_option maxRecDepth 100000
theorem lnC_flat_length (P : List LP) : (P.flatMap lnC).length = P.length * 4 := flat_length lnC 4 (fun _ => rfl) P
theorem Try.infoLine : (Try.prog.info? 76).map (fun i => (i.zero, i.size, i.bytes)) = some (some (.agg #[.int .i64 0, .string ByteArray.empty, .slice none 0 0, .slice none 0 0]), 4, 72) := by kernel_rfl
set_option maxHeartbeats 1000000 in
theorem l_toLineS (A : Option Addr) (n c : Nat) (l : List Ln) (w : World) (hn : n + lnTot l ≤ 1048576) (h : InLines w A n l) :
    Calls Try.prog 55 #[.slice A n c] w fun e w' => (∃ A', e = .returned (.slice A' n n) ∧ OwnLines w' w.heap.size w'.heap.size A' l) ∧ Below w.heap.size w w' := by
  obtain ⟨i0, hi, hz0, hz1, hz2⟩ := info_parts Try.infoLine
  have H := hide h
  have HL := hide h.len
  clear h
  go_enter Try.func55, Try.ntmps55
  go_wp2_with (at_make; refine wpList_mk _ rfl _ _ 68 rfl 76 i0 _ 4 Try.underlying68 hi hz0 hz1 _ _ _ _ n rfl rfl ?c1 ?c2 ?c3 ?c4 ?_)
  case c1 => rfl
  case c2 => rfl
  case c3 => rw [hz2]; omega
  case c4 => unfold maxLen; omega
  intro w1 zs ha1 hb1
  have HZ := hide ha1.1
  go_wp2
  go_loopw [4] (fun i wr => ∃ (k : Nat) (P : List LP), k ≤ n ∧ i = .int .i64 k ∧ P.map Prod.fst = l.take k ∧ (∀ p ∈ P, lnCap p) ∧ Own wr w.heap.size wr.heap.size ((some ⟨w.heap.size, 0, none⟩, n, 4, P.flatMap lnC ++ zs.drop (k * 4)) :: P.flatMap lnRows) ∧ Below w.heap.size w wr) (fun i _ => n - (intOf i).toNat)
  case atStart => exact ⟨0, [], Nat.zero_le _, rfl, rfl, fun p h => by simp at h, by simpa using Own.one ha1, hb1⟩
  case round =>
    obtain ⟨k, P, hk, rfl, hP, hcap, hr, hb⟩ := hrel
    have hPl : P.length = k := by
      have := congrArg List.length hP
      rw [List.length_map, List.length_take, HL.out] at this
      omega
    have HP := hide hP
    have HC := hide hcap
    have R := hide hr
    have HB := hide hb
    have RI := hide (H.out.below hb)
    clear hr hb hP hcap
    by_cases hlt : k < n
    · have hkl : k < l.length := by rw [HL.out]; exact hlt
      have hm := lnTot_mem l l[k] (List.getElem_mem hkl)
      obtain ⟨b, o, A1, c1, A2, c2, rfl, _, k0, k1, k2, k3, hln⟩ := RI.out.ln k hkl
      have HN := hide hln
      clear hln
      go_wp2_with fail
      refine (l_toLine l[k] A1 A2 c1 c2 _ (by omega) (by omega) HN.out).mono ?_
      rintro e w2 ⟨⟨B1, B2, rfl, r2⟩, hb2⟩
      clear k0 k1 k2 k3
      have Z2 := hb2.size
      have R2 := hide (R.out.belowZ hb2)
      have HB2 := hide (HB.out.trans (hb2.mono HB.out.size))
      have O2 := hide r2
      clear r2 hb2
      have ar2 : Arr w2 w.heap.size wr.heap.size (some ⟨w.heap.size, 0, none⟩) n 4 (P.flatMap lnC ++ zs.drop (k * 4)) := R2.out.rows _ List.mem_cons_self
      have hfl := lnC_flat_length P
      have s4 := hide (set_four (P.flatMap lnC) zs (.int .i64 l[k].1) (.string l[k].2.1) (.slice B1 l[k].2.2.1.length l[k].2.2.1.length) (.slice B2 l[k].2.2.2.length l[k].2.2.2.length) (k * 4) (by omega) (by rw [HZ.out]; omega))
      have R3 := hide ((((ar2.set_ (j := k * 4) (by omega) (.int .i64 l[k].1)).set_ (j := k * 4 + 1) (by omega) (.string l[k].2.1)).set_ (j := k * 4 + 2) (by omega) (.slice B1 l[k].2.2.1.length l[k].2.2.1.length)).set_ (j := k * 4 + 3) (by omega) (.slice B2 l[k].2.2.2.length l[k].2.2.2.length))
      obtain ⟨g', eg, g1, g2, g3, hc⟩ := ar2.2 (by omega)
      obtain rfl : w.heap.size = g' := by injection eg with eg; injection eg
      have hxl := ar2.1
      obtain ⟨u0, d0⟩ : ∃ u, w2.cell? ⟨w.heap.size, k * 4, none⟩ = some u := ⟨_, (hc (k * 4) (by omega)).1.trans (List.getElem?_eq_getElem (by rw [hxl]; omega))⟩
      obtain ⟨u1, d1⟩ : ∃ u, w2.cell? ⟨w.heap.size, k * 4 + 1, none⟩ = some u := ⟨_, (hc (k * 4 + 1) (by omega)).1.trans (List.getElem?_eq_getElem (by rw [hxl]; omega))⟩
      obtain ⟨u2, d2⟩ : ∃ u, w2.cell? ⟨w.heap.size, k * 4 + 2, none⟩ = some u := ⟨_, (hc (k * 4 + 2) (by omega)).1.trans (List.getElem?_eq_getElem (by rw [hxl]; omega))⟩
      obtain ⟨u3, d3⟩ : ∃ u, w2.cell? ⟨w.heap.size, k * 4 + 3, none⟩ = some u := ⟨_, (hc (k * 4 + 3) (by omega)).1.trans (List.getElem?_eq_getElem (by rw [hxl]; omega))⟩
      have f0 := (hc (k * 4) (by omega)).2
      have f1 := (hc (k * 4 + 1) (by omega)).2
      have f2 := (hc (k * 4 + 2) (by omega)).2
      have f3 := (hc (k * 4 + 3) (by omega)).2
      clear hc eg ar2 hxl
      have hlk : Hid (l.take (k + 1) = l.take k ++ [l[k]]) := List.take_succ_eq_append_getElem hkl
      go_wp2
      go_roundw
      case rel =>
        have W3 : Within w.heap.size (w.heap.size + 1) w2 ((((w2.setCell ⟨w.heap.size, k * 4, none⟩ (.int .i64 l[k].1)).setCell ⟨w.heap.size, k * 4 + 1, none⟩ (.string l[k].2.1)).setCell ⟨w.heap.size, k * 4 + 2, none⟩ (.slice B1 l[k].2.2.1.length l[k].2.2.1.length)).setCell ⟨w.heap.size, k * 4 + 3, none⟩ (.slice B2 l[k].2.2.2.length l[k].2.2.2.length)) :=
          (((Within.setCell _ (p := ⟨w.heap.size, k * 4, none⟩) (Nat.le_refl _) (Nat.lt_succ_self _) _).trans (Within.setCell _ (p := ⟨w.heap.size, k * 4 + 1, none⟩) (Nat.le_refl _) (Nat.lt_succ_self _) _)).trans (Within.setCell _ (p := ⟨w.heap.size, k * 4 + 2, none⟩) (Nat.le_refl _) (Nat.lt_succ_self _) _)).trans (Within.setCell _ (p := ⟨w.heap.size, k * 4 + 3, none⟩) (Nat.le_refl _) (Nat.lt_succ_self _) _)
        refine ⟨k + 1, P ++ [(l[k], B1, l[k].2.2.1.length, B2, l[k].2.2.2.length)], by omega, by go_num, by rw [hlk.out, List.map_append, HP.out]; rfl, fun p hp => ?_, ?_, ?_⟩
        · rcases List.mem_append.1 hp with hp | hp
          · exact HC.out p hp
          · obtain rfl := List.mem_singleton.1 hp
            exact ⟨Nat.le_refl _, by unfold maxLen; simp only; omega, Nat.le_refl _, by unfold maxLen; simp only; omega⟩
        · have T := Own.turnHead R2.out (xs' := (P ++ [(l[k], B1, l[k].2.2.1.length, B2, l[k].2.2.2.length)]).flatMap lnC ++ zs.drop ((k + 1) * 4)) (fun _ => ⟨by
              have := R3.out
              rw [s4.out] at this
              simpa [lnC, show (k + 1) * 4 = k * 4 + 4 by omega] using (this.focus (by omega)).1, W3⟩) (fun h => by omega)
          have J := T.join (O2.out.within W3 (.inr (by omega))) (.inl (Nat.le_refl _)) (lo := w.heap.size) (hi := w2.heap.size) (by omega) (by omega) (by omega) (by omega) (by simp [World.setCell])
          rw [List.flatMap_append (f := lnRows)]
          simpa [World.setCell] using J
        · exact HB2.out.trans (W3.below (Nat.le_refl _) HB2.out.size)
      case measure => simp [intOf]; omega
    · have hkn : k = n := by omega
      subst hkn
      have hP2 : P.map Prod.fst = l := by rw [HP.out, List.take_of_length_le (by rw [HL.out]; omega)]
      have R2 := R.out
      rw [List.drop_of_length_le (by rw [HZ.out]; omega), List.append_nil] at R2
      have HF : Hid (OwnLines wr w.heap.size wr.heap.size (some ⟨w.heap.size, 0, none⟩) l) := ⟨P, hP2, by rw [hPl]; exact R2, HC.out⟩
      clear R2 hP2
      go_wp2
      go_ret
      exact ⟨⟨_, rfl, HF.out⟩, HB.out⟩
set_option maxHeartbeats 400000 in
theorem l_eqLine (x y : Ln) (A1 A2 B1 B2 : Option Addr) (c1 c2 d1 d2 : Nat) (w : World) (hx1 : x.2.2.1.length ≤ 1099511627776) (hx2 : x.2.2.2.length ≤ 1099511627776) (hy1 : y.2.2.1.length ≤ 1099511627776) (hy2 : y.2.2.2.length ≤ 1099511627776)
    (h : LnIn w x A1 c1 A2 c2) (h' : LnIn w y B1 d1 B2 d2) :
    Calls Try.prog 107 #[.agg #[.int .i64 x.1, .string x.2.1, .slice A1 x.2.2.1.length c1, .slice A2 x.2.2.2.length c2], .agg #[.int .i64 y.1, .string y.2.1, .slice B1 y.2.2.1.length d1, .slice B2 y.2.2.2.length d2]] w fun e w' =>
      e = .returned (.bool (same x y)) ∧ Below w.heap.size w w' := by
  obtain ⟨k, s, ar, ex⟩ := x
  obtain ⟨k', s', ar', ex'⟩ := y
  obtain ⟨h1, h2, _⟩ := h
  obtain ⟨h1', h2', _⟩ := h'
  simp only at h1 h2 h1' h2' hx1 hx2 hy1 hy2 ⊢
  by_cases e1 : k = k'
  · by_cases e2 : s = s'
    · have z1 : (k != k') = false := by rw [e1]; simp
      have z2 := bneF e2
      have E1 := hide e1
      have E2 := hide e2
      clear e1 e2
      go_enter Try.func107, Try.ntmps107
      go_wp2_with fail
      refine (l_eqStringS A1 B1 _ _ c1 d1 ar ar' _ hx1 hy1 (h1.below (by repeat (first | exact Below.refl _ _ | refine Below.alloc ?_ (by first | (simp; done) | (simp; omega)) _ | refine Below.drew ?_ | refine below_drewN ?_ _ | refine Below.setCell ?_ (by first | (simp; done) | (simp; omega)) _))) (h1'.below (by repeat (first | exact Below.refl _ _ | refine Below.alloc ?_ (by first | (simp; done) | (simp; omega)) _ | refine Below.drew ?_ | refine below_drewN ?_ _ | refine Below.setCell ?_ (by first | (simp; done) | (simp; omega)) _)))).mono ?_
      rintro e w2 ⟨rfl, hb2⟩
      have Z2 := hb2.size
      simp at Z2
      have K0 : Blk w2 w.heap.size 76 #[.int .i64 k, .string s, .slice A1 ar.length c1, .slice A2 ex.length c2] := Blk.below (g := w.heap.size) ((Blk.new w _ _).alloc _) hb2 (by simp; omega)
      have K1 : Blk w2 (w.heap.size + 1) 76 #[.int .i64 k', .string s', .slice B1 ar'.length d1, .slice B2 ex'.length d2] := by
        have := (Blk.new (w.alloc (.cells #[.int .i64 k, .string s, .slice A1 ar.length c1, .slice A2 ex.length c2] 76)) 76 #[.int .i64 k', .string s', .slice B1 ar'.length d1, .slice B2 ex'.length d2]).below hb2 (by simp)
        simpa using this
      have hB2 := hide (show Below w.heap.size w w2 from Below.trans (b := (w.alloc (.cells #[.int .i64 k, .string s, .slice A1 ar.length c1, .slice A2 ex.length c2] 76)).alloc (.cells #[.int .i64 k', .string s', .slice B1 ar'.length d1, .slice B2 ex'.length d2] 76)) (by repeat (first | exact Below.refl _ _ | refine Below.alloc ?_ (by first | (simp; done) | (simp; omega)) _ | refine Below.drew ?_ | refine below_drewN ?_ _ | refine Below.setCell ?_ (by first | (simp; done) | (simp; omega)) _)) (hb2.mono (by first | (simp; done) | (simp; omega) | omega)))
      clear hb2
      by_cases e3 : ar = ar'
      · rw [decide_eq_true e3]
        have E3 := hide e3
        clear e3
        have x0 := K0.cell 3
        have y0 := K1.cell 3
        simp at x0 y0
        go_wp2_with fail
        refine (l_eqTokS A2 B2 _ _ c2 d2 ex ex' _ hx2 hy2 (h2.below hB2.out) (h2'.below hB2.out)).mono ?_
        rintro e w3 ⟨rfl, hb3⟩
        have hB3 := hide (hB2.out.trans (hb3.mono hB2.out.size))
        have hd : Hid (same (k, s, ar, ex) (k', s', ar', ex') = decide (ex = ex')) := by
          show _ = _
          obtain rfl := E1.out
          obtain rfl := E2.out
          obtain rfl := E3.out
          by_cases e4 : ex = ex'
          · rw [same_of (by rw [e4]), decide_eq_true e4]
          · rw [same_not (fun e => e4 (by injection e with _ e; injection e with _ e; injection e)), decide_eq_false e4]
        clear hb3 z1 z2 x0 y0
        cases hq : decide (ex = ex')
        all_goals rw [hq] at hd
        all_goals clear hq
        all_goals go_wp2
        all_goals go_ret
        all_goals exact ⟨ret_bool hd.out.symm, hB3.out⟩
      · have hd : Hid (same (k, s, ar, ex) (k', s', ar', ex') = false) := by
          show _ = _
          exact same_not (fun e => e3 (by injection e with _ e; injection e with _ e; injection e))
        rw [decide_eq_false e3]
        clear e3 z1 z2
        go_wp2
        go_ret
        exact ⟨ret_bool hd.out.symm, hB2.out⟩
    · have z1 : (k != k') = false := by rw [e1]; simp
      have z2 := bneT e2
      have hd : Hid (same (k, s, ar, ex) (k', s', ar', ex') = false) := by
        show _ = _
        exact same_not (fun e => e2 (by injection e with _ e; injection e))
      clear e1 e2
      go_enter Try.func107, Try.ntmps107
      go_wp2_with fail
      go_ret
      exact ⟨ret_bool hd.out.symm, by repeat (first | exact Below.refl _ _ | refine Below.alloc ?_ (by first | (simp; done) | (simp; omega)) _ | refine Below.drew ?_ | refine below_drewN ?_ _ | refine Below.setCell ?_ (by first | (simp; done) | (simp; omega)) _)⟩
  · have z1 : (k != k') = true := by simpa using e1
    have hd : Hid (same (k, s, ar, ex) (k', s', ar', ex') = false) := by
      show _ = _
      exact same_not (fun e => e1 (by injection e))
    clear e1
    go_enter Try.func107, Try.ntmps107
    go_wp2_with fail
    go_ret
    exact ⟨ret_bool hd.out.symm, by repeat (first | exact Below.refl _ _ | refine Below.alloc ?_ (by first | (simp; done) | (simp; omega)) _ | refine Below.drew ?_ | refine below_drewN ?_ _ | refine Below.setCell ?_ (by first | (simp; done) | (simp; omega)) _)⟩
set_option maxHeartbeats 400000 in
theorem l_eqLineS (A A' : Option Addr) (n n' c c' : Nat) (l l' : List Ln) (w : World) (hn : n + lnTot l ≤ 1099511627776) (hn' : n' + lnTot l' ≤ 1099511627776)
    (h : InLines w A n l) (h' : InLines w A' n' l') :
    Calls Try.prog 56 #[.slice A n c, .slice A' n' c'] w fun e w' => e = .returned (.bool (same l l')) ∧ Below w.heap.size w w' := by
  have hl : l.length = n := h.len
  have hl' : l'.length = n' := h'.len
  by_cases hne : n = n'
  · subst hne
    have H := hide h
    have H' := hide h'
    have HL := hide hl
    have HL' := hide hl'
    clear h h' hl hl'
    go_enter Try.func56, Try.ntmps56
    go_wp2
    go_loopw [5] (fun i wr => ∃ k : Nat, k ≤ n ∧ i = .int .i64 k ∧ l.take k = l'.take k ∧ Below w.heap.size w wr) (fun i _ => n - (intOf i).toNat)
    case atStart => exact ⟨0, Nat.zero_le _, rfl, rfl, Below.refl _ _⟩
    case round =>
      obtain ⟨k, hk, rfl, ht, hb⟩ := hrel
      have HT := hide ht
      have HB := hide hb
      have R := hide (H.out.below hb)
      have R' := hide (H'.out.below hb)
      clear ht hb
      by_cases hlt : k < n
      · have hkl : k < l.length := by rw [HL.out]; exact hlt
        have hkl' : k < l'.length := by rw [HL'.out]; exact hlt
        have m := lnTot_mem l _ (List.getElem_mem hkl)
        have m' := lnTot_mem l' _ (List.getElem_mem hkl')
        obtain ⟨b, o, A1, c1, A2, c2, rfl, _, x0, x1, x2, x3, hx⟩ := R.out.ln k hkl
        obtain ⟨b', o', B1, d1, B2, d2, rfl, _, y0, y1, y2, y3, hy⟩ := R'.out.ln k hkl'
        have X := hide hx
        have Y := hide hy
        clear hx hy
        by_cases heq : l[k] = l'[k]
        · have hdec := same_of heq
          have HN := hide (take_eq_step l l' k hkl hkl' HT.out heq)
          clear heq
          go_wp2
          refine wp_region_still_tail 8 (by kernel_rfl) (by kernel_rfl) ?_
          simp only [List.take_succ_cons, List.take_zero, List.drop_succ_cons, List.drop_zero]
          repeat still_step
          refine wpStill_nil ?_
          change wpList _ _ _ _ _ wr.drew
          go_wp2_with fail
          refine (l_eqLine l[k] l'[k] A1 A2 B1 B2 c1 c2 d1 d2 _ (by omega) (by omega) (by omega) (by omega) X.out.drew Y.out.drew).mono ?_
          rintro e w2 ⟨rfl, hb2⟩
          go_wp2
          go_roundw
          case rel => exact ⟨k + 1, by omega, by go_num, HN.out, HB.out.drew.trans (hb2.mono HB.out.size)⟩
          case measure => simp [intOf]; omega
        · have hdec := same_not heq
          have HN : Hid (same l l' = false) := same_not (fun e => heq (by subst e; rfl))
          clear heq
          go_wp2
          refine wp_region_still_tail 8 (by kernel_rfl) (by kernel_rfl) ?_
          simp only [List.take_succ_cons, List.take_zero, List.drop_succ_cons, List.drop_zero]
          repeat still_step
          refine wpStill_nil ?_
          change wpList _ _ _ _ _ wr.drew
          go_wp2_with fail
          refine (l_eqLine l[k] l'[k] A1 A2 B1 B2 c1 c2 d1 d2 _ (by omega) (by omega) (by omega) (by omega) X.out.drew Y.out.drew).mono ?_
          rintro e w2 ⟨rfl, hb2⟩
          go_wp2
          go_ret
          exact ⟨ret_bool HN.out.symm, HB.out.drew.trans (hb2.mono HB.out.size)⟩
      · have HN : Hid (same l l' = true) := same_of (by
          have := HT.out
          rw [List.take_of_length_le (by rw [HL.out]; omega), List.take_of_length_le (by rw [HL'.out]; omega)] at this
          exact this)
        go_wp2
        go_ret
        exact ⟨ret_bool HN.out.symm, HB.out⟩
  · have hd : (((n : Nat) : Int) != (n' : Int)) = true := by rw [bne_iff_ne]; omega
    have hf : Hid (same l l' = false) := same_not (fun e => hne (by rw [← hl, ← hl', e]))
    clear h h' hl hl' hne
    go_enter Try.func56, Try.ntmps56
    go_wp2
    go_ret
    exact ⟨ret_bool hf.out.symm, Below.refl _ _⟩
end Go.Proofs.Ythhlimbaoenkkaa
