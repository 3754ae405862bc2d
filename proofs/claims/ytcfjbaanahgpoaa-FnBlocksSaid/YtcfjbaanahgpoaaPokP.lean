import Derived.Test.YtcfjbaanahgpoaaPokF
namespace Go.Proofs.Ytcfjbaanahgpoaa
open Go Go.RowKit
set_option maxRecDepth 100000
set_option linter.unusedVariables false
set_option linter.unusedSimpArgs false
theorem funsFrom_mem (L : List Ln) : ∀ (m k : Nat), L.length - k ≤ m → ∀ x ∈ funsFrom (L.drop k) k, ∃ j : Nat, x = j ∧ k ≤ j ∧ j < L.length ∧ (lnAtD L j).1 = 0 := by
  intro m
  induction m with
  | zero => intro k hm x hx; rw [List.drop_of_length_le (by omega)] at hx; cases hx
  | succ m ih =>
    intro k hm x hx
    by_cases hk : k < L.length
    · rw [drop_step L k hk, funsFrom] at hx
      split at hx
      · rename_i h0
        rcases List.mem_cons.1 hx with rfl | hx
        · exact ⟨k, rfl, Nat.le_refl _, hk, by rw [lnAtD_of L k hk]; exact h0⟩
        · obtain ⟨j, h1, h2, h3⟩ := ih (k + 1) (by omega) x hx
          exact ⟨j, h1, by omega, h3⟩
      · obtain ⟨j, h1, h2, h3⟩ := ih (k + 1) (by omega) x hx
        exact ⟨j, h1, by omega, h3⟩
    · rw [List.drop_of_length_le (by omega)] at hx; cases hx
theorem funsF_mem (L : List Ln) : ∀ x ∈ funsF L, ∃ j : Nat, x = j ∧ j < L.length ∧ (lnAtD L j).1 = 0 := by
  intro x hx
  obtain ⟨j, h1, _, h3⟩ := funsFrom_mem L _ 0 (Nat.le_refl _) x hx
  exact ⟨j, h1, h3⟩
theorem funsFrom_len : ∀ (M : List Ln) (k : Nat), (funsFrom M k).length ≤ M.length := by
  intro M
  induction M with
  | nil => intro k; exact Nat.le_refl _
  | cons x M ih =>
    intro k
    rw [funsFrom]
    have := ih (k + 1)
    split <;> simp <;> omega
theorem progI_not {L : List Ln} (h : ¬ (L.length ≤ 60 ∧ 1 ≤ (funsF L).length ∧ (funsF L).length ≤ 6 ∧ (∀ k : Nat, k < L.length → lineOkF (lnAtD L k) = true) ∧ headOk L ∧ tileI L (funsF L) 0 = true ∧ elsesOk L)) : progI L = false := yes_not h
theorem progI_tile {L : List Ln} (h1 : L.length ≤ 60) (h2 : 1 ≤ (funsF L).length) (h3 : (funsF L).length ≤ 6) (h4 : ∀ k : Nat, k < L.length → lineOkF (lnAtD L k) = true) (h5 : headOk L) (h6 : elsesOk L) : progI L = tileI L (funsF L) 0 := by
  cases ht : tileI L (funsF L) 0
  · exact progI_not (fun h => by rw [ht] at h; exact absurd h.2.2.2.2.2.1 (by simp))
  · exact yes_of ⟨h1, h2, h3, h4, h5, ht, h6⟩
theorem tileI_bad {L : List Ln} {k : Int} {fs : List Int} {next : Int} (h : ¬ (k = next ∧ findF L (lnAtD L k.toNat).2.1 = k ∧ 0 ≤ endOfF L k ∧ fnI L k.toNat (endOfF L k).toNat = true)) : tileI L (k :: fs) next = false := by rw [tileI, if_neg h]
theorem tileI_good {L : List Ln} {k : Int} {fs : List Int} {next : Int} (h : k = next ∧ findF L (lnAtD L k.toNat).2.1 = k ∧ 0 ≤ endOfF L k ∧ fnI L k.toNat (endOfF L k).toNat = true) : tileI L (k :: fs) next = tileI L fs (endOfF L k + 1) := by rw [tileI, if_pos h]
def elsL (L : List Ln) (n : Nat) : List Int := (List.range n).map fun k : Nat => elseOfF L (k : Int)
theorem elsL_succ (L : List Ln) (n : Nat) : elsL L (n + 1) = elsL L n ++ [elseOfF L (n : Int)] := by simp [elsL, List.range_succ]
theorem elsL_length (L : List Ln) (n : Nat) : (elsL L n).length = n := by simp [elsL]
theorem elsL_mem (L : List Ln) (n : Nat) (i : Int) : decide (i ∈ elsL L n) = elseIn L 0 n i := by
  by_cases h : i ∈ elsL L n
  · rw [decide_eq_true h]
    obtain ⟨k, hk, e⟩ := List.mem_map.1 h
    exact (yes_of ⟨k, Nat.zero_le _, List.mem_range.1 hk, e⟩).symm
  · rw [decide_eq_false h]
    refine (yes_not fun hh => h ?_).symm
    obtain ⟨j, _, h2, h3⟩ := hh
    exact List.mem_map.2 ⟨j, List.mem_range.2 h2, h3⟩
theorem main_eq {s : ByteArray} (h : s = mainW) : (s.toList == [109, 97, 105, 110]) = true := by rw [h]; unfold mainW; rw [ByteArray.toList_eq]; rfl
theorem main_ne {s : ByteArray} (h : ¬ s = mainW) : (s.toList == [109, 97, 105, 110]) = false := by
  have := beqF (show s ≠ ⟨#[109, 97, 105, 110]⟩ from h)
  have e : (⟨#[109, 97, 105, 110]⟩ : ByteArray).toList = [109, 97, 105, 110] := by rw [ByteArray.toList_eq]
  rw [e] at this
  exact this
set_option maxHeartbeats 4000000 in
theorem i_programOk (A : Option Addr) (n c : Nat) (L : List Ln) (w : World) (hn : n + lnTot L ≤ 1048576) (h : InLines w A n L) (hs : ∀ x ∈ L, LnSz x) :
    Calls Try.prog 9 #[.slice A n c] w fun e w' => e = .returned (.bool (progI L)) ∧ Below w.heap.size w w' := by
  obtain ⟨i0, hi, hz0, hz1, hz2⟩ := info_parts Try.infoInt
  have H := hide h
  have HL := hide h.len
  have HI := hide hi
  have HS := hide hs
  clear h hi hs
  go_enter Try.func9, Try.ntmps9
  go_wp2_with fail
  refine (i_funs A n c L _ (by omega) H.out).mono ?_
  rintro e1 W1 ⟨⟨v, rfl, hown⟩, hb1⟩
  have B1 := hide hb1
  obtain ⟨Af, cf, hv, hncf, haf⟩ := Arr.of_own hown
  subst hv
  have HFS := hide (InRow.of_arr haf)
  have HR1 := hide (H.out.below hb1)
  have hnl : L.length = n := HL.out
  have hfl := funsFrom_len L 0
  have HMEM := hide (funsF_mem L)
  have hfe : funsF L = funsFrom L 0 := rfl
  rw [← hfe] at hfl
  have HNOT := hide (@progI_not L)
  have HTILE := hide (@progI_tile L)
  clear hfe hown hb1 haf
  obtain ⟨fs, hfs⟩ : ∃ fs, funsF L = fs := ⟨_, rfl⟩
  rw [hfs] at HFS HMEM HNOT HTILE hfl
  rw [hfs]
  clear hfs
  by_cases h60 : 60 < n
  · have HN : Hid (progI L = false) := HNOT.out (fun h => by omega)
    have z : decide ((60 : Int) < (n : Int)) = true := decide_eq_true (by omega)
    go_wp2_with fail
    go_ret
    exact ⟨by rw [HN.out]; rfl, B1.out⟩
  · have z : decide ((60 : Int) < (n : Int)) = false := decide_eq_false (by omega)
    cases hbt : btw (fs.length : Int) 1 6
    · have HN : Hid (progI L = false) := HNOT.out (fun h => by
        unfold btw at hbt
        exact of_decide_eq_false hbt ⟨by omega, by omega⟩)
      go_wp2_with (go_at_call 32; refine (i_between _ _ _ _).mono ?_; rintro e w' ⟨rfl, rfl⟩)
      go_ret
      exact ⟨by rw [HN.out]; rfl, B1.out⟩
    · obtain ⟨hf1, hf6⟩ : 1 ≤ fs.length ∧ fs.length ≤ 6 := by unfold btw at hbt; have := of_decide_eq_true hbt; omega
      go_wp2_with (go_at_call 32; refine (i_between _ _ _ _).mono ?_; rintro e w' ⟨rfl, rfl⟩)
      clear hbt
      go_loopw [27] (fun i wr => ∃ k : Nat, k ≤ n ∧ i = .int .i64 k ∧ (∀ j : Nat, j < k → lineOkF (lnAtD L j) = true) ∧ Below W1.heap.size W1 wr) (fun i _ => n - (intOf i).toNat)
      case atStart => exact ⟨0, Nat.zero_le _, rfl, fun j hj => absurd hj (Nat.not_lt_zero j), Below.refl _ _⟩
      case round =>
        obtain ⟨k, hk, rfl, hall, hb⟩ := hrel
        have HB := hide hb
        have HA := hide hall
        have R := hide (HR1.out.below hb)
        clear hb hall
        by_cases hlt : k < n
        · have hkl : k < L.length := by omega
          obtain ⟨b, o, A1, d1, A2, d2, rfl, hbl, c0, c1, c2, c3, hin⟩ := R.out.ln k hkl
          have hsz := HS.out _ (List.getElem_mem hkl)
          have htot := lnTot_mem L _ (List.getElem_mem hkl)
          have HLK := hide (lnAtD_of L k hkl)
          have HIN := hide hin
          have HSZ := hide hsz
          clear hin hsz
          obtain ⟨x, hx⟩ : ∃ x, L[k] = x := ⟨_, rfl⟩
          rw [hx] at HLK HIN HSZ c0 c1 c2 c3 htot
          obtain ⟨xk, xs, xa, xe⟩ := x
          simp only at c0 c1 c2 c3 htot
          have B0 := hide (HB.out.alloc HB.out.size (.cells #[.int .i64 xk, .string xs, .slice A1 xa.length d1, .slice A2 xe.length d2] 34))
          have I0 := hide (HIN.out.below ((Below.refl _ _).alloc (Nat.le_refl _) (.cells #[.int .i64 xk, .string xs, .slice A1 xa.length d1, .slice A2 xe.length d2] 34)))
          clear hx
          cases hq : lineOkF (xk, xs, xa, xe)
          · have HN : Hid (progI L = false) := HNOT.out (fun h => by
              have := h.2.2.2.1 k hkl
              rw [HLK.out, hq] at this; cases this)
            go_wp2_with fail
            refine (i_lineOk (xk, xs, xa, xe) A1 A2 d1 d2 _ (by simp only; omega) I0.out HSZ.out).mono ?_
            rintro e w1 ⟨rfl, hb1⟩
            rw [hq]
            go_wp2_with fail
            go_ret
            exact ⟨by rw [HN.out]; rfl, B1.out.trans ((B0.out.trans (hb1.mono B0.out.size)).mono B1.out.size)⟩
          · have HN : Hid (∀ j : Nat, j < k + 1 → lineOkF (lnAtD L j) = true) := by
              intro j hj
              rcases Nat.lt_succ_iff_lt_or_eq.1 hj with h | h
              · exact HA.out j h
              · subst h; rw [HLK.out]; exact hq
            go_wp2_with fail
            refine (i_lineOk (xk, xs, xa, xe) A1 A2 d1 d2 _ (by simp only; omega) I0.out HSZ.out).mono ?_
            rintro e w1 ⟨rfl, hb1⟩
            rw [hq]
            have B2 := hide (B0.out.trans (hb1.mono B0.out.size))
            clear hb1 c0 c1 c2 c3
            go_wp2_with fail
            go_roundw
            case rel => exact ⟨k + 1, by omega, by go_num, HN.out, B2.out⟩
            case measure => simp [intOf]; omega
        · have hkn : k = n := by omega
          have zk0 : decide (k < n) = false := decide_eq_false hlt
          have HOK : Hid (∀ k : Nat, k < L.length → lineOkF (lnAtD L k) = true) := fun j hj => HA.out j (by omega)
          obtain ⟨wo, rfl⟩ : ∃ wo : World, wo = wr := ⟨_, rfl⟩
          have hn1 : 0 < L.length := by omega
          obtain ⟨b, o, A1, d1, A2, d2, rfl, hbl, c0, c1, c2, c3, hin⟩ := R.out.ln 0 hn1
          have HL0 := hide (lnAtD_of L 0 hn1)
          have htot := lnTot_mem L _ (List.getElem_mem hn1)
          clear hin HA
          simp only [Nat.zero_mul, Nat.add_zero] at c0 c1 c2 c3
          obtain ⟨x, hx⟩ : ∃ x, L[0] = x := ⟨_, rfl⟩
          rw [hx] at HL0 c0 c1 c2 c3 htot
          obtain ⟨xk, xs, xa, xe⟩ := x
          simp only at c0 c1 c2 c3 htot
          clear hx
          by_cases hhd : headOk L
          · have HHD := hide hhd
            obtain ⟨hh1, hh2, hh3⟩ := hhd
            rw [HL0.out] at hh1 hh2 hh3
            simp only at hh1 hh2 hh3
            have z0 : (xk != 0) = false := by simp [hh1]
            have z1 := main_eq hh2
            have z2 : decide (0 < xa.length) = false := decide_eq_false (by omega)
            clear hh1 hh2 hh3 hlt hkn
            go_wp2_with fail
            clear c0 c1 c2 c3 z0 z1 z2
            go_loopw [6, 57] (fun nx i wr => ∃ (j : Nat) (m : Int), j ≤ fs.length ∧ i = .int .i64 j ∧ nx = .int .i64 m ∧ 0 ≤ m ∧ m ≤ n ∧ tileI L fs 0 = tileI L (fs.drop j) m ∧ Below W1.heap.size W1 wr) (fun _ i _ => fs.length - (intOf i).toNat)
            case atStart => exact ⟨0, 0, Nat.zero_le _, rfl, rfl, by omega, by omega, rfl, HB.out⟩
            case round =>
              obtain ⟨j, m, hj, rfl, rfl, hm0, hm1, htl, hb⟩ := hrel
              have HB := hide hb
              have HT := hide htl
              have R := hide (HR1.out.below hb)
              have RF := hide (HFS.out.below hb)
              clear hb htl
              by_cases hjl : j < fs.length
              · obtain ⟨b4, o4, rfl, _, x0⟩ := RF.out.int j hjl
                obtain ⟨k, hke, hkl, hk0⟩ := HMEM.out _ (List.getElem_mem hjl)
                have hdr := List.drop_eq_getElem_cons hjl
                rw [hke] at x0 hdr
                have HD := hide hdr
                have HK0 := hide hk0
                have HLK := hide (lnAtD_of L k hkl)
                clear hke hdr hk0 htot
                obtain ⟨b5, o5, A1', d1', A2', d2', eA, hbl5, c0, c1, c2, c3, hin⟩ := R.out.ln k hkl
                cases eA
                clear hin
                have hkn : k < n := by omega
                have HEO : Hid (Calls Try.prog 11 #[.slice (some ⟨b, o, none⟩) n c, .int .i64 (k : Int)] wr fun e w' => e = .returned (.int .i64 (endOfF L (k : Int))) ∧ wr = w') := i_endOf (some ⟨b, o, none⟩) n c L (k : Int) wr (by omega) R.out
                have HFI : Hid (Calls Try.prog 15 #[.slice (some ⟨b, o, none⟩) n c, .string L[k].2.1] wr fun e w' => e = .returned (.int .i64 (findF L L[k].2.1)) ∧ Below wr.heap.size wr w') := i_findFunction (some ⟨b, o, none⟩) n c L L[k].2.1 wr (by omega) R.out
                have BW := hide (B1.out.trans (HB.out.mono B1.out.size))
                have HBAD : Hid (¬ ((k : Int) = m ∧ findF L L[k].2.1 = (k : Int) ∧ 0 ≤ endOfF L (k : Int) ∧ fnI L k (endOfF L (k : Int)).toNat = true) → progI L = false) := fun hh => HNOT.out (fun h => by
                  have h6 := h.2.2.2.2.2.1
                  rw [HT.out, HD.out, tileI_bad (fun h2 => hh (by rwa [Int.toNat_natCast, HLK.out] at h2))] at h6
                  cases h6)
                have HGOOD : Hid (((k : Int) = m ∧ findF L L[k].2.1 = (k : Int) ∧ 0 ≤ endOfF L (k : Int) ∧ fnI L k (endOfF L (k : Int)).toNat = true) → tileI L fs 0 = tileI L (fs.drop (j + 1)) (endOfF L (k : Int) + 1)) := fun hh => by
                  rw [HT.out, HD.out, tileI_good (by rwa [Int.toNat_natCast, HLK.out])]
                by_cases hkm : (k : Int) = m
                · have zkm : ((k : Int) != m) = false := by simp [hkm]
                  by_cases hfk : findF L L[k].2.1 = (k : Int)
                  · rw [hfk] at HFI
                    have zf : ((k : Int) != (k : Int)) = false := by simp
                    by_cases he0 : 0 ≤ endOfF L (k : Int)
                    · obtain ⟨p, hp, hpl, hop, hpe, hel, _⟩ := endOf_pos L (k : Int) he0
                      obtain ⟨ee, he⟩ := Int.eq_ofNat_of_zero_le he0
                      rw [he] at HEO HBAD HGOOD hpe hel
                      have hen : ee < n := by omega
                      have hke : k ≤ ee := by omega
                      have ze : decide ((ee : Int) < 0) = false := decide_eq_false (by omega)
                      rw [Int.toNat_natCast] at HBAD HGOOD
                      clear he0 he hp hpl hop hpe hel
                      cases hfn : fnI L k ee
                      · have HN := hide (HBAD.out (fun h => by rw [hfn] at h; exact absurd h.2.2.2 (by simp)))
                        clear hkm hfk
                        go_wp2_with fail
                        refine HEO.out.mono ?_
                        rintro e' w' ⟨rfl, rfl⟩
                        go_wp2_with fail
                        refine HFI.out.mono ?_
                        rintro e' w2 ⟨rfl, hb2⟩
                        have HB2 := hide (HB.out.trans (hb2.mono HB.out.size))
                        have R2 := hide (R.out.below hb2)
                        clear hb2
                        go_wp2_with fail
                        refine (i_functionOk (some ⟨b, o, none⟩) n c k ee L _ hn R2.out hke hen).mono ?_
                        rintro e' w3 ⟨rfl, hb3⟩
                        rw [hfn]
                        have HB3 := hide (HB2.out.trans (hb3.mono HB2.out.size))
                        clear hb3
                        go_wp2_with fail
                        go_ret
                        exact ⟨by rw [HN.out]; rfl, B1.out.trans (HB3.out.mono B1.out.size)⟩
                      · have HN := hide (HGOOD.out ⟨hkm, hfk, by omega, hfn⟩)
                        clear hkm hfk
                        go_wp2_with fail
                        refine HEO.out.mono ?_
                        rintro e' w' ⟨rfl, rfl⟩
                        go_wp2_with fail
                        refine HFI.out.mono ?_
                        rintro e' w2 ⟨rfl, hb2⟩
                        have HB2 := hide (HB.out.trans (hb2.mono HB.out.size))
                        have R2 := hide (R.out.below hb2)
                        clear hb2
                        go_wp2_with fail
                        refine (i_functionOk (some ⟨b, o, none⟩) n c k ee L _ hn R2.out hke hen).mono ?_
                        rintro e' w3 ⟨rfl, hb3⟩
                        rw [hfn]
                        have HB3 := hide (HB2.out.trans (hb3.mono HB2.out.size))
                        clear hb3
                        go_wp2_with fail
                        go_roundw
                        case rel => exact ⟨j + 1, _, by omega, by go_num, rfl, by omega, by omega, HN.out, HB3.out⟩
                        case measure => simp [intOf]; omega
                    · have HN := hide (HBAD.out (fun h => he0 h.2.2.1))
                      have ze : decide (endOfF L (k : Int) < 0) = true := decide_eq_true (by omega)
                      generalize endOfF L (k : Int) = ee at *
                      clear hkm hfk he0
                      go_wp2_with fail
                      refine HEO.out.mono ?_
                      rintro e' w' ⟨rfl, rfl⟩
                      go_wp2_with fail
                      refine HFI.out.mono ?_
                      rintro e' w2 ⟨rfl, hb2⟩
                      have HB2 := hide (HB.out.trans (hb2.mono HB.out.size))
                      clear hb2
                      go_wp2_with fail
                      go_ret
                      exact ⟨by rw [HN.out]; rfl, B1.out.trans (HB2.out.mono B1.out.size)⟩
                  · have HN := hide (HBAD.out (fun h => hfk h.2.1))
                    have zf : (findF L L[k].2.1 != (k : Int)) = true := by simp [hfk]
                    generalize endOfF L (k : Int) = ee at *
                    generalize findF L L[k].2.1 = ff at *
                    clear hkm hfk
                    go_wp2_with fail
                    refine HEO.out.mono ?_
                    rintro e' w' ⟨rfl, rfl⟩
                    go_wp2_with fail
                    refine HFI.out.mono ?_
                    rintro e' w2 ⟨rfl, hb2⟩
                    have HB2 := hide (HB.out.trans (hb2.mono HB.out.size))
                    clear hb2
                    go_wp2_with fail
                    go_ret
                    exact ⟨by rw [HN.out]; rfl, B1.out.trans (HB2.out.mono B1.out.size)⟩
                · have HN := hide (HBAD.out (fun h => hkm h.1))
                  have zkm : ((k : Int) != m) = true := by simp [hkm]
                  generalize endOfF L (k : Int) = ee at *
                  clear hkm
                  go_wp2_with fail
                  refine HEO.out.mono ?_
                  rintro e' w' ⟨rfl, rfl⟩
                  go_wp2_with fail
                  go_ret
                  exact ⟨by rw [HN.out]; rfl, BW.out⟩
              · have hjn : j = fs.length := by omega
                have HTE : Hid (tileI L fs 0 = decide (m = (L.length : Int))) := by show _ = _; rw [HT.out, List.drop_of_length_le (by omega)]; rfl
                obtain ⟨w2, rfl⟩ : ∃ w2 : World, w2 = wr := ⟨_, rfl⟩
                have zj : decide (j < fs.length) = false := decide_eq_false hjl
                clear HT hjn hjl
                go_wp2_with fail
                go_loopw [10, 95] (fun v i wr => ∃ k : Nat, k ≤ n ∧ i = .int .i64 k ∧ wr.ownsRow w2.heap.size 3 1 v k (intCells (elsL L k)) ∧ Below w2.heap.size w2 wr) (fun _ i _ => n - (intOf i).toNat)
                case atStart => exact ⟨0, Nat.zero_le _, rfl, World.ownsRow_lit w2 #[] 0 (Nat.le_refl _) (Nat.zero_le _) rfl, (Below.refl _ _).alloc (Nat.le_refl _) _⟩
                case round =>
                  obtain ⟨k, hk, rfl, hown, hb⟩ := hrel
                  have HO := hide hown
                  have HB3 := hide hb
                  have R3 := hide (R.out.below hb)
                  clear hown hb
                  by_cases hlt : k < n
                  · have hei := i_elseOf (some ⟨b, o, none⟩) n c L (k : Int) wr (by omega) R3.out
                    have HEI := hide hei
                    have hsn : Hid (intCells (elsL L (k + 1)) = intCells (elsL L k) ++ [.int .i64 (elseOfF L (k : Int))]) := by show _ = _; rw [elsL_succ, intCells_snoc]
                    clear hei
                    generalize elseOfF L (k : Int) = ee at *
                    go_wp2_with fail
                    refine HEI.out.mono ?_
                    rintro e' w' ⟨rfl, rfl⟩
                    go_wp2_with (first | (at_builtin; refine wpList_app _ rfl (.tmp 98) (.tmp 102) _ rfl w2.heap.size 3 i0 _ 1 8 Try.underlying28 HI.out hz0 hz1 hz2 rfl (by decide) _ _ _ rfl HO.out 1 [.int .i64 ee] rfl ?c1 ?c2 ?c3 ?c4 ?c5 ?_) | fail)
                    try case c1 => rfl
                    try case c2 => first | rfl | (intro u hu; obtain rfl := List.mem_singleton.1 hu; rfl)
                    try case c3 => omega
                    try case c4 => decide
                    try case c5 => exact HB3.out.size
                    intro v' w3 hown3 hb3 _ _
                    rw [← hsn.out] at hown3
                    have HO3 := hide hown3
                    have HB4 := hide (HB3.out.trans hb3)
                    clear hown3 hb3
                    go_wp2_with fail
                    go_roundw
                    case rel => exact ⟨k + 1, by omega, by go_num, HO3.out, HB4.out⟩
                    case measure => simp [intOf]; omega
                  · have hkn : k = n := by omega
                    rw [hkn] at HO
                    obtain ⟨Ae, ce, hv, hnce, hae⟩ := Arr.of_own HO.out
                    subst hv
                    have HE := hide (InRow.of_arr hae)
                    obtain ⟨w3, rfl⟩ : ∃ w3 : World, w3 = wr := ⟨_, rfl⟩
                    have zk : decide (k < n) = false := decide_eq_false hlt
                    clear hae HO hlt hkn
                    go_wp2_with fail
                    go_loopw [107] (fun i wr => ∃ k : Nat, k ≤ n ∧ i = .int .i64 k ∧ (∀ j : Nat, j < k → (lnAtD L j).1 = 4 → elseIn L 0 L.length j = true) ∧ Below w3.heap.size w3 wr) (fun i _ => n - (intOf i).toNat)
                    case atStart => exact ⟨0, Nat.zero_le _, rfl, fun j hj => absurd hj (Nat.not_lt_zero j), Below.refl _ _⟩
                    case round =>
                      obtain ⟨k, hk, rfl, hall, hb⟩ := hrel
                      have HB5 := hide hb
                      have HA := hide hall
                      have R5 := hide (R3.out.below hb)
                      have RE := hide (HE.out.below hb)
                      have BALL := hide (B1.out.trans (((HB.out.trans (HB3.out.mono HB.out.size)).trans (hb.mono (Nat.le_trans HB.out.size HB3.out.size))).mono B1.out.size))
                      clear hb hall
                      by_cases hlt : k < n
                      · have hkl : k < L.length := by omega
                        obtain ⟨b5, o5, A1, d1, A2, d2, eA, hbl, c0, c1, c2, c3, hin⟩ := R5.out.ln k hkl
                        cases eA
                        have HLK := hide (lnAtD_of L k hkl)
                        clear hin
                        by_cases h4 : L[k].1 = 4
                        · have hix := i_hasInt Ae n ce (elsL L n) (k : Int) _ (by omega) (elsL_length L n) (RE.out.below ((Below.refl _ _).alloc (Nat.le_refl _) (.cells #[.int .i64 L[k].1, .string L[k].2.1, .slice A1 L[k].2.2.1.length d1, .slice A2 L[k].2.2.2.length d2] 34)))
                          rw [elsL_mem] at hix
                          have HIX := hide hix
                          have z4 : (L[k].1 == 4) = true := by simp [h4]
                          have H4 := hide h4
                          clear hix h4
                          cases hel : elseIn L 0 n (k : Int)
                          · have HN : Hid (progI L = false) := HNOT.out (fun h => by
                              have := h.2.2.2.2.2.2 k hkl (by rw [HLK.out]; exact H4.out)
                              rw [hnl, hel] at this; cases this)
                            rw [hel] at HIX
                            clear hel
                            go_wp2_with fail
                            refine HIX.out.mono ?_
                            rintro e' w' ⟨rfl, rfl⟩
                            go_wp2_with fail
                            go_ret
                            exact ⟨by rw [HN.out]; rfl, BALL.out.alloc BALL.out.size _⟩
                          · have HN : Hid (∀ j : Nat, j < k + 1 → (lnAtD L j).1 = 4 → elseIn L 0 L.length j = true) := by
                              intro j hj hj4
                              rcases Nat.lt_succ_iff_lt_or_eq.1 hj with h | h
                              · exact HA.out j h hj4
                              · subst h; rw [hnl]; exact hel
                            rw [hel] at HIX
                            clear hel
                            go_wp2_with fail
                            refine HIX.out.mono ?_
                            rintro e' w' ⟨rfl, rfl⟩
                            go_wp2_with fail
                            go_roundw
                            case rel => exact ⟨k + 1, by omega, by go_num, HN.out, HB5.out.alloc HB5.out.size _⟩
                            case measure => simp [intOf]; omega
                        · have HN : Hid (∀ j : Nat, j < k + 1 → (lnAtD L j).1 = 4 → elseIn L 0 L.length j = true) := by
                            intro j hj hj4
                            rcases Nat.lt_succ_iff_lt_or_eq.1 hj with h | h
                            · exact HA.out j h hj4
                            · subst h; rw [HLK.out] at hj4; exact absurd hj4 h4
                          have z4 : (L[k].1 == 4) = false := by simp [h4]
                          clear h4
                          go_wp2_with fail
                          go_roundw
                          case rel => exact ⟨k + 1, by omega, by go_num, HN.out, HB5.out.alloc HB5.out.size _⟩
                          case measure => simp [intOf]; omega
                      · have HN : Hid (progI L = decide (m = (L.length : Int))) := by
                          show _ = _
                          rw [HTILE.out (by omega) hf1 hf6 HOK.out HHD.out (fun j hj => HA.out j (by omega)), HTE.out]
                        rw [hnl] at HN
                        by_cases hmn : m = (n : Int)
                        · have zm : (m == (n : Int)) = true := by simp [hmn]
                          rw [decide_eq_true hmn] at HN
                          clear hmn
                          go_wp2_with fail
                          go_ret
                          exact ⟨by rw [HN.out]; rfl, BALL.out⟩
                        · have zm : (m == (n : Int)) = false := by simp [hmn]
                          rw [decide_eq_false hmn] at HN
                          clear hmn
                          go_wp2_with fail
                          go_ret
                          exact ⟨by rw [HN.out]; rfl, BALL.out⟩
          · have HN : Hid (progI L = false) := HNOT.out (fun h => hhd h.2.2.2.2.1)
            unfold headOk at hhd
            rw [HL0.out] at hhd
            simp only at hhd
            by_cases hh1 : xk = 0
            · have z0 : (xk != 0) = false := by simp [hh1]
              by_cases hh2 : xs = mainW
              · have hh3 : xa.length ≠ 0 := fun h3 => hhd ⟨hh1, hh2, h3⟩
                have z1 := main_eq hh2
                have z2 : decide (0 < xa.length) = true := decide_eq_true (by omega)
                clear hhd hh1 hh2 hh3
                go_wp2_with fail
                go_ret
                exact ⟨by rw [HN.out]; rfl, B1.out.trans (HB.out.mono B1.out.size)⟩
              · have z1 := main_ne hh2
                clear hhd hh1 hh2
                go_wp2_with fail
                go_ret
                exact ⟨by rw [HN.out]; rfl, B1.out.trans (HB.out.mono B1.out.size)⟩
            · have z0 : (xk != 0) = true := by simp [hh1]
              clear hhd hh1
              go_wp2_with fail
              go_ret
              exact ⟨by rw [HN.out]; rfl, B1.out.trans (HB.out.mono B1.out.size)⟩
end Go.Proofs.Ytcfjbaanahgpoaa
