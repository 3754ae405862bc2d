import Derived.Test.YteghjebbeclanaaDoorPLn
namespace Go.Proofs.YteghjebbeclanaaDoor
open Go Go.RowKit
set_option maxRecDepth 100000
set_option linter.unusedSimpArgs false
set_option linter.unusedVariables false
def PsS (w : World) (gx g1 : Nat) (f0 : ByteArray) (rest : List ByteArray) (k : Int) (wx : World) : Prop := Below w.heap.size w wx ∧ Blk wx w.heap.size 43 #[.int .i64 0, .string ⟨#[]⟩, .slice none 0 0, .slice none 0 0] ∧ Blk wx gx 43 #[.int .i64 k, .string ⟨#[]⟩, .slice none 0 0, .slice none 0 0] ∧ InRow wx (some ⟨g1, 0, none⟩) (rest.length + 1) 1 (strCells (f0 :: rest))
section
variable {w wx wy : World} {gx g1 : Nat} {f0 : ByteArray} {rest : List ByteArray} {k : Int}
theorem PsS.below (h : PsS w gx g1 f0 rest k wx) (hb : Below wx.heap.size wx wy) : PsS w gx g1 f0 rest k wy :=
  ⟨h.1.trans (hb.mono h.1.size), h.2.1.below hb h.2.1.lt, h.2.2.1.below hb h.2.2.1.lt, h.2.2.2.below hb⟩
theorem PsS.drew (h : PsS w gx g1 f0 rest k wx) : PsS w gx g1 f0 rest k wx.drew := h.below (Below.refl _ _).drew
theorem PsS.head (h : PsS w gx g1 f0 rest k wx) : wx.cell? ⟨g1, 0, none⟩ = some (.string f0) := by
  obtain ⟨_, _, eb, _, q⟩ := h.2.2.2.str 0 (by simp)
  cases eb
  simpa using q
theorem PsS.store (h : PsS w gx g1 f0 rest k wx) (hgx : w.heap.size < gx) (hg : g1 ≠ gx) (k' : Int) : PsS w gx g1 f0 rest k' (wx.setCell ⟨gx, 0, none⟩ (.int .i64 k')) :=
  ⟨h.1.setCell (p := ⟨gx, 0, none⟩) (by show w.heap.size ≤ gx; omega) _, h.2.1.far (p := ⟨gx, 0, none⟩) (by show w.heap.size ≠ gx; omega) _, h.2.2.1.set_ 0 (.int .i64 k'), InRow.far h.2.2.2 hg _⟩
theorem PsS.to (h : PsS w gx g1 f0 rest k wx) {k' : Int} (e : k' = k) : PsS w gx g1 f0 rest k' wx := by subst e; exact h
end
theorem plB_no {s : ByteArray} (h : sfV s = []) : plB s = false := by
  cases hq : plB s
  · rfl
  · exact absurd h (pl_from_split hq).2.1
set_option maxHeartbeats 4000000 in
theorem s_parseLine (s : ByteArray) (hs : s.size ≤ 1048576) (w : World) (hp : PowIs w) :
    Calls Tryd.prog 29 #[.string s] w fun e w' => PlRet s w e w' ∧ Below w.heap.size w w' := by
  obtain ⟨i0, hi, hz0, hz1, hz2⟩ := info_parts Tryd.infoStr
  have HI := hide hi
  have HP := hide hp
  clear hp hi
  have BA := hide ((Below.refl w.heap.size w).alloc (Nat.le_refl _) (.cells #[.int .i64 0, .string ⟨#[]⟩, .slice none 0 0, .slice none 0 0] 43))
  have KA := hide (Blk.new w 43 #[.int .i64 0, .string ⟨#[]⟩, .slice none 0 0, .slice none 0 0])
  have hsm : s.size ≤ maxLen := by unfold maxLen; omega
  have HZ := hide (sfV_size s)
  have HN := hide (sfV_length s)
  by_cases hne : sfV s = []
  · have HB := hide (plB_no hne)
    have HPX2 : Hid (plX s = (0, ⟨#[]⟩, [], [])) := by show _ = _; unfold plX; rw [HB.out]; rfl
    have HNE := hide hne
    clear hne
    cases hq : sfB s
    all_goals
      have HQ := hide hq
      clear hq
      go_enter Tryd.func29, Tryd.ntmps29
      go_wp2_with fail
      refine (s_splitFields s hsm _).mono ?_
      rintro e w1 ⟨⟨v, rfl, ho⟩, hb1⟩
      rw [HNE.out] at ho
      rw [HQ.out]
      obtain ⟨A1, c1, hv, _, _, _⟩ := Arr.of_own2 ho
      subst hv
      have BX := hide (BA.out.trans (hb1.mono BA.out.size))
      have KRX := hide (KA.out.below hb1 (by simp))
      clear ho hb1
      have r0 := KRX.out.cell 0
      have r1 := KRX.out.cell 1
      have r2x := KRX.out.cell 2
      have r3 := KRX.out.cell 3
      have g0 := KRX.out.frozen 0
      have g1 := KRX.out.frozen 1
      have g2 := KRX.out.frozen 2
      have g3 := KRX.out.frozen 3
      simp at r0 r1 r2x r3
      go_wp2_with fail
      refine bodyPost_ret (v := .tuple #[.agg #[.int .i64 0, .string ⟨#[]⟩, .slice none 0 0, .slice none 0 0], .bool false]) (by simp [results, Tryd.results29, go_sem, r0, r1, r2x, r3]) rfl ⟨⟨none, 0, none, 0, by rw [HPX2.out, HB.out]; rfl, by rw [HPX2.out]; exact own_nil2 _ _ (by simp [World.setCell]; first | exact BX.out.size | exact BXZ.out.size), by rw [HPX2.out]; exact ⟨Nat.le_refl _, Nat.zero_le _, Nat.le_refl _, Nat.zero_le _⟩⟩, ?_⟩
      first | exact below_four BXZ.out | exact below_four BX.out
  · obtain ⟨f0, rest, hW⟩ : ∃ f0 rest, sfV s = f0 :: rest := by
      cases h : sfV s with
      | nil => exact absurd h hne
      | cons a l => exact ⟨a, l, rfl⟩
    clear hne
    have HQ : Hid (sfB s = true) := by
      show _ = _
      cases hq : sfB s
      · have : sfV s = [] := by unfold sfV; rw [hq]; rfl
        rw [this] at hW; cases hW
      · rfl
    have HG : Hid (lnG (sfV s) = lnG1 (kwI f0) (nmR (kwI f0) rest)) := by show _ = _; rw [hW]; rfl
    have hsz := HZ.out
    rw [hW] at hsz
    have HSZ := hide hsz
    have hnn := HN.out
    rw [hW] at hnn
    have hrl : Hid (rest.length ≤ 1048576) := by show _ ≤ _; simp at hnn; omega
    have HW := hide hW
    clear hsz hnn hW HZ HN
    obtain ⟨x, hx⟩ : ∃ x, x = lnG1 (kwI f0) (nmR (kwI f0) rest) := ⟨_, rfl⟩
    have HXE := hide (HG.out.trans hx.symm)
    have hsx := lnG1_sz (kwI f0) rest (fun a ha => by have := HSZ.out a (by simp [ha]); omega) hrl.out
    rw [← hx] at hsx
    have HSZX := hide hsx.1
    have HLNX := hide hsx.2
    clear hsx
    have HX0 := hide hx
    clear hx
    go_enter Tryd.func29, Tryd.ntmps29
    go_wp2_with fail
    refine (s_splitFields s hsm _).mono ?_
    rintro e w1 ⟨⟨v, rfl, ho⟩, hb1⟩
    rw [HW.out] at ho
    rw [HQ.out]
    obtain ⟨A1, c1, hv, hc1, hc2, ha⟩ := Arr.of_own2 ho
    subst hv
    obtain ⟨g1, e1, hg1, hg2, hg3, _⟩ := ha.2 (by simp)
    subst e1
    have P1 : Hid (PsS w w1.heap.size g1 f0 rest (kwTo f0 0) (w1.alloc (.cells #[.int .i64 (-1), .string ⟨#[]⟩, .slice none 0 0, .slice none 0 0] 43))) := by
      rw [kwTo_zero]
      exact ⟨(BA.out.trans (hb1.mono BA.out.size)).alloc (by have := hb1.size; simp at this; omega) _, (KA.out.below hb1 (by simp)).alloc _, Blk.new w1 _ _, (InRow.of_arr ha).below ((Below.refl _ _).alloc (Nat.le_refl _) _)⟩
    have hlo : w.heap.size < w1.heap.size := by have := hb1.size; simp at this; omega
    have hg : g1 < w1.heap.size := by omega
    simp only [List.length_cons] at hc1
    obtain ⟨d, rfl⟩ : ∃ d, c1 = d + rest.length + 1 := ⟨c1 - (rest.length + 1), by omega⟩
    clear ho hb1 ha hg1 hg2 hg3
    have hz0 : ((rest.length : Int) + 1 == 0) = false := by rw [beq_eq_false_iff_ne]; omega
    go_wp2_with fail
    clear hz0
    generalize w1.heap.size = gx at *
    go_loopw [7] (fun i wr => ∃ m : Nat, m ≤ 8 ∧ i = .int .i64 m ∧ PsS w gx g1 f0 rest (kwTo f0 m) wr) (fun i _ => 8 - (intOf i).toNat)
    case atStart => exact ⟨0, Nat.zero_le _, rfl, P1.out⟩
    case round =>
      obtain ⟨m, hm, rfl, hP⟩ := hrel
      have HPS := hide hP
      clear hP
      by_cases hlt : m < 8
      · by_cases heq : kw m = f0
        · have HT := hide (kwTo_hit hlt heq)
          have z := beqT heq
          clear heq
          go_wp2_with fail
          refine (s_lineWords _).mono ?_
          rintro e w2 ⟨⟨g, rfl, hg', hc⟩, hb2⟩
          have P2 := hide (HPS.out.below hb2)
          have r0 := P2.out.head
          clear hb2 hc hg'
          go_wp2_with fail
          go_region_with (go_at_call 58; refine (s_lineWords _).mono ?_; rintro e w3 ⟨⟨g', rfl, hg', hc'⟩, hb3⟩; have P3 : Hid (PsS w gx g1 f0 rest (kwTo f0 m) w3) := (by first | exact P2.out.below hb3 | exact P2.out.drew.below hb3 | exact P2.out.drew.drew.below hb3); have d1 := hc' m hlt; have r1 := P3.out.head; have k0 := P3.out.2.2.1.cell 0; have f0' := P3.out.2.2.1.frozen 0; simp at k0; clear hc')
          · go_wp2_with fail
            go_roundw
            case rel => exact ⟨m + 1, by omega, by go_num, by first | exact PsS.to (P3.out.store hlo (by omega) _) HT.out | exact PsS.to (P3.out.drew.store hlo (by omega) _) HT.out⟩
            case measure => simp [intOf]; omega
          · go_wp2_with fail
            go_roundw
            case rel => exact ⟨m + 1, by omega, by go_num, by first | exact PsS.to (P3.out.store hlo (by omega) _) HT.out | exact PsS.to (P3.out.drew.store hlo (by omega) _) HT.out⟩
            case measure => simp [intOf]; omega
          · go_wp2_with fail
            go_roundw
            case rel => exact ⟨m + 1, by omega, by go_num, by first | exact PsS.to (P3.out.store hlo (by omega) _) HT.out | exact PsS.to (P3.out.drew.store hlo (by omega) _) HT.out⟩
            case measure => simp [intOf]; omega
        · have HT := hide (kwTo_miss heq)
          have z := beqF heq
          clear heq
          go_wp2_with fail
          refine (s_lineWords _).mono ?_
          rintro e w2 ⟨⟨g, rfl, hg', hc⟩, hb2⟩
          have P2 := hide (HPS.out.below hb2)
          have r0 := P2.out.head
          clear hb2 hc hg'
          go_wp2_with fail
          go_region_with (go_at_call 58; refine (s_lineWords _).mono ?_; rintro e w3 ⟨⟨g', rfl, hg', hc'⟩, hb3⟩; have P3 : Hid (PsS w gx g1 f0 rest (kwTo f0 m) w3) := (by first | exact P2.out.below hb3 | exact P2.out.drew.below hb3 | exact P2.out.drew.drew.below hb3); have d1 := hc' m hlt; have r1 := P3.out.head; have k0 := P3.out.2.2.1.cell 0; have f0' := P3.out.2.2.1.frozen 0; simp at k0; clear hc')
          · go_wp2_with fail
            go_roundw
            case rel => exact ⟨m + 1, by omega, by go_num, by first | exact P3.out.to HT.out | exact P3.out.drew.to HT.out | exact P3.out.drew.drew.to HT.out⟩
            case measure => simp [intOf]; omega
          · go_wp2_with fail
            go_roundw
            case rel => exact ⟨m + 1, by omega, by go_num, by first | exact P3.out.to HT.out | exact P3.out.drew.to HT.out | exact P3.out.drew.drew.to HT.out⟩
            case measure => simp [intOf]; omega
          · go_wp2_with fail
            go_roundw
            case rel => exact ⟨m + 1, by omega, by go_num, by first | exact P3.out.to HT.out | exact P3.out.drew.to HT.out | exact P3.out.drew.drew.to HT.out⟩
            case measure => simp [intOf]; omega
      · obtain rfl : m = 8 := by omega
        have HK := hide (kwTo_end f0)
        go_wp2_with fail
        refine (s_lineWords _).mono ?_
        rintro e wc ⟨⟨g, rfl, hg', hc⟩, hb2⟩
        have P2 := hide (HPS.out.below hb2)
        clear hb2 hc hg'
        obtain ⟨hB2, hK2, hK3, hR2⟩ := P2.out
        rw [HK.out] at hK3
        have B2 := hide hB2
        have K2 := hide hK2
        have K3 := hide hK3
        have R2 := hide hR2
        have hgl := Blk.lt hK3
        have hlw := B2.out.size
        have k0 := K3.out.cell 0
        simp at k0
        clear hB2 hK2 hK3 hR2 P2 HPS P1 hlt hm
        have hx := HX0.out
        rcases rest with _ | ⟨nm, _ | ⟨b2, r3⟩⟩
        · rcases d with _ | d
          · skip
            go_upto_region 11 with fail
            go_cut [53] from 41 to 53 (fun s53 wx => s53 = .bool (plC f0 []) ∧ wx = wc)
            case first =>
              by_cases h0 : kwI f0 = 0
              · have z0 : (kwI f0 == 0) = true := by simp [h0]
                have H0 := hide h0
                clear h0
                skip
                go_wp2_with fail
                go_meet
                refine ⟨?_, rfl⟩
                have := H0.out
                first | (simp [plC, this]; done) | (simp [plC, this]; omega)
              · have z0 : (kwI f0 == 0) = false := by simp [h0]
                have H0 := hide h0
                clear h0
                by_cases h1 : kwI f0 = 1
                · have z1 : (kwI f0 == 1) = true := by simp [h1]
                  have H1 := hide h1
                  clear h1
                  skip
                  go_wp2_with fail
                  go_meet
                  refine ⟨?_, rfl⟩
                  have := H1.out
                  first | (simp [plC, this]; done) | (simp [plC, this]; omega)
                · have z1 : (kwI f0 == 1) = false := by simp [h1]
                  have H1 := hide h1
                  clear h1
                  go_wp2_with fail
                  go_meet
                  refine ⟨?_, rfl⟩
                  have h0 := H0.out
                  have h1 := H1.out
                  simp [plC, h0, h1]
            case rest =>
            obtain ⟨rfl, rfl⟩ := hcut
            go_upto_if 53 with fail
            go_cut [8] from 53 to 59 (fun s4 wx => ∃ A4 c4, s4 = .slice A4 (nmR (kwI f0) []).2.length c4 ∧ InRow wx A4 (nmR (kwI f0) []).2.length 1 (strCells (nmR (kwI f0) []).2) ∧ Blk wx gx 43 #[.int .i64 (kwI f0), .string (nmR (kwI f0) []).1, .slice none 0 0, .slice none 0 0] ∧ Blk wx w.heap.size 43 #[.int .i64 0, .string ⟨#[]⟩, .slice none 0 0, .slice none 0 0] ∧ Below w.heap.size w wx)
            case first =>
              have hc : plC f0 [] = false := by simp [plC]
              have HNR := hide (nmR_no hc)
              rw [hc]
              clear hc
              go_wp2_with fail
              go_meet
              rw [HNR.out]
              exact ⟨_, _, rfl, InRow.nil_ _ _ _, K3.out, K2.out, B2.out⟩
            case rest =>
            obtain ⟨A4, c4, rfl, hr4, hk4, hk2, hb4⟩ := hcut
            have hns := nmR_size (kwI f0) [] (fun a ha => by have := HSZ.out a (by simp [ha]); omega)
            clear K2 K3 R2 B2 k0
            have B4 := hide hb4
            have K4 := hide hk4
            have KR := hide hk2
            have R4 := hide hr4
            have hgl := Blk.lt hk4
            have hlw := B4.out.size
            clear hb4 hk4 hk2 hr4
            have HL4 := hide hns.2.1
            have hl4 : (nmR (kwI f0) []).2.length ≤ 1048576 := by have := hns.2.2; have := hrl.out; omega
            clear hns
            generalize hnr : (nmR (kwI f0) []) = nr at *
            obtain ⟨nmN, l⟩ := nr
            simp only at R4 K4 HL4 hl4
            have HX := hide hx
            clear hx hnr
            have k0 := K4.out.cell 0
            have k2 := K4.out.cell 2
            have k3 := K4.out.cell 3
            have f2 := K4.out.frozen 2
            have f3 := K4.out.frozen 3
            simp at k0 k2 k3
            have HP4 := hide (HP.out.below B4.out)
            go_upto_if 62 with fail
            go_cut [] from 62 to 72 (fun wx => PlM w gx x wx)
            case first =>
              by_cases h0 : kwI f0 = 0
              · have z0 : (kwI f0 == 0) = true := by simp [h0]
                have HX1 : Hid (x = (kwI f0, nmN, l, [])) := by show _ = _; rw [HX.out]; unfold lnG1; rw [if_pos h0, if_pos h0]
                clear h0
                have O0 := hide (World.ownsRow_lit (base := wc.heap.size) (e := 9) (size := 1) wc #[] 0 (Nat.le_refl _) (Nat.zero_le _) rfl)
                have RL := hide (R4.out.below ((Below.refl _ _).alloc (Nat.le_refl _) (.cells #[] 9)))
                have KL := hide (K4.out.alloc (.cells #[] 9))
                have KRL := hide (KR.out.alloc (.cells #[] 9))
                have BL := hide (B4.out.alloc hlw (.cells #[] 9))
                clear k0 k2 k3 f2 f3
                go_wp2_with (first | (at_builtin; refine wpList_apps _ rfl (.tmp 63) (.tmp 64) _ rfl wc.heap.size 9 i0 _ 1 16 Tryd.underlying28 HI.out hz0 hz1 hz2 rfl (by decide) _ _ _ rfl O0.out A4 _ c4 (strCells l) rfl RL.out ?d1b0 ?d2b0 ?d3b0 ?d4b0 ?_) | fail)
                case d1b0 => intro u hu; obtain ⟨b, _, rfl⟩ := List.mem_map.1 hu; rfl
                case d2b0 => omega
                try case d3b0 => decide
                try case d4b0 => simp
                intro v' w5 hown5 hb5 _ _
                obtain ⟨A5, c5, hv5, hc1, hc2, ha5⟩ := Arr.of_own2 hown5
                subst hv5
                have K5 := hide (KL.out.below hb5 hgl)
                have KR5 := hide (KRL.out.below hb5 (by omega))
                have B5 := hide (BL.out.trans (hb5.mono hlw))
                have O5 := hide ha5
                have hz5 := hb5.size
                simp at hz5
                clear hown5 hb5 ha5
                have k2 := K5.out.cell 2
                have f2 := K5.out.frozen 2
                simp at k2
                go_wp2_with fail
                go_meet
                rw [HX1.out]
                refine ⟨A5, c5, none, 0, by simpa using K5.out.set_ 2 (.slice A5 (0 + l.length) c5), ?_, ⟨by simpa using hc1, hc2, Nat.le_refl _, Nat.zero_le _⟩, B5.out.setCell (p := ⟨gx, 2, none⟩) (by show w.heap.size ≤ gx; omega) _, KR5.out.far (p := ⟨gx, 2, none⟩) (by show w.heap.size ≠ gx; omega) _⟩
                have hz6 : (w5.setCell ⟨gx, 2, none⟩ (.slice A5 (0 + l.length) c5)).heap.size = w5.heap.size := by simp [World.setCell]
                have ha6 := O5.out.far (p := ⟨gx, 2, none⟩) (.inl hgl) (.slice A5 (0 + l.length) c5)
                simp only [Nat.zero_add, List.nil_append] at ha6 hz6 ⊢
                exact Own.join (a := wc.heap.size) (b := w5.heap.size) (c := w5.heap.size) (d := w5.heap.size) (Own.one ha6) (Own.one (Arr.nil_ _ _ _ _ _)) (.inl (Nat.le_refl _)) (by omega) (by omega) (by omega) (by omega) (Nat.le_refl _)
              · have z0 : (kwI f0 == 0) = false := by simp [h0]
                have HX1 : Hid (x = (kwI f0, nmN, [], peL l)) := by show _ = _; rw [HX.out]; unfold lnG1; rw [if_neg h0, if_neg h0]
                clear h0
                clear k0 k2 f2
        
                go_wp2_with fail
                refine (s_parseExpr A4 _ c4 l _ hl4 rfl R4.out HL4.out HP4.out).mono ?_
                rintro e w5 ⟨⟨v', rfl, ho5⟩, hb5⟩
                obtain ⟨A5, c5, hv5, hc1, hc2, ha5⟩ := Arr.of_own2 ho5
                subst hv5
                have K5 := hide (K4.out.below hb5 hgl)
                have KR5 := hide (KR.out.below hb5 (by omega))
                have B5 := hide (B4.out.trans (hb5.mono hlw))
                have O5 := hide ha5
                have hz5 := hb5.size
                clear ho5 hb5 ha5 k3 f3
                have k3 := K5.out.cell 3
                have f3 := K5.out.frozen 3
                simp at k3
                go_wp2_with fail
                go_meet
                rw [HX1.out]
                refine ⟨none, 0, A5, c5, K5.out.set_ 3 (.slice A5 (peL l).length c5), ?_, ⟨Nat.le_refl _, Nat.zero_le _, hc1, hc2⟩, B5.out.setCell (p := ⟨gx, 3, none⟩) (by show w.heap.size ≤ gx; omega) _, KR5.out.far (p := ⟨gx, 3, none⟩) (by show w.heap.size ≠ gx; omega) _⟩
                have hz6 : (w5.setCell ⟨gx, 3, none⟩ (.slice A5 (peL l).length c5)).heap.size = w5.heap.size := by simp [World.setCell]
                have ha6 := O5.out.far (p := ⟨gx, 3, none⟩) (.inl hgl) (.slice A5 (peL l).length c5)
                exact Own.join (a := w5.heap.size) (b := w5.heap.size) (c := wc.heap.size) (d := w5.heap.size) (Own.one (Arr.nil_ _ _ _ _ _)) (Own.one ha6) (.inr (Nat.le_refl _)) (by omega) (by omega) (by omega) (by omega) (by omega)
            case rest =>
            have HPM : Hid (PlM w gx x wc) := hcut
            clear hcut k0 k2 k3 f2 f3 K4 KR R4 B4 HP4
            obtain ⟨A1, c1, A2, c2, hk, ho, hcp, hb, hkr⟩ := HPM.out
            have KX := hide hk
            have OX := hide ho
            have CX := hide hcp
            have BX := hide hb
            have KRX := hide hkr
            have LI := hide (lnIn_of_own (p := (x, A1, c1, A2, c2)) (fun r hr => ho.rows r hr) hcp)
            have HPX := hide (HP.out.below hb)
            clear hk ho hcp hb hkr HPM
            have k0 := KX.out.cell 0
            have k1 := KX.out.cell 1
            have k2 := KX.out.cell 2
            have k3 := KX.out.cell 3
            have r0 := KRX.out.cell 0
            have r1 := KRX.out.cell 1
            have r2x := KRX.out.cell 2
            have r3 := KRX.out.cell 3
            have g0 := KRX.out.frozen 0
            have g1 := KRX.out.frozen 1
            have g2 := KRX.out.frozen 2
            have g3 := KRX.out.frozen 3
            simp at k0 k1 k2 k3 r0 r1 r2x r3
            have HBT : Hid (plB s = true → 0 ≤ x.1 ∧ lineOkF x = true ∧ fmtLnF x = s) := fun h => by
              obtain ⟨_, _, e, h1, h2, h3⟩ := pl_from_split h
              rw [← e, HXE.out] at h1 h2 h3
              exact ⟨h1, h2, h3⟩
            by_cases hneg : x.1 < 0
            · have HB : Hid (plB s = false) := by
                show _ = _
                cases hq : plB s
                · rfl
                · have := (HBT.out hq).1; omega
              have HPX2 : Hid (plX s = (0, ⟨#[]⟩, [], [])) := by show _ = _; unfold plX; rw [HB.out]; rfl
              go_wp2_with fail
              refine bodyPost_ret (v := .tuple #[.agg #[.int .i64 0, .string ⟨#[]⟩, .slice none 0 0, .slice none 0 0], .bool false]) (by simp [results, Tryd.results29, go_sem, r0, r1, r2x, r3]) rfl ⟨⟨none, 0, none, 0, by rw [HPX2.out, HB.out]; rfl, by rw [HPX2.out]; exact own_nil2 _ _ (by simp [World.setCell]; first | exact BX.out.size | exact BXZ.out.size), by rw [HPX2.out]; exact ⟨Nat.le_refl _, Nat.zero_le _, Nat.le_refl _, Nat.zero_le _⟩⟩, ?_⟩
              first | exact below_four BXZ.out | exact below_four BX.out
            · cases hlo2 : lineOkF x
              · have HB : Hid (plB s = false) := by
                  show _ = _
                  cases hq : plB s
                  · rfl
                  · have := (HBT.out hq).2.1; rw [hlo2] at this; cases this
                have HPX2 : Hid (plX s = (0, ⟨#[]⟩, [], [])) := by show _ = _; unfold plX; rw [HB.out]; rfl
                have HLK := hide hlo2
                clear hlo2
                go_wp2_with fail
                refine (s_lineOk x A1 A2 c1 c2 _ HLNX.out LI.out HSZX.out).mono ?_
                rintro e wz ⟨rfl, hbz⟩
                rw [HLK.out]
                have KXZ := hide (KX.out.below hbz (Blk.lt KX.out))
                have KRZ := hide (KRX.out.below hbz (Blk.lt KRX.out))
                have OXZ := hide ((OX.out.belowZ hbz).more (Nat.le_refl _) hbz.size (Nat.le_refl _))
                have BXZ := hide (BX.out.trans (hbz.mono BX.out.size))
                clear hbz k0 k1 k2 k3 r0 r1 r2x r3 g0 g1 g2 g3
                have k0 := KXZ.out.cell 0
                have k1 := KXZ.out.cell 1
                have k2 := KXZ.out.cell 2
                have k3 := KXZ.out.cell 3
                have r0 := KRZ.out.cell 0
                have r1 := KRZ.out.cell 1
                have r2x := KRZ.out.cell 2
                have r3 := KRZ.out.cell 3
                have g0 := KRZ.out.frozen 0
                have g1 := KRZ.out.frozen 1
                have g2 := KRZ.out.frozen 2
                have g3 := KRZ.out.frozen 3
                simp at k0 k1 k2 k3 r0 r1 r2x r3
                go_wp2_with fail
                refine bodyPost_ret (v := .tuple #[.agg #[.int .i64 0, .string ⟨#[]⟩, .slice none 0 0, .slice none 0 0], .bool false]) (by simp [results, Tryd.results29, go_sem, r0, r1, r2x, r3]) rfl ⟨⟨none, 0, none, 0, by rw [HPX2.out, HB.out]; rfl, by rw [HPX2.out]; exact own_nil2 _ _ (by simp [World.setCell]; first | exact BX.out.size | exact BXZ.out.size), by rw [HPX2.out]; exact ⟨Nat.le_refl _, Nat.zero_le _, Nat.le_refl _, Nat.zero_le _⟩⟩, ?_⟩
                first | exact below_four BXZ.out | exact below_four BX.out
              · have HLK := hide hlo2
                clear hlo2
                by_cases heq : fmtLnF x = s
                · have HPB := hide (pl_of_fields (s := s) (by rw [HW.out]; simp) (by rw [HXE.out]; exact HLK.out) (by rw [HXE.out]; exact heq))
                  have HB : Hid (plB s = true) := HPB.out.1
                  have HPX2 : Hid (plX s = x) := by show _ = _; unfold plX; rw [HB.out, ← HPB.out.2, HXE.out]; rfl
                  have z2 := bneF heq
                  clear heq
                  go_wp2_with fail
                  refine (s_lineOk x A1 A2 c1 c2 _ HLNX.out LI.out HSZX.out).mono ?_
                  rintro e wy ⟨rfl, hby⟩
                  rw [HLK.out]
                  have LIY := hide (LI.out.below hby)
                  have HPY := hide (HPX.out.below hby)
                  have KXY := hide (KX.out.below hby (Blk.lt KX.out))
                  have KRY := hide (KRX.out.below hby (Blk.lt KRX.out))
                  have OXY := hide ((OX.out.belowZ hby).more (Nat.le_refl _) hby.size (Nat.le_refl _))
                  have BXY := hide (BX.out.trans (hby.mono BX.out.size))
                  clear hby k0 k1 k2 k3 r0 r1 r2x r3 g0 g1 g2 g3
                  have k0 := KXY.out.cell 0
                  have k1 := KXY.out.cell 1
                  have k2 := KXY.out.cell 2
                  have k3 := KXY.out.cell 3
                  have r0 := KRY.out.cell 0
                  have r1 := KRY.out.cell 1
                  have r2x := KRY.out.cell 2
                  have r3 := KRY.out.cell 3
                  have g0 := KRY.out.frozen 0
                  have g1 := KRY.out.frozen 1
                  have g2 := KRY.out.frozen 2
                  have g3 := KRY.out.frozen 3
                  simp at k0 k1 k2 k3 r0 r1 r2x r3
                  go_wp2_with fail
                  refine (s_formatLine x A1 A2 c1 c2 _ HLNX.out LIY.out HSZX.out HPY.out).mono ?_
                  rintro e wz ⟨rfl, hbz⟩
                  have KXZ := hide (KXY.out.below hbz (Blk.lt KXY.out))
                  have KRZ := hide (KRY.out.below hbz (Blk.lt KRY.out))
                  have OXZ := hide ((OXY.out.belowZ hbz).more (Nat.le_refl _) hbz.size (Nat.le_refl _))
                  have BXZ := hide (BXY.out.trans (hbz.mono BXY.out.size))
                  clear hbz k0 k1 k2 k3 r0 r1 r2x r3 g0 g1 g2 g3
                  have k0 := KXZ.out.cell 0
                  have k1 := KXZ.out.cell 1
                  have k2 := KXZ.out.cell 2
                  have k3 := KXZ.out.cell 3
                  have r0 := KRZ.out.cell 0
                  have r1 := KRZ.out.cell 1
                  have r2x := KRZ.out.cell 2
                  have r3 := KRZ.out.cell 3
                  have g0 := KRZ.out.frozen 0
                  have g1 := KRZ.out.frozen 1
                  have g2 := KRZ.out.frozen 2
                  have g3 := KRZ.out.frozen 3
                  simp at k0 k1 k2 k3 r0 r1 r2x r3
                  go_wp2_with fail
                  refine bodyPost_ret (v := .tuple #[.agg #[.int .i64 x.1, .string x.2.1, .slice A1 x.2.2.1.length c1, .slice A2 x.2.2.2.length c2], .bool true]) (by simp [results, Tryd.results29, go_sem, r0, r1, r2x, r3]) rfl ⟨⟨A1, c1, A2, c2, by rw [HPX2.out, HB.out], by rw [HPX2.out]; exact own_four OXZ.out, by rw [HPX2.out]; exact CX.out⟩, ?_⟩
                  exact below_four BXZ.out
                · have HB : Hid (plB s = false) := by
                    show _ = _
                    cases hq : plB s
                    · rfl
                    · exact absurd (HBT.out hq).2.2 heq
                  have HPX2 : Hid (plX s = (0, ⟨#[]⟩, [], [])) := by show _ = _; unfold plX; rw [HB.out]; rfl
                  have z2 := bneT heq
                  clear heq
                  go_wp2_with fail
                  refine (s_lineOk x A1 A2 c1 c2 _ HLNX.out LI.out HSZX.out).mono ?_
                  rintro e wy ⟨rfl, hby⟩
                  rw [HLK.out]
                  have LIY := hide (LI.out.below hby)
                  have HPY := hide (HPX.out.below hby)
                  have KXY := hide (KX.out.below hby (Blk.lt KX.out))
                  have KRY := hide (KRX.out.below hby (Blk.lt KRX.out))
                  have OXY := hide ((OX.out.belowZ hby).more (Nat.le_refl _) hby.size (Nat.le_refl _))
                  have BXY := hide (BX.out.trans (hby.mono BX.out.size))
                  clear hby k0 k1 k2 k3 r0 r1 r2x r3 g0 g1 g2 g3
                  have k0 := KXY.out.cell 0
                  have k1 := KXY.out.cell 1
                  have k2 := KXY.out.cell 2
                  have k3 := KXY.out.cell 3
                  have r0 := KRY.out.cell 0
                  have r1 := KRY.out.cell 1
                  have r2x := KRY.out.cell 2
                  have r3 := KRY.out.cell 3
                  have g0 := KRY.out.frozen 0
                  have g1 := KRY.out.frozen 1
                  have g2 := KRY.out.frozen 2
                  have g3 := KRY.out.frozen 3
                  simp at k0 k1 k2 k3 r0 r1 r2x r3
                  go_wp2_with fail
                  refine (s_formatLine x A1 A2 c1 c2 _ HLNX.out LIY.out HSZX.out HPY.out).mono ?_
                  rintro e wz ⟨rfl, hbz⟩
                  have KXZ := hide (KXY.out.below hbz (Blk.lt KXY.out))
                  have KRZ := hide (KRY.out.below hbz (Blk.lt KRY.out))
                  have OXZ := hide ((OXY.out.belowZ hbz).more (Nat.le_refl _) hbz.size (Nat.le_refl _))
                  have BXZ := hide (BXY.out.trans (hbz.mono BXY.out.size))
                  clear hbz k0 k1 k2 k3 r0 r1 r2x r3 g0 g1 g2 g3
                  have k0 := KXZ.out.cell 0
                  have k1 := KXZ.out.cell 1
                  have k2 := KXZ.out.cell 2
                  have k3 := KXZ.out.cell 3
                  have r0 := KRZ.out.cell 0
                  have r1 := KRZ.out.cell 1
                  have r2x := KRZ.out.cell 2
                  have r3 := KRZ.out.cell 3
                  have g0 := KRZ.out.frozen 0
                  have g1 := KRZ.out.frozen 1
                  have g2 := KRZ.out.frozen 2
                  have g3 := KRZ.out.frozen 3
                  simp at k0 k1 k2 k3 r0 r1 r2x r3
                  go_wp2_with fail
                  refine bodyPost_ret (v := .tuple #[.agg #[.int .i64 0, .string ⟨#[]⟩, .slice none 0 0, .slice none 0 0], .bool false]) (by simp [results, Tryd.results29, go_sem, r0, r1, r2x, r3]) rfl ⟨⟨none, 0, none, 0, by rw [HPX2.out, HB.out]; rfl, by rw [HPX2.out]; exact own_nil2 _ _ (by simp [World.setCell]; first | exact BX.out.size | exact BXZ.out.size), by rw [HPX2.out]; exact ⟨Nat.le_refl _, Nat.zero_le _, Nat.le_refl _, Nat.zero_le _⟩⟩, ?_⟩
                  first | exact below_four BXZ.out | exact below_four BX.out
          · skip
            go_upto_region 11 with fail
            go_cut [53] from 41 to 53 (fun s53 wx => s53 = .bool (plC f0 []) ∧ wx = wc)
            case first =>
              by_cases h0 : kwI f0 = 0
              · have z0 : (kwI f0 == 0) = true := by simp [h0]
                have H0 := hide h0
                clear h0
                skip
                go_wp2_with fail
                go_meet
                refine ⟨?_, rfl⟩
                have := H0.out
                first | (simp [plC, this]; done) | (simp [plC, this]; omega)
              · have z0 : (kwI f0 == 0) = false := by simp [h0]
                have H0 := hide h0
                clear h0
                by_cases h1 : kwI f0 = 1
                · have z1 : (kwI f0 == 1) = true := by simp [h1]
                  have H1 := hide h1
                  clear h1
                  skip
                  go_wp2_with fail
                  go_meet
                  refine ⟨?_, rfl⟩
                  have := H1.out
                  first | (simp [plC, this]; done) | (simp [plC, this]; omega)
                · have z1 : (kwI f0 == 1) = false := by simp [h1]
                  have H1 := hide h1
                  clear h1
                  go_wp2_with fail
                  go_meet
                  refine ⟨?_, rfl⟩
                  have h0 := H0.out
                  have h1 := H1.out
                  simp [plC, h0, h1]
            case rest =>
            obtain ⟨rfl, rfl⟩ := hcut
            go_upto_if 53 with fail
            go_cut [8] from 53 to 59 (fun s4 wx => ∃ A4 c4, s4 = .slice A4 (nmR (kwI f0) []).2.length c4 ∧ InRow wx A4 (nmR (kwI f0) []).2.length 1 (strCells (nmR (kwI f0) []).2) ∧ Blk wx gx 43 #[.int .i64 (kwI f0), .string (nmR (kwI f0) []).1, .slice none 0 0, .slice none 0 0] ∧ Blk wx w.heap.size 43 #[.int .i64 0, .string ⟨#[]⟩, .slice none 0 0, .slice none 0 0] ∧ Below w.heap.size w wx)
            case first =>
              have hc : plC f0 [] = false := by simp [plC]
              have HNR := hide (nmR_no hc)
              rw [hc]
              clear hc
              go_wp2_with fail
              go_meet
              rw [HNR.out]
              exact ⟨_, _, rfl, InRow.nil_ _ _ _, K3.out, K2.out, B2.out⟩
            case rest =>
            obtain ⟨A4, c4, rfl, hr4, hk4, hk2, hb4⟩ := hcut
            have hns := nmR_size (kwI f0) [] (fun a ha => by have := HSZ.out a (by simp [ha]); omega)
            clear K2 K3 R2 B2 k0
            have B4 := hide hb4
            have K4 := hide hk4
            have KR := hide hk2
            have R4 := hide hr4
            have hgl := Blk.lt hk4
            have hlw := B4.out.size
            clear hb4 hk4 hk2 hr4
            have HL4 := hide hns.2.1
            have hl4 : (nmR (kwI f0) []).2.length ≤ 1048576 := by have := hns.2.2; have := hrl.out; omega
            clear hns
            generalize hnr : (nmR (kwI f0) []) = nr at *
            obtain ⟨nmN, l⟩ := nr
            simp only at R4 K4 HL4 hl4
            have HX := hide hx
            clear hx hnr
            have k0 := K4.out.cell 0
            have k2 := K4.out.cell 2
            have k3 := K4.out.cell 3
            have f2 := K4.out.frozen 2
            have f3 := K4.out.frozen 3
            simp at k0 k2 k3
            have HP4 := hide (HP.out.below B4.out)
            go_upto_if 62 with fail
            go_cut [] from 62 to 72 (fun wx => PlM w gx x wx)
            case first =>
              by_cases h0 : kwI f0 = 0
              · have z0 : (kwI f0 == 0) = true := by simp [h0]
                have HX1 : Hid (x = (kwI f0, nmN, l, [])) := by show _ = _; rw [HX.out]; unfold lnG1; rw [if_pos h0, if_pos h0]
                clear h0
                have O0 := hide (World.ownsRow_lit (base := wc.heap.size) (e := 9) (size := 1) wc #[] 0 (Nat.le_refl _) (Nat.zero_le _) rfl)
                have RL := hide (R4.out.below ((Below.refl _ _).alloc (Nat.le_refl _) (.cells #[] 9)))
                have KL := hide (K4.out.alloc (.cells #[] 9))
                have KRL := hide (KR.out.alloc (.cells #[] 9))
                have BL := hide (B4.out.alloc hlw (.cells #[] 9))
                clear k0 k2 k3 f2 f3
                go_wp2_with (first | (at_builtin; refine wpList_apps _ rfl (.tmp 63) (.tmp 64) _ rfl wc.heap.size 9 i0 _ 1 16 Tryd.underlying28 HI.out hz0 hz1 hz2 rfl (by decide) _ _ _ rfl O0.out A4 _ c4 (strCells l) rfl RL.out ?d1b1 ?d2b1 ?d3b1 ?d4b1 ?_) | fail)
                case d1b1 => intro u hu; obtain ⟨b, _, rfl⟩ := List.mem_map.1 hu; rfl
                case d2b1 => omega
                try case d3b1 => decide
                try case d4b1 => simp
                intro v' w5 hown5 hb5 _ _
                obtain ⟨A5, c5, hv5, hc1, hc2, ha5⟩ := Arr.of_own2 hown5
                subst hv5
                have K5 := hide (KL.out.below hb5 hgl)
                have KR5 := hide (KRL.out.below hb5 (by omega))
                have B5 := hide (BL.out.trans (hb5.mono hlw))
                have O5 := hide ha5
                have hz5 := hb5.size
                simp at hz5
                clear hown5 hb5 ha5
                have k2 := K5.out.cell 2
                have f2 := K5.out.frozen 2
                simp at k2
                go_wp2_with fail
                go_meet
                rw [HX1.out]
                refine ⟨A5, c5, none, 0, by simpa using K5.out.set_ 2 (.slice A5 (0 + l.length) c5), ?_, ⟨by simpa using hc1, hc2, Nat.le_refl _, Nat.zero_le _⟩, B5.out.setCell (p := ⟨gx, 2, none⟩) (by show w.heap.size ≤ gx; omega) _, KR5.out.far (p := ⟨gx, 2, none⟩) (by show w.heap.size ≠ gx; omega) _⟩
                have hz6 : (w5.setCell ⟨gx, 2, none⟩ (.slice A5 (0 + l.length) c5)).heap.size = w5.heap.size := by simp [World.setCell]
                have ha6 := O5.out.far (p := ⟨gx, 2, none⟩) (.inl hgl) (.slice A5 (0 + l.length) c5)
                simp only [Nat.zero_add, List.nil_append] at ha6 hz6 ⊢
                exact Own.join (a := wc.heap.size) (b := w5.heap.size) (c := w5.heap.size) (d := w5.heap.size) (Own.one ha6) (Own.one (Arr.nil_ _ _ _ _ _)) (.inl (Nat.le_refl _)) (by omega) (by omega) (by omega) (by omega) (Nat.le_refl _)
              · have z0 : (kwI f0 == 0) = false := by simp [h0]
                have HX1 : Hid (x = (kwI f0, nmN, [], peL l)) := by show _ = _; rw [HX.out]; unfold lnG1; rw [if_neg h0, if_neg h0]
                clear h0
                clear k0 k2 f2
        
                go_wp2_with fail
                refine (s_parseExpr A4 _ c4 l _ hl4 rfl R4.out HL4.out HP4.out).mono ?_
                rintro e w5 ⟨⟨v', rfl, ho5⟩, hb5⟩
                obtain ⟨A5, c5, hv5, hc1, hc2, ha5⟩ := Arr.of_own2 ho5
                subst hv5
                have K5 := hide (K4.out.below hb5 hgl)
                have KR5 := hide (KR.out.below hb5 (by omega))
                have B5 := hide (B4.out.trans (hb5.mono hlw))
                have O5 := hide ha5
                have hz5 := hb5.size
                clear ho5 hb5 ha5 k3 f3
                have k3 := K5.out.cell 3
                have f3 := K5.out.frozen 3
                simp at k3
                go_wp2_with fail
                go_meet
                rw [HX1.out]
                refine ⟨none, 0, A5, c5, K5.out.set_ 3 (.slice A5 (peL l).length c5), ?_, ⟨Nat.le_refl _, Nat.zero_le _, hc1, hc2⟩, B5.out.setCell (p := ⟨gx, 3, none⟩) (by show w.heap.size ≤ gx; omega) _, KR5.out.far (p := ⟨gx, 3, none⟩) (by show w.heap.size ≠ gx; omega) _⟩
                have hz6 : (w5.setCell ⟨gx, 3, none⟩ (.slice A5 (peL l).length c5)).heap.size = w5.heap.size := by simp [World.setCell]
                have ha6 := O5.out.far (p := ⟨gx, 3, none⟩) (.inl hgl) (.slice A5 (peL l).length c5)
                exact Own.join (a := w5.heap.size) (b := w5.heap.size) (c := wc.heap.size) (d := w5.heap.size) (Own.one (Arr.nil_ _ _ _ _ _)) (Own.one ha6) (.inr (Nat.le_refl _)) (by omega) (by omega) (by omega) (by omega) (by omega)
            case rest =>
            have HPM : Hid (PlM w gx x wc) := hcut
            clear hcut k0 k2 k3 f2 f3 K4 KR R4 B4 HP4
            obtain ⟨A1, c1, A2, c2, hk, ho, hcp, hb, hkr⟩ := HPM.out
            have KX := hide hk
            have OX := hide ho
            have CX := hide hcp
            have BX := hide hb
            have KRX := hide hkr
            have LI := hide (lnIn_of_own (p := (x, A1, c1, A2, c2)) (fun r hr => ho.rows r hr) hcp)
            have HPX := hide (HP.out.below hb)
            clear hk ho hcp hb hkr HPM
            have k0 := KX.out.cell 0
            have k1 := KX.out.cell 1
            have k2 := KX.out.cell 2
            have k3 := KX.out.cell 3
            have r0 := KRX.out.cell 0
            have r1 := KRX.out.cell 1
            have r2x := KRX.out.cell 2
            have r3 := KRX.out.cell 3
            have g0 := KRX.out.frozen 0
            have g1 := KRX.out.frozen 1
            have g2 := KRX.out.frozen 2
            have g3 := KRX.out.frozen 3
            simp at k0 k1 k2 k3 r0 r1 r2x r3
            have HBT : Hid (plB s = true → 0 ≤ x.1 ∧ lineOkF x = true ∧ fmtLnF x = s) := fun h => by
              obtain ⟨_, _, e, h1, h2, h3⟩ := pl_from_split h
              rw [← e, HXE.out] at h1 h2 h3
              exact ⟨h1, h2, h3⟩
            by_cases hneg : x.1 < 0
            · have HB : Hid (plB s = false) := by
                show _ = _
                cases hq : plB s
                · rfl
                · have := (HBT.out hq).1; omega
              have HPX2 : Hid (plX s = (0, ⟨#[]⟩, [], [])) := by show _ = _; unfold plX; rw [HB.out]; rfl
              go_wp2_with fail
              refine bodyPost_ret (v := .tuple #[.agg #[.int .i64 0, .string ⟨#[]⟩, .slice none 0 0, .slice none 0 0], .bool false]) (by simp [results, Tryd.results29, go_sem, r0, r1, r2x, r3]) rfl ⟨⟨none, 0, none, 0, by rw [HPX2.out, HB.out]; rfl, by rw [HPX2.out]; exact own_nil2 _ _ (by simp [World.setCell]; first | exact BX.out.size | exact BXZ.out.size), by rw [HPX2.out]; exact ⟨Nat.le_refl _, Nat.zero_le _, Nat.le_refl _, Nat.zero_le _⟩⟩, ?_⟩
              first | exact below_four BXZ.out | exact below_four BX.out
            · cases hlo2 : lineOkF x
              · have HB : Hid (plB s = false) := by
                  show _ = _
                  cases hq : plB s
                  · rfl
                  · have := (HBT.out hq).2.1; rw [hlo2] at this; cases this
                have HPX2 : Hid (plX s = (0, ⟨#[]⟩, [], [])) := by show _ = _; unfold plX; rw [HB.out]; rfl
                have HLK := hide hlo2
                clear hlo2
                go_wp2_with fail
                refine (s_lineOk x A1 A2 c1 c2 _ HLNX.out LI.out HSZX.out).mono ?_
                rintro e wz ⟨rfl, hbz⟩
                rw [HLK.out]
                have KXZ := hide (KX.out.below hbz (Blk.lt KX.out))
                have KRZ := hide (KRX.out.below hbz (Blk.lt KRX.out))
                have OXZ := hide ((OX.out.belowZ hbz).more (Nat.le_refl _) hbz.size (Nat.le_refl _))
                have BXZ := hide (BX.out.trans (hbz.mono BX.out.size))
                clear hbz k0 k1 k2 k3 r0 r1 r2x r3 g0 g1 g2 g3
                have k0 := KXZ.out.cell 0
                have k1 := KXZ.out.cell 1
                have k2 := KXZ.out.cell 2
                have k3 := KXZ.out.cell 3
                have r0 := KRZ.out.cell 0
                have r1 := KRZ.out.cell 1
                have r2x := KRZ.out.cell 2
                have r3 := KRZ.out.cell 3
                have g0 := KRZ.out.frozen 0
                have g1 := KRZ.out.frozen 1
                have g2 := KRZ.out.frozen 2
                have g3 := KRZ.out.frozen 3
                simp at k0 k1 k2 k3 r0 r1 r2x r3
                go_wp2_with fail
                refine bodyPost_ret (v := .tuple #[.agg #[.int .i64 0, .string ⟨#[]⟩, .slice none 0 0, .slice none 0 0], .bool false]) (by simp [results, Tryd.results29, go_sem, r0, r1, r2x, r3]) rfl ⟨⟨none, 0, none, 0, by rw [HPX2.out, HB.out]; rfl, by rw [HPX2.out]; exact own_nil2 _ _ (by simp [World.setCell]; first | exact BX.out.size | exact BXZ.out.size), by rw [HPX2.out]; exact ⟨Nat.le_refl _, Nat.zero_le _, Nat.le_refl _, Nat.zero_le _⟩⟩, ?_⟩
                first | exact below_four BXZ.out | exact below_four BX.out
              · have HLK := hide hlo2
                clear hlo2
                by_cases heq : fmtLnF x = s
                · have HPB := hide (pl_of_fields (s := s) (by rw [HW.out]; simp) (by rw [HXE.out]; exact HLK.out) (by rw [HXE.out]; exact heq))
                  have HB : Hid (plB s = true) := HPB.out.1
                  have HPX2 : Hid (plX s = x) := by show _ = _; unfold plX; rw [HB.out, ← HPB.out.2, HXE.out]; rfl
                  have z2 := bneF heq
                  clear heq
                  go_wp2_with fail
                  refine (s_lineOk x A1 A2 c1 c2 _ HLNX.out LI.out HSZX.out).mono ?_
                  rintro e wy ⟨rfl, hby⟩
                  rw [HLK.out]
                  have LIY := hide (LI.out.below hby)
                  have HPY := hide (HPX.out.below hby)
                  have KXY := hide (KX.out.below hby (Blk.lt KX.out))
                  have KRY := hide (KRX.out.below hby (Blk.lt KRX.out))
                  have OXY := hide ((OX.out.belowZ hby).more (Nat.le_refl _) hby.size (Nat.le_refl _))
                  have BXY := hide (BX.out.trans (hby.mono BX.out.size))
                  clear hby k0 k1 k2 k3 r0 r1 r2x r3 g0 g1 g2 g3
                  have k0 := KXY.out.cell 0
                  have k1 := KXY.out.cell 1
                  have k2 := KXY.out.cell 2
                  have k3 := KXY.out.cell 3
                  have r0 := KRY.out.cell 0
                  have r1 := KRY.out.cell 1
                  have r2x := KRY.out.cell 2
                  have r3 := KRY.out.cell 3
                  have g0 := KRY.out.frozen 0
                  have g1 := KRY.out.frozen 1
                  have g2 := KRY.out.frozen 2
                  have g3 := KRY.out.frozen 3
                  simp at k0 k1 k2 k3 r0 r1 r2x r3
                  go_wp2_with fail
                  refine (s_formatLine x A1 A2 c1 c2 _ HLNX.out LIY.out HSZX.out HPY.out).mono ?_
                  rintro e wz ⟨rfl, hbz⟩
                  have KXZ := hide (KXY.out.below hbz (Blk.lt KXY.out))
                  have KRZ := hide (KRY.out.below hbz (Blk.lt KRY.out))
                  have OXZ := hide ((OXY.out.belowZ hbz).more (Nat.le_refl _) hbz.size (Nat.le_refl _))
                  have BXZ := hide (BXY.out.trans (hbz.mono BXY.out.size))
                  clear hbz k0 k1 k2 k3 r0 r1 r2x r3 g0 g1 g2 g3
                  have k0 := KXZ.out.cell 0
                  have k1 := KXZ.out.cell 1
                  have k2 := KXZ.out.cell 2
                  have k3 := KXZ.out.cell 3
                  have r0 := KRZ.out.cell 0
                  have r1 := KRZ.out.cell 1
                  have r2x := KRZ.out.cell 2
                  have r3 := KRZ.out.cell 3
                  have g0 := KRZ.out.frozen 0
                  have g1 := KRZ.out.frozen 1
                  have g2 := KRZ.out.frozen 2
                  have g3 := KRZ.out.frozen 3
                  simp at k0 k1 k2 k3 r0 r1 r2x r3
                  go_wp2_with fail
                  refine bodyPost_ret (v := .tuple #[.agg #[.int .i64 x.1, .string x.2.1, .slice A1 x.2.2.1.length c1, .slice A2 x.2.2.2.length c2], .bool true]) (by simp [results, Tryd.results29, go_sem, r0, r1, r2x, r3]) rfl ⟨⟨A1, c1, A2, c2, by rw [HPX2.out, HB.out], by rw [HPX2.out]; exact own_four OXZ.out, by rw [HPX2.out]; exact CX.out⟩, ?_⟩
                  exact below_four BXZ.out
                · have HB : Hid (plB s = false) := by
                    show _ = _
                    cases hq : plB s
                    · rfl
                    · exact absurd (HBT.out hq).2.2 heq
                  have HPX2 : Hid (plX s = (0, ⟨#[]⟩, [], [])) := by show _ = _; unfold plX; rw [HB.out]; rfl
                  have z2 := bneT heq
                  clear heq
                  go_wp2_with fail
                  refine (s_lineOk x A1 A2 c1 c2 _ HLNX.out LI.out HSZX.out).mono ?_
                  rintro e wy ⟨rfl, hby⟩
                  rw [HLK.out]
                  have LIY := hide (LI.out.below hby)
                  have HPY := hide (HPX.out.below hby)
                  have KXY := hide (KX.out.below hby (Blk.lt KX.out))
                  have KRY := hide (KRX.out.below hby (Blk.lt KRX.out))
                  have OXY := hide ((OX.out.belowZ hby).more (Nat.le_refl _) hby.size (Nat.le_refl _))
                  have BXY := hide (BX.out.trans (hby.mono BX.out.size))
                  clear hby k0 k1 k2 k3 r0 r1 r2x r3 g0 g1 g2 g3
                  have k0 := KXY.out.cell 0
                  have k1 := KXY.out.cell 1
                  have k2 := KXY.out.cell 2
                  have k3 := KXY.out.cell 3
                  have r0 := KRY.out.cell 0
                  have r1 := KRY.out.cell 1
                  have r2x := KRY.out.cell 2
                  have r3 := KRY.out.cell 3
                  have g0 := KRY.out.frozen 0
                  have g1 := KRY.out.frozen 1
                  have g2 := KRY.out.frozen 2
                  have g3 := KRY.out.frozen 3
                  simp at k0 k1 k2 k3 r0 r1 r2x r3
                  go_wp2_with fail
                  refine (s_formatLine x A1 A2 c1 c2 _ HLNX.out LIY.out HSZX.out HPY.out).mono ?_
                  rintro e wz ⟨rfl, hbz⟩
                  have KXZ := hide (KXY.out.below hbz (Blk.lt KXY.out))
                  have KRZ := hide (KRY.out.below hbz (Blk.lt KRY.out))
                  have OXZ := hide ((OXY.out.belowZ hbz).more (Nat.le_refl _) hbz.size (Nat.le_refl _))
                  have BXZ := hide (BXY.out.trans (hbz.mono BXY.out.size))
                  clear hbz k0 k1 k2 k3 r0 r1 r2x r3 g0 g1 g2 g3
                  have k0 := KXZ.out.cell 0
                  have k1 := KXZ.out.cell 1
                  have k2 := KXZ.out.cell 2
                  have k3 := KXZ.out.cell 3
                  have r0 := KRZ.out.cell 0
                  have r1 := KRZ.out.cell 1
                  have r2x := KRZ.out.cell 2
                  have r3 := KRZ.out.cell 3
                  have g0 := KRZ.out.frozen 0
                  have g1 := KRZ.out.frozen 1
                  have g2 := KRZ.out.frozen 2
                  have g3 := KRZ.out.frozen 3
                  simp at k0 k1 k2 k3 r0 r1 r2x r3
                  go_wp2_with fail
                  refine bodyPost_ret (v := .tuple #[.agg #[.int .i64 0, .string ⟨#[]⟩, .slice none 0 0, .slice none 0 0], .bool false]) (by simp [results, Tryd.results29, go_sem, r0, r1, r2x, r3]) rfl ⟨⟨none, 0, none, 0, by rw [HPX2.out, HB.out]; rfl, by rw [HPX2.out]; exact own_nil2 _ _ (by simp [World.setCell]; first | exact BX.out.size | exact BXZ.out.size), by rw [HPX2.out]; exact ⟨Nat.le_refl _, Nat.zero_le _, Nat.le_refl _, Nat.zero_le _⟩⟩, ?_⟩
                  first | exact below_four BXZ.out | exact below_four BX.out
        · rcases d with _ | d
          · skip
            go_upto_region 11 with fail
            go_cut [53] from 41 to 53 (fun s53 wx => s53 = .bool (plC f0 [nm]) ∧ wx = wc)
            case first =>
              by_cases h0 : kwI f0 = 0
              · have z0 : (kwI f0 == 0) = true := by simp [h0]
                have H0 := hide h0
                clear h0
                skip
                go_wp2_with fail
                go_meet
                refine ⟨?_, rfl⟩
                have := H0.out
                first | (simp [plC, this]; done) | (simp [plC, this]; omega)
              · have z0 : (kwI f0 == 0) = false := by simp [h0]
                have H0 := hide h0
                clear h0
                by_cases h1 : kwI f0 = 1
                · have z1 : (kwI f0 == 1) = true := by simp [h1]
                  have H1 := hide h1
                  clear h1
                  skip
                  go_wp2_with fail
                  go_meet
                  refine ⟨?_, rfl⟩
                  have := H1.out
                  first | (simp [plC, this]; done) | (simp [plC, this]; omega)
                · have z1 : (kwI f0 == 1) = false := by simp [h1]
                  have H1 := hide h1
                  clear h1
                  go_wp2_with fail
                  go_meet
                  refine ⟨?_, rfl⟩
                  have h0 := H0.out
                  have h1 := H1.out
                  simp [plC, h0, h1]
            case rest =>
            obtain ⟨rfl, rfl⟩ := hcut
            go_upto_if 53 with fail
            go_cut [8] from 53 to 59 (fun s4 wx => ∃ A4 c4, s4 = .slice A4 (nmR (kwI f0) [nm]).2.length c4 ∧ InRow wx A4 (nmR (kwI f0) [nm]).2.length 1 (strCells (nmR (kwI f0) [nm]).2) ∧ Blk wx gx 43 #[.int .i64 (kwI f0), .string (nmR (kwI f0) [nm]).1, .slice none 0 0, .slice none 0 0] ∧ Blk wx w.heap.size 43 #[.int .i64 0, .string ⟨#[]⟩, .slice none 0 0, .slice none 0 0] ∧ Below w.heap.size w wx)
            case first =>
              cases hc : plC f0 [nm]
              · have HNR := hide (nmR_no hc)
                clear hc
                go_wp2_with fail
                go_meet
                rw [HNR.out]
                exact ⟨_, _, rfl, R2.out.tail, K3.out, K2.out, B2.out⟩
              · have HNR := hide (nmR_yes hc)
                clear hc
                obtain ⟨b, o, e, _, q⟩ := R2.out.str 1 (by simp)
                cases e
                simp at q
                have k1 := K3.out.cell 1
                have f1 := K3.out.frozen 1
                simp at k1
                go_wp2_with fail
                go_meet
                rw [HNR.out]
                exact ⟨_, _, rfl, InRow.nil_ _ _ _, K3.out.set_ 1 (.string nm), K2.out.far (p := ⟨gx, 1, none⟩) (by show w.heap.size ≠ gx; omega) _, B2.out.setCell (p := ⟨gx, 1, none⟩) (by show w.heap.size ≤ gx; omega) _⟩
            case rest =>
            obtain ⟨A4, c4, rfl, hr4, hk4, hk2, hb4⟩ := hcut
            have hns := nmR_size (kwI f0) [nm] (fun a ha => by have := HSZ.out a (by simp [ha]); omega)
            clear K2 K3 R2 B2 k0
            have B4 := hide hb4
            have K4 := hide hk4
            have KR := hide hk2
            have R4 := hide hr4
            have hgl := Blk.lt hk4
            have hlw := B4.out.size
            clear hb4 hk4 hk2 hr4
            have HL4 := hide hns.2.1
            have hl4 : (nmR (kwI f0) [nm]).2.length ≤ 1048576 := by have := hns.2.2; have := hrl.out; omega
            clear hns
            generalize hnr : (nmR (kwI f0) [nm]) = nr at *
            obtain ⟨nmN, l⟩ := nr
            simp only at R4 K4 HL4 hl4
            have HX := hide hx
            clear hx hnr
            have k0 := K4.out.cell 0
            have k2 := K4.out.cell 2
            have k3 := K4.out.cell 3
            have f2 := K4.out.frozen 2
            have f3 := K4.out.frozen 3
            simp at k0 k2 k3
            have HP4 := hide (HP.out.below B4.out)
            go_upto_if 62 with fail
            go_cut [] from 62 to 72 (fun wx => PlM w gx x wx)
            case first =>
              by_cases h0 : kwI f0 = 0
              · have z0 : (kwI f0 == 0) = true := by simp [h0]
                have HX1 : Hid (x = (kwI f0, nmN, l, [])) := by show _ = _; rw [HX.out]; unfold lnG1; rw [if_pos h0, if_pos h0]
                clear h0
                have O0 := hide (World.ownsRow_lit (base := wc.heap.size) (e := 9) (size := 1) wc #[] 0 (Nat.le_refl _) (Nat.zero_le _) rfl)
                have RL := hide (R4.out.below ((Below.refl _ _).alloc (Nat.le_refl _) (.cells #[] 9)))
                have KL := hide (K4.out.alloc (.cells #[] 9))
                have KRL := hide (KR.out.alloc (.cells #[] 9))
                have BL := hide (B4.out.alloc hlw (.cells #[] 9))
                clear k0 k2 k3 f2 f3
                go_wp2_with (first | (at_builtin; refine wpList_apps _ rfl (.tmp 63) (.tmp 64) _ rfl wc.heap.size 9 i0 _ 1 16 Tryd.underlying28 HI.out hz0 hz1 hz2 rfl (by decide) _ _ _ rfl O0.out A4 _ c4 (strCells l) rfl RL.out ?d1b2 ?d2b2 ?d3b2 ?d4b2 ?_) | fail)
                case d1b2 => intro u hu; obtain ⟨b, _, rfl⟩ := List.mem_map.1 hu; rfl
                case d2b2 => omega
                try case d3b2 => decide
                try case d4b2 => simp
                intro v' w5 hown5 hb5 _ _
                obtain ⟨A5, c5, hv5, hc1, hc2, ha5⟩ := Arr.of_own2 hown5
                subst hv5
                have K5 := hide (KL.out.below hb5 hgl)
                have KR5 := hide (KRL.out.below hb5 (by omega))
                have B5 := hide (BL.out.trans (hb5.mono hlw))
                have O5 := hide ha5
                have hz5 := hb5.size
                simp at hz5
                clear hown5 hb5 ha5
                have k2 := K5.out.cell 2
                have f2 := K5.out.frozen 2
                simp at k2
                go_wp2_with fail
                go_meet
                rw [HX1.out]
                refine ⟨A5, c5, none, 0, by simpa using K5.out.set_ 2 (.slice A5 (0 + l.length) c5), ?_, ⟨by simpa using hc1, hc2, Nat.le_refl _, Nat.zero_le _⟩, B5.out.setCell (p := ⟨gx, 2, none⟩) (by show w.heap.size ≤ gx; omega) _, KR5.out.far (p := ⟨gx, 2, none⟩) (by show w.heap.size ≠ gx; omega) _⟩
                have hz6 : (w5.setCell ⟨gx, 2, none⟩ (.slice A5 (0 + l.length) c5)).heap.size = w5.heap.size := by simp [World.setCell]
                have ha6 := O5.out.far (p := ⟨gx, 2, none⟩) (.inl hgl) (.slice A5 (0 + l.length) c5)
                simp only [Nat.zero_add, List.nil_append] at ha6 hz6 ⊢
                exact Own.join (a := wc.heap.size) (b := w5.heap.size) (c := w5.heap.size) (d := w5.heap.size) (Own.one ha6) (Own.one (Arr.nil_ _ _ _ _ _)) (.inl (Nat.le_refl _)) (by omega) (by omega) (by omega) (by omega) (Nat.le_refl _)
              · have z0 : (kwI f0 == 0) = false := by simp [h0]
                have HX1 : Hid (x = (kwI f0, nmN, [], peL l)) := by show _ = _; rw [HX.out]; unfold lnG1; rw [if_neg h0, if_neg h0]
                clear h0
                clear k0 k2 f2
        
                go_wp2_with fail
                refine (s_parseExpr A4 _ c4 l _ hl4 rfl R4.out HL4.out HP4.out).mono ?_
                rintro e w5 ⟨⟨v', rfl, ho5⟩, hb5⟩
                obtain ⟨A5, c5, hv5, hc1, hc2, ha5⟩ := Arr.of_own2 ho5
                subst hv5
                have K5 := hide (K4.out.below hb5 hgl)
                have KR5 := hide (KR.out.below hb5 (by omega))
                have B5 := hide (B4.out.trans (hb5.mono hlw))
                have O5 := hide ha5
                have hz5 := hb5.size
                clear ho5 hb5 ha5 k3 f3
                have k3 := K5.out.cell 3
                have f3 := K5.out.frozen 3
                simp at k3
                go_wp2_with fail
                go_meet
                rw [HX1.out]
                refine ⟨none, 0, A5, c5, K5.out.set_ 3 (.slice A5 (peL l).length c5), ?_, ⟨Nat.le_refl _, Nat.zero_le _, hc1, hc2⟩, B5.out.setCell (p := ⟨gx, 3, none⟩) (by show w.heap.size ≤ gx; omega) _, KR5.out.far (p := ⟨gx, 3, none⟩) (by show w.heap.size ≠ gx; omega) _⟩
                have hz6 : (w5.setCell ⟨gx, 3, none⟩ (.slice A5 (peL l).length c5)).heap.size = w5.heap.size := by simp [World.setCell]
                have ha6 := O5.out.far (p := ⟨gx, 3, none⟩) (.inl hgl) (.slice A5 (peL l).length c5)
                exact Own.join (a := w5.heap.size) (b := w5.heap.size) (c := wc.heap.size) (d := w5.heap.size) (Own.one (Arr.nil_ _ _ _ _ _)) (Own.one ha6) (.inr (Nat.le_refl _)) (by omega) (by omega) (by omega) (by omega) (by omega)
            case rest =>
            have HPM : Hid (PlM w gx x wc) := hcut
            clear hcut k0 k2 k3 f2 f3 K4 KR R4 B4 HP4
            obtain ⟨A1, c1, A2, c2, hk, ho, hcp, hb, hkr⟩ := HPM.out
            have KX := hide hk
            have OX := hide ho
            have CX := hide hcp
            have BX := hide hb
            have KRX := hide hkr
            have LI := hide (lnIn_of_own (p := (x, A1, c1, A2, c2)) (fun r hr => ho.rows r hr) hcp)
            have HPX := hide (HP.out.below hb)
            clear hk ho hcp hb hkr HPM
            have k0 := KX.out.cell 0
            have k1 := KX.out.cell 1
            have k2 := KX.out.cell 2
            have k3 := KX.out.cell 3
            have r0 := KRX.out.cell 0
            have r1 := KRX.out.cell 1
            have r2x := KRX.out.cell 2
            have r3 := KRX.out.cell 3
            have g0 := KRX.out.frozen 0
            have g1 := KRX.out.frozen 1
            have g2 := KRX.out.frozen 2
            have g3 := KRX.out.frozen 3
            simp at k0 k1 k2 k3 r0 r1 r2x r3
            have HBT : Hid (plB s = true → 0 ≤ x.1 ∧ lineOkF x = true ∧ fmtLnF x = s) := fun h => by
              obtain ⟨_, _, e, h1, h2, h3⟩ := pl_from_split h
              rw [← e, HXE.out] at h1 h2 h3
              exact ⟨h1, h2, h3⟩
            by_cases hneg : x.1 < 0
            · have HB : Hid (plB s = false) := by
                show _ = _
                cases hq : plB s
                · rfl
                · have := (HBT.out hq).1; omega
              have HPX2 : Hid (plX s = (0, ⟨#[]⟩, [], [])) := by show _ = _; unfold plX; rw [HB.out]; rfl
              go_wp2_with fail
              refine bodyPost_ret (v := .tuple #[.agg #[.int .i64 0, .string ⟨#[]⟩, .slice none 0 0, .slice none 0 0], .bool false]) (by simp [results, Tryd.results29, go_sem, r0, r1, r2x, r3]) rfl ⟨⟨none, 0, none, 0, by rw [HPX2.out, HB.out]; rfl, by rw [HPX2.out]; exact own_nil2 _ _ (by simp [World.setCell]; first | exact BX.out.size | exact BXZ.out.size), by rw [HPX2.out]; exact ⟨Nat.le_refl _, Nat.zero_le _, Nat.le_refl _, Nat.zero_le _⟩⟩, ?_⟩
              first | exact below_four BXZ.out | exact below_four BX.out
            · cases hlo2 : lineOkF x
              · have HB : Hid (plB s = false) := by
                  show _ = _
                  cases hq : plB s
                  · rfl
                  · have := (HBT.out hq).2.1; rw [hlo2] at this; cases this
                have HPX2 : Hid (plX s = (0, ⟨#[]⟩, [], [])) := by show _ = _; unfold plX; rw [HB.out]; rfl
                have HLK := hide hlo2
                clear hlo2
                go_wp2_with fail
                refine (s_lineOk x A1 A2 c1 c2 _ HLNX.out LI.out HSZX.out).mono ?_
                rintro e wz ⟨rfl, hbz⟩
                rw [HLK.out]
                have KXZ := hide (KX.out.below hbz (Blk.lt KX.out))
                have KRZ := hide (KRX.out.below hbz (Blk.lt KRX.out))
                have OXZ := hide ((OX.out.belowZ hbz).more (Nat.le_refl _) hbz.size (Nat.le_refl _))
                have BXZ := hide (BX.out.trans (hbz.mono BX.out.size))
                clear hbz k0 k1 k2 k3 r0 r1 r2x r3 g0 g1 g2 g3
                have k0 := KXZ.out.cell 0
                have k1 := KXZ.out.cell 1
                have k2 := KXZ.out.cell 2
                have k3 := KXZ.out.cell 3
                have r0 := KRZ.out.cell 0
                have r1 := KRZ.out.cell 1
                have r2x := KRZ.out.cell 2
                have r3 := KRZ.out.cell 3
                have g0 := KRZ.out.frozen 0
                have g1 := KRZ.out.frozen 1
                have g2 := KRZ.out.frozen 2
                have g3 := KRZ.out.frozen 3
                simp at k0 k1 k2 k3 r0 r1 r2x r3
                go_wp2_with fail
                refine bodyPost_ret (v := .tuple #[.agg #[.int .i64 0, .string ⟨#[]⟩, .slice none 0 0, .slice none 0 0], .bool false]) (by simp [results, Tryd.results29, go_sem, r0, r1, r2x, r3]) rfl ⟨⟨none, 0, none, 0, by rw [HPX2.out, HB.out]; rfl, by rw [HPX2.out]; exact own_nil2 _ _ (by simp [World.setCell]; first | exact BX.out.size | exact BXZ.out.size), by rw [HPX2.out]; exact ⟨Nat.le_refl _, Nat.zero_le _, Nat.le_refl _, Nat.zero_le _⟩⟩, ?_⟩
                first | exact below_four BXZ.out | exact below_four BX.out
              · have HLK := hide hlo2
                clear hlo2
                by_cases heq : fmtLnF x = s
                · have HPB := hide (pl_of_fields (s := s) (by rw [HW.out]; simp) (by rw [HXE.out]; exact HLK.out) (by rw [HXE.out]; exact heq))
                  have HB : Hid (plB s = true) := HPB.out.1
                  have HPX2 : Hid (plX s = x) := by show _ = _; unfold plX; rw [HB.out, ← HPB.out.2, HXE.out]; rfl
                  have z2 := bneF heq
                  clear heq
                  go_wp2_with fail
                  refine (s_lineOk x A1 A2 c1 c2 _ HLNX.out LI.out HSZX.out).mono ?_
                  rintro e wy ⟨rfl, hby⟩
                  rw [HLK.out]
                  have LIY := hide (LI.out.below hby)
                  have HPY := hide (HPX.out.below hby)
                  have KXY := hide (KX.out.below hby (Blk.lt KX.out))
                  have KRY := hide (KRX.out.below hby (Blk.lt KRX.out))
                  have OXY := hide ((OX.out.belowZ hby).more (Nat.le_refl _) hby.size (Nat.le_refl _))
                  have BXY := hide (BX.out.trans (hby.mono BX.out.size))
                  clear hby k0 k1 k2 k3 r0 r1 r2x r3 g0 g1 g2 g3
                  have k0 := KXY.out.cell 0
                  have k1 := KXY.out.cell 1
                  have k2 := KXY.out.cell 2
                  have k3 := KXY.out.cell 3
                  have r0 := KRY.out.cell 0
                  have r1 := KRY.out.cell 1
                  have r2x := KRY.out.cell 2
                  have r3 := KRY.out.cell 3
                  have g0 := KRY.out.frozen 0
                  have g1 := KRY.out.frozen 1
                  have g2 := KRY.out.frozen 2
                  have g3 := KRY.out.frozen 3
                  simp at k0 k1 k2 k3 r0 r1 r2x r3
                  go_wp2_with fail
                  refine (s_formatLine x A1 A2 c1 c2 _ HLNX.out LIY.out HSZX.out HPY.out).mono ?_
                  rintro e wz ⟨rfl, hbz⟩
                  have KXZ := hide (KXY.out.below hbz (Blk.lt KXY.out))
                  have KRZ := hide (KRY.out.below hbz (Blk.lt KRY.out))
                  have OXZ := hide ((OXY.out.belowZ hbz).more (Nat.le_refl _) hbz.size (Nat.le_refl _))
                  have BXZ := hide (BXY.out.trans (hbz.mono BXY.out.size))
                  clear hbz k0 k1 k2 k3 r0 r1 r2x r3 g0 g1 g2 g3
                  have k0 := KXZ.out.cell 0
                  have k1 := KXZ.out.cell 1
                  have k2 := KXZ.out.cell 2
                  have k3 := KXZ.out.cell 3
                  have r0 := KRZ.out.cell 0
                  have r1 := KRZ.out.cell 1
                  have r2x := KRZ.out.cell 2
                  have r3 := KRZ.out.cell 3
                  have g0 := KRZ.out.frozen 0
                  have g1 := KRZ.out.frozen 1
                  have g2 := KRZ.out.frozen 2
                  have g3 := KRZ.out.frozen 3
                  simp at k0 k1 k2 k3 r0 r1 r2x r3
                  go_wp2_with fail
                  refine bodyPost_ret (v := .tuple #[.agg #[.int .i64 x.1, .string x.2.1, .slice A1 x.2.2.1.length c1, .slice A2 x.2.2.2.length c2], .bool true]) (by simp [results, Tryd.results29, go_sem, r0, r1, r2x, r3]) rfl ⟨⟨A1, c1, A2, c2, by rw [HPX2.out, HB.out], by rw [HPX2.out]; exact own_four OXZ.out, by rw [HPX2.out]; exact CX.out⟩, ?_⟩
                  exact below_four BXZ.out
                · have HB : Hid (plB s = false) := by
                    show _ = _
                    cases hq : plB s
                    · rfl
                    · exact absurd (HBT.out hq).2.2 heq
                  have HPX2 : Hid (plX s = (0, ⟨#[]⟩, [], [])) := by show _ = _; unfold plX; rw [HB.out]; rfl
                  have z2 := bneT heq
                  clear heq
                  go_wp2_with fail
                  refine (s_lineOk x A1 A2 c1 c2 _ HLNX.out LI.out HSZX.out).mono ?_
                  rintro e wy ⟨rfl, hby⟩
                  rw [HLK.out]
                  have LIY := hide (LI.out.below hby)
                  have HPY := hide (HPX.out.below hby)
                  have KXY := hide (KX.out.below hby (Blk.lt KX.out))
                  have KRY := hide (KRX.out.below hby (Blk.lt KRX.out))
                  have OXY := hide ((OX.out.belowZ hby).more (Nat.le_refl _) hby.size (Nat.le_refl _))
                  have BXY := hide (BX.out.trans (hby.mono BX.out.size))
                  clear hby k0 k1 k2 k3 r0 r1 r2x r3 g0 g1 g2 g3
                  have k0 := KXY.out.cell 0
                  have k1 := KXY.out.cell 1
                  have k2 := KXY.out.cell 2
                  have k3 := KXY.out.cell 3
                  have r0 := KRY.out.cell 0
                  have r1 := KRY.out.cell 1
                  have r2x := KRY.out.cell 2
                  have r3 := KRY.out.cell 3
                  have g0 := KRY.out.frozen 0
                  have g1 := KRY.out.frozen 1
                  have g2 := KRY.out.frozen 2
                  have g3 := KRY.out.frozen 3
                  simp at k0 k1 k2 k3 r0 r1 r2x r3
                  go_wp2_with fail
                  refine (s_formatLine x A1 A2 c1 c2 _ HLNX.out LIY.out HSZX.out HPY.out).mono ?_
                  rintro e wz ⟨rfl, hbz⟩
                  have KXZ := hide (KXY.out.below hbz (Blk.lt KXY.out))
                  have KRZ := hide (KRY.out.below hbz (Blk.lt KRY.out))
                  have OXZ := hide ((OXY.out.belowZ hbz).more (Nat.le_refl _) hbz.size (Nat.le_refl _))
                  have BXZ := hide (BXY.out.trans (hbz.mono BXY.out.size))
                  clear hbz k0 k1 k2 k3 r0 r1 r2x r3 g0 g1 g2 g3
                  have k0 := KXZ.out.cell 0
                  have k1 := KXZ.out.cell 1
                  have k2 := KXZ.out.cell 2
                  have k3 := KXZ.out.cell 3
                  have r0 := KRZ.out.cell 0
                  have r1 := KRZ.out.cell 1
                  have r2x := KRZ.out.cell 2
                  have r3 := KRZ.out.cell 3
                  have g0 := KRZ.out.frozen 0
                  have g1 := KRZ.out.frozen 1
                  have g2 := KRZ.out.frozen 2
                  have g3 := KRZ.out.frozen 3
                  simp at k0 k1 k2 k3 r0 r1 r2x r3
                  go_wp2_with fail
                  refine bodyPost_ret (v := .tuple #[.agg #[.int .i64 0, .string ⟨#[]⟩, .slice none 0 0, .slice none 0 0], .bool false]) (by simp [results, Tryd.results29, go_sem, r0, r1, r2x, r3]) rfl ⟨⟨none, 0, none, 0, by rw [HPX2.out, HB.out]; rfl, by rw [HPX2.out]; exact own_nil2 _ _ (by simp [World.setCell]; first | exact BX.out.size | exact BXZ.out.size), by rw [HPX2.out]; exact ⟨Nat.le_refl _, Nat.zero_le _, Nat.le_refl _, Nat.zero_le _⟩⟩, ?_⟩
                  first | exact below_four BXZ.out | exact below_four BX.out
          · skip
            go_upto_region 11 with fail
            go_cut [53] from 41 to 53 (fun s53 wx => s53 = .bool (plC f0 [nm]) ∧ wx = wc)
            case first =>
              by_cases h0 : kwI f0 = 0
              · have z0 : (kwI f0 == 0) = true := by simp [h0]
                have H0 := hide h0
                clear h0
                skip
                go_wp2_with fail
                go_meet
                refine ⟨?_, rfl⟩
                have := H0.out
                first | (simp [plC, this]; done) | (simp [plC, this]; omega)
              · have z0 : (kwI f0 == 0) = false := by simp [h0]
                have H0 := hide h0
                clear h0
                by_cases h1 : kwI f0 = 1
                · have z1 : (kwI f0 == 1) = true := by simp [h1]
                  have H1 := hide h1
                  clear h1
                  skip
                  go_wp2_with fail
                  go_meet
                  refine ⟨?_, rfl⟩
                  have := H1.out
                  first | (simp [plC, this]; done) | (simp [plC, this]; omega)
                · have z1 : (kwI f0 == 1) = false := by simp [h1]
                  have H1 := hide h1
                  clear h1
                  go_wp2_with fail
                  go_meet
                  refine ⟨?_, rfl⟩
                  have h0 := H0.out
                  have h1 := H1.out
                  simp [plC, h0, h1]
            case rest =>
            obtain ⟨rfl, rfl⟩ := hcut
            go_upto_if 53 with fail
            go_cut [8] from 53 to 59 (fun s4 wx => ∃ A4 c4, s4 = .slice A4 (nmR (kwI f0) [nm]).2.length c4 ∧ InRow wx A4 (nmR (kwI f0) [nm]).2.length 1 (strCells (nmR (kwI f0) [nm]).2) ∧ Blk wx gx 43 #[.int .i64 (kwI f0), .string (nmR (kwI f0) [nm]).1, .slice none 0 0, .slice none 0 0] ∧ Blk wx w.heap.size 43 #[.int .i64 0, .string ⟨#[]⟩, .slice none 0 0, .slice none 0 0] ∧ Below w.heap.size w wx)
            case first =>
              cases hc : plC f0 [nm]
              · have HNR := hide (nmR_no hc)
                clear hc
                go_wp2_with fail
                go_meet
                rw [HNR.out]
                exact ⟨_, _, rfl, R2.out.tail, K3.out, K2.out, B2.out⟩
              · have HNR := hide (nmR_yes hc)
                clear hc
                obtain ⟨b, o, e, _, q⟩ := R2.out.str 1 (by simp)
                cases e
                simp at q
                have k1 := K3.out.cell 1
                have f1 := K3.out.frozen 1
                simp at k1
                go_wp2_with fail
                go_meet
                rw [HNR.out]
                exact ⟨_, _, rfl, InRow.nil_ _ _ _, K3.out.set_ 1 (.string nm), K2.out.far (p := ⟨gx, 1, none⟩) (by show w.heap.size ≠ gx; omega) _, B2.out.setCell (p := ⟨gx, 1, none⟩) (by show w.heap.size ≤ gx; omega) _⟩
            case rest =>
            obtain ⟨A4, c4, rfl, hr4, hk4, hk2, hb4⟩ := hcut
            have hns := nmR_size (kwI f0) [nm] (fun a ha => by have := HSZ.out a (by simp [ha]); omega)
            clear K2 K3 R2 B2 k0
            have B4 := hide hb4
            have K4 := hide hk4
            have KR := hide hk2
            have R4 := hide hr4
            have hgl := Blk.lt hk4
            have hlw := B4.out.size
            clear hb4 hk4 hk2 hr4
            have HL4 := hide hns.2.1
            have hl4 : (nmR (kwI f0) [nm]).2.length ≤ 1048576 := by have := hns.2.2; have := hrl.out; omega
            clear hns
            generalize hnr : (nmR (kwI f0) [nm]) = nr at *
            obtain ⟨nmN, l⟩ := nr
            simp only at R4 K4 HL4 hl4
            have HX := hide hx
            clear hx hnr
            have k0 := K4.out.cell 0
            have k2 := K4.out.cell 2
            have k3 := K4.out.cell 3
            have f2 := K4.out.frozen 2
            have f3 := K4.out.frozen 3
            simp at k0 k2 k3
            have HP4 := hide (HP.out.below B4.out)
            go_upto_if 62 with fail
            go_cut [] from 62 to 72 (fun wx => PlM w gx x wx)
            case first =>
              by_cases h0 : kwI f0 = 0
              · have z0 : (kwI f0 == 0) = true := by simp [h0]
                have HX1 : Hid (x = (kwI f0, nmN, l, [])) := by show _ = _; rw [HX.out]; unfold lnG1; rw [if_pos h0, if_pos h0]
                clear h0
                have O0 := hide (World.ownsRow_lit (base := wc.heap.size) (e := 9) (size := 1) wc #[] 0 (Nat.le_refl _) (Nat.zero_le _) rfl)
                have RL := hide (R4.out.below ((Below.refl _ _).alloc (Nat.le_refl _) (.cells #[] 9)))
                have KL := hide (K4.out.alloc (.cells #[] 9))
                have KRL := hide (KR.out.alloc (.cells #[] 9))
                have BL := hide (B4.out.alloc hlw (.cells #[] 9))
                clear k0 k2 k3 f2 f3
                go_wp2_with (first | (at_builtin; refine wpList_apps _ rfl (.tmp 63) (.tmp 64) _ rfl wc.heap.size 9 i0 _ 1 16 Tryd.underlying28 HI.out hz0 hz1 hz2 rfl (by decide) _ _ _ rfl O0.out A4 _ c4 (strCells l) rfl RL.out ?d1b3 ?d2b3 ?d3b3 ?d4b3 ?_) | fail)
                case d1b3 => intro u hu; obtain ⟨b, _, rfl⟩ := List.mem_map.1 hu; rfl
                case d2b3 => omega
                try case d3b3 => decide
                try case d4b3 => simp
                intro v' w5 hown5 hb5 _ _
                obtain ⟨A5, c5, hv5, hc1, hc2, ha5⟩ := Arr.of_own2 hown5
                subst hv5
                have K5 := hide (KL.out.below hb5 hgl)
                have KR5 := hide (KRL.out.below hb5 (by omega))
                have B5 := hide (BL.out.trans (hb5.mono hlw))
                have O5 := hide ha5
                have hz5 := hb5.size
                simp at hz5
                clear hown5 hb5 ha5
                have k2 := K5.out.cell 2
                have f2 := K5.out.frozen 2
                simp at k2
                go_wp2_with fail
                go_meet
                rw [HX1.out]
                refine ⟨A5, c5, none, 0, by simpa using K5.out.set_ 2 (.slice A5 (0 + l.length) c5), ?_, ⟨by simpa using hc1, hc2, Nat.le_refl _, Nat.zero_le _⟩, B5.out.setCell (p := ⟨gx, 2, none⟩) (by show w.heap.size ≤ gx; omega) _, KR5.out.far (p := ⟨gx, 2, none⟩) (by show w.heap.size ≠ gx; omega) _⟩
                have hz6 : (w5.setCell ⟨gx, 2, none⟩ (.slice A5 (0 + l.length) c5)).heap.size = w5.heap.size := by simp [World.setCell]
                have ha6 := O5.out.far (p := ⟨gx, 2, none⟩) (.inl hgl) (.slice A5 (0 + l.length) c5)
                simp only [Nat.zero_add, List.nil_append] at ha6 hz6 ⊢
                exact Own.join (a := wc.heap.size) (b := w5.heap.size) (c := w5.heap.size) (d := w5.heap.size) (Own.one ha6) (Own.one (Arr.nil_ _ _ _ _ _)) (.inl (Nat.le_refl _)) (by omega) (by omega) (by omega) (by omega) (Nat.le_refl _)
              · have z0 : (kwI f0 == 0) = false := by simp [h0]
                have HX1 : Hid (x = (kwI f0, nmN, [], peL l)) := by show _ = _; rw [HX.out]; unfold lnG1; rw [if_neg h0, if_neg h0]
                clear h0
                clear k0 k2 f2
        
                go_wp2_with fail
                refine (s_parseExpr A4 _ c4 l _ hl4 rfl R4.out HL4.out HP4.out).mono ?_
                rintro e w5 ⟨⟨v', rfl, ho5⟩, hb5⟩
                obtain ⟨A5, c5, hv5, hc1, hc2, ha5⟩ := Arr.of_own2 ho5
                subst hv5
                have K5 := hide (K4.out.below hb5 hgl)
                have KR5 := hide (KR.out.below hb5 (by omega))
                have B5 := hide (B4.out.trans (hb5.mono hlw))
                have O5 := hide ha5
                have hz5 := hb5.size
                clear ho5 hb5 ha5 k3 f3
                have k3 := K5.out.cell 3
                have f3 := K5.out.frozen 3
                simp at k3
                go_wp2_with fail
                go_meet
                rw [HX1.out]
                refine ⟨none, 0, A5, c5, K5.out.set_ 3 (.slice A5 (peL l).length c5), ?_, ⟨Nat.le_refl _, Nat.zero_le _, hc1, hc2⟩, B5.out.setCell (p := ⟨gx, 3, none⟩) (by show w.heap.size ≤ gx; omega) _, KR5.out.far (p := ⟨gx, 3, none⟩) (by show w.heap.size ≠ gx; omega) _⟩
                have hz6 : (w5.setCell ⟨gx, 3, none⟩ (.slice A5 (peL l).length c5)).heap.size = w5.heap.size := by simp [World.setCell]
                have ha6 := O5.out.far (p := ⟨gx, 3, none⟩) (.inl hgl) (.slice A5 (peL l).length c5)
                exact Own.join (a := w5.heap.size) (b := w5.heap.size) (c := wc.heap.size) (d := w5.heap.size) (Own.one (Arr.nil_ _ _ _ _ _)) (Own.one ha6) (.inr (Nat.le_refl _)) (by omega) (by omega) (by omega) (by omega) (by omega)
            case rest =>
            have HPM : Hid (PlM w gx x wc) := hcut
            clear hcut k0 k2 k3 f2 f3 K4 KR R4 B4 HP4
            obtain ⟨A1, c1, A2, c2, hk, ho, hcp, hb, hkr⟩ := HPM.out
            have KX := hide hk
            have OX := hide ho
            have CX := hide hcp
            have BX := hide hb
            have KRX := hide hkr
            have LI := hide (lnIn_of_own (p := (x, A1, c1, A2, c2)) (fun r hr => ho.rows r hr) hcp)
            have HPX := hide (HP.out.below hb)
            clear hk ho hcp hb hkr HPM
            have k0 := KX.out.cell 0
            have k1 := KX.out.cell 1
            have k2 := KX.out.cell 2
            have k3 := KX.out.cell 3
            have r0 := KRX.out.cell 0
            have r1 := KRX.out.cell 1
            have r2x := KRX.out.cell 2
            have r3 := KRX.out.cell 3
            have g0 := KRX.out.frozen 0
            have g1 := KRX.out.frozen 1
            have g2 := KRX.out.frozen 2
            have g3 := KRX.out.frozen 3
            simp at k0 k1 k2 k3 r0 r1 r2x r3
            have HBT : Hid (plB s = true → 0 ≤ x.1 ∧ lineOkF x = true ∧ fmtLnF x = s) := fun h => by
              obtain ⟨_, _, e, h1, h2, h3⟩ := pl_from_split h
              rw [← e, HXE.out] at h1 h2 h3
              exact ⟨h1, h2, h3⟩
            by_cases hneg : x.1 < 0
            · have HB : Hid (plB s = false) := by
                show _ = _
                cases hq : plB s
                · rfl
                · have := (HBT.out hq).1; omega
              have HPX2 : Hid (plX s = (0, ⟨#[]⟩, [], [])) := by show _ = _; unfold plX; rw [HB.out]; rfl
              go_wp2_with fail
              refine bodyPost_ret (v := .tuple #[.agg #[.int .i64 0, .string ⟨#[]⟩, .slice none 0 0, .slice none 0 0], .bool false]) (by simp [results, Tryd.results29, go_sem, r0, r1, r2x, r3]) rfl ⟨⟨none, 0, none, 0, by rw [HPX2.out, HB.out]; rfl, by rw [HPX2.out]; exact own_nil2 _ _ (by simp [World.setCell]; first | exact BX.out.size | exact BXZ.out.size), by rw [HPX2.out]; exact ⟨Nat.le_refl _, Nat.zero_le _, Nat.le_refl _, Nat.zero_le _⟩⟩, ?_⟩
              first | exact below_four BXZ.out | exact below_four BX.out
            · cases hlo2 : lineOkF x
              · have HB : Hid (plB s = false) := by
                  show _ = _
                  cases hq : plB s
                  · rfl
                  · have := (HBT.out hq).2.1; rw [hlo2] at this; cases this
                have HPX2 : Hid (plX s = (0, ⟨#[]⟩, [], [])) := by show _ = _; unfold plX; rw [HB.out]; rfl
                have HLK := hide hlo2
                clear hlo2
                go_wp2_with fail
                refine (s_lineOk x A1 A2 c1 c2 _ HLNX.out LI.out HSZX.out).mono ?_
                rintro e wz ⟨rfl, hbz⟩
                rw [HLK.out]
                have KXZ := hide (KX.out.below hbz (Blk.lt KX.out))
                have KRZ := hide (KRX.out.below hbz (Blk.lt KRX.out))
                have OXZ := hide ((OX.out.belowZ hbz).more (Nat.le_refl _) hbz.size (Nat.le_refl _))
                have BXZ := hide (BX.out.trans (hbz.mono BX.out.size))
                clear hbz k0 k1 k2 k3 r0 r1 r2x r3 g0 g1 g2 g3
                have k0 := KXZ.out.cell 0
                have k1 := KXZ.out.cell 1
                have k2 := KXZ.out.cell 2
                have k3 := KXZ.out.cell 3
                have r0 := KRZ.out.cell 0
                have r1 := KRZ.out.cell 1
                have r2x := KRZ.out.cell 2
                have r3 := KRZ.out.cell 3
                have g0 := KRZ.out.frozen 0
                have g1 := KRZ.out.frozen 1
                have g2 := KRZ.out.frozen 2
                have g3 := KRZ.out.frozen 3
                simp at k0 k1 k2 k3 r0 r1 r2x r3
                go_wp2_with fail
                refine bodyPost_ret (v := .tuple #[.agg #[.int .i64 0, .string ⟨#[]⟩, .slice none 0 0, .slice none 0 0], .bool false]) (by simp [results, Tryd.results29, go_sem, r0, r1, r2x, r3]) rfl ⟨⟨none, 0, none, 0, by rw [HPX2.out, HB.out]; rfl, by rw [HPX2.out]; exact own_nil2 _ _ (by simp [World.setCell]; first | exact BX.out.size | exact BXZ.out.size), by rw [HPX2.out]; exact ⟨Nat.le_refl _, Nat.zero_le _, Nat.le_refl _, Nat.zero_le _⟩⟩, ?_⟩
                first | exact below_four BXZ.out | exact below_four BX.out
              · have HLK := hide hlo2
                clear hlo2
                by_cases heq : fmtLnF x = s
                · have HPB := hide (pl_of_fields (s := s) (by rw [HW.out]; simp) (by rw [HXE.out]; exact HLK.out) (by rw [HXE.out]; exact heq))
                  have HB : Hid (plB s = true) := HPB.out.1
                  have HPX2 : Hid (plX s = x) := by show _ = _; unfold plX; rw [HB.out, ← HPB.out.2, HXE.out]; rfl
                  have z2 := bneF heq
                  clear heq
                  go_wp2_with fail
                  refine (s_lineOk x A1 A2 c1 c2 _ HLNX.out LI.out HSZX.out).mono ?_
                  rintro e wy ⟨rfl, hby⟩
                  rw [HLK.out]
                  have LIY := hide (LI.out.below hby)
                  have HPY := hide (HPX.out.below hby)
                  have KXY := hide (KX.out.below hby (Blk.lt KX.out))
                  have KRY := hide (KRX.out.below hby (Blk.lt KRX.out))
                  have OXY := hide ((OX.out.belowZ hby).more (Nat.le_refl _) hby.size (Nat.le_refl _))
                  have BXY := hide (BX.out.trans (hby.mono BX.out.size))
                  clear hby k0 k1 k2 k3 r0 r1 r2x r3 g0 g1 g2 g3
                  have k0 := KXY.out.cell 0
                  have k1 := KXY.out.cell 1
                  have k2 := KXY.out.cell 2
                  have k3 := KXY.out.cell 3
                  have r0 := KRY.out.cell 0
                  have r1 := KRY.out.cell 1
                  have r2x := KRY.out.cell 2
                  have r3 := KRY.out.cell 3
                  have g0 := KRY.out.frozen 0
                  have g1 := KRY.out.frozen 1
                  have g2 := KRY.out.frozen 2
                  have g3 := KRY.out.frozen 3
                  simp at k0 k1 k2 k3 r0 r1 r2x r3
                  go_wp2_with fail
                  refine (s_formatLine x A1 A2 c1 c2 _ HLNX.out LIY.out HSZX.out HPY.out).mono ?_
                  rintro e wz ⟨rfl, hbz⟩
                  have KXZ := hide (KXY.out.below hbz (Blk.lt KXY.out))
                  have KRZ := hide (KRY.out.below hbz (Blk.lt KRY.out))
                  have OXZ := hide ((OXY.out.belowZ hbz).more (Nat.le_refl _) hbz.size (Nat.le_refl _))
                  have BXZ := hide (BXY.out.trans (hbz.mono BXY.out.size))
                  clear hbz k0 k1 k2 k3 r0 r1 r2x r3 g0 g1 g2 g3
                  have k0 := KXZ.out.cell 0
                  have k1 := KXZ.out.cell 1
                  have k2 := KXZ.out.cell 2
                  have k3 := KXZ.out.cell 3
                  have r0 := KRZ.out.cell 0
                  have r1 := KRZ.out.cell 1
                  have r2x := KRZ.out.cell 2
                  have r3 := KRZ.out.cell 3
                  have g0 := KRZ.out.frozen 0
                  have g1 := KRZ.out.frozen 1
                  have g2 := KRZ.out.frozen 2
                  have g3 := KRZ.out.frozen 3
                  simp at k0 k1 k2 k3 r0 r1 r2x r3
                  go_wp2_with fail
                  refine bodyPost_ret (v := .tuple #[.agg #[.int .i64 x.1, .string x.2.1, .slice A1 x.2.2.1.length c1, .slice A2 x.2.2.2.length c2], .bool true]) (by simp [results, Tryd.results29, go_sem, r0, r1, r2x, r3]) rfl ⟨⟨A1, c1, A2, c2, by rw [HPX2.out, HB.out], by rw [HPX2.out]; exact own_four OXZ.out, by rw [HPX2.out]; exact CX.out⟩, ?_⟩
                  exact below_four BXZ.out
                · have HB : Hid (plB s = false) := by
                    show _ = _
                    cases hq : plB s
                    · rfl
                    · exact absurd (HBT.out hq).2.2 heq
                  have HPX2 : Hid (plX s = (0, ⟨#[]⟩, [], [])) := by show _ = _; unfold plX; rw [HB.out]; rfl
                  have z2 := bneT heq
                  clear heq
                  go_wp2_with fail
                  refine (s_lineOk x A1 A2 c1 c2 _ HLNX.out LI.out HSZX.out).mono ?_
                  rintro e wy ⟨rfl, hby⟩
                  rw [HLK.out]
                  have LIY := hide (LI.out.below hby)
                  have HPY := hide (HPX.out.below hby)
                  have KXY := hide (KX.out.below hby (Blk.lt KX.out))
                  have KRY := hide (KRX.out.below hby (Blk.lt KRX.out))
                  have OXY := hide ((OX.out.belowZ hby).more (Nat.le_refl _) hby.size (Nat.le_refl _))
                  have BXY := hide (BX.out.trans (hby.mono BX.out.size))
                  clear hby k0 k1 k2 k3 r0 r1 r2x r3 g0 g1 g2 g3
                  have k0 := KXY.out.cell 0
                  have k1 := KXY.out.cell 1
                  have k2 := KXY.out.cell 2
                  have k3 := KXY.out.cell 3
                  have r0 := KRY.out.cell 0
                  have r1 := KRY.out.cell 1
                  have r2x := KRY.out.cell 2
                  have r3 := KRY.out.cell 3
                  have g0 := KRY.out.frozen 0
                  have g1 := KRY.out.frozen 1
                  have g2 := KRY.out.frozen 2
                  have g3 := KRY.out.frozen 3
                  simp at k0 k1 k2 k3 r0 r1 r2x r3
                  go_wp2_with fail
                  refine (s_formatLine x A1 A2 c1 c2 _ HLNX.out LIY.out HSZX.out HPY.out).mono ?_
                  rintro e wz ⟨rfl, hbz⟩
                  have KXZ := hide (KXY.out.below hbz (Blk.lt KXY.out))
                  have KRZ := hide (KRY.out.below hbz (Blk.lt KRY.out))
                  have OXZ := hide ((OXY.out.belowZ hbz).more (Nat.le_refl _) hbz.size (Nat.le_refl _))
                  have BXZ := hide (BXY.out.trans (hbz.mono BXY.out.size))
                  clear hbz k0 k1 k2 k3 r0 r1 r2x r3 g0 g1 g2 g3
                  have k0 := KXZ.out.cell 0
                  have k1 := KXZ.out.cell 1
                  have k2 := KXZ.out.cell 2
                  have k3 := KXZ.out.cell 3
                  have r0 := KRZ.out.cell 0
                  have r1 := KRZ.out.cell 1
                  have r2x := KRZ.out.cell 2
                  have r3 := KRZ.out.cell 3
                  have g0 := KRZ.out.frozen 0
                  have g1 := KRZ.out.frozen 1
                  have g2 := KRZ.out.frozen 2
                  have g3 := KRZ.out.frozen 3
                  simp at k0 k1 k2 k3 r0 r1 r2x r3
                  go_wp2_with fail
                  refine bodyPost_ret (v := .tuple #[.agg #[.int .i64 0, .string ⟨#[]⟩, .slice none 0 0, .slice none 0 0], .bool false]) (by simp [results, Tryd.results29, go_sem, r0, r1, r2x, r3]) rfl ⟨⟨none, 0, none, 0, by rw [HPX2.out, HB.out]; rfl, by rw [HPX2.out]; exact own_nil2 _ _ (by simp [World.setCell]; first | exact BX.out.size | exact BXZ.out.size), by rw [HPX2.out]; exact ⟨Nat.le_refl _, Nat.zero_le _, Nat.le_refl _, Nat.zero_le _⟩⟩, ?_⟩
                  first | exact below_four BXZ.out | exact below_four BX.out
        · skip
          go_upto_region 11 with fail
          go_cut [53] from 41 to 53 (fun s53 wx => s53 = .bool (plC f0 (nm :: b2 :: r3)) ∧ wx = wc)
          case first =>
            by_cases h0 : kwI f0 = 0
            · have z0 : (kwI f0 == 0) = true := by simp [h0]
              have H0 := hide h0
              clear h0
              have hpos : (0 : Int) < ((r3.length : Int) + 1 + 1) := by omega
              go_wp2_with fail
              go_meet
              refine ⟨?_, rfl⟩
              have := H0.out
              first | (simp [plC, this]; done) | (simp [plC, this]; omega)
            · have z0 : (kwI f0 == 0) = false := by simp [h0]
              have H0 := hide h0
              clear h0
              by_cases h1 : kwI f0 = 1
              · have z1 : (kwI f0 == 1) = true := by simp [h1]
                have H1 := hide h1
                clear h1
                have hpos : (0 : Int) < ((r3.length : Int) + 1 + 1) := by omega
                go_wp2_with fail
                go_meet
                refine ⟨?_, rfl⟩
                have := H1.out
                first | (simp [plC, this]; done) | (simp [plC, this]; omega)
              · have z1 : (kwI f0 == 1) = false := by simp [h1]
                have H1 := hide h1
                clear h1
                go_wp2_with fail
                go_meet
                refine ⟨?_, rfl⟩
                have h0 := H0.out
                have h1 := H1.out
                simp [plC, h0, h1]
          case rest =>
          obtain ⟨rfl, rfl⟩ := hcut
          go_upto_if 53 with fail
          go_cut [8] from 53 to 59 (fun s4 wx => ∃ A4 c4, s4 = .slice A4 (nmR (kwI f0) (nm :: b2 :: r3)).2.length c4 ∧ InRow wx A4 (nmR (kwI f0) (nm :: b2 :: r3)).2.length 1 (strCells (nmR (kwI f0) (nm :: b2 :: r3)).2) ∧ Blk wx gx 43 #[.int .i64 (kwI f0), .string (nmR (kwI f0) (nm :: b2 :: r3)).1, .slice none 0 0, .slice none 0 0] ∧ Blk wx w.heap.size 43 #[.int .i64 0, .string ⟨#[]⟩, .slice none 0 0, .slice none 0 0] ∧ Below w.heap.size w wx)
          case first =>
            cases hc : plC f0 (nm :: b2 :: r3)
            · have HNR := hide (nmR_no hc)
              clear hc
              go_wp2_with fail
              go_meet
              rw [HNR.out]
              exact ⟨_, _, rfl, R2.out.tail, K3.out, K2.out, B2.out⟩
            · have HNR := hide (nmR_yes hc)
              clear hc
              obtain ⟨b, o, e, _, q⟩ := R2.out.str 1 (by simp)
              cases e
              simp at q
              have k1 := K3.out.cell 1
              have f1 := K3.out.frozen 1
              simp at k1
              have hpos : (0 : Int) < ((r3.length : Int) + 1 + 1) := by omega
              go_wp2_with fail
              go_meet
              rw [HNR.out]
              exact ⟨_, _, rfl, InRow.far R2.out.tail.tail (p := ⟨gx, 1, none⟩) (by show g1 ≠ gx; omega) _, K3.out.set_ 1 (.string nm), K2.out.far (p := ⟨gx, 1, none⟩) (by show w.heap.size ≠ gx; omega) _, B2.out.setCell (p := ⟨gx, 1, none⟩) (by show w.heap.size ≤ gx; omega) _⟩
          case rest =>
          obtain ⟨A4, c4, rfl, hr4, hk4, hk2, hb4⟩ := hcut
          have hns := nmR_size (kwI f0) (nm :: b2 :: r3) (fun a ha => by have := HSZ.out a (by simp [ha]); omega)
          clear K2 K3 R2 B2 k0
          have B4 := hide hb4
          have K4 := hide hk4
          have KR := hide hk2
          have R4 := hide hr4
          have hgl := Blk.lt hk4
          have hlw := B4.out.size
          clear hb4 hk4 hk2 hr4
          have HL4 := hide hns.2.1
          have hl4 : (nmR (kwI f0) (nm :: b2 :: r3)).2.length ≤ 1048576 := by have := hns.2.2; have := hrl.out; omega
          clear hns
          generalize hnr : (nmR (kwI f0) (nm :: b2 :: r3)) = nr at *
          obtain ⟨nmN, l⟩ := nr
          simp only at R4 K4 HL4 hl4
          have HX := hide hx
          clear hx hnr
          have k0 := K4.out.cell 0
          have k2 := K4.out.cell 2
          have k3 := K4.out.cell 3
          have f2 := K4.out.frozen 2
          have f3 := K4.out.frozen 3
          simp at k0 k2 k3
          have HP4 := hide (HP.out.below B4.out)
          go_upto_if 62 with fail
          go_cut [] from 62 to 72 (fun wx => PlM w gx x wx)
          case first =>
            by_cases h0 : kwI f0 = 0
            · have z0 : (kwI f0 == 0) = true := by simp [h0]
              have HX1 : Hid (x = (kwI f0, nmN, l, [])) := by show _ = _; rw [HX.out]; unfold lnG1; rw [if_pos h0, if_pos h0]
              clear h0
              have O0 := hide (World.ownsRow_lit (base := wc.heap.size) (e := 9) (size := 1) wc #[] 0 (Nat.le_refl _) (Nat.zero_le _) rfl)
              have RL := hide (R4.out.below ((Below.refl _ _).alloc (Nat.le_refl _) (.cells #[] 9)))
              have KL := hide (K4.out.alloc (.cells #[] 9))
              have KRL := hide (KR.out.alloc (.cells #[] 9))
              have BL := hide (B4.out.alloc hlw (.cells #[] 9))
              clear k0 k2 k3 f2 f3
              go_wp2_with (first | (at_builtin; refine wpList_apps _ rfl (.tmp 63) (.tmp 64) _ rfl wc.heap.size 9 i0 _ 1 16 Tryd.underlying28 HI.out hz0 hz1 hz2 rfl (by decide) _ _ _ rfl O0.out A4 _ c4 (strCells l) rfl RL.out ?d1b4 ?d2b4 ?d3b4 ?d4b4 ?_) | fail)
              case d1b4 => intro u hu; obtain ⟨b, _, rfl⟩ := List.mem_map.1 hu; rfl
              case d2b4 => omega
              try case d3b4 => decide
              try case d4b4 => simp
              intro v' w5 hown5 hb5 _ _
              obtain ⟨A5, c5, hv5, hc1, hc2, ha5⟩ := Arr.of_own2 hown5
              subst hv5
              have K5 := hide (KL.out.below hb5 hgl)
              have KR5 := hide (KRL.out.below hb5 (by omega))
              have B5 := hide (BL.out.trans (hb5.mono hlw))
              have O5 := hide ha5
              have hz5 := hb5.size
              simp at hz5
              clear hown5 hb5 ha5
              have k2 := K5.out.cell 2
              have f2 := K5.out.frozen 2
              simp at k2
              go_wp2_with fail
              go_meet
              rw [HX1.out]
              refine ⟨A5, c5, none, 0, by simpa using K5.out.set_ 2 (.slice A5 (0 + l.length) c5), ?_, ⟨by simpa using hc1, hc2, Nat.le_refl _, Nat.zero_le _⟩, B5.out.setCell (p := ⟨gx, 2, none⟩) (by show w.heap.size ≤ gx; omega) _, KR5.out.far (p := ⟨gx, 2, none⟩) (by show w.heap.size ≠ gx; omega) _⟩
              have hz6 : (w5.setCell ⟨gx, 2, none⟩ (.slice A5 (0 + l.length) c5)).heap.size = w5.heap.size := by simp [World.setCell]
              have ha6 := O5.out.far (p := ⟨gx, 2, none⟩) (.inl hgl) (.slice A5 (0 + l.length) c5)
              simp only [Nat.zero_add, List.nil_append] at ha6 hz6 ⊢
              exact Own.join (a := wc.heap.size) (b := w5.heap.size) (c := w5.heap.size) (d := w5.heap.size) (Own.one ha6) (Own.one (Arr.nil_ _ _ _ _ _)) (.inl (Nat.le_refl _)) (by omega) (by omega) (by omega) (by omega) (Nat.le_refl _)
            · have z0 : (kwI f0 == 0) = false := by simp [h0]
              have HX1 : Hid (x = (kwI f0, nmN, [], peL l)) := by show _ = _; rw [HX.out]; unfold lnG1; rw [if_neg h0, if_neg h0]
              clear h0
              clear k0 k2 f2
        
              go_wp2_with fail
              refine (s_parseExpr A4 _ c4 l _ hl4 rfl R4.out HL4.out HP4.out).mono ?_
              rintro e w5 ⟨⟨v', rfl, ho5⟩, hb5⟩
              obtain ⟨A5, c5, hv5, hc1, hc2, ha5⟩ := Arr.of_own2 ho5
              subst hv5
              have K5 := hide (K4.out.below hb5 hgl)
              have KR5 := hide (KR.out.below hb5 (by omega))
              have B5 := hide (B4.out.trans (hb5.mono hlw))
              have O5 := hide ha5
              have hz5 := hb5.size
              clear ho5 hb5 ha5 k3 f3
              have k3 := K5.out.cell 3
              have f3 := K5.out.frozen 3
              simp at k3
              go_wp2_with fail
              go_meet
              rw [HX1.out]
              refine ⟨none, 0, A5, c5, K5.out.set_ 3 (.slice A5 (peL l).length c5), ?_, ⟨Nat.le_refl _, Nat.zero_le _, hc1, hc2⟩, B5.out.setCell (p := ⟨gx, 3, none⟩) (by show w.heap.size ≤ gx; omega) _, KR5.out.far (p := ⟨gx, 3, none⟩) (by show w.heap.size ≠ gx; omega) _⟩
              have hz6 : (w5.setCell ⟨gx, 3, none⟩ (.slice A5 (peL l).length c5)).heap.size = w5.heap.size := by simp [World.setCell]
              have ha6 := O5.out.far (p := ⟨gx, 3, none⟩) (.inl hgl) (.slice A5 (peL l).length c5)
              exact Own.join (a := w5.heap.size) (b := w5.heap.size) (c := wc.heap.size) (d := w5.heap.size) (Own.one (Arr.nil_ _ _ _ _ _)) (Own.one ha6) (.inr (Nat.le_refl _)) (by omega) (by omega) (by omega) (by omega) (by omega)
          case rest =>
          have HPM : Hid (PlM w gx x wc) := hcut
          clear hcut k0 k2 k3 f2 f3 K4 KR R4 B4 HP4
          obtain ⟨A1, c1, A2, c2, hk, ho, hcp, hb, hkr⟩ := HPM.out
          have KX := hide hk
          have OX := hide ho
          have CX := hide hcp
          have BX := hide hb
          have KRX := hide hkr
          have LI := hide (lnIn_of_own (p := (x, A1, c1, A2, c2)) (fun r hr => ho.rows r hr) hcp)
          have HPX := hide (HP.out.below hb)
          clear hk ho hcp hb hkr HPM
          have k0 := KX.out.cell 0
          have k1 := KX.out.cell 1
          have k2 := KX.out.cell 2
          have k3 := KX.out.cell 3
          have r0 := KRX.out.cell 0
          have r1 := KRX.out.cell 1
          have r2x := KRX.out.cell 2
          have r3 := KRX.out.cell 3
          have g0 := KRX.out.frozen 0
          have g1 := KRX.out.frozen 1
          have g2 := KRX.out.frozen 2
          have g3 := KRX.out.frozen 3
          simp at k0 k1 k2 k3 r0 r1 r2x r3
          have HBT : Hid (plB s = true → 0 ≤ x.1 ∧ lineOkF x = true ∧ fmtLnF x = s) := fun h => by
            obtain ⟨_, _, e, h1, h2, h3⟩ := pl_from_split h
            rw [← e, HXE.out] at h1 h2 h3
            exact ⟨h1, h2, h3⟩
          by_cases hneg : x.1 < 0
          · have HB : Hid (plB s = false) := by
              show _ = _
              cases hq : plB s
              · rfl
              · have := (HBT.out hq).1; omega
            have HPX2 : Hid (plX s = (0, ⟨#[]⟩, [], [])) := by show _ = _; unfold plX; rw [HB.out]; rfl
            go_wp2_with fail
            refine bodyPost_ret (v := .tuple #[.agg #[.int .i64 0, .string ⟨#[]⟩, .slice none 0 0, .slice none 0 0], .bool false]) (by simp [results, Tryd.results29, go_sem, r0, r1, r2x, r3]) rfl ⟨⟨none, 0, none, 0, by rw [HPX2.out, HB.out]; rfl, by rw [HPX2.out]; exact own_nil2 _ _ (by simp [World.setCell]; first | exact BX.out.size | exact BXZ.out.size), by rw [HPX2.out]; exact ⟨Nat.le_refl _, Nat.zero_le _, Nat.le_refl _, Nat.zero_le _⟩⟩, ?_⟩
            first | exact below_four BXZ.out | exact below_four BX.out
          · cases hlo2 : lineOkF x
            · have HB : Hid (plB s = false) := by
                show _ = _
                cases hq : plB s
                · rfl
                · have := (HBT.out hq).2.1; rw [hlo2] at this; cases this
              have HPX2 : Hid (plX s = (0, ⟨#[]⟩, [], [])) := by show _ = _; unfold plX; rw [HB.out]; rfl
              have HLK := hide hlo2
              clear hlo2
              go_wp2_with fail
              refine (s_lineOk x A1 A2 c1 c2 _ HLNX.out LI.out HSZX.out).mono ?_
              rintro e wz ⟨rfl, hbz⟩
              rw [HLK.out]
              have KXZ := hide (KX.out.below hbz (Blk.lt KX.out))
              have KRZ := hide (KRX.out.below hbz (Blk.lt KRX.out))
              have OXZ := hide ((OX.out.belowZ hbz).more (Nat.le_refl _) hbz.size (Nat.le_refl _))
              have BXZ := hide (BX.out.trans (hbz.mono BX.out.size))
              clear hbz k0 k1 k2 k3 r0 r1 r2x r3 g0 g1 g2 g3
              have k0 := KXZ.out.cell 0
              have k1 := KXZ.out.cell 1
              have k2 := KXZ.out.cell 2
              have k3 := KXZ.out.cell 3
              have r0 := KRZ.out.cell 0
              have r1 := KRZ.out.cell 1
              have r2x := KRZ.out.cell 2
              have r3 := KRZ.out.cell 3
              have g0 := KRZ.out.frozen 0
              have g1 := KRZ.out.frozen 1
              have g2 := KRZ.out.frozen 2
              have g3 := KRZ.out.frozen 3
              simp at k0 k1 k2 k3 r0 r1 r2x r3
              go_wp2_with fail
              refine bodyPost_ret (v := .tuple #[.agg #[.int .i64 0, .string ⟨#[]⟩, .slice none 0 0, .slice none 0 0], .bool false]) (by simp [results, Tryd.results29, go_sem, r0, r1, r2x, r3]) rfl ⟨⟨none, 0, none, 0, by rw [HPX2.out, HB.out]; rfl, by rw [HPX2.out]; exact own_nil2 _ _ (by simp [World.setCell]; first | exact BX.out.size | exact BXZ.out.size), by rw [HPX2.out]; exact ⟨Nat.le_refl _, Nat.zero_le _, Nat.le_refl _, Nat.zero_le _⟩⟩, ?_⟩
              first | exact below_four BXZ.out | exact below_four BX.out
            · have HLK := hide hlo2
              clear hlo2
              by_cases heq : fmtLnF x = s
              · have HPB := hide (pl_of_fields (s := s) (by rw [HW.out]; simp) (by rw [HXE.out]; exact HLK.out) (by rw [HXE.out]; exact heq))
                have HB : Hid (plB s = true) := HPB.out.1
                have HPX2 : Hid (plX s = x) := by show _ = _; unfold plX; rw [HB.out, ← HPB.out.2, HXE.out]; rfl
                have z2 := bneF heq
                clear heq
                go_wp2_with fail
                refine (s_lineOk x A1 A2 c1 c2 _ HLNX.out LI.out HSZX.out).mono ?_
                rintro e wy ⟨rfl, hby⟩
                rw [HLK.out]
                have LIY := hide (LI.out.below hby)
                have HPY := hide (HPX.out.below hby)
                have KXY := hide (KX.out.below hby (Blk.lt KX.out))
                have KRY := hide (KRX.out.below hby (Blk.lt KRX.out))
                have OXY := hide ((OX.out.belowZ hby).more (Nat.le_refl _) hby.size (Nat.le_refl _))
                have BXY := hide (BX.out.trans (hby.mono BX.out.size))
                clear hby k0 k1 k2 k3 r0 r1 r2x r3 g0 g1 g2 g3
                have k0 := KXY.out.cell 0
                have k1 := KXY.out.cell 1
                have k2 := KXY.out.cell 2
                have k3 := KXY.out.cell 3
                have r0 := KRY.out.cell 0
                have r1 := KRY.out.cell 1
                have r2x := KRY.out.cell 2
                have r3 := KRY.out.cell 3
                have g0 := KRY.out.frozen 0
                have g1 := KRY.out.frozen 1
                have g2 := KRY.out.frozen 2
                have g3 := KRY.out.frozen 3
                simp at k0 k1 k2 k3 r0 r1 r2x r3
                go_wp2_with fail
                refine (s_formatLine x A1 A2 c1 c2 _ HLNX.out LIY.out HSZX.out HPY.out).mono ?_
                rintro e wz ⟨rfl, hbz⟩
                have KXZ := hide (KXY.out.below hbz (Blk.lt KXY.out))
                have KRZ := hide (KRY.out.below hbz (Blk.lt KRY.out))
                have OXZ := hide ((OXY.out.belowZ hbz).more (Nat.le_refl _) hbz.size (Nat.le_refl _))
                have BXZ := hide (BXY.out.trans (hbz.mono BXY.out.size))
                clear hbz k0 k1 k2 k3 r0 r1 r2x r3 g0 g1 g2 g3
                have k0 := KXZ.out.cell 0
                have k1 := KXZ.out.cell 1
                have k2 := KXZ.out.cell 2
                have k3 := KXZ.out.cell 3
                have r0 := KRZ.out.cell 0
                have r1 := KRZ.out.cell 1
                have r2x := KRZ.out.cell 2
                have r3 := KRZ.out.cell 3
                have g0 := KRZ.out.frozen 0
                have g1 := KRZ.out.frozen 1
                have g2 := KRZ.out.frozen 2
                have g3 := KRZ.out.frozen 3
                simp at k0 k1 k2 k3 r0 r1 r2x r3
                go_wp2_with fail
                refine bodyPost_ret (v := .tuple #[.agg #[.int .i64 x.1, .string x.2.1, .slice A1 x.2.2.1.length c1, .slice A2 x.2.2.2.length c2], .bool true]) (by simp [results, Tryd.results29, go_sem, r0, r1, r2x, r3]) rfl ⟨⟨A1, c1, A2, c2, by rw [HPX2.out, HB.out], by rw [HPX2.out]; exact own_four OXZ.out, by rw [HPX2.out]; exact CX.out⟩, ?_⟩
                exact below_four BXZ.out
              · have HB : Hid (plB s = false) := by
                  show _ = _
                  cases hq : plB s
                  · rfl
                  · exact absurd (HBT.out hq).2.2 heq
                have HPX2 : Hid (plX s = (0, ⟨#[]⟩, [], [])) := by show _ = _; unfold plX; rw [HB.out]; rfl
                have z2 := bneT heq
                clear heq
                go_wp2_with fail
                refine (s_lineOk x A1 A2 c1 c2 _ HLNX.out LI.out HSZX.out).mono ?_
                rintro e wy ⟨rfl, hby⟩
                rw [HLK.out]
                have LIY := hide (LI.out.below hby)
                have HPY := hide (HPX.out.below hby)
                have KXY := hide (KX.out.below hby (Blk.lt KX.out))
                have KRY := hide (KRX.out.below hby (Blk.lt KRX.out))
                have OXY := hide ((OX.out.belowZ hby).more (Nat.le_refl _) hby.size (Nat.le_refl _))
                have BXY := hide (BX.out.trans (hby.mono BX.out.size))
                clear hby k0 k1 k2 k3 r0 r1 r2x r3 g0 g1 g2 g3
                have k0 := KXY.out.cell 0
                have k1 := KXY.out.cell 1
                have k2 := KXY.out.cell 2
                have k3 := KXY.out.cell 3
                have r0 := KRY.out.cell 0
                have r1 := KRY.out.cell 1
                have r2x := KRY.out.cell 2
                have r3 := KRY.out.cell 3
                have g0 := KRY.out.frozen 0
                have g1 := KRY.out.frozen 1
                have g2 := KRY.out.frozen 2
                have g3 := KRY.out.frozen 3
                simp at k0 k1 k2 k3 r0 r1 r2x r3
                go_wp2_with fail
                refine (s_formatLine x A1 A2 c1 c2 _ HLNX.out LIY.out HSZX.out HPY.out).mono ?_
                rintro e wz ⟨rfl, hbz⟩
                have KXZ := hide (KXY.out.below hbz (Blk.lt KXY.out))
                have KRZ := hide (KRY.out.below hbz (Blk.lt KRY.out))
                have OXZ := hide ((OXY.out.belowZ hbz).more (Nat.le_refl _) hbz.size (Nat.le_refl _))
                have BXZ := hide (BXY.out.trans (hbz.mono BXY.out.size))
                clear hbz k0 k1 k2 k3 r0 r1 r2x r3 g0 g1 g2 g3
                have k0 := KXZ.out.cell 0
                have k1 := KXZ.out.cell 1
                have k2 := KXZ.out.cell 2
                have k3 := KXZ.out.cell 3
                have r0 := KRZ.out.cell 0
                have r1 := KRZ.out.cell 1
                have r2x := KRZ.out.cell 2
                have r3 := KRZ.out.cell 3
                have g0 := KRZ.out.frozen 0
                have g1 := KRZ.out.frozen 1
                have g2 := KRZ.out.frozen 2
                have g3 := KRZ.out.frozen 3
                simp at k0 k1 k2 k3 r0 r1 r2x r3
                go_wp2_with fail
                refine bodyPost_ret (v := .tuple #[.agg #[.int .i64 0, .string ⟨#[]⟩, .slice none 0 0, .slice none 0 0], .bool false]) (by simp [results, Tryd.results29, go_sem, r0, r1, r2x, r3]) rfl ⟨⟨none, 0, none, 0, by rw [HPX2.out, HB.out]; rfl, by rw [HPX2.out]; exact own_nil2 _ _ (by simp [World.setCell]; first | exact BX.out.size | exact BXZ.out.size), by rw [HPX2.out]; exact ⟨Nat.le_refl _, Nat.zero_le _, Nat.le_refl _, Nat.zero_le _⟩⟩, ?_⟩
                first | exact below_four BXZ.out | exact below_four BX.out
end Go.Proofs.YteghjebbeclanaaDoor
