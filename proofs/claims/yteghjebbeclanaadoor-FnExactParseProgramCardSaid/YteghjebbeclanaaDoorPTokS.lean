import Derived.Test.YteghjebbeclanaaDoorPTokI
import Derived.Deep.CutRange
namespace Go.Proofs.YteghjebbeclanaaDoor
open Go Go.RowKit
set_option maxRecDepth 100000
/-! What the reference tries, in its order. -/
def fit (s : ByteArray) (t : Tk) : Bool := tkOk t && decide (fmtTkF t = s)
def candJ (s : ByteArray) (j : Nat) : List Tk := (1, 0, s) :: (List.range j).map fun i => (((i : Nat) : Int) + 2, 0, ⟨#[]⟩)
noncomputable def numC (s : ByteArray) : List Tk := if puB s.data.toList = true ∧ puV s.data.toList ≤ 999 then [(0, puV s.data.toList, ⟨#[]⟩)] else []
def callC (s : ByteArray) : List Tk := if 2 < s.size ∧ s.data.toList.getD (s.size - 2) 0 = 47 then [(7, ((s.data.toList.getD (s.size - 1) 0).toNat : Int) - 48, s.extract 0 (s.size - 2))] else []
noncomputable def cands (s : ByteArray) : List Tk := candJ s 5 ++ numC s ++ callC s
theorem candJ_succ (s : ByteArray) (j : Nat) : candJ s (j + 1) = candJ s j ++ [((j : Int) + 2, 0, ⟨#[]⟩)] := by
  unfold candJ
  rw [List.range_succ, List.map_append]
  rfl
theorem candJ_length (s : ByteArray) (j : Nat) : (candJ s j).length = j + 1 := by simp [candJ]
theorem tokCells_snoc (l : List Tk) (t : Tk) : tokCells (l ++ [t]) = tokCells l ++ [.int .i64 t.1, .int .i64 t.2.1, .string t.2.2] := by
  unfold tokCells
  rw [List.flatMap_append]
  rfl
theorem callC_length (s : ByteArray) : (callC s).length ≤ 1 := by unfold callC; split <;> simp
theorem cands_size (s : ByteArray) (hs : s.size ≤ maxLen) : ∀ t ∈ cands s, t.2.2.size ≤ maxLen := by
  intro t ht
  unfold cands candJ numC callC at ht
  rcases List.mem_append.1 ht with ht | ht
  · rcases List.mem_append.1 ht with ht | ht
    · rcases List.mem_cons.1 ht with rfl | ht
      · exact hs
      · obtain ⟨i, _, rfl⟩ := List.mem_map.1 ht; exact Nat.zero_le _
    · split at ht
      · rw [List.mem_singleton.1 ht]; exact Nat.zero_le _
      · cases ht
  · split at ht
    · rw [List.mem_singleton.1 ht]
      show (s.extract 0 (s.size - 2)).size ≤ maxLen
      rw [ByteArray.size_extract]; omega
    · cases ht
set_option maxHeartbeats 2000000 in
theorem s_parseTok (s : ByteArray) (hs : s.size ≤ 1048576) (w : World) (hp : PowIs w) :
    Calls Tryd.prog 9 #[.string s] w fun e w' => e = .returned (ptV ((cands s).find? (fit s))) ∧ Below w.heap.size w w' := by
  obtain ⟨i0, hi, hz0, hz1, hz2⟩ := info_parts Tryd.infoTok
  have HP := hide hp
  have HI := hide hi
  clear hp hi
  have hsm : s.size ≤ maxLen := by unfold maxLen; omega
  go_enter Tryd.func9, Tryd.ntmps9
  go_wp2_with fail
  go_loopw [4, 5] (fun v i wr => ∃ j : Nat, j ≤ 5 ∧ i = .int .i64 ((j : Int) + 2) ∧ wr.ownsRow (w.heap.size + 1) 23 3 v (j + 1) (tokCells (candJ s j)) ∧ Blk wr w.heap.size 23 #[.int .i64 0, .int .i64 0, .string ⟨#[]⟩] ∧ Below w.heap.size w wr) (fun _ i _ => 7 - (intOf i).toNat)
  case atStart =>
    refine ⟨0, Nat.zero_le _, rfl, ?_, (Blk.new w _ _).alloc _, ((Below.refl _ _).alloc (Nat.le_refl _) _).alloc (by simp) _⟩
    have := World.ownsRow_lit (w.alloc (.cells #[.int .i64 0, .int .i64 0, .string ⟨#[]⟩] 23)) #[.int .i64 1, .int .i64 0, .string s] 1 (base := w.heap.size + 1) (size := 3) (e := 23) (by simp) (by decide) rfl
    simpa [tokCells, tokC, candJ] using this
  case round =>
    obtain ⟨j, hj, rfl, hown, hk, hb⟩ := hrel
    have HO := hide hown
    have HK := hide hk
    have HB := hide hb
    clear hown hk hb
    by_cases hlt : j < 5
    · have hst : Hid (tokCells (candJ s (j + 1)) = tokCells (candJ s j) ++ [.int .i64 ((j : Int) + 2), .int .i64 0, .string ⟨#[]⟩]) := by
        show _ = _
        rw [candJ_succ, tokCells_snoc]
      go_wp2_with (first | (at_builtin; refine wpList_app _ rfl (.tmp 16) (.tmp 19) _ rfl (w.heap.size + 1) 23 i0 _ 3 32 Tryd.underlying30 HI.out hz0 hz1 hz2 rfl (by decide) u4 _ _ rfl HO.out 1 [.int .i64 ((j : Int) + 2), .int .i64 0, .string ⟨#[]⟩] rfl ?c1 ?c2 ?c3 ?c4 ?c5 ?_) | fail)
      try case c1 => rfl
      try case c2 => intro u hu; simp at hu; rcases hu with rfl | rfl | rfl <;> rfl
      try case c3 => omega
      try case c4 => decide
      try case c5 => exact Blk.lt HK.out
      intro v' w3 hown3 hb3 _ _
      rw [← hst.out] at hown3
      have HO3 := hide hown3
      have HB3 := hide (HB.out.trans (hb3.mono (Nat.le_succ _)))
      have HK3 := hide (HK.out.below hb3 (Nat.lt_succ_self _))
      clear hown3 hb3
      go_wp2_with fail
      go_roundw
      case rel => exact ⟨j + 1, by omega, by go_num, HO3.out, HK3.out, HB3.out⟩
      case measure => simp [intOf]; omega
    · obtain rfl : j = 5 := by omega
      go_wp2_with fail
      refine (s_parseUint s hsm _).mono ?_
      rintro e w4 ⟨rfl, hb4⟩
      have HO4 := hide (own_belowZ HO.out hb4)
      have HK4 := hide (HK.out.below hb4 (Blk.lt HK.out))
      have HB4 := hide (HB.out.trans (hb4.mono HB.out.size))
      clear hb4 HO HK HB
      have HN : Hid (numC s = if puB s.data.toList = true ∧ puV s.data.toList ≤ 999 then [(0, puV s.data.toList, ⟨#[]⟩)] else []) := rfl
      have hun := puV_range s.data.toList
      generalize puB s.data.toList = u at *
      generalize puV s.data.toList = un at *
      go_upto_region 7 with fail
      go_cut [30] from 21 to 30 (fun s30 wx => s30 = .bool (u && decide (un ≤ 999)) ∧ wx = w4)
      case first =>
        cases u
        · go_wp2_with fail
          go_meet
          exact ⟨rfl, rfl⟩
        · go_wp2_with fail
          go_meet
          exact ⟨by simp, rfl⟩
      case rest =>
      obtain ⟨rfl, rfl⟩ := hcut
      go_upto_if 30 with fail
      go_cut [4] from 21 to 35 (fun s4 wx => wx.ownsRow (w.heap.size + 1) 23 3 s4 (candJ s 5 ++ numC s).length (tokCells (candJ s 5 ++ numC s)) ∧ Blk wx w.heap.size 23 #[.int .i64 0, .int .i64 0, .string ⟨#[]⟩] ∧ Below w.heap.size w wx)
      case first =>
        cases hu : (u && decide (un ≤ 999))
        · have hnc : numC s = [] := by rw [HN.out, if_neg (fun h => by simp [h.1, h.2] at hu)]
          have HNC := hide hnc
          clear hu hnc
          go_wp2_with fail
          go_meet
          rw [HNC.out, List.append_nil, candJ_length]
          exact ⟨HO4.out, HK4.out, HB4.out⟩
        · have hnc : numC s = [(0, un, ⟨#[]⟩)] := by rw [HN.out, if_pos (by simpa using hu)]
          have HNC := hide hnc
          have hst : Hid (tokCells (candJ s 5 ++ [(0, un, ⟨#[]⟩)]) = tokCells (candJ s 5) ++ [.int .i64 0, .int .i64 un, .string ⟨#[]⟩]) := tokCells_snoc _ _
          clear hu hnc
          go_wp2_with (first | (at_builtin; refine wpList_app _ rfl (.tmp 31) (.tmp 34) _ rfl (w.heap.size + 1) 23 i0 _ 3 32 Tryd.underlying30 HI.out hz0 hz1 hz2 rfl (by decide) u4 _ _ rfl HO4.out 1 [.int .i64 0, .int .i64 un, .string ⟨#[]⟩] rfl ?d1 ?d2 ?d3 ?d4 ?d5 ?_) | fail)
          try case d1 => rfl
          try case d2 => intro u hu; simp at hu; rcases hu with rfl | rfl | rfl <;> rfl
          try case d3 => omega
          try case d4 => decide
          try case d5 => exact Blk.lt HK4.out
          intro v' w5 hown5 hb5 _ _
          rw [← hst.out] at hown5
          have HO5 := hide hown5
          have HB5 := hide (HB4.out.trans (hb5.mono (Nat.le_succ _)))
          have HK5 := hide (HK4.out.below hb5 (Nat.lt_succ_self _))
          clear hown5 hb5
          go_wp2_with fail
          go_meet
          rw [HNC.out, List.length_append, candJ_length]
          exact ⟨HO5.out, HK5.out, HB5.out⟩
      case rest =>
      obtain ⟨ho6, hk6, hb6⟩ := hcut
      have HO6 := hide ho6
      have HK6 := hide hk6
      have HB6 := hide hb6
      have hl6 : (candJ s 5 ++ numC s).length ≤ 7 := by
        rw [List.length_append, candJ_length, HN.out]
        split <;> simp
      clear ho6 hk6 hb6 HO4 HK4 HB4
      generalize hL6 : candJ s 5 ++ numC s = L6 at *
      go_upto_region 9 with fail
      go_cut [46] from 36 to 46 (fun s46 wx => s46 = .bool (decide (2 < s.size ∧ s.data.toList.getD (s.size - 2) 0 = 47)) ∧ wx = wc)
      case first =>
        by_cases h2 : 2 < s.size
        · obtain ⟨q, hq⟩ : ∃ q : Nat, s.size = q + 2 := ⟨s.size - 2, by omega⟩
          have hqs : q < s.size := by omega
          have hq2 : (s.size : Int) - 2 = (q : Int) := by omega
          have hg : s.data.toList.getD (s.size - 2) 0 = s[q] := by
            rw [show s.size - 2 = q by omega, List.getD_eq_getElem?_getD, List.getElem?_eq_getElem (show q < s.data.toList.length from hqs)]
            rfl
          have HG := hide hg
          have h2' : decide (2 < s.size) = true := decide_eq_true h2
          have HQ := hide hq
          clear hg hq
          go_wp2_with fail
          go_meet
          refine ⟨?_, rfl⟩
          rw [HG.out]
          congr 1
          by_cases h47 : s[q] = 47
          · simp [h2, h47]
          · have : ¬ ((s[q].toNat : Nat) : Int) = 47 := fun e => h47 (UInt8.toNat_inj.1 (by show s[q].toNat = 47; omega))
            simp [h47, this]
        · have h2' : decide (2 < s.size) = false := decide_eq_false h2
          go_wp2_with fail
          go_meet
          exact ⟨by simp [h2], rfl⟩
      case rest =>
      obtain ⟨rfl, hwc⟩ := hcut
      subst hwc
      go_upto_if 46 with fail
      go_cut [4] from 36 to 62 (fun s4 wx => wx.ownsRow (w.heap.size + 1) 23 3 s4 (L6 ++ callC s).length (tokCells (L6 ++ callC s)) ∧ Blk wx w.heap.size 23 #[.int .i64 0, .int .i64 0, .string ⟨#[]⟩] ∧ Below w.heap.size w wx)
      case first =>
        by_cases hc : 2 < s.size ∧ s.data.toList.getD (s.size - 2) 0 = 47
        · simp only [decide_eq_true hc]
          obtain ⟨q, hq⟩ : ∃ q : Nat, s.size = q + 2 := ⟨s.size - 2, by omega⟩
          have hqs : q + 1 < s.size := by omega
          have hd : s.data.toList.getD (s.size - 1) 0 = s[q + 1] := by
            rw [show s.size - 1 = q + 1 by omega, List.getD_eq_getElem?_getD, List.getElem?_eq_getElem (show q + 1 < s.data.toList.length from hqs)]
            rfl
          have hcc : callC s = [(7, (s[q + 1].toNat : Int) - 48, s.extract 0 q)] := by
            unfold callC
            rw [if_pos hc, hd, show s.size - 2 = q by omega]
          have HCC := hide hcc
          have hb8 := s[q + 1].toNat_lt
          have hw1 : IntKind.i64.wrap ((q : Int) + 2 - 1) = ((q + 1 : Nat) : Int) := by rw [show (q : Int) + 2 - 1 = ((q + 1 : Nat) : Int) by omega]; exact IntWalk.i64_in _ (by omega)
          have hw2 : IntKind.i64.wrap (q : Int) = (q : Int) := IntWalk.i64_in _ (by omega)
          have hq0 : (0 : Int) ≤ (q : Int) + 1 := by omega
          have hq1 : (q : Int) ≤ (q : Int) + 2 := by omega
          have hw4 : IntKind.i64.wrap ((s[q + 1].toNat : Nat) : Int) = (s[q + 1].toNat : Int) := IntWalk.i64_in _ (by omega)
          have hw3 : IntKind.i64.wrap ((s[q + 1].toNat : Int) - 48) = (s[q + 1].toNat : Int) - 48 := IntWalk.i64_in _ (by omega)
          clear hc hd hcc
          have hst : Hid (tokCells (L6 ++ [(7, (s[q + 1].toNat : Int) - 48, s.extract 0 q)]) = tokCells L6 ++ [.int .i64 7, .int .i64 ((s[q + 1].toNat : Int) - 48), .string (s.extract 0 q)]) := tokCells_snoc _ _
          have hlt6 : L6.length ≤ 7 := hl6
          go_wp2_with fail
          go_region_law (refine step_app wc.drew rfl (.tmp 47) (.tmp 61) _ rfl (w.heap.size + 1) 23 i0 _ 3 32 Tryd.underlying30 HI.out hz0 hz1 hz2 rfl (by decide) u4 _ _ rfl HO6.out 1 [.int .i64 7, .int .i64 ((s[q + 1].toNat : Int) - 48), .string (s.extract 0 q)] rfl rfl (by intro u hu; simp at hu; rcases hu with rfl | rfl | rfl <;> rfl) (by omega) (by decide) (Blk.lt HK6.out) ?_; intro v' w7 hown7 hb7 _ _)
          all_goals
            have HO7 := hide hown7
            have HB7 := hide (HB6.out.drew.trans (hb7.mono (Nat.le_succ _)))
            have HK7 := hide (HK6.out.drew.below hb7 (Nat.lt_succ_self _))
            clear hown7 hb7
            go_wp2_with fail
            go_meet
            rw [HCC.out, hst.out, List.length_append]
            first | exact ⟨HO7.out, HK7.out, HB7.out⟩ | exact ⟨by have := HO7.out; rwa [← hL6, List.length_append, candJ_length, HN.out] at this ⊢, HK7.out, HB7.out⟩
        · have hcc : callC s = [] := by unfold callC; rw [if_neg hc]
          simp only [decide_eq_false hc]
          have HCC := hide hcc
          clear hc hcc
          go_wp2_with fail
          go_meet
          rw [HCC.out, List.append_nil]
          have hlen := HO6.out.1
          rw [tokCells_length] at hlen
          exact ⟨by have := HO6.out; rwa [← hL6, List.length_append, candJ_length, HN.out] at this ⊢, HK6.out, HB6.out⟩
      case rest =>
      obtain ⟨ho7, hk7, hb7⟩ := hcut
      have hcl : (cands s).length ≤ 8 := by
        have := callC_length s
        unfold cands
        rw [hL6, List.length_append]; omega
      have hcs := cands_size s hsm
      have hL : L6 ++ callC s = cands s := by unfold cands; rw [hL6]
      rw [hL] at ho7
      have HK7 := hide hk7
      have HB7 := hide hb7
      obtain ⟨A', c', hv, hnc, ha⟩ := Arr.of_own ho7
      subst hv
      have HA := hide (InRow.of_arr ha)
      clear ho7 hk7 hb7 ha hL HO6 HK6 HB6 HN hL6
      generalize hC : cands s = C at *
      have HC := hide hC
      clear hC
      go_wp2_with fail
      go_loopw [8] (fun i wr => ∃ k : Nat, k ≤ C.length ∧ i = .int .i64 k ∧ C.find? (fit s) = (C.drop k).find? (fit s) ∧ Below wc.heap.size wc wr) (fun i _ => C.length - (intOf i).toNat)
      case atStart => exact ⟨0, Nat.zero_le _, rfl, by simp, Below.refl _ _⟩
      case round =>
        obtain ⟨k, hk, rfl, hf, hb⟩ := hrel
        have HB8 := hide (HB7.out.trans (hb.mono HB7.out.size))
        have HK8 := hide (HK7.out.below hb (Blk.lt HK7.out))
        have R := hide (HA.out.below hb)
        have HW := hide hb
        have HF := hide hf
        clear hb hf
        by_cases hlt : k < C.length
        · obtain ⟨b, o, rfl, hbl, c0, c1, c2⟩ := R.out.tok k hlt
          have hsz := hcs _ (List.getElem_mem hlt)
          have hdr : C.find? (fit s) = (C[k] :: C.drop (k + 1)).find? (fit s) := by rw [HF.out, List.drop_eq_getElem_cons hlt]
          have HD := hide hdr
          clear hdr
          generalize ht : C[k] = t at *
          obtain ⟨tk, tn, tz⟩ := t
          go_wp2_with fail
          refine (s_tokOk tk tn tz hsz _).mono ?_
          rintro e w8 ⟨rfl, hb8⟩
          have HB9 := hide (HB8.out.trans (hb8.mono HB8.out.size))
          have HK9 := hide (HK8.out.below hb8 (Blk.lt HK8.out))
          have R9 := hide (R.out.below hb8)
          have HW9 := hide (HW.out.trans (hb8.mono HW.out.size))
          clear hb8 c0 c1 c2 HB8 HK8 R HW
          cases hok : tokOkF tk tn tz.data.toList
          · have HN : Hid (C.find? (fit s) = (C.drop (k + 1)).find? (fit s)) := by
              show _ = _
              rw [HD.out, List.find?_cons]
              have : fit s (tk, tn, tz) = false := by unfold fit tkOk; rw [hok]; rfl
              rw [this]
            clear hok HD
            go_wp2_with fail
            go_roundw
            case rel => exact ⟨k + 1, by omega, by go_num, HN.out, HW9.out⟩
            case measure => simp [intOf]; omega
          · obtain ⟨b', o', he, hbl', c0, c1, c2⟩ := R9.out.tok k hlt
            cases he
            simp only [ht] at c0 c1 c2
            have hok' : tkOk (tk, tn, tz) = true := hok
            have HOK := hide hok'
            clear hok hok'
            go_wp2_with fail
            refine (s_formatTok tk tn tz hsz _ (HP.out.below HB9.out)).mono ?_
            rintro e w10 ⟨rfl, hb10⟩
            have HB10 := hide (HB9.out.trans (hb10.mono HB9.out.size))
            have HK10 := hide (HK9.out.below hb10 (Blk.lt HK9.out))
            have R10 := hide (R9.out.below hb10)
            have HW10 := hide (HW9.out.trans (hb10.mono HW9.out.size))
            clear hb10 c0 c1 c2
            by_cases heq : fmtTkF (tk, tn, tz) = s
            · have HN : Hid (C.find? (fit s) = some (tk, tn, tz)) := by
                show _ = _
                rw [HD.out, List.find?_cons]
                have : fit s (tk, tn, tz) = true := by unfold fit; rw [HOK.out, decide_eq_true heq]; rfl
                rw [this]
              obtain ⟨b', o', he, hbl', c0, c1, c2⟩ := R10.out.tok k hlt
              cases he
              simp only [ht] at c0 c1 c2
              have hz1' := beqT heq
              generalize fmtTkF (tk, tn, tz) = z at *
              have k0 := HK10.out.cell 0
              have k1 := HK10.out.cell 1
              have k2 := HK10.out.cell 2
              have f0 := HK10.out.frozen 0
              have f1 := HK10.out.frozen 1
              have f2 := HK10.out.frozen 2
              simp at k0 k1 k2
              clear heq
              go_wp2_with fail
              refine bodyPost_ret (v := .tuple #[.agg #[.int .i64 tk, .int .i64 tn, .string tz], .bool true]) (by simp [results, Tryd.results9, go_sem, k0, k1, k2]) rfl ⟨by rw [HC.out, HN.out]; rfl, ?_⟩
              repeat (first | (with_reducible exact HB10.out) | refine Below.setCell ?_ (by first | exact Nat.le_refl _ | (simp; done) | (simp; omega) | omega) _)
            · have HN : Hid (C.find? (fit s) = (C.drop (k + 1)).find? (fit s)) := by
                show _ = _
                rw [HD.out, List.find?_cons]
                have : fit s (tk, tn, tz) = false := by unfold fit; rw [HOK.out, decide_eq_false heq]; rfl
                rw [this]
              have hz1' := beqF heq
              generalize fmtTkF (tk, tn, tz) = z at *
              clear heq
              go_wp2_with fail
              go_roundw
              case rel => exact ⟨k + 1, by omega, by go_num, HN.out, HW10.out⟩
              case measure => simp [intOf]; omega
        · have HN : Hid (C.find? (fit s) = none) := by
            show _ = _
            rw [HF.out, List.drop_of_length_le (by omega)]; rfl
          have k0 := HK8.out.cell 0
          have k1 := HK8.out.cell 1
          have k2 := HK8.out.cell 2
          have f0 := HK8.out.frozen 0
          have f1 := HK8.out.frozen 1
          have f2 := HK8.out.frozen 2
          simp at k0 k1 k2
          go_wp2_with fail
          refine bodyPost_ret (v := .tuple #[.agg #[.int .i64 0, .int .i64 0, .string ⟨#[]⟩], .bool false]) (by simp [results, Tryd.results9, go_sem, k0, k1, k2]) rfl ⟨by rw [HC.out, HN.out]; rfl, ?_⟩
          repeat (first | (with_reducible exact HB8.out) | refine Below.setCell ?_ (by first | exact Nat.le_refl _ | (simp; done) | (simp; omega) | omega) _)
end Go.Proofs.YteghjebbeclanaaDoor
