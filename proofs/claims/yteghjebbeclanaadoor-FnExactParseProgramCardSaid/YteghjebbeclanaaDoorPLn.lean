import Derived.Test.YteghjebbeclanaaDoorPLn0
namespace Go.Proofs.YteghjebbeclanaaDoor
open Go Go.RowKit
set_option maxRecDepth 100000
set_option linter.unusedSimpArgs false
set_option linter.unnecessarySimpa false
theorem kws_row {w : World} {g : Nat} (hg : g < w.heap.size) (hc : ∀ j : Nat, j < 8 → w.cell? ⟨g, j, none⟩ = some (.string (kw j))) : InRow w (some ⟨g, 0, none⟩) 8 1 (strCells kws) :=
  ⟨rfl, fun _ => ⟨g, 0, rfl, hg, fun j hj => by rw [Nat.zero_add, hc j (by omega), kws_at j (by omega)]⟩⟩
def PlRet (s : ByteArray) (w : World) (e : Ending) (w' : World) : Prop := ∃ A1 c1 A2 c2, e = .returned (.tuple #[.agg #[.int .i64 (plX s).1, .string (plX s).2.1, .slice A1 (plX s).2.2.1.length c1, .slice A2 (plX s).2.2.2.length c2], .bool (plB s)]) ∧ Own w' w.heap.size w'.heap.size (lnRows (plX s, A1, c1, A2, c2)) ∧ lnCap (plX s, A1, c1, A2, c2)
theorem InRow.far {w : World} {b o n size : Nat} {xs : List Value} (h : InRow w (some ⟨b, o, none⟩) n size xs) {p : Addr} (hp : b ≠ p.block) (u : Value) : InRow (w.setCell p u) (some ⟨b, o, none⟩) n size xs :=
  ⟨h.1, fun hn => by
    obtain ⟨b', o', e, hl, hc⟩ := h.2 hn
    cases e
    exact ⟨b, o, rfl, by simpa [World.setCell] using hl, fun j hj => (World.cell?_setCell_other _ _ _ _ (fun e => hp (by rw [e]))).trans (hc j hj)⟩⟩
def PlS (w : World) (w0 : ByteArray) (rest : List ByteArray) (wx : World) : Prop := Below w.heap.size w wx ∧ Blk wx w.heap.size 43 #[.int .i64 0, .string ⟨#[]⟩, .slice none 0 0, .slice none 0 0] ∧ InRow wx (some ⟨w.heap.size + 1, 0, none⟩) (rest.length + 1) 1 (strCells (w0 :: rest)) ∧ w.heap.size + 1 < wx.heap.size
theorem PlS.below {w wx wy : World} {w0 : ByteArray} {rest : List ByteArray} (h : PlS w w0 rest wx) (hb : Below wx.heap.size wx wy) : PlS w w0 rest wy :=
  ⟨h.1.trans (hb.mono h.1.size), h.2.1.below hb h.2.1.lt, h.2.2.1.below hb, Nat.lt_of_lt_of_le h.2.2.2 hb.size⟩
theorem PlS.drew {w wx : World} {w0 : ByteArray} {rest : List ByteArray} (h : PlS w w0 rest wx) : PlS w w0 rest wx.drew := h.below (Below.refl _ _).drew
theorem PlS.alloc {w wx : World} {w0 : ByteArray} {rest : List ByteArray} (h : PlS w w0 rest wx) (o : Obj) : PlS w w0 rest (wx.alloc o) := h.below ((Below.refl _ _).alloc (Nat.le_refl _) o)
theorem PlS.head {w wx : World} {w0 : ByteArray} {rest : List ByteArray} (h : PlS w w0 rest wx) : wx.cell? ⟨w.heap.size + 1, 0, none⟩ = some (.string w0) := by
  obtain ⟨_, _, eb, _, q⟩ := h.2.2.1.str 0 (by simp)
  cases eb
  simpa using q
theorem own_nil2 (w : World) (lo : Nat) (h1 : lo ≤ w.heap.size) : Own w lo w.heap.size (lnRows ((0, ⟨#[]⟩, [], []), none, 0, none, 0)) :=
  Own.join (a := lo) (b := lo) (c := lo) (d := lo) (Own.one (Arr.nil_ _ _ _ _ _)) (Own.one (Arr.nil_ _ _ _ _ _)) (.inl (Nat.le_refl _)) (Nat.le_refl _) h1 (Nat.le_refl _) h1 (Nat.le_refl _)
theorem own_four {w wz : World} {rs : List Rw} {a b c d : Value} (h : Own wz (w.heap.size + 1) wz.heap.size rs) :
    Own ((((wz.setCell ⟨w.heap.size, 0, none⟩ a).setCell ⟨w.heap.size, 1, none⟩ b).setCell ⟨w.heap.size, 2, none⟩ c).setCell ⟨w.heap.size, 3, none⟩ d) w.heap.size ((((wz.setCell ⟨w.heap.size, 0, none⟩ a).setCell ⟨w.heap.size, 1, none⟩ b).setCell ⟨w.heap.size, 2, none⟩ c).setCell ⟨w.heap.size, 3, none⟩ d).heap.size rs := by
  have W : Within w.heap.size (w.heap.size + 1) wz ((((wz.setCell ⟨w.heap.size, 0, none⟩ a).setCell ⟨w.heap.size, 1, none⟩ b).setCell ⟨w.heap.size, 2, none⟩ c).setCell ⟨w.heap.size, 3, none⟩ d) :=
    (((Within.setCell _ (p := ⟨w.heap.size, 0, none⟩) (Nat.le_refl _) (Nat.lt_succ_self _) _).trans (Within.setCell _ (p := ⟨w.heap.size, 1, none⟩) (Nat.le_refl _) (Nat.lt_succ_self _) _)).trans (Within.setCell _ (p := ⟨w.heap.size, 2, none⟩) (Nat.le_refl _) (Nat.lt_succ_self _) _)).trans (Within.setCell _ (p := ⟨w.heap.size, 3, none⟩) (Nat.le_refl _) (Nat.lt_succ_self _) _)
  have h2 := h.within W (.inr (Nat.le_refl _))
  exact h2.more (Nat.le_succ _) (by simp [World.setCell]) (Nat.le_refl _)
theorem below_four {w wz : World} {a b c d : Value} (h : Below w.heap.size w wz) : Below w.heap.size w ((((wz.setCell ⟨w.heap.size, 0, none⟩ a).setCell ⟨w.heap.size, 1, none⟩ b).setCell ⟨w.heap.size, 2, none⟩ c).setCell ⟨w.heap.size, 3, none⟩ d) :=
  (((h.setCell (p := ⟨w.heap.size, 0, none⟩) (Nat.le_refl _) _).setCell (p := ⟨w.heap.size, 1, none⟩) (Nat.le_refl _) _).setCell (p := ⟨w.heap.size, 2, none⟩) (Nat.le_refl _) _).setCell (p := ⟨w.heap.size, 3, none⟩) (Nat.le_refl _) _
def PlM (w : World) (gx : Nat) (x : Ln) (wx : World) : Prop := ∃ A1 c1 A2 c2, Blk wx gx 43 #[.int .i64 x.1, .string x.2.1, .slice A1 x.2.2.1.length c1, .slice A2 x.2.2.2.length c2] ∧ Own wx (w.heap.size + 1) wx.heap.size (lnRows (x, A1, c1, A2, c2)) ∧ lnCap (x, A1, c1, A2, c2) ∧ Below w.heap.size w wx ∧ Blk wx w.heap.size 43 #[.int .i64 0, .string ⟨#[]⟩, .slice none 0 0, .slice none 0 0]
theorem InRow.tail {w : World} {b o n : Nat} {x : Value} {xs : List Value} (h : InRow w (some ⟨b, o, none⟩) (n + 1) 1 (x :: xs)) : InRow w (some ⟨b, o + 1, none⟩) n 1 xs :=
  ⟨by have := h.1; simp at this ⊢; omega, fun hn => by
    obtain ⟨b', o', e, hl, hc⟩ := h.2 (by omega)
    cases e
    exact ⟨b, o + 1, rfl, hl, fun j hj => by have := hc (j + 1) (by omega); rw [show o + 1 + j = o + (j + 1) by omega]; simpa using this⟩⟩
theorem Arr.of_own2 {w : World} {base e size n : Nat} {v : Value} {xs : List Value} (h : w.ownsRow base e size v n xs) : ∃ A c, v = .slice A n c ∧ n ≤ c ∧ c ≤ maxLen ∧ Arr w base w.heap.size A n size xs := by
  rcases h.2 with ⟨rfl, rfl⟩ | ⟨g, cap, cur, rfl, hb, hh, hnc, hcm, hcs, htake⟩
  · exact ⟨none, 0, rfl, Nat.le_refl _, Nat.zero_le _, h.1, fun hn => by omega⟩
  · refine ⟨some ⟨g, 0, none⟩, cap, rfl, hnc, hcm, h.1, fun hn => ⟨g, rfl, hb, ?_, Nat.le_refl _, fun j hj => ⟨h.cellAt j hj, h.frozenAt j⟩⟩⟩
    exact (h.lt g rfl).2
def plC (w0 : ByteArray) (rest : List ByteArray) : Bool := (decide (kwI w0 = 0) || decide (kwI w0 = 1)) && !rest.isEmpty
theorem nmR_no {w0 : ByteArray} {rest : List ByteArray} (h : plC w0 rest = false) : nmR (kwI w0) rest = (⟨#[]⟩, rest) := by
  unfold nmR
  rw [if_neg]
  rintro ⟨h1, h2⟩
  unfold plC at h
  cases rest with
  | nil => exact h2 rfl
  | cons a l => simp at h; omega
theorem plC_cons {w0 : ByteArray} {rest : List ByteArray} (h : plC w0 rest = true) : ∃ nm r2, rest = nm :: r2 := by
  unfold plC at h
  cases rest with
  | nil => simp at h
  | cons a l => exact ⟨a, l, rfl⟩
theorem nmR_yes {w0 nm : ByteArray} {r2 : List ByteArray} (h : plC w0 (nm :: r2) = true) : nmR (kwI w0) (nm :: r2) = (nm, r2) := by
  unfold nmR
  rw [if_pos ⟨by unfold plC at h; simpa using h, by simp⟩]; rfl
set_option maxHeartbeats 4000000 in
theorem i_parseLine (s : ByteArray) (hs : s.size ≤ 1048576) (w : World) (hp : PowIs w) (hmx : MaxIs w) :
    Calls Tryd.prog 30 #[.string s] w fun e w' => PlRet s w e w' ∧ Below w.heap.size w w' := by
  obtain ⟨i0, hi, hz0, hz1, hz2⟩ := info_parts Tryd.infoStr
  have HI := hide hi
  have HP := hide hp
  have HM := hide hmx
  clear hp hmx hi
  obtain ⟨m, hm⟩ := HM.out
  have hm0 : 0 < w.heap.size := block_lt_of_cell hm
  have hm1 := hide ((World.cell?_alloc_lt w (.cells #[.int .i64 0, .string ⟨#[]⟩, .slice none 0 0, .slice none 0 0] 43) ⟨0, 0, none⟩ hm0).trans hm)
  have hcnt := splW_cnt s
  have hlen := splW_len s
  have hrow : Hid (InRow ((w.alloc (.cells #[.int .i64 0, .string ⟨#[]⟩, .slice none 0 0, .slice none 0 0] 43)).alloc (.cells ((splW s).map Value.string).toArray 9)) (some ⟨w.heap.size + 1, 0, none⟩) (Lib.countB s ⟨#[32]⟩ + 1) 1 (strCells (splW s))) := by
    refine ⟨by rw [strCells_length, hlen, Nat.mul_one], fun _ => ⟨w.heap.size + 1, 0, rfl, by simp, fun j hj => ?_⟩⟩
    have hB := Blk.new (w.alloc (.cells #[.int .i64 0, .string ⟨#[]⟩, .slice none 0 0, .slice none 0 0] 43)) 9 ((splW s).map Value.string).toArray
    rw [show (w.alloc (.cells #[.int .i64 0, .string ⟨#[]⟩, .slice none 0 0, .slice none 0 0] 43)).heap.size = w.heap.size + 1 by simp] at hB
    rw [Nat.zero_add, hB.cell j]
    simp [strCells]
  have KR : Hid (Blk ((w.alloc (.cells #[.int .i64 0, .string ⟨#[]⟩, .slice none 0 0, .slice none 0 0] 43)).alloc (.cells ((splW s).map Value.string).toArray 9)) w.heap.size 43 #[.int .i64 0, .string ⟨#[]⟩, .slice none 0 0, .slice none 0 0]) := (Blk.new w _ _).alloc _
  have B1 := hide (((Below.refl w.heap.size w).alloc (Nat.le_refl _) (.cells #[.int .i64 0, .string ⟨#[]⟩, .slice none 0 0, .slice none 0 0] 43)).alloc (by simp) (.cells ((splW s).map Value.string).toArray 9))
  obtain ⟨w0, rest, hW⟩ : ∃ w0 rest, splW s = w0 :: rest := by
    cases h : splW s with
    | nil => rw [h] at hlen; simp at hlen
    | cons a l => exact ⟨a, l, rfl⟩
  have HG : Hid (lnG (splW s) = lnG1 (kwI w0) (nmR (kwI w0) rest)) := by show _ = _; rw [hW]; rfl
  have hsz := splW_size s
  rw [hW] at hsz
  have HSZ := hide hsz
  clear hsz
  have hcr : Lib.countB s ⟨#[32]⟩ = rest.length := by rw [hW] at hlen; simpa using hlen.symm
  go_enter Tryd.func30, Tryd.ntmps30
  go_wp2_with fail
  refine (Tryd.strings_Split s ⟨#[32]⟩ m _ (by omega) hm1.out (by decide)).mono ?_
  rintro e w1 ⟨rfl, rfl⟩
  rw [show Lib.splitB ⟨#[32]⟩ 0 (Lib.countB s ⟨#[32]⟩) s = splW s from rfl, hcr]
  rw [hcr] at hrow
  rw [hW] at hrow KR B1
  rw [hW]
  have HWS := hide hW
  have hrl : Hid (rest.length ≤ 1048576) := by show _ ≤ _; omega
  clear hlen hW hcr hm hm0
  generalize hW1 : ((w.alloc (.cells #[.int .i64 0, .string ⟨#[]⟩, .slice none 0 0, .slice none 0 0] 43)).alloc (.cells ((w0 :: rest).map Value.string).toArray 9)) = w1 at *
  clear hW1
  have hsz1 : w.heap.size + 1 < w1.heap.size := by obtain ⟨_, _, eb, h, _⟩ := hrow.out.str 0 (by simp); cases eb; exact h
  have P1 : Hid (PlS w w0 rest w1) := ⟨B1.out, KR.out, hrow.out, hsz1⟩
  have r0 := P1.out.head
  have hb0 : True := trivial
  clear hrow KR B1
  go_upto_region 2 with fail
  go_cut [5] from 8 to 13 (fun s5 wx => ∃ gx, s5 = .pointer (some ⟨gx, 0, none⟩) ∧ w.heap.size + 1 < gx ∧ Below w.heap.size w wx ∧ Blk wx w.heap.size 43 #[.int .i64 0, .string ⟨#[]⟩, .slice none 0 0, .slice none 0 0] ∧ Blk wx gx 43 #[.int .i64 (kwI w0), .string ⟨#[]⟩, .slice none 0 0, .slice none 0 0] ∧ InRow wx (some ⟨w.heap.size + 1, 0, none⟩) (rest.length + 1) 1 (strCells (w0 :: rest)))
  case first =>
    go_region_with (first | (go_at_call 63; refine (i_lineWords _).mono ?_; rintro e w2 ⟨⟨g, rfl, hg, hc⟩, hb2⟩; have P2 : Hid (PlS w w0 rest w2) := (by first | exact P1.out.below hb2 | exact P1.out.drew.below hb2 | exact (P1.out.alloc _).below hb2 | exact (P1.out.alloc _).drew.below hb2 | exact (P1.out.drew.alloc _).below hb2 | exact P1.out.drew.drew.below hb2); have KW := hide (kws_row hg hc); have r2 := P2.out.head; have hw2 := P2.out.2.2.2; try (have K5 : Blk w2 w1.heap.size 43 #[.int .i64 0, .string ⟨#[]⟩, .slice none 0 0, .slice none 0 0] := (by first | exact (Blk.new w1 _ _).below hb2 (by simp) | exact (Blk.new w1 _ _).drew.below hb2 (by simp)); have k50 := K5.cell 0; have k51 := K5.cell 1; have k52 := K5.cell 2; have k53 := K5.cell 3; have f50 := K5.frozen 0; have f51 := K5.frozen 1; have f52 := K5.frozen 2; have f53 := K5.frozen 3; simp at k50 k51 k52 k53; have K5h := hide K5; clear K5); clear hc) | (go_at_call 62; refine (i_index _ _ _ kws w0 _ (by decide) (by first | exact KW.out | exact KW.out.below (Below.refl _ _).drew | exact KW.out.below ((Below.refl _ _).alloc (Nat.le_refl _) _) | exact (KW.out.below ((Below.refl _ _).alloc (Nat.le_refl _) _)).below (Below.refl _ _).drew | exact (KW.out.below (Below.refl _ _).drew).below ((Below.refl _ _).alloc (Nat.le_refl _) _))).mono ?_; rintro e w' ⟨rfl, rfl⟩))
    all_goals
      go_wp2_with fail
      go_meet
      have hsp := P2.out.2.2.2
      first
      | (refine ⟨w2.heap.size, rfl, hsp, ?_, ?_, ?_, ?_⟩
         · repeat (first | exact P2.out.1 | refine Below.alloc ?_ P2.out.1.size _ | refine Below.drew ?_)
         · repeat (first | exact P2.out.2.1 | refine Blk.alloc ?_ _ | refine Blk.drew ?_)
         · first | exact Blk.new w2 _ _ | exact (Blk.new w2 _ _).drew
         · first | exact (P2.out.alloc _).2.2.1 | exact (P2.out.alloc _).drew.2.2.1)
      | (refine ⟨w1.heap.size, rfl, hsz1, ?_, ?_, ?_, ?_⟩
         · repeat (first | exact P2.out.1 | refine Below.setCell ?_ (by show w.heap.size ≤ w1.heap.size; omega) _ | refine Below.drew ?_)
         · repeat (first | exact P2.out.2.1 | refine Blk.far ?_ (by show w.heap.size ≠ w1.heap.size; omega) _ | refine Blk.drew ?_)
         · first
           | (have := (((K5h.out.set_ 0 (.int .i64 (idxF kws w0))).set_ 1 (.string ⟨#[]⟩)).set_ 2 (.slice none 0 0)).set_ 3 (.slice none 0 0); exact this)
           | (have := ((((K5h.out.set_ 0 (.int .i64 (idxF kws w0))).set_ 1 (.string ⟨#[]⟩)).set_ 2 (.slice none 0 0)).set_ 3 (.slice none 0 0)).drew; exact this)
         · repeat (first | exact P2.out.2.2.1 | refine InRow.far ?_ (by show w.heap.size + 1 ≠ w1.heap.size; omega) _ | refine InRow.below ?_ (Below.refl _ _).drew))
  case rest =>
    obtain ⟨gx, rfl, hgx, hb2, hk2, hk3, hr2⟩ := hcut
    have B2 := hide hb2
    have K2 := hide hk2
    have K3 := hide hk3
    have R2 := hide hr2
    have hgl := Blk.lt hk3
    have hlw := B2.out.size
    have k0 := K3.out.cell 0
    simp at k0
    clear hb2 hk2 hk3 hr2 P1 r0 hsz1 hb0
    obtain ⟨x, hx⟩ : ∃ x, x = lnG1 (kwI w0) (nmR (kwI w0) rest) := ⟨_, rfl⟩
    have HXE := hide (HG.out.trans hx.symm)
    have hsx := lnG1_sz (kwI w0) rest (fun a ha => by have := HSZ.out a (by simp [ha]); omega) hrl.out
    rw [← hx] at hsx
    have HSZX := hide hsx.1
    have HLNX := hide hsx.2
    clear hsx
    rcases rest with _ | ⟨nm, _ | ⟨b2, r3⟩⟩
    · skip
      go_upto_region 4 with fail
      go_cut [28] from 16 to 28 (fun s28 wx => s28 = .bool (plC w0 []) ∧ wx = wc)
      case first =>
        by_cases h0 : kwI w0 = 0
        · have z0 : (kwI w0 == 0) = true := by simp [h0]
          have H0 := hide h0
          clear h0
          skip
          go_wp2_with fail
          go_meet
          refine ⟨?_, rfl⟩
          have := H0.out
          first | (simp [plC, this]; done) | (simp [plC, this]; omega)
        · have z0 : (kwI w0 == 0) = false := by simp [h0]
          have H0 := hide h0
          clear h0
          by_cases h1 : kwI w0 = 1
          · have z1 : (kwI w0 == 1) = true := by simp [h1]
            have H1 := hide h1
            clear h1
            skip
            go_wp2_with fail
            go_meet
            refine ⟨?_, rfl⟩
            have := H1.out
            first | (simp [plC, this]; done) | (simp [plC, this]; omega)
          · have z1 : (kwI w0 == 1) = false := by simp [h1]
            have H1 := hide h1
            clear h1
            go_wp2_with fail
            go_meet
            refine ⟨?_, rfl⟩
            have h0 := H0.out
            have h1 := H1.out
            simp [plC, h0, h1]
      case rest =>
      obtain ⟨rfl, rfl⟩ := hcut
      go_upto_if 28 with fail
      go_cut [4] from 28 to 34 (fun s4 wx => ∃ A4 c4, s4 = .slice A4 (nmR (kwI w0) []).2.length c4 ∧ InRow wx A4 (nmR (kwI w0) []).2.length 1 (strCells (nmR (kwI w0) []).2) ∧ Blk wx gx 43 #[.int .i64 (kwI w0), .string (nmR (kwI w0) []).1, .slice none 0 0, .slice none 0 0] ∧ Blk wx w.heap.size 43 #[.int .i64 0, .string ⟨#[]⟩, .slice none 0 0, .slice none 0 0] ∧ Below w.heap.size w wx)
      case first =>
        have hc : plC w0 [] = false := by simp [plC]
        have HNR := hide (nmR_no hc)
        rw [hc]
        clear hc
        go_wp2_with fail
        go_meet
        rw [HNR.out]
        exact ⟨_, _, rfl, InRow.nil_ _ _ _, K3.out, K2.out, B2.out⟩
      case rest =>
      obtain ⟨A4, c4, rfl, hr4, hk4, hk2, hb4⟩ := hcut
      have hns := nmR_size (kwI w0) [] (fun a ha => by have := HSZ.out a (by simp [ha]); omega)
      clear K2 K3 R2 B2 k0
      have B4 := hide hb4
      have K4 := hide hk4
      have KR := hide hk2
      have R4 := hide hr4
      have hgl := Blk.lt hk4
      have hlw := B4.out.size
      clear hb4 hk4 hk2 hr4
      have HL4 := hide hns.2.1
      have hl4 : (nmR (kwI w0) []).2.length ≤ 1048576 := by have := hns.2.2; have := hrl.out; omega
      clear hns
      generalize hnr : (nmR (kwI w0) []) = nr at *
      obtain ⟨nmN, l⟩ := nr
      simp only at R4 K4 HL4 hl4
      have HX := hide hx
      clear hx hnr
      have k0 := K4.out.cell 0
      have k2 := K4.out.cell 2
      have k3 := K4.out.cell 3
      have f2 := K4.out.frozen 2
      have f3 := K4.out.frozen 3
      simp at k0 k2 k3
      have HP4 := hide (HP.out.below B4.out)
      have HM4 := hide (HM.out.below B4.out)
      go_upto_if 37 with fail
      go_cut [] from 37 to 50 (fun wx => PlM w gx x wx)
      case first =>
        by_cases h0 : kwI w0 = 0
        · have z0 : (kwI w0 == 0) = true := by simp [h0]
          have HX1 : Hid (x = (kwI w0, nmN, l, [])) := by show _ = _; rw [HX.out]; unfold lnG1; rw [if_pos h0, if_pos h0]
          clear h0
          have O0 := hide (World.ownsRow_lit (base := wc.heap.size) (e := 9) (size := 1) wc #[] 0 (Nat.le_refl _) (Nat.zero_le _) rfl)
          have RL := hide (R4.out.below ((Below.refl _ _).alloc (Nat.le_refl _) (.cells #[] 9)))
          have KL := hide (K4.out.alloc (.cells #[] 9))
          have KRL := hide (KR.out.alloc (.cells #[] 9))
          have BL := hide (B4.out.alloc hlw (.cells #[] 9))
          clear k0 k2 k3 f2 f3
          go_wp2_with (first | (at_builtin; refine wpList_apps _ rfl (.tmp 38) (.tmp 39) _ rfl wc.heap.size 9 i0 _ 1 16 Tryd.underlying28 HI.out hz0 hz1 hz2 rfl (by decide) _ _ _ rfl O0.out A4 _ c4 (strCells l) rfl RL.out ?d1b0 ?d2b0 ?d3b0 ?d4b0 ?_) | fail)
          case d1b0 => intro u hu; obtain ⟨b, _, rfl⟩ := List.mem_map.1 hu; rfl
          case d2b0 => omega
          try case d3b0 => decide
          try case d4b0 => simp
          intro v' w5 hown5 hb5 _ _
          obtain ⟨A5, c5, hv5, hc1, hc2, ha5⟩ := Arr.of_own2 hown5
          subst hv5
          have K5 := hide (KL.out.below hb5 hgl)
          have KR5 := hide (KRL.out.below hb5 (by omega))
          have B5 := hide (BL.out.trans (hb5.mono hlw))
          have O5 := hide ha5
          have hz5 := hb5.size
          simp at hz5
          clear hown5 hb5 ha5
          have k2 := K5.out.cell 2
          have f2 := K5.out.frozen 2
          simp at k2
          go_wp2_with fail
          go_meet
          rw [HX1.out]
          refine ⟨A5, c5, none, 0, by simpa using K5.out.set_ 2 (.slice A5 (0 + l.length) c5), ?_, ⟨by simpa using hc1, hc2, Nat.le_refl _, Nat.zero_le _⟩, B5.out.setCell (p := ⟨gx, 2, none⟩) (by show w.heap.size ≤ gx; omega) _, KR5.out.far (p := ⟨gx, 2, none⟩) (by show w.heap.size ≠ gx; omega) _⟩
          have hz6 : (w5.setCell ⟨gx, 2, none⟩ (.slice A5 (0 + l.length) c5)).heap.size = w5.heap.size := by simp [World.setCell]
          have ha6 := O5.out.far (p := ⟨gx, 2, none⟩) (.inl hgl) (.slice A5 (0 + l.length) c5)
          simp only [Nat.zero_add, List.nil_append] at ha6 hz6 ⊢
          exact Own.join (a := wc.heap.size) (b := w5.heap.size) (c := w5.heap.size) (d := w5.heap.size) (Own.one ha6) (Own.one (Arr.nil_ _ _ _ _ _)) (.inl (Nat.le_refl _)) (by omega) (by omega) (by omega) (by omega) (Nat.le_refl _)
        · have z0 : (kwI w0 == 0) = false := by simp [h0]
          have HX1 : Hid (x = (kwI w0, nmN, [], peL l)) := by show _ = _; rw [HX.out]; unfold lnG1; rw [if_neg h0, if_neg h0]
          clear h0
          rcases l with _ | ⟨a0, l⟩
          · go_wp2_with fail
            go_meet
            rw [HX1.out, peL_nil]
            exact ⟨none, 0, none, 0, K4.out, (Own.join (a := w.heap.size + 1) (b := w.heap.size + 1) (c := w.heap.size + 1) (d := w.heap.size + 1) (Own.one (Arr.nil_ _ _ _ _ _)) (Own.one (Arr.nil_ _ _ _ _ _)) (.inl (Nat.le_refl _)) (Nat.le_refl _) (by omega) (Nat.le_refl _) (by omega) (Nat.le_refl _)), ⟨Nat.le_refl _, Nat.zero_le _, Nat.le_refl _, Nat.zero_le _⟩, B4.out, KR.out⟩
          · have hpos : (0 : Int) < ((l.length : Int) + 1) := by omega
            obtain ⟨L, hLL⟩ : ∃ L, L = a0 :: l := ⟨_, rfl⟩
            have hLn : L.length = l.length + 1 := by rw [hLL]; rfl
            rw [← hLL] at HX1 HL4 R4
            have R4' := R4.out
            simp only [List.length_cons] at R4' hl4
            have R5 := hide R4'
            clear hLL R4 R4'
            clear k0 k2 f2
            go_wp2_with fail
            refine (i_parseExpr A4 _ c4 L _ hl4 hLn (show InRow wc A4 (l.length + 1) 1 (strCells L) by rw [← hLn]; exact R5.out) HL4.out HP4.out HM4.out).mono ?_
            rintro e w5 ⟨⟨v', rfl, ho5⟩, hb5⟩
            obtain ⟨A5, c5, hv5, hc1, hc2, ha5⟩ := Arr.of_own2 ho5
            subst hv5
            have K5 := hide (K4.out.below hb5 hgl)
            have KR5 := hide (KR.out.below hb5 (by omega))
            have B5 := hide (B4.out.trans (hb5.mono hlw))
            have O5 := hide ha5
            have hz5 := hb5.size
            clear ho5 hb5 ha5 k3 f3
            have k3 := K5.out.cell 3
            have f3 := K5.out.frozen 3
            simp at k3
            go_wp2_with fail
            go_meet
            rw [HX1.out]
            refine ⟨none, 0, A5, c5, K5.out.set_ 3 (.slice A5 (peL L).length c5), ?_, ⟨Nat.le_refl _, Nat.zero_le _, hc1, hc2⟩, B5.out.setCell (p := ⟨gx, 3, none⟩) (by show w.heap.size ≤ gx; omega) _, KR5.out.far (p := ⟨gx, 3, none⟩) (by show w.heap.size ≠ gx; omega) _⟩
            have hz6 : (w5.setCell ⟨gx, 3, none⟩ (.slice A5 (peL L).length c5)).heap.size = w5.heap.size := by simp [World.setCell]
            have ha6 := O5.out.far (p := ⟨gx, 3, none⟩) (.inl hgl) (.slice A5 (peL L).length c5)
            exact Own.join (a := w5.heap.size) (b := w5.heap.size) (c := wc.heap.size) (d := w5.heap.size) (Own.one (Arr.nil_ _ _ _ _ _)) (Own.one ha6) (.inr (Nat.le_refl _)) (by omega) (by omega) (by omega) (by omega) (by omega)
      case rest =>
      have HPM : Hid (PlM w gx x wc) := hcut
      clear hcut k0 k2 k3 f2 f3 K4 KR R4 B4 HP4 HM4
      obtain ⟨A1, c1, A2, c2, hk, ho, hcp, hb, hkr⟩ := HPM.out
      have KX := hide hk
      have OX := hide ho
      have CX := hide hcp
      have BX := hide hb
      have KRX := hide hkr
      have LI := hide (lnIn_of_own (p := (x, A1, c1, A2, c2)) (fun r hr => ho.rows r hr) hcp)
      have HPX := hide (HP.out.below hb)
      clear hk ho hcp hb hkr HPM
      have k0 := KX.out.cell 0
      have k1 := KX.out.cell 1
      have k2 := KX.out.cell 2
      have k3 := KX.out.cell 3
      have r0 := KRX.out.cell 0
      have r1 := KRX.out.cell 1
      have r2x := KRX.out.cell 2
      have r3 := KRX.out.cell 3
      have g0 := KRX.out.frozen 0
      have g1 := KRX.out.frozen 1
      have g2 := KRX.out.frozen 2
      have g3 := KRX.out.frozen 3
      simp at k0 k1 k2 k3 r0 r1 r2x r3
      by_cases hse : s = ⟨#[]⟩
      · have z : s.toList.isEmpty = true := toList_e2 hse
        have HB : Hid (plB s = false) := yes_not (fun h => h.1 hse)
        have HPX2 : Hid (plX s = (0, ⟨#[]⟩, [], [])) := by show _ = _; unfold plX; rw [HB.out]; rfl
        clear hse
        go_wp2_with fail
        refine bodyPost_ret (v := .tuple #[.agg #[.int .i64 0, .string ⟨#[]⟩, .slice none 0 0, .slice none 0 0], .bool false]) (by simp [results, Tryd.results30, go_sem, r0, r1, r2x, r3]) rfl ⟨⟨none, 0, none, 0, by rw [HPX2.out, HB.out]; rfl, by rw [HPX2.out]; exact own_nil2 _ _ (by simp [World.setCell]; first | exact BX.out.size | exact BXZ.out.size), by rw [HPX2.out]; exact ⟨Nat.le_refl _, Nat.zero_le _, Nat.le_refl _, Nat.zero_le _⟩⟩, ?_⟩
        first | exact below_four BXZ.out | exact below_four BX.out
      · have z : s.toList.isEmpty = false := toList_ne hse
        by_cases heq : fmtLnF x = s
        · have HB : Hid (plB s = true) := yes_of ⟨hse, by rw [HXE.out]; exact heq⟩
          have HPX2 : Hid (plX s = x) := by show _ = _; unfold plX; rw [HB.out, HXE.out]; rfl
          have z2 := bneF heq
          clear hse heq
          go_wp2_with fail
          refine (i_formatLine x A1 A2 c1 c2 _ HLNX.out LI.out HSZX.out HPX.out).mono ?_
          rintro e wz ⟨rfl, hbz⟩
          have KXZ := hide (KX.out.below hbz (Blk.lt KX.out))
          have KRZ := hide (KRX.out.below hbz (Blk.lt KRX.out))
          have OXZ := hide ((OX.out.belowZ hbz).more (Nat.le_refl _) hbz.size (Nat.le_refl _))
          have BXZ := hide (BX.out.trans (hbz.mono BX.out.size))
          clear hbz k0 k1 k2 k3 r0 r1 r2x r3 g0 g1 g2 g3
          have k0 := KXZ.out.cell 0
          have k1 := KXZ.out.cell 1
          have k2 := KXZ.out.cell 2
          have k3 := KXZ.out.cell 3
          have r0 := KRZ.out.cell 0
          have r1 := KRZ.out.cell 1
          have r2x := KRZ.out.cell 2
          have r3 := KRZ.out.cell 3
          have g0 := KRZ.out.frozen 0
          have g1 := KRZ.out.frozen 1
          have g2 := KRZ.out.frozen 2
          have g3 := KRZ.out.frozen 3
          simp at k0 k1 k2 k3 r0 r1 r2x r3
          go_wp2_with fail
          refine bodyPost_ret (v := .tuple #[.agg #[.int .i64 x.1, .string x.2.1, .slice A1 x.2.2.1.length c1, .slice A2 x.2.2.2.length c2], .bool true]) (by simp [results, Tryd.results30, go_sem, r0, r1, r2x, r3]) rfl ⟨⟨A1, c1, A2, c2, by rw [HPX2.out, HB.out], by rw [HPX2.out]; exact own_four OXZ.out, by rw [HPX2.out]; exact CX.out⟩, ?_⟩
          exact below_four BXZ.out
        · have HB : Hid (plB s = false) := yes_not (fun h => heq (by have := h.2; rwa [HXE.out] at this))
          have HPX2 : Hid (plX s = (0, ⟨#[]⟩, [], [])) := by show _ = _; unfold plX; rw [HB.out]; rfl
          have z2 := bneT heq
          clear hse heq
          go_wp2_with fail
          refine (i_formatLine x A1 A2 c1 c2 _ HLNX.out LI.out HSZX.out HPX.out).mono ?_
          rintro e wz ⟨rfl, hbz⟩
          have KXZ := hide (KX.out.below hbz (Blk.lt KX.out))
          have KRZ := hide (KRX.out.below hbz (Blk.lt KRX.out))
          have OXZ := hide ((OX.out.belowZ hbz).more (Nat.le_refl _) hbz.size (Nat.le_refl _))
          have BXZ := hide (BX.out.trans (hbz.mono BX.out.size))
          clear hbz k0 k1 k2 k3 r0 r1 r2x r3 g0 g1 g2 g3
          have k0 := KXZ.out.cell 0
          have k1 := KXZ.out.cell 1
          have k2 := KXZ.out.cell 2
          have k3 := KXZ.out.cell 3
          have r0 := KRZ.out.cell 0
          have r1 := KRZ.out.cell 1
          have r2x := KRZ.out.cell 2
          have r3 := KRZ.out.cell 3
          have g0 := KRZ.out.frozen 0
          have g1 := KRZ.out.frozen 1
          have g2 := KRZ.out.frozen 2
          have g3 := KRZ.out.frozen 3
          simp at k0 k1 k2 k3 r0 r1 r2x r3
          go_wp2_with fail
          refine bodyPost_ret (v := .tuple #[.agg #[.int .i64 0, .string ⟨#[]⟩, .slice none 0 0, .slice none 0 0], .bool false]) (by simp [results, Tryd.results30, go_sem, r0, r1, r2x, r3]) rfl ⟨⟨none, 0, none, 0, by rw [HPX2.out, HB.out]; rfl, by rw [HPX2.out]; exact own_nil2 _ _ (by simp [World.setCell]; first | exact BX.out.size | exact BXZ.out.size), by rw [HPX2.out]; exact ⟨Nat.le_refl _, Nat.zero_le _, Nat.le_refl _, Nat.zero_le _⟩⟩, ?_⟩
          first | exact below_four BXZ.out | exact below_four BX.out
    · skip
      go_upto_region 4 with fail
      go_cut [28] from 16 to 28 (fun s28 wx => s28 = .bool (plC w0 [nm]) ∧ wx = wc)
      case first =>
        by_cases h0 : kwI w0 = 0
        · have z0 : (kwI w0 == 0) = true := by simp [h0]
          have H0 := hide h0
          clear h0
          skip
          go_wp2_with fail
          go_meet
          refine ⟨?_, rfl⟩
          have := H0.out
          first | (simp [plC, this]; done) | (simp [plC, this]; omega)
        · have z0 : (kwI w0 == 0) = false := by simp [h0]
          have H0 := hide h0
          clear h0
          by_cases h1 : kwI w0 = 1
          · have z1 : (kwI w0 == 1) = true := by simp [h1]
            have H1 := hide h1
            clear h1
            skip
            go_wp2_with fail
            go_meet
            refine ⟨?_, rfl⟩
            have := H1.out
            first | (simp [plC, this]; done) | (simp [plC, this]; omega)
          · have z1 : (kwI w0 == 1) = false := by simp [h1]
            have H1 := hide h1
            clear h1
            go_wp2_with fail
            go_meet
            refine ⟨?_, rfl⟩
            have h0 := H0.out
            have h1 := H1.out
            simp [plC, h0, h1]
      case rest =>
      obtain ⟨rfl, rfl⟩ := hcut
      go_upto_if 28 with fail
      go_cut [4] from 28 to 34 (fun s4 wx => ∃ A4 c4, s4 = .slice A4 (nmR (kwI w0) [nm]).2.length c4 ∧ InRow wx A4 (nmR (kwI w0) [nm]).2.length 1 (strCells (nmR (kwI w0) [nm]).2) ∧ Blk wx gx 43 #[.int .i64 (kwI w0), .string (nmR (kwI w0) [nm]).1, .slice none 0 0, .slice none 0 0] ∧ Blk wx w.heap.size 43 #[.int .i64 0, .string ⟨#[]⟩, .slice none 0 0, .slice none 0 0] ∧ Below w.heap.size w wx)
      case first =>
        cases hc : plC w0 [nm]
        · have HNR := hide (nmR_no hc)
          clear hc
          go_wp2_with fail
          go_meet
          rw [HNR.out]
          exact ⟨_, _, rfl, R2.out.tail, K3.out, K2.out, B2.out⟩
        · have HNR := hide (nmR_yes hc)
          clear hc
          obtain ⟨b, o, e, _, q⟩ := R2.out.str 1 (by simp)
          cases e
          simp at q
          have k1 := K3.out.cell 1
          have f1 := K3.out.frozen 1
          simp at k1
          go_wp2_with fail
          go_meet
          rw [HNR.out]
          exact ⟨_, _, rfl, InRow.nil_ _ _ _, K3.out.set_ 1 (.string nm), K2.out.far (p := ⟨gx, 1, none⟩) (by show w.heap.size ≠ gx; omega) _, B2.out.setCell (p := ⟨gx, 1, none⟩) (by show w.heap.size ≤ gx; omega) _⟩
      case rest =>
      obtain ⟨A4, c4, rfl, hr4, hk4, hk2, hb4⟩ := hcut
      have hns := nmR_size (kwI w0) [nm] (fun a ha => by have := HSZ.out a (by simp [ha]); omega)
      clear K2 K3 R2 B2 k0
      have B4 := hide hb4
      have K4 := hide hk4
      have KR := hide hk2
      have R4 := hide hr4
      have hgl := Blk.lt hk4
      have hlw := B4.out.size
      clear hb4 hk4 hk2 hr4
      have HL4 := hide hns.2.1
      have hl4 : (nmR (kwI w0) [nm]).2.length ≤ 1048576 := by have := hns.2.2; have := hrl.out; omega
      clear hns
      generalize hnr : (nmR (kwI w0) [nm]) = nr at *
      obtain ⟨nmN, l⟩ := nr
      simp only at R4 K4 HL4 hl4
      have HX := hide hx
      clear hx hnr
      have k0 := K4.out.cell 0
      have k2 := K4.out.cell 2
      have k3 := K4.out.cell 3
      have f2 := K4.out.frozen 2
      have f3 := K4.out.frozen 3
      simp at k0 k2 k3
      have HP4 := hide (HP.out.below B4.out)
      have HM4 := hide (HM.out.below B4.out)
      go_upto_if 37 with fail
      go_cut [] from 37 to 50 (fun wx => PlM w gx x wx)
      case first =>
        by_cases h0 : kwI w0 = 0
        · have z0 : (kwI w0 == 0) = true := by simp [h0]
          have HX1 : Hid (x = (kwI w0, nmN, l, [])) := by show _ = _; rw [HX.out]; unfold lnG1; rw [if_pos h0, if_pos h0]
          clear h0
          have O0 := hide (World.ownsRow_lit (base := wc.heap.size) (e := 9) (size := 1) wc #[] 0 (Nat.le_refl _) (Nat.zero_le _) rfl)
          have RL := hide (R4.out.below ((Below.refl _ _).alloc (Nat.le_refl _) (.cells #[] 9)))
          have KL := hide (K4.out.alloc (.cells #[] 9))
          have KRL := hide (KR.out.alloc (.cells #[] 9))
          have BL := hide (B4.out.alloc hlw (.cells #[] 9))
          clear k0 k2 k3 f2 f3
          go_wp2_with (first | (at_builtin; refine wpList_apps _ rfl (.tmp 38) (.tmp 39) _ rfl wc.heap.size 9 i0 _ 1 16 Tryd.underlying28 HI.out hz0 hz1 hz2 rfl (by decide) _ _ _ rfl O0.out A4 _ c4 (strCells l) rfl RL.out ?d1b1 ?d2b1 ?d3b1 ?d4b1 ?_) | fail)
          case d1b1 => intro u hu; obtain ⟨b, _, rfl⟩ := List.mem_map.1 hu; rfl
          case d2b1 => omega
          try case d3b1 => decide
          try case d4b1 => simp
          intro v' w5 hown5 hb5 _ _
          obtain ⟨A5, c5, hv5, hc1, hc2, ha5⟩ := Arr.of_own2 hown5
          subst hv5
          have K5 := hide (KL.out.below hb5 hgl)
          have KR5 := hide (KRL.out.below hb5 (by omega))
          have B5 := hide (BL.out.trans (hb5.mono hlw))
          have O5 := hide ha5
          have hz5 := hb5.size
          simp at hz5
          clear hown5 hb5 ha5
          have k2 := K5.out.cell 2
          have f2 := K5.out.frozen 2
          simp at k2
          go_wp2_with fail
          go_meet
          rw [HX1.out]
          refine ⟨A5, c5, none, 0, by simpa using K5.out.set_ 2 (.slice A5 (0 + l.length) c5), ?_, ⟨by simpa using hc1, hc2, Nat.le_refl _, Nat.zero_le _⟩, B5.out.setCell (p := ⟨gx, 2, none⟩) (by show w.heap.size ≤ gx; omega) _, KR5.out.far (p := ⟨gx, 2, none⟩) (by show w.heap.size ≠ gx; omega) _⟩
          have hz6 : (w5.setCell ⟨gx, 2, none⟩ (.slice A5 (0 + l.length) c5)).heap.size = w5.heap.size := by simp [World.setCell]
          have ha6 := O5.out.far (p := ⟨gx, 2, none⟩) (.inl hgl) (.slice A5 (0 + l.length) c5)
          simp only [Nat.zero_add, List.nil_append] at ha6 hz6 ⊢
          exact Own.join (a := wc.heap.size) (b := w5.heap.size) (c := w5.heap.size) (d := w5.heap.size) (Own.one ha6) (Own.one (Arr.nil_ _ _ _ _ _)) (.inl (Nat.le_refl _)) (by omega) (by omega) (by omega) (by omega) (Nat.le_refl _)
        · have z0 : (kwI w0 == 0) = false := by simp [h0]
          have HX1 : Hid (x = (kwI w0, nmN, [], peL l)) := by show _ = _; rw [HX.out]; unfold lnG1; rw [if_neg h0, if_neg h0]
          clear h0
          rcases l with _ | ⟨a0, l⟩
          · go_wp2_with fail
            go_meet
            rw [HX1.out, peL_nil]
            exact ⟨none, 0, none, 0, K4.out, (Own.join (a := w.heap.size + 1) (b := w.heap.size + 1) (c := w.heap.size + 1) (d := w.heap.size + 1) (Own.one (Arr.nil_ _ _ _ _ _)) (Own.one (Arr.nil_ _ _ _ _ _)) (.inl (Nat.le_refl _)) (Nat.le_refl _) (by omega) (Nat.le_refl _) (by omega) (Nat.le_refl _)), ⟨Nat.le_refl _, Nat.zero_le _, Nat.le_refl _, Nat.zero_le _⟩, B4.out, KR.out⟩
          · have hpos : (0 : Int) < ((l.length : Int) + 1) := by omega
            obtain ⟨L, hLL⟩ : ∃ L, L = a0 :: l := ⟨_, rfl⟩
            have hLn : L.length = l.length + 1 := by rw [hLL]; rfl
            rw [← hLL] at HX1 HL4 R4
            have R4' := R4.out
            simp only [List.length_cons] at R4' hl4
            have R5 := hide R4'
            clear hLL R4 R4'
            clear k0 k2 f2
            go_wp2_with fail
            refine (i_parseExpr A4 _ c4 L _ hl4 hLn (show InRow wc A4 (l.length + 1) 1 (strCells L) by rw [← hLn]; exact R5.out) HL4.out HP4.out HM4.out).mono ?_
            rintro e w5 ⟨⟨v', rfl, ho5⟩, hb5⟩
            obtain ⟨A5, c5, hv5, hc1, hc2, ha5⟩ := Arr.of_own2 ho5
            subst hv5
            have K5 := hide (K4.out.below hb5 hgl)
            have KR5 := hide (KR.out.below hb5 (by omega))
            have B5 := hide (B4.out.trans (hb5.mono hlw))
            have O5 := hide ha5
            have hz5 := hb5.size
            clear ho5 hb5 ha5 k3 f3
            have k3 := K5.out.cell 3
            have f3 := K5.out.frozen 3
            simp at k3
            go_wp2_with fail
            go_meet
            rw [HX1.out]
            refine ⟨none, 0, A5, c5, K5.out.set_ 3 (.slice A5 (peL L).length c5), ?_, ⟨Nat.le_refl _, Nat.zero_le _, hc1, hc2⟩, B5.out.setCell (p := ⟨gx, 3, none⟩) (by show w.heap.size ≤ gx; omega) _, KR5.out.far (p := ⟨gx, 3, none⟩) (by show w.heap.size ≠ gx; omega) _⟩
            have hz6 : (w5.setCell ⟨gx, 3, none⟩ (.slice A5 (peL L).length c5)).heap.size = w5.heap.size := by simp [World.setCell]
            have ha6 := O5.out.far (p := ⟨gx, 3, none⟩) (.inl hgl) (.slice A5 (peL L).length c5)
            exact Own.join (a := w5.heap.size) (b := w5.heap.size) (c := wc.heap.size) (d := w5.heap.size) (Own.one (Arr.nil_ _ _ _ _ _)) (Own.one ha6) (.inr (Nat.le_refl _)) (by omega) (by omega) (by omega) (by omega) (by omega)
      case rest =>
      have HPM : Hid (PlM w gx x wc) := hcut
      clear hcut k0 k2 k3 f2 f3 K4 KR R4 B4 HP4 HM4
      obtain ⟨A1, c1, A2, c2, hk, ho, hcp, hb, hkr⟩ := HPM.out
      have KX := hide hk
      have OX := hide ho
      have CX := hide hcp
      have BX := hide hb
      have KRX := hide hkr
      have LI := hide (lnIn_of_own (p := (x, A1, c1, A2, c2)) (fun r hr => ho.rows r hr) hcp)
      have HPX := hide (HP.out.below hb)
      clear hk ho hcp hb hkr HPM
      have k0 := KX.out.cell 0
      have k1 := KX.out.cell 1
      have k2 := KX.out.cell 2
      have k3 := KX.out.cell 3
      have r0 := KRX.out.cell 0
      have r1 := KRX.out.cell 1
      have r2x := KRX.out.cell 2
      have r3 := KRX.out.cell 3
      have g0 := KRX.out.frozen 0
      have g1 := KRX.out.frozen 1
      have g2 := KRX.out.frozen 2
      have g3 := KRX.out.frozen 3
      simp at k0 k1 k2 k3 r0 r1 r2x r3
      by_cases hse : s = ⟨#[]⟩
      · have z : s.toList.isEmpty = true := toList_e2 hse
        have HB : Hid (plB s = false) := yes_not (fun h => h.1 hse)
        have HPX2 : Hid (plX s = (0, ⟨#[]⟩, [], [])) := by show _ = _; unfold plX; rw [HB.out]; rfl
        clear hse
        go_wp2_with fail
        refine bodyPost_ret (v := .tuple #[.agg #[.int .i64 0, .string ⟨#[]⟩, .slice none 0 0, .slice none 0 0], .bool false]) (by simp [results, Tryd.results30, go_sem, r0, r1, r2x, r3]) rfl ⟨⟨none, 0, none, 0, by rw [HPX2.out, HB.out]; rfl, by rw [HPX2.out]; exact own_nil2 _ _ (by simp [World.setCell]; first | exact BX.out.size | exact BXZ.out.size), by rw [HPX2.out]; exact ⟨Nat.le_refl _, Nat.zero_le _, Nat.le_refl _, Nat.zero_le _⟩⟩, ?_⟩
        first | exact below_four BXZ.out | exact below_four BX.out
      · have z : s.toList.isEmpty = false := toList_ne hse
        by_cases heq : fmtLnF x = s
        · have HB : Hid (plB s = true) := yes_of ⟨hse, by rw [HXE.out]; exact heq⟩
          have HPX2 : Hid (plX s = x) := by show _ = _; unfold plX; rw [HB.out, HXE.out]; rfl
          have z2 := bneF heq
          clear hse heq
          go_wp2_with fail
          refine (i_formatLine x A1 A2 c1 c2 _ HLNX.out LI.out HSZX.out HPX.out).mono ?_
          rintro e wz ⟨rfl, hbz⟩
          have KXZ := hide (KX.out.below hbz (Blk.lt KX.out))
          have KRZ := hide (KRX.out.below hbz (Blk.lt KRX.out))
          have OXZ := hide ((OX.out.belowZ hbz).more (Nat.le_refl _) hbz.size (Nat.le_refl _))
          have BXZ := hide (BX.out.trans (hbz.mono BX.out.size))
          clear hbz k0 k1 k2 k3 r0 r1 r2x r3 g0 g1 g2 g3
          have k0 := KXZ.out.cell 0
          have k1 := KXZ.out.cell 1
          have k2 := KXZ.out.cell 2
          have k3 := KXZ.out.cell 3
          have r0 := KRZ.out.cell 0
          have r1 := KRZ.out.cell 1
          have r2x := KRZ.out.cell 2
          have r3 := KRZ.out.cell 3
          have g0 := KRZ.out.frozen 0
          have g1 := KRZ.out.frozen 1
          have g2 := KRZ.out.frozen 2
          have g3 := KRZ.out.frozen 3
          simp at k0 k1 k2 k3 r0 r1 r2x r3
          go_wp2_with fail
          refine bodyPost_ret (v := .tuple #[.agg #[.int .i64 x.1, .string x.2.1, .slice A1 x.2.2.1.length c1, .slice A2 x.2.2.2.length c2], .bool true]) (by simp [results, Tryd.results30, go_sem, r0, r1, r2x, r3]) rfl ⟨⟨A1, c1, A2, c2, by rw [HPX2.out, HB.out], by rw [HPX2.out]; exact own_four OXZ.out, by rw [HPX2.out]; exact CX.out⟩, ?_⟩
          exact below_four BXZ.out
        · have HB : Hid (plB s = false) := yes_not (fun h => heq (by have := h.2; rwa [HXE.out] at this))
          have HPX2 : Hid (plX s = (0, ⟨#[]⟩, [], [])) := by show _ = _; unfold plX; rw [HB.out]; rfl
          have z2 := bneT heq
          clear hse heq
          go_wp2_with fail
          refine (i_formatLine x A1 A2 c1 c2 _ HLNX.out LI.out HSZX.out HPX.out).mono ?_
          rintro e wz ⟨rfl, hbz⟩
          have KXZ := hide (KX.out.below hbz (Blk.lt KX.out))
          have KRZ := hide (KRX.out.below hbz (Blk.lt KRX.out))
          have OXZ := hide ((OX.out.belowZ hbz).more (Nat.le_refl _) hbz.size (Nat.le_refl _))
          have BXZ := hide (BX.out.trans (hbz.mono BX.out.size))
          clear hbz k0 k1 k2 k3 r0 r1 r2x r3 g0 g1 g2 g3
          have k0 := KXZ.out.cell 0
          have k1 := KXZ.out.cell 1
          have k2 := KXZ.out.cell 2
          have k3 := KXZ.out.cell 3
          have r0 := KRZ.out.cell 0
          have r1 := KRZ.out.cell 1
          have r2x := KRZ.out.cell 2
          have r3 := KRZ.out.cell 3
          have g0 := KRZ.out.frozen 0
          have g1 := KRZ.out.frozen 1
          have g2 := KRZ.out.frozen 2
          have g3 := KRZ.out.frozen 3
          simp at k0 k1 k2 k3 r0 r1 r2x r3
          go_wp2_with fail
          refine bodyPost_ret (v := .tuple #[.agg #[.int .i64 0, .string ⟨#[]⟩, .slice none 0 0, .slice none 0 0], .bool false]) (by simp [results, Tryd.results30, go_sem, r0, r1, r2x, r3]) rfl ⟨⟨none, 0, none, 0, by rw [HPX2.out, HB.out]; rfl, by rw [HPX2.out]; exact own_nil2 _ _ (by simp [World.setCell]; first | exact BX.out.size | exact BXZ.out.size), by rw [HPX2.out]; exact ⟨Nat.le_refl _, Nat.zero_le _, Nat.le_refl _, Nat.zero_le _⟩⟩, ?_⟩
          first | exact below_four BXZ.out | exact below_four BX.out
    · skip
      go_upto_region 4 with fail
      go_cut [28] from 16 to 28 (fun s28 wx => s28 = .bool (plC w0 (nm :: b2 :: r3)) ∧ wx = wc)
      case first =>
        by_cases h0 : kwI w0 = 0
        · have z0 : (kwI w0 == 0) = true := by simp [h0]
          have H0 := hide h0
          clear h0
          have hpos : (0 : Int) < ((r3.length : Int) + 1 + 1) := by omega
          go_wp2_with fail
          go_meet
          refine ⟨?_, rfl⟩
          have := H0.out
          first | (simp [plC, this]; done) | (simp [plC, this]; omega)
        · have z0 : (kwI w0 == 0) = false := by simp [h0]
          have H0 := hide h0
          clear h0
          by_cases h1 : kwI w0 = 1
          · have z1 : (kwI w0 == 1) = true := by simp [h1]
            have H1 := hide h1
            clear h1
            have hpos : (0 : Int) < ((r3.length : Int) + 1 + 1) := by omega
            go_wp2_with fail
            go_meet
            refine ⟨?_, rfl⟩
            have := H1.out
            first | (simp [plC, this]; done) | (simp [plC, this]; omega)
          · have z1 : (kwI w0 == 1) = false := by simp [h1]
            have H1 := hide h1
            clear h1
            go_wp2_with fail
            go_meet
            refine ⟨?_, rfl⟩
            have h0 := H0.out
            have h1 := H1.out
            simp [plC, h0, h1]
      case rest =>
      obtain ⟨rfl, rfl⟩ := hcut
      go_upto_if 28 with fail
      go_cut [4] from 28 to 34 (fun s4 wx => ∃ A4 c4, s4 = .slice A4 (nmR (kwI w0) (nm :: b2 :: r3)).2.length c4 ∧ InRow wx A4 (nmR (kwI w0) (nm :: b2 :: r3)).2.length 1 (strCells (nmR (kwI w0) (nm :: b2 :: r3)).2) ∧ Blk wx gx 43 #[.int .i64 (kwI w0), .string (nmR (kwI w0) (nm :: b2 :: r3)).1, .slice none 0 0, .slice none 0 0] ∧ Blk wx w.heap.size 43 #[.int .i64 0, .string ⟨#[]⟩, .slice none 0 0, .slice none 0 0] ∧ Below w.heap.size w wx)
      case first =>
        cases hc : plC w0 (nm :: b2 :: r3)
        · have HNR := hide (nmR_no hc)
          clear hc
          go_wp2_with fail
          go_meet
          rw [HNR.out]
          exact ⟨_, _, rfl, R2.out.tail, K3.out, K2.out, B2.out⟩
        · have HNR := hide (nmR_yes hc)
          clear hc
          obtain ⟨b, o, e, _, q⟩ := R2.out.str 1 (by simp)
          cases e
          simp at q
          have k1 := K3.out.cell 1
          have f1 := K3.out.frozen 1
          simp at k1
          have hpos : (0 : Int) < ((r3.length : Int) + 1 + 1) := by omega
          go_wp2_with fail
          go_meet
          rw [HNR.out]
          exact ⟨_, _, rfl, InRow.far R2.out.tail.tail (p := ⟨gx, 1, none⟩) (by show w.heap.size + 1 ≠ gx; omega) _, K3.out.set_ 1 (.string nm), K2.out.far (p := ⟨gx, 1, none⟩) (by show w.heap.size ≠ gx; omega) _, B2.out.setCell (p := ⟨gx, 1, none⟩) (by show w.heap.size ≤ gx; omega) _⟩
      case rest =>
      obtain ⟨A4, c4, rfl, hr4, hk4, hk2, hb4⟩ := hcut
      have hns := nmR_size (kwI w0) (nm :: b2 :: r3) (fun a ha => by have := HSZ.out a (by simp [ha]); omega)
      clear K2 K3 R2 B2 k0
      have B4 := hide hb4
      have K4 := hide hk4
      have KR := hide hk2
      have R4 := hide hr4
      have hgl := Blk.lt hk4
      have hlw := B4.out.size
      clear hb4 hk4 hk2 hr4
      have HL4 := hide hns.2.1
      have hl4 : (nmR (kwI w0) (nm :: b2 :: r3)).2.length ≤ 1048576 := by have := hns.2.2; have := hrl.out; omega
      clear hns
      generalize hnr : (nmR (kwI w0) (nm :: b2 :: r3)) = nr at *
      obtain ⟨nmN, l⟩ := nr
      simp only at R4 K4 HL4 hl4
      have HX := hide hx
      clear hx hnr
      have k0 := K4.out.cell 0
      have k2 := K4.out.cell 2
      have k3 := K4.out.cell 3
      have f2 := K4.out.frozen 2
      have f3 := K4.out.frozen 3
      simp at k0 k2 k3
      have HP4 := hide (HP.out.below B4.out)
      have HM4 := hide (HM.out.below B4.out)
      go_upto_if 37 with fail
      go_cut [] from 37 to 50 (fun wx => PlM w gx x wx)
      case first =>
        by_cases h0 : kwI w0 = 0
        · have z0 : (kwI w0 == 0) = true := by simp [h0]
          have HX1 : Hid (x = (kwI w0, nmN, l, [])) := by show _ = _; rw [HX.out]; unfold lnG1; rw [if_pos h0, if_pos h0]
          clear h0
          have O0 := hide (World.ownsRow_lit (base := wc.heap.size) (e := 9) (size := 1) wc #[] 0 (Nat.le_refl _) (Nat.zero_le _) rfl)
          have RL := hide (R4.out.below ((Below.refl _ _).alloc (Nat.le_refl _) (.cells #[] 9)))
          have KL := hide (K4.out.alloc (.cells #[] 9))
          have KRL := hide (KR.out.alloc (.cells #[] 9))
          have BL := hide (B4.out.alloc hlw (.cells #[] 9))
          clear k0 k2 k3 f2 f3
          go_wp2_with (first | (at_builtin; refine wpList_apps _ rfl (.tmp 38) (.tmp 39) _ rfl wc.heap.size 9 i0 _ 1 16 Tryd.underlying28 HI.out hz0 hz1 hz2 rfl (by decide) _ _ _ rfl O0.out A4 _ c4 (strCells l) rfl RL.out ?d1b2 ?d2b2 ?d3b2 ?d4b2 ?_) | fail)
          case d1b2 => intro u hu; obtain ⟨b, _, rfl⟩ := List.mem_map.1 hu; rfl
          case d2b2 => omega
          try case d3b2 => decide
          try case d4b2 => simp
          intro v' w5 hown5 hb5 _ _
          obtain ⟨A5, c5, hv5, hc1, hc2, ha5⟩ := Arr.of_own2 hown5
          subst hv5
          have K5 := hide (KL.out.below hb5 hgl)
          have KR5 := hide (KRL.out.below hb5 (by omega))
          have B5 := hide (BL.out.trans (hb5.mono hlw))
          have O5 := hide ha5
          have hz5 := hb5.size
          simp at hz5
          clear hown5 hb5 ha5
          have k2 := K5.out.cell 2
          have f2 := K5.out.frozen 2
          simp at k2
          go_wp2_with fail
          go_meet
          rw [HX1.out]
          refine ⟨A5, c5, none, 0, by simpa using K5.out.set_ 2 (.slice A5 (0 + l.length) c5), ?_, ⟨by simpa using hc1, hc2, Nat.le_refl _, Nat.zero_le _⟩, B5.out.setCell (p := ⟨gx, 2, none⟩) (by show w.heap.size ≤ gx; omega) _, KR5.out.far (p := ⟨gx, 2, none⟩) (by show w.heap.size ≠ gx; omega) _⟩
          have hz6 : (w5.setCell ⟨gx, 2, none⟩ (.slice A5 (0 + l.length) c5)).heap.size = w5.heap.size := by simp [World.setCell]
          have ha6 := O5.out.far (p := ⟨gx, 2, none⟩) (.inl hgl) (.slice A5 (0 + l.length) c5)
          simp only [Nat.zero_add, List.nil_append] at ha6 hz6 ⊢
          exact Own.join (a := wc.heap.size) (b := w5.heap.size) (c := w5.heap.size) (d := w5.heap.size) (Own.one ha6) (Own.one (Arr.nil_ _ _ _ _ _)) (.inl (Nat.le_refl _)) (by omega) (by omega) (by omega) (by omega) (Nat.le_refl _)
        · have z0 : (kwI w0 == 0) = false := by simp [h0]
          have HX1 : Hid (x = (kwI w0, nmN, [], peL l)) := by show _ = _; rw [HX.out]; unfold lnG1; rw [if_neg h0, if_neg h0]
          clear h0
          rcases l with _ | ⟨a0, l⟩
          · go_wp2_with fail
            go_meet
            rw [HX1.out, peL_nil]
            exact ⟨none, 0, none, 0, K4.out, (Own.join (a := w.heap.size + 1) (b := w.heap.size + 1) (c := w.heap.size + 1) (d := w.heap.size + 1) (Own.one (Arr.nil_ _ _ _ _ _)) (Own.one (Arr.nil_ _ _ _ _ _)) (.inl (Nat.le_refl _)) (Nat.le_refl _) (by omega) (Nat.le_refl _) (by omega) (Nat.le_refl _)), ⟨Nat.le_refl _, Nat.zero_le _, Nat.le_refl _, Nat.zero_le _⟩, B4.out, KR.out⟩
          · have hpos : (0 : Int) < ((l.length : Int) + 1) := by omega
            obtain ⟨L, hLL⟩ : ∃ L, L = a0 :: l := ⟨_, rfl⟩
            have hLn : L.length = l.length + 1 := by rw [hLL]; rfl
            rw [← hLL] at HX1 HL4 R4
            have R4' := R4.out
            simp only [List.length_cons] at R4' hl4
            have R5 := hide R4'
            clear hLL R4 R4'
            clear k0 k2 f2
            go_wp2_with fail
            refine (i_parseExpr A4 _ c4 L _ hl4 hLn (show InRow wc A4 (l.length + 1) 1 (strCells L) by rw [← hLn]; exact R5.out) HL4.out HP4.out HM4.out).mono ?_
            rintro e w5 ⟨⟨v', rfl, ho5⟩, hb5⟩
            obtain ⟨A5, c5, hv5, hc1, hc2, ha5⟩ := Arr.of_own2 ho5
            subst hv5
            have K5 := hide (K4.out.below hb5 hgl)
            have KR5 := hide (KR.out.below hb5 (by omega))
            have B5 := hide (B4.out.trans (hb5.mono hlw))
            have O5 := hide ha5
            have hz5 := hb5.size
            clear ho5 hb5 ha5 k3 f3
            have k3 := K5.out.cell 3
            have f3 := K5.out.frozen 3
            simp at k3
            go_wp2_with fail
            go_meet
            rw [HX1.out]
            refine ⟨none, 0, A5, c5, K5.out.set_ 3 (.slice A5 (peL L).length c5), ?_, ⟨Nat.le_refl _, Nat.zero_le _, hc1, hc2⟩, B5.out.setCell (p := ⟨gx, 3, none⟩) (by show w.heap.size ≤ gx; omega) _, KR5.out.far (p := ⟨gx, 3, none⟩) (by show w.heap.size ≠ gx; omega) _⟩
            have hz6 : (w5.setCell ⟨gx, 3, none⟩ (.slice A5 (peL L).length c5)).heap.size = w5.heap.size := by simp [World.setCell]
            have ha6 := O5.out.far (p := ⟨gx, 3, none⟩) (.inl hgl) (.slice A5 (peL L).length c5)
            exact Own.join (a := w5.heap.size) (b := w5.heap.size) (c := wc.heap.size) (d := w5.heap.size) (Own.one (Arr.nil_ _ _ _ _ _)) (Own.one ha6) (.inr (Nat.le_refl _)) (by omega) (by omega) (by omega) (by omega) (by omega)
      case rest =>
      have HPM : Hid (PlM w gx x wc) := hcut
      clear hcut k0 k2 k3 f2 f3 K4 KR R4 B4 HP4 HM4
      obtain ⟨A1, c1, A2, c2, hk, ho, hcp, hb, hkr⟩ := HPM.out
      have KX := hide hk
      have OX := hide ho
      have CX := hide hcp
      have BX := hide hb
      have KRX := hide hkr
      have LI := hide (lnIn_of_own (p := (x, A1, c1, A2, c2)) (fun r hr => ho.rows r hr) hcp)
      have HPX := hide (HP.out.below hb)
      clear hk ho hcp hb hkr HPM
      have k0 := KX.out.cell 0
      have k1 := KX.out.cell 1
      have k2 := KX.out.cell 2
      have k3 := KX.out.cell 3
      have r0 := KRX.out.cell 0
      have r1 := KRX.out.cell 1
      have r2x := KRX.out.cell 2
      have r3 := KRX.out.cell 3
      have g0 := KRX.out.frozen 0
      have g1 := KRX.out.frozen 1
      have g2 := KRX.out.frozen 2
      have g3 := KRX.out.frozen 3
      simp at k0 k1 k2 k3 r0 r1 r2x r3
      by_cases hse : s = ⟨#[]⟩
      · have z : s.toList.isEmpty = true := toList_e2 hse
        have HB : Hid (plB s = false) := yes_not (fun h => h.1 hse)
        have HPX2 : Hid (plX s = (0, ⟨#[]⟩, [], [])) := by show _ = _; unfold plX; rw [HB.out]; rfl
        clear hse
        go_wp2_with fail
        refine bodyPost_ret (v := .tuple #[.agg #[.int .i64 0, .string ⟨#[]⟩, .slice none 0 0, .slice none 0 0], .bool false]) (by simp [results, Tryd.results30, go_sem, r0, r1, r2x, r3]) rfl ⟨⟨none, 0, none, 0, by rw [HPX2.out, HB.out]; rfl, by rw [HPX2.out]; exact own_nil2 _ _ (by simp [World.setCell]; first | exact BX.out.size | exact BXZ.out.size), by rw [HPX2.out]; exact ⟨Nat.le_refl _, Nat.zero_le _, Nat.le_refl _, Nat.zero_le _⟩⟩, ?_⟩
        first | exact below_four BXZ.out | exact below_four BX.out
      · have z : s.toList.isEmpty = false := toList_ne hse
        by_cases heq : fmtLnF x = s
        · have HB : Hid (plB s = true) := yes_of ⟨hse, by rw [HXE.out]; exact heq⟩
          have HPX2 : Hid (plX s = x) := by show _ = _; unfold plX; rw [HB.out, HXE.out]; rfl
          have z2 := bneF heq
          clear hse heq
          go_wp2_with fail
          refine (i_formatLine x A1 A2 c1 c2 _ HLNX.out LI.out HSZX.out HPX.out).mono ?_
          rintro e wz ⟨rfl, hbz⟩
          have KXZ := hide (KX.out.below hbz (Blk.lt KX.out))
          have KRZ := hide (KRX.out.below hbz (Blk.lt KRX.out))
          have OXZ := hide ((OX.out.belowZ hbz).more (Nat.le_refl _) hbz.size (Nat.le_refl _))
          have BXZ := hide (BX.out.trans (hbz.mono BX.out.size))
          clear hbz k0 k1 k2 k3 r0 r1 r2x r3 g0 g1 g2 g3
          have k0 := KXZ.out.cell 0
          have k1 := KXZ.out.cell 1
          have k2 := KXZ.out.cell 2
          have k3 := KXZ.out.cell 3
          have r0 := KRZ.out.cell 0
          have r1 := KRZ.out.cell 1
          have r2x := KRZ.out.cell 2
          have r3 := KRZ.out.cell 3
          have g0 := KRZ.out.frozen 0
          have g1 := KRZ.out.frozen 1
          have g2 := KRZ.out.frozen 2
          have g3 := KRZ.out.frozen 3
          simp at k0 k1 k2 k3 r0 r1 r2x r3
          go_wp2_with fail
          refine bodyPost_ret (v := .tuple #[.agg #[.int .i64 x.1, .string x.2.1, .slice A1 x.2.2.1.length c1, .slice A2 x.2.2.2.length c2], .bool true]) (by simp [results, Tryd.results30, go_sem, r0, r1, r2x, r3]) rfl ⟨⟨A1, c1, A2, c2, by rw [HPX2.out, HB.out], by rw [HPX2.out]; exact own_four OXZ.out, by rw [HPX2.out]; exact CX.out⟩, ?_⟩
          exact below_four BXZ.out
        · have HB : Hid (plB s = false) := yes_not (fun h => heq (by have := h.2; rwa [HXE.out] at this))
          have HPX2 : Hid (plX s = (0, ⟨#[]⟩, [], [])) := by show _ = _; unfold plX; rw [HB.out]; rfl
          have z2 := bneT heq
          clear hse heq
          go_wp2_with fail
          refine (i_formatLine x A1 A2 c1 c2 _ HLNX.out LI.out HSZX.out HPX.out).mono ?_
          rintro e wz ⟨rfl, hbz⟩
          have KXZ := hide (KX.out.below hbz (Blk.lt KX.out))
          have KRZ := hide (KRX.out.below hbz (Blk.lt KRX.out))
          have OXZ := hide ((OX.out.belowZ hbz).more (Nat.le_refl _) hbz.size (Nat.le_refl _))
          have BXZ := hide (BX.out.trans (hbz.mono BX.out.size))
          clear hbz k0 k1 k2 k3 r0 r1 r2x r3 g0 g1 g2 g3
          have k0 := KXZ.out.cell 0
          have k1 := KXZ.out.cell 1
          have k2 := KXZ.out.cell 2
          have k3 := KXZ.out.cell 3
          have r0 := KRZ.out.cell 0
          have r1 := KRZ.out.cell 1
          have r2x := KRZ.out.cell 2
          have r3 := KRZ.out.cell 3
          have g0 := KRZ.out.frozen 0
          have g1 := KRZ.out.frozen 1
          have g2 := KRZ.out.frozen 2
          have g3 := KRZ.out.frozen 3
          simp at k0 k1 k2 k3 r0 r1 r2x r3
          go_wp2_with fail
          refine bodyPost_ret (v := .tuple #[.agg #[.int .i64 0, .string ⟨#[]⟩, .slice none 0 0, .slice none 0 0], .bool false]) (by simp [results, Tryd.results30, go_sem, r0, r1, r2x, r3]) rfl ⟨⟨none, 0, none, 0, by rw [HPX2.out, HB.out]; rfl, by rw [HPX2.out]; exact own_nil2 _ _ (by simp [World.setCell]; first | exact BX.out.size | exact BXZ.out.size), by rw [HPX2.out]; exact ⟨Nat.le_refl _, Nat.zero_le _, Nat.le_refl _, Nat.zero_le _⟩⟩, ?_⟩
          first | exact below_four BXZ.out | exact below_four BX.out
end Go.Proofs.YteghjebbeclanaaDoor
