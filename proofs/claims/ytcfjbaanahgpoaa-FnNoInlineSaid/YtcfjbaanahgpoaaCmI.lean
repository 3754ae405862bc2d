import Derived.Test.YtcfjbaanahgpoaaCmGH
namespace Go.Proofs.Ytcfjbaanahgpoaa
open Go Go.RowKit Go.Maps
set_option maxRecDepth 100000
set_option linter.unusedVariables false
set_option linter.unusedSimpArgs false
set_option maxHeartbeats 8000000 in
theorem i_lines0 (w0 w : World) (gc gs fu en : Nat) (ib : Option Nat) (pr : Prm) (I : List It) (s : Scd) (L : List Ln) (h : CSt w w0.heap.size gc pr I ib) (hs : ScP w gc ib gs s) (hnc : s.nc = 0) (hin : pr.inl = 0) (hI : 1 ≤ I.length ∧ I.length ≤ 100000) (hB : Below w0.heap.size w0 w) (hR : InLines w0 pr.A pr.n L) (hpn : pr.n ≤ 1000) (hfu : s.fu = fu) (hen : s.en = en) (hfe : fu ≤ en) (hel : en < pr.n) (hok : ∀ x ∈ L, lineOkF x = true) :
    Calls Try.prog 81 #[.pointer (some ⟨gc, 0, none⟩), .pointer (some ⟨gs, 0, none⟩)] w fun e w' => e = .returned (.tuple #[]) ∧ ∃ I', Gro I I' (30 * (en - fu)) (cSum L (fu + 1) (en + 1)) ∧ Step w w0.heap.size gc pr ib I' w' := by
  have hmm := @run_makeMap Try.prog
  have HC := hide h
  have HS := hide hs
  have HR0 := hide hR
  have HLN := hide hR.len
  have HOK := hide hok
  have HNC := hide hnc
  have HIN := hide hin
  have hBs := hB.size
  have HB := hide hB
  obtain ⟨_, _, most, depth, Ai, ci, vn, hkk, _, _⟩ := h
  have k0 := hkk.cell 0
  simp at k0
  have hgl := hkk.lt
  have hrows := HC.out.rows
  clear hkk hs hok hnc hin hB
  go_enter Try.func81, Try.ntmps81
  go_wp2_with fail
  refine (i_owners pr.A pr.n pr.c L _ hpn (hR.below HB.out)).mono ?_
  rintro e w1 ⟨⟨og, xs, rfl, hown⟩, hb1⟩
  have C1 := hide (HC.out.kept hb1)
  have V1 := hide (Ev.of_below hb1 gc ib)
  have S1 := hide (HS.out.ev V1.out)
  have hog := (hown.at_ 0 (by omega))
  obtain ⟨_, _, _, _, hog1, hog2⟩ := hog
  have RO := hide (show RowG w1 gc ib (some ⟨og, 0, none⟩) pr.n (intCells xs) from ⟨InRow.of_arr hown.1, fun _ ad e1 => by cases e1; exact ⟨by show og ≠ gc; omega, fun e2 => by have := (hrows og e2).2; omega⟩⟩)
  have RX := hide hown.2
  have RL := hide hown.len
  have HB1 := hide (HB.out.trans (hb1.mono hBs))
  have hg1 : gc < w1.heap.size := C1.out.lt
  have hr1 := C1.out.rows
  clear hown hb1 hR k0
  have MZ0 := hide (((MapP.made w1 (N := I.length) (by omega)).ev (gc := gc) (ib := ib) (ib' := ib) (w' := (w1.alloc (.map #[] 0)).alloc (.map #[] 0)) (Ev.of_below ((Below.refl _ _).alloc (Nat.le_refl _) _) _ _) (by omega) (fun e => by have := (hr1 _ e).2; omega)).ev (gc := gc) (ib := ib) (ib' := ib) (w' := ((w1.alloc (.map #[] 0)).alloc (.map #[] 0)).alloc (.map #[] 0)) (Ev.of_below ((Below.refl _ _).alloc (Nat.le_refl _) _) _ _) (by omega) (fun e => by have := (hr1 _ e).2; omega))
  have MO0 := hide ((MapP.made (w1.alloc (.map #[] 0)) (N := I.length) (by omega)).ev (gc := gc) (ib := ib) (ib' := ib) (w' := ((w1.alloc (.map #[] 0)).alloc (.map #[] 0)).alloc (.map #[] 0)) (Ev.of_below ((Below.refl _ _).alloc (Nat.le_refl _) _) _ _) (by simp; omega) (fun e => by have := (hr1 _ e).2; simp at this; omega))
  have MF0 := hide (MapP.made ((w1.alloc (.map #[] 0)).alloc (.map #[] 0)) (N := I.length + 1) (by omega))
  have BM := hide ((((Below.refl w1.heap.size w1).alloc (Nat.le_refl _) (.map #[] 0)).alloc (by simp) (.map #[] 0)).alloc (by simp; omega) (.map #[] 0))
  go_upto_region 4 with fail
  have hz2 : (w1.alloc (.map #[] 0)).heap.size = w1.heap.size + 1 := by simp
  have hz3 : ((w1.alloc (.map #[] 0)).alloc (.map #[] 0)).heap.size = w1.heap.size + 1 + 1 := by simp
  rw [hz2] at MO0
  rw [hz3] at MF0
  obtain ⟨zb, hzb⟩ : ∃ zb, zb = w1.heap.size := ⟨_, rfl⟩
  obtain ⟨ob, hob⟩ : ∃ ob, ob = w1.heap.size + 1 := ⟨_, rfl⟩
  obtain ⟨fb, hfb⟩ : ∃ fb, fb = w1.heap.size + 1 + 1 := ⟨_, rfl⟩
  have mc : MC w1 gc zb ob fb := ⟨by omega, by omega, by omega, by omega, by omega, by omega, by omega, by omega, by omega⟩
  rw [← hzb] at MZ0
  rw [← hob] at MO0
  rw [← hfb] at MF0
  generalize ((w1.alloc (.map #[] 0)).alloc (.map #[] 0)).alloc (.map #[] 0) = wA at *
  have LS0 : Hid (LSt w1 wA w0.heap.size gc pr ib zb ob fb 0 I ib) := ⟨C1.out.kept BM.out, Ev.of_below BM.out _ _, MZ0.out, MO0.out, MF0.out, fun e => by have := (hr1 _ e).2; omega, fun e => by have := (hr1 _ e).2; omega, fun e => by have := (hr1 _ e).2; omega⟩
  rw [← hfb, ← hob, ← hzb]
  have MCH := hide mc
  have HZB := hide hzb
  have hrl : ∀ b, ib = some b → b < w1.heap.size := fun b e => (hr1 b e).2
  have m0 := (S1.out.ev LS0.out.ev).1.cell 0
  simp at m0
  clear MZ0 MO0 MF0 BM hz2 hz3 hzb hob hfb mc hmm
  go_wp2_with fail
  go_loopw [8] (fun iv wr => ∃ (i : Nat) (J : List It) (ib1 : Option Nat), iv = .int .i64 i ∧ fu + 1 ≤ i ∧ i ≤ en + 1 ∧ Gro I J (30 * (i - (fu + 1))) (cSum L (fu + 1) i) ∧ LSt w1 wr w0.heap.size gc pr ib zb ob fb (3 * i) J ib1) (fun iv _ => en + 1 - (intOf iv).toNat)
  case atStart => exact ⟨fu + 1, I, ib, by go_num, Nat.le_refl _, by omega, (Gro.refl I).mono (by omega) (cSum_self L _).symm, LS0.out.mono (by omega)⟩
  case round =>
    obtain ⟨i, J, ib1, rfl, hi1, hi2, hgr, hls⟩ := hrel
    have LS := hide hls
    have GR := hide hgr
    have hJ1 := hgr.lo
    have hJ2 := hgr.hi
    have m1 := (S1.out.ev hls.ev).1.cell 1
    simp at m1
    rw [hen] at m1
    clear hls hgr LS0 m0
    by_cases hlt : i ≤ en
    · have zl : decide ((i : Int) ≤ (en : Int)) = true := decide_eq_true (by omega)
      have zl2 : decide (i ≤ en) = true := decide_eq_true hlt
      have hin' : i < pr.n := by omega
      have hiL : i < L.length := by rw [HLN.out]; exact hin'
      have hwB : Below w0.heap.size w0 wr := HB1.out.trans (C1.out.below LS.out.ev HB1.out.size)
      have R := hide (HR0.out.below hwB)
      have HWB := hide hwB
      obtain ⟨b, o, A1, c1, A2, c2, hA', _, p0', p1', p2', p3', hln⟩ := HR0.out.ln i hiL
      have p0 := (hwB.cell (block_lt_of_cell p0')).trans p0'
      have p1 := (hwB.cell (block_lt_of_cell p1')).trans p1'
      have p2 := (hwB.cell (block_lt_of_cell p2')).trans p2'
      have p3 := (hwB.cell (block_lt_of_cell p3')).trans p3'
      have HX0 := hide hln.2.1
      clear p0' p1' p2' p3' hln
      have hokx := HOK.out _ (List.getElem_mem hiL)
      have CS1 := hide (cSum_succ L (fu + 1) i (by omega) hiL)
      generalize L[i] = x at *
      obtain ⟨_, _, most2, depth2, Ai2, ci2, vn2, hkk, _, _⟩ := LS.out.c
      have k0 := hkk.cell 0
      simp at k0
      rw [hA'] at k0
      clear hA'
      have hi0 : (0 : Int) ≤ (i : Int) := by omega
      have hinI : (i : Int) < pr.n := by omega
      clear hkk hwB hi2
      go_upto_region 8 with fail
      have KX2 := hide (Blk.new wr 34 #[.int .i64 x.1, .string x.2.1, .slice A1 x.2.2.1.length c1, .slice A2 x.2.2.2.length c2])
      have BX := hide ((Below.refl wr.heap.size wr).alloc (Nat.le_refl _) (.cells #[.int .i64 x.1, .string x.2.1, .slice A1 x.2.2.1.length c1, .slice A2 x.2.2.2.length c2] 34))
      generalize wr.alloc (.cells #[.int .i64 x.1, .string x.2.1, .slice A1 x.2.2.1.length c1, .slice A2 x.2.2.2.length c2] 34) = w2 at *
      have LS2 := hide (LS.out.below MCH.out BX.out)
      have xbg : wr.heap.size ≠ gc := by have := LS.out.c.lt; omega
      have xbi : ib1 ≠ some wr.heap.size := fun e => by have := (LS.out.c.rows _ e).2; omega
      have xbz : zb < wr.heap.size := LS.out.z.lt
      have xbo : ob < wr.heap.size := LS.out.o.lt
      have xbf : fb < wr.heap.size := LS.out.f.lt
      have m6 := (S1.out.ev LS2.out.ev).1.cell 6
      simp at m6
      obtain ⟨_, _, most3, depth3, Ai3, ci3, vn3, hkk3, _, _⟩ := LS2.out.c
      have k9 := hkk3.cell 9
      have f9 := hkk3.frozen 9
      simp at k9
      generalize wr.heap.size = xb at *
      clear p0 p1 p2 p3 k0 m1 hkk3 BX
      go_upto_region 9 with fail
      have DP := hide (LS2.out.c.depth s.ba)
      have LS3 := hide (LS2.out.step MCH.out DP.out.1 DP.out.2 (Nat.le_refl _))
      have KX3 := hide (KX2.out.far (p := ⟨gc, 9, none⟩) xbg (.int .i64 s.ba))
      generalize w2.setCell ⟨gc, 9, none⟩ (.int .i64 s.ba) = w3 at *
      obtain ⟨_, _, most4, depth4, Ai4, ci4, vn4, hkk4, _, _⟩ := LS3.out.c
      have k8 := hkk4.cell 8
      simp at k8
      obtain ⟨DF, hownf, hatf⟩ := LS3.out.f
      have HOF := hide hownf
      have HAF := hide hatf
      have HKEY : Hid (keyOf Try.prog 3 (.int .i64 (i : Int)) = some (Lit.int .i64 (i : Int))) := keyOf_int_mk Try.underlying3 (WalkArith.wf_i64 (by omega))
      have HWF : Hid ((Lit.int .i64 (J.length : Int)).wf = true) := WalkArith.wf_i64 (by omega)
      clear hkk4 hownf hatf k9 f9 m6 DP LS2 KX2
      go_wp2_with (first | (at_mapUpdate; refine wpList_mapUpdate_own _ rfl _ _ _ 121 rfl 3 3 keyInt Try.underlying121 _ fb (3 * i) DF rfl HOF.out ?mlen _ _ (.int .i64 (i : Int)) rfl rfl HKEY.out _ [] (plainElem_int Try.underlying3 HWF.out) ?_) | fail)
      case mlen => unfold maxLen; omega
      intro w4 hown4 hgrow4
      have LS4 := hide (LS3.out.putF MCH.out hgrow4 (mapp_put HAF.out HOF.out.isMap (by omega) hown4))
      have KX4 := hide (KX3.out.grown hgrow4 (by simp; omega))
      have n0 := KX4.out.cell 0
      have n3 := KX4.out.cell 3
      simp at n0 n3
      clear hown4 hgrow4 k8 HOF HAF LS3 KX3
      go_wp2_with fail
      refine (i_hasExpr _ _).mono ?_
      rintro e w' ⟨rfl, hww⟩
      subst hww
      obtain ⟨_, hz24⟩ := lineOk_szQ hokx
      have HSZX := hide (lineOk_szQ hokx).1.2.2
      obtain ⟨⟨kd, hkd, hkd8⟩, _, _, _, _, hx1, hx2⟩ := lineOk_partsQ hokx
      have HX1 := hide hx1
      have HX2 := hide hx2
      clear hx1 hx2 hokx
      rw [hkd] at n0 HX1 HX2 ⊢
      have hJb : J.length ≤ 200000 := by omega
      go_upto_if 56 with fail
      go_cut [10] from 56 to 70 (fun s10 wx => ∃ (J1 : List It) (ib2 : Option Nat), J.length ≤ J1.length ∧ Gro J J1 20 (callsOf x) ∧ LSt w1 wx w0.heap.size gc pr ib zb ob fb (3 * i + 1) J1 ib2 ∧ Blk wx xb 34 #[.int .i64 (kd : Int), .string x.2.1, .slice A1 x.2.2.1.length c1, .slice A2 x.2.2.2.length c2] ∧ ib2 ≠ some xb)
      case first =>
        cases hhe : hasExprF (kd : Int)
        · have hxn := HX2.out hhe
          have GJ : Hid (Gro J J 20 (callsOf x)) := (Gro.refl J).mono (by omega) (by unfold callsOf; rw [hxn]; rfl)
          go_wp2_with fail
          go_meet
          exact ⟨J, ib1, Nat.le_refl _, GJ.out, LS4.out, by rw [← hkd]; exact KX4.out, xbi⟩
        · have hxo := HX1.out hhe
          have hxo' := hxo
          unfold exprOkF at hxo'
          simp only [Bool.and_eq_true, decide_eq_true_eq] at hxo'
          obtain ⟨⟨hn20, hn1⟩, hen1⟩ := hxo'
          rw [show (0 : Int) = ((0 : Nat) : Int) from rfl, exprEndF_nat] at hen1
          have hw4 : Below w0.heap.size w0 w4 := HB1.out.trans (C1.out.below LS4.out.ev HB1.out.size)
          have EX := hide (i_expr0 w0 gc gs pr s (i : Int) L x.2.2.2 A2 x.2.2.2.length c2 HIN.out HNC.out hpn HR0.out rfl HX0.out hn20 HSZX.out x.2.2.2.length 0 w4 J ib1 (J.length : Int) (by omega) (by rw [hen1]; omega) LS4.out.c (S1.out.ev LS4.out.ev) hw4 (by omega))
          rw [hen1, Int.toNat_natCast, Nat.sub_zero, ccT_all, HNC.out] at EX
          clear hxo hen1 hw4
          go_wp2_with fail
          refine (EX.out).mono ?_
          rintro e w5 ⟨rfl, M, hM, ib2, hc5, hv5⟩
          have C5 := hide hc5
          have V5 := hide hv5
          have GM := hide (Gro.more (I := J) hM)
          have hML : (J ++ M).length = J.length + x.2.2.2.length := by rw [List.length_append, hM.len]
          have hjl : J.length < (J ++ M).length := by omega
          obtain ⟨g, hgi, hgg, cc, fc, cj, k8⟩ := C5.out.item (j := J.length) (i := 3) hjl (by omega)
          subst hgi
          obtain ⟨vv, hvv⟩ : ∃ vv, (itC (J ++ M)[J.length])[3]? = some vv := ⟨_, rfl⟩
          rw [hvv] at cc
          have PT := hide (CSt.patch (i := 3) (u := .bool true) (x := { (J ++ M)[J.length] with start := true }) C5.out hjl (by decide) rfl)
          have GS : Hid (Gro (J ++ M) ((J ++ M).set J.length { (J ++ M)[J.length] with start := true }) 0 0) := Gro.set hjl rfl rfl
          have KX5 := hide (V5.out.blk KX4.out xbg xbi)
          have hji : (J.length : Int) < ((J ++ M).length : Nat) := by omega
          clear hc5 hv5 hM EX hvv
          have hgx : xb ≠ g := fun e => V5.out.ne KX4.out.lt xbi (by rw [e])
          go_wp2_with fail
          go_meet
          exact ⟨_, _, by rw [List.length_set]; omega, (GM.out.trans GS.out).mono (by omega) rfl, LS4.out.step MCH.out PT.out.1 (V5.out.trans PT.out.2) (by rw [List.length_set]; omega), by rw [← hkd]; exact KX5.out.far (p := ⟨g, J.length * 7 + 3, none⟩) hgx _, fun e => hgx (by injection e with e; exact e.symm)⟩
      case rest =>
        obtain ⟨J1, ib2, hl1, hg1, hs1, hkx1, hnx1⟩ := hcut
        have LS5n := hide hnx1
        have LS5 := hide hs1
        have GR5 := hide hg1
        have KX5 := hide hkx1
        have hJ1b : J1.length ≤ 300000 := by have := hg1.hi; omega
        have xb2 := KX5.out.lt
        have n0' := hkx1.cell 0
        have n1' := hkx1.cell 1
        simp at n0' n1'
        clear hs1 hkx1 hg1 n0 n3 LS4 KX4
        have FIN : Hid (∀ (w' : World) (J2 : List It) (ib3 : Option Nat), Gro J1 J2 3 0 → LSt w1 w' w0.heap.size gc pr ib zb ob fb (3 * i + 2) J2 ib3 → fu + 1 ≤ i + 1 ∧ i + 1 ≤ en + 1 ∧ Gro I J2 (30 * (i + 1 - (fu + 1))) (cSum L (fu + 1) (i + 1)) ∧ LSt w1 w' w0.heap.size gc pr ib zb ob fb (3 * (i + 1)) J2 ib3) := fun w' J2 ib3 h1 h2 => ⟨by omega, by omega, ((GR.out.trans GR5.out).trans h1).mono (by omega) (by have := CS1.out; omega), h2.mono (by omega)⟩
        have hwc : Below w0.heap.size w0 wc := HB1.out.trans (C1.out.below LS5.out.ev HB1.out.size)
        have HWC := hide hwc
        have hBc := hwc.size
        have SC := hide (S1.out.ev LS5.out.ev)
        have hl2 := hl1
        have HGL := hide (show J1.length ≤ 100000000000 by omega)
        have ih1 : 1 ≤ J1.length := by omega
        clear hwc
        have hkc : kd = 0 ∨ kd = 1 ∨ kd = 2 ∨ kd = 3 ∨ kd = 4 ∨ kd = 5 ∨ kd = 6 ∨ kd = 7 := by omega
        rcases hkc with rfl | rfl | rfl | rfl | rfl | rfl | rfl | rfl
        · go_wp2_with fail
          go_roundw
          case rel => exact ⟨i + 1, J1, ib2, by go_num, FIN.out _ J1 ib2 ((Gro.refl J1).mono (by omega) rfl) (LS5.out.mono (by omega))⟩
          case measure => simp [intOf]; omega
        · have m2 := SC.out.1.cell 2
          simp at m2
          have XR := hide SC.out.2.2.2.2.2.1.1
          have hnl := SC.out.2.2.2.1
          have CK : Hid (CSt wc.drew w0.heap.size gc pr J1 ib2 ∧ ScP wc.drew gc ib2 gs s) := ⟨LS5.out.c.kept (Below.refl _ _).drew, SC.out.ev (Ev.of_below (Below.refl _ _).drew _ _)⟩
          go_wp2_with fail
          go_region_held3 (fun w' => w'.cell? ⟨gs, 2, none⟩ = some (.slice s.Al s.nl s.cl) ∧ w'.cell? ⟨xb, 1, none⟩ = some (.string x.2.1)) (first | exact ⟨m2, n1'⟩ | exact ⟨HM1.out, HM2.out⟩) (first
            | (go_at_call 70; refine (i_index _ _ _ s.xs _ _ (by omega) (XR.out.below (by first | with_reducible exact (Below.refl _ _).drew | with_reducible exact Below.refl _ _))).mono ?_; rintro e' w' ⟨rfl, hww⟩; subst hww)
            | (go_at_call 91; refine (i_access wc.drew _ gc gs ib2 pr J1 s _ _ true CK.out.1 CK.out.2 HNC.out HGL.out hBc).mono ?_; rintro e' w5 ⟨rfl, hx⟩; have HX := hide hx; have HM1 := hide (one_slice2 CK.out.2 hx); have HM2 := hide (one_lnk KX5.out.drew xbg (LS5n.out) hx); clear hx))
          all_goals
            obtain ⟨y, ib3, ⟨g1, g2, g3, g4, g5, g6⟩, hc3, hv3⟩ := HX.out
            have C6 := hide hc3
            have V6 := hide hv3
            clear hc3 hv3
            go_wp2_with fail
            go_roundw
            case rel => exact ⟨i + 1, (J1 ++ [y]), ib3, by go_num, FIN.out _ (J1 ++ [y]) ib3 ((Gro.one (by rw [g3, HNC.out]) g6).mono (by omega) rfl) (((LS5.out.below MCH.out (Below.refl _ _).drew).step MCH.out C6.out V6.out (by simp)).mono (by omega))⟩
            case measure => simp [intOf]; omega
        · go_wp2_with fail
          refine (i_addS _ _ gc gs _ pr _ s _ _ _ _ LS5.out.c SC.out HGL.out hBc).mono ?_
          rintro e w5 ⟨rfl, y, ib3, ⟨h1, h2, h3, h4, h5⟩, hc3, hv3⟩
          have C6 := hide hc3
          have V6 := hide hv3
          clear hc3 hv3
          go_wp2_with fail
          go_roundw
          case rel => exact ⟨i + 1, (J1 ++ [y]), ib3, by go_num, FIN.out _ (J1 ++ [y]) ib3 ((Gro.one (by rw [h5, HNC.out]) (by omega)).mono (by omega) rfl) ((LS5.out.step MCH.out C6.out V6.out (by simp)).mono (by omega))⟩
          case measure => simp [intOf]; omega
        · obtain ⟨DZ, hownz, hatz⟩ := LS5.out.z
          have HOZ := hide hownz
          have HAZ := hide hatz
          obtain ⟨_, _, most5, depth5, Ai5, ci5, vn5, hkk5, _, _⟩ := LS5.out.c
          have k8 := hkk5.cell 8
          simp at k8
          have HWF2 : Hid ((Lit.int .i64 (J1.length : Int)).wf = true) := WalkArith.wf_i64 (by omega)
          clear hkk5 hownz hatz
          go_wp2_with (first | (at_mapUpdate; refine wpList_mapUpdate_own _ rfl _ _ _ 121 rfl 3 3 keyInt Try.underlying121 _ zb (3 * i + 1) DZ rfl HOZ.out ?mlz3 _ _ (.int .i64 (i : Int)) rfl rfl HKEY.out _ [] (plainElem_int Try.underlying3 HWF2.out) ?_) | fail)
          case mlz3 => unfold maxLen; omega
          intro w6 hown6 hgrow6
          have MZ6 := hide (mapp_put (N := J1.length + 1) (fun kl => by obtain ⟨c, q1, q2, q3⟩ := HAZ.out kl; exact ⟨c, q1, q2, by omega⟩) HOZ.out.isMap (by omega) hown6)
          have C6a := hide (LS5.out.c.grownM hgrow6 MCH.out.z LS5.out.nz)
          have S6 := hide (S1.out.ev (LS5.out.ev.grownM hgrow6 MCH.out.mz))
          have G6 := hide hgrow6
          have hB6 : w0.heap.size ≤ w6.heap.size := Nat.le_trans hBc hgrow6.size
          clear hown6 hgrow6 k8 HOZ HAZ
          go_wp2_with fail
          refine (i_addS _ _ gc gs _ pr _ s _ _ _ _ C6a.out S6.out HGL.out hB6).mono ?_
          rintro e w5 ⟨rfl, y, ib3, ⟨h1, h2, h3, h4, h5⟩, hc3, hv3⟩
          have L6 := hide (LS5.out.putZ2 MCH.out G6.out MZ6.out hc3 hv3)
          have GY : Hid (Gro J1 (J1 ++ [y]) 1 0) := Gro.one (by rw [h5, HNC.out]) (by omega)
          clear hc3 hv3 h1 h2 h3 h4 h5
          go_wp2_with fail
          go_roundw
          case rel => exact ⟨i + 1, (J1 ++ [y]), ib3, by go_num, FIN.out _ (J1 ++ [y]) ib3 (GY.out.mono (by omega) rfl) (L6.out.mono (by omega))⟩
          case measure => simp [intOf]; omega
        · obtain ⟨bo', oo', hoe, _, co⟩ := (RO.out.ev LS5.out.ev).1.int i (by rw [RL.out]; exact hin')
          cases hoe
          obtain ⟨hv0, hv1⟩ := RX.out _ (List.getElem_mem (show i < xs.length by rw [RL.out]; exact hin'))
          obtain ⟨kv, hkv⟩ := Int.eq_ofNat_of_zero_le hv0
          have HKV0 := hide hkv
          rw [hkv] at co hv1
          rw [Nat.zero_add] at co
          have hkvn : kv < pr.n := by omega
          have HKV : Hid (keyOf Try.prog 3 (.int .i64 (kv : Int)) = some (Lit.int .i64 (kv : Int))) := keyOf_int_mk Try.underlying3 (WalkArith.wf_i64 (by omega))
          obtain ⟨DO, howno, hato⟩ := LS5.out.o
          have HOO := hide howno
          have HAO := hide hato
          obtain ⟨_, _, most5, depth5, Ai5, ci5, vn5, hkk5, _, _⟩ := LS5.out.c
          have k8 := hkk5.cell 8
          simp at k8
          have HWF2 : Hid ((Lit.int .i64 (J1.length : Int)).wf = true) := WalkArith.wf_i64 (by omega)
          clear hkv hv0 hkk5 howno hato
          go_upto_region 26 with fail
          go_still_tail 10, (by kernel_rfl)
          go_wp2_with (first | (at_mapUpdate; refine wpList_mapUpdate_own wc.drew rfl _ _ _ 121 rfl 3 3 keyInt Try.underlying121 _ ob (3 * i + 1) DO rfl HOO.out.drew ?mlo4 _ _ (.int .i64 (kv : Int)) rfl rfl HKV.out _ [] (plainElem_int Try.underlying3 HWF2.out) ?_) | fail)
          case mlo4 => unfold maxLen; omega
          intro w6 hown6 hgrow6'
          have hgrow6 : wc.grownBy w6 (some ob) := ⟨hgrow6'.os, hgrow6'.tape, hgrow6'.output, hgrow6'.size, hgrow6'.block⟩
          have MO6 := hide (mapp_put (N := J1.length + 1) (fun kl => by obtain ⟨c, q1, q2, q3⟩ := HAO.out kl; exact ⟨c, q1, q2, by omega⟩) HOO.out.isMap (by omega) hown6)
          have C6a := hide (LS5.out.c.grownM hgrow6 MCH.out.o LS5.out.no)
          have S6 := hide (S1.out.ev (LS5.out.ev.grownM hgrow6 MCH.out.mo))
          have G6 := hide hgrow6
          have hB6 : w0.heap.size ≤ w6.heap.size := Nat.le_trans hBc hgrow6.size
          clear hown6 hgrow6 hgrow6' k8 HOO HAO co
          go_wp2_with fail
          refine (i_addS _ _ gc gs _ pr _ s _ _ _ _ C6a.out S6.out HGL.out hB6).mono ?_
          rintro e w5 ⟨rfl, y, ib3, ⟨h1, h2, h3, h4, h5⟩, hc3, hv3⟩
          have L6 := hide (LS5.out.putO2 MCH.out G6.out MO6.out hc3 hv3)
          have GY : Hid (Gro J1 (J1 ++ [y]) 1 0) := Gro.one (by rw [h5, HNC.out]) (by omega)
          clear hc3 hv3 h1 h2 h3 h4 h5
          have hll : (J1 ++ [y]).length = J1.length + 1 := by simp
          have HLL := hide hll
          generalize J1 ++ [y] = J2 at *
          obtain ⟨bo2, oo2, hoe2, _, co⟩ := (RO.out.ev L6.out.ev).1.int i (by rw [RL.out]; exact hin')
          cases hoe2
          rw [HKV0.out, Nat.zero_add] at co
          obtain ⟨DZ, hownz, hatz⟩ := L6.out.z
          obtain ⟨cz, hrun, hatcz, _⟩ := (hownz.drew).lookup_int keyInt Try.underlying121 Try.underlying3 (zeroInt _) HKV.out
          obtain ⟨cz', e1, e2, e3⟩ := hatz (.int .i64 (kv : Int))
          rw [hatcz] at e1
          injection e1 with e1
          injection e1 with _ e1
          subst e1
          obtain ⟨jz, rfl⟩ := Int.eq_ofNat_of_zero_le e2
          have hjl : jz < J2.length := by omega
          obtain ⟨g, hgi, hgg, cc, fc, cj, k8⟩ := L6.out.c.item (j := jz) (i := 1) hjl (by omega)
          subst hgi
          obtain ⟨vv, hvv⟩ : ∃ vv, (itC J2[jz])[1]? = some vv := ⟨_, rfl⟩
          rw [hvv] at cc
          have hjzi : (jz : Int) < (J2.length : Nat) := by omega
          have hjz0 : (0 : Int) ≤ (jz : Int) := by omega
          have PT := hide (CSt.patch (i := 1) (u := .int .i64 (J2.length : Nat)) (x := { J2[jz] with arg := (J2.length : Nat) }) L6.out.c hjl (by decide) rfl)
          have hog3 : og ≠ g := fun e => by have := ((RO.out.ev L6.out.ev).2 (by omega) _ rfl).2; exact this (by rw [← e])
          obtain ⟨NL, hNL⟩ : ∃ NL, NL = J2.length := ⟨_, rfl⟩
          rw [← hNL] at k8 hjzi PT
          have GS : Hid (Gro J2 (J2.set jz { J2[jz] with arg := (NL : Nat) }) 0 0) := Gro.set hjl rfl rfl
          have K8 : Hid (∀ u, (w5.drew.setCell ⟨g, jz * 7 + 1, none⟩ u).cell? ⟨gc, 8, none⟩ = some (.slice (some ⟨g, 0, none⟩) NL cj)) := fun u => (World.cell?_setCell_other _ _ _ _ (fun e => hgg (congrArg Addr.block e))).trans k8
          have KO : Hid (∀ u, (w5.drew.setCell ⟨g, jz * 7 + 1, none⟩ u).cell? ⟨og, i, none⟩ = some (.int .i64 (kv : Int))) := fun u => (World.cell?_setCell_other _ _ _ _ (fun e => hog3 (congrArg Addr.block e).symm)).trans co
          clear hNL hvv hatcz e2 e3 hownz hatz hll
          go_wp2_with fail
          go_cut [10] from 128 to 145 (fun s10 wx => ∃ (J3 : List It) (ib4 : Option Nat), Gro J2 J3 0 0 ∧ LSt w1 wx w0.heap.size gc pr ib zb ob fb (3 * i + 1 + 1) J3 ib4)
          case first =>
            go_region_held3 (fun w' => w'.cell? ⟨og, i, none⟩ = some (.int .i64 (kv : Int)) ∧ w'.cell? ⟨gc, 8, none⟩ = some (.slice (some ⟨g, 0, none⟩) NL cj)) (first | exact ⟨co, k8⟩ | exact ⟨KO.out _, K8.out _⟩) (fail)
            all_goals
              go_wp2_with fail
            all_goals
              go_meet
              exact ⟨_, _, GS.out, L6.out.step MCH.out (PT.out.1.kept (Below.refl _ _).drew) (PT.out.2.trans (Ev.of_below (Below.refl _ _).drew _ _)) (by rw [List.length_set]; omega)⟩
          case rest =>
            obtain ⟨J3, ib4, hg3, hs3⟩ := hcut
            have L7 := hide hs3
            have G7 := hide hg3
            obtain ⟨bo3, oo3, hoe3, _, co3⟩ := (RO.out.ev L7.out.ev).1.int i (by rw [RL.out]; exact hin')
            cases hoe3
            rw [HKV0.out, Nat.zero_add] at co3
            obtain ⟨DY, howny, haty⟩ := L7.out.z
            have HOY := hide howny
            have HAY := hide haty
            have hj3 : 0 < J3.length := by have := hg3.lo; omega
            clear hs3 hg3 howny haty hrun k8 cc fc co
            go_wp2_with (first | (at_delete; refine wpList_delete_own _ rfl _ _ 121 3 rfl 3 keyInt Try.underlying121 _ zb (3 * i + 1 + 1) DY rfl HOY.out _ (.int .i64 (kv : Int)) rfl HKV.out ?_) | fail)
            intro w8 hown8 hturn8
            have L8 := hide (L7.out.delZ MCH.out hturn8.grown (mapp_del HAY.out hj3 hown8))
            clear hown8 hturn8
            go_wp2_with fail
            go_roundw
            case rel => exact ⟨i + 1, J3, ib4, by go_num, FIN.out _ J3 ib4 ((GY.out.trans G7.out).mono (by omega) rfl) (L8.out.mono (by omega))⟩
            case measure => simp [intOf]; omega
        · obtain ⟨DZ, hownz, hatz⟩ := LS5.out.z
          have HOZ := hide hownz
          have HAZ := hide hatz
          obtain ⟨_, _, most5, depth5, Ai5, ci5, vn5, hkk5, _, _⟩ := LS5.out.c
          have k8 := hkk5.cell 8
          simp at k8
          have HWF2 : Hid ((Lit.int .i64 (J1.length : Int)).wf = true) := WalkArith.wf_i64 (by omega)
          clear hkk5 hownz hatz
          go_wp2_with (first | (at_mapUpdate; refine wpList_mapUpdate_own _ rfl _ _ _ 121 rfl 3 3 keyInt Try.underlying121 _ zb (3 * i + 1) DZ rfl HOZ.out ?mlz5 _ _ (.int .i64 (i : Int)) rfl rfl HKEY.out _ [] (plainElem_int Try.underlying3 HWF2.out) ?_) | fail)
          case mlz5 => unfold maxLen; omega
          intro w6 hown6 hgrow6
          have MZ6 := hide (mapp_put (N := J1.length + 1) (fun kl => by obtain ⟨c, q1, q2, q3⟩ := HAZ.out kl; exact ⟨c, q1, q2, by omega⟩) HOZ.out.isMap (by omega) hown6)
          have C6a := hide (LS5.out.c.grownM hgrow6 MCH.out.z LS5.out.nz)
          have S6 := hide (S1.out.ev (LS5.out.ev.grownM hgrow6 MCH.out.mz))
          have G6 := hide hgrow6
          have hB6 : w0.heap.size ≤ w6.heap.size := Nat.le_trans hBc hgrow6.size
          clear hown6 hgrow6 k8 HOZ HAZ
          go_wp2_with fail
          refine (i_addS _ _ gc gs _ pr _ s _ _ _ _ C6a.out S6.out HGL.out hB6).mono ?_
          rintro e w5 ⟨rfl, y, ib3, ⟨h1, h2, h3, h4, h5⟩, hc3, hv3⟩
          have L6 := hide (LS5.out.putZ2 MCH.out G6.out MZ6.out hc3 hv3)
          have GY : Hid (Gro J1 (J1 ++ [y]) 1 0) := Gro.one (by rw [h5, HNC.out]) (by omega)
          clear hc3 hv3 h1 h2 h3 h4 h5
          go_wp2_with fail
          go_roundw
          case rel => exact ⟨i + 1, (J1 ++ [y]), ib3, by go_num, FIN.out _ (J1 ++ [y]) ib3 (GY.out.mono (by omega) rfl) (L6.out.mono (by omega))⟩
          case measure => simp [intOf]; omega
        · go_wp2_with fail
          refine (i_leave _ _ gc gs _ pr _ s _ false LS5.out.c SC.out HNC.out HGL.out hBc).mono ?_
          rintro e w5 ⟨rfl, y, ib3, ⟨g1, g2, g3, g4, g5, g6⟩, hc3, hv3⟩
          have C6 := hide hc3
          have V6 := hide hv3
          clear hc3 hv3
          go_wp2_with fail
          go_roundw
          case rel => exact ⟨i + 1, (J1 ++ [y]), ib3, by go_num, FIN.out _ (J1 ++ [y]) ib3 ((Gro.one (by rw [g3, HNC.out]) g6).mono (by omega) rfl) ((LS5.out.step MCH.out C6.out V6.out (by simp)).mono (by omega))⟩
          case measure => simp [intOf]; omega
        · obtain ⟨bo', oo', hoe, _, co⟩ := (RO.out.ev LS5.out.ev).1.int i (by rw [RL.out]; exact hin')
          cases hoe
          obtain ⟨hv0, hv1⟩ := RX.out _ (List.getElem_mem (show i < xs.length by rw [RL.out]; exact hin'))
          obtain ⟨kv, hkv⟩ := Int.eq_ofNat_of_zero_le hv0
          rw [hkv] at co hv1
          rw [Nat.zero_add] at co
          have hkvn : kv < pr.n := by omega
          clear hkv hv0
          go_wp2_with fail
          refine (i_end0 w0 _ gc gs _ pr _ s _ kv zb ob fb _ _ _ L LS5.out.c SC.out HNC.out ⟨ih1, by omega⟩ HWC.out HR0.out hpn hkvn LS5.out.z LS5.out.o LS5.out.f ⟨MCH.out.z, LS5.out.nz⟩ ⟨MCH.out.o, LS5.out.no⟩).mono ?_
          rintro e w5 ⟨rfl, J2, hg2, ib3, hc3, hv3⟩
          have C6 := hide hc3
          have V6 := hide hv3
          have G6 := hide hg2
          clear hc3 hv3 hg2
          go_wp2_with fail
          go_roundw
          case rel => exact ⟨i + 1, J2, ib3, by go_num, FIN.out _ J2 ib3 (G6.out.mono (by omega) rfl) ((LS5.out.step MCH.out C6.out V6.out G6.out.lo).mono (by omega))⟩
          case measure => simp [intOf]; omega
    · have zl : decide (i ≤ en) = false := decide_eq_false hlt
      have zl2 : decide ((i : Int) ≤ (en : Int)) = false := decide_eq_false (by omega)
      have hie : i = en + 1 := by omega
      have GF : Hid (Gro I J (30 * (en - fu)) (cSum L (fu + 1) (en + 1))) := (hie ▸ GR.out).mono (by omega) rfl
      clear hie
      go_wp2_with fail
      go_end0
      exact ⟨rfl, J, GF.out, ib1, LS.out.c, V1.out.trans LS.out.ev⟩
end Go.Proofs.Ytcfjbaanahgpoaa

