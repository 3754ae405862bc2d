import Derived.Test.YtclldakoinnhhaaDoorDrQ
import Derived.Test.YtclldakoinnhhaaDoorPtF
import Derived.Test.YtclldakoinnhhaaDoorFold0
import Derived.Test.YtclldakoinnhhaaDoorSam
namespace Go.Proofs.YtclldakoinnhhaaDoor
open Go Go.RowKit
set_option maxRecDepth 100000
set_option linter.unusedVariables false
set_option linter.unusedSimpArgs false
set_option maxHeartbeats 400000 in
theorem l_sameToks (A A' : Option Addr) (n n' c c' : Nat) (l l' : List Tk) (w : World) (hn : n ≤ 1099511627776) (hn' : n' ≤ 1099511627776)
    (h : InRow w A n 3 (tokCells l)) (h' : InRow w A' n' 3 (tokCells l')) :
    Calls Tryd.prog 9 #[.slice A n c, .slice A' n' c'] w fun e w' => e = .returned (.bool (decide (l = l'))) ∧ ∃ q, w' = w.drewN q := by
  have hl : l.length = n := by have := h.1; rw [tokCells_length] at this; omega
  have hl' : l'.length = n' := by have := h'.1; rw [tokCells_length] at this; omega
  by_cases hne : n = n'
  · subst hne
    have H := hide h
    have H' := hide h'
    have HL := hide hl
    have HL' := hide hl'
    clear h h' hl hl'
    go_enter Tryd.func9, Tryd.ntmps9
    go_wp2
    go_loopw [5] (fun i wr => ∃ k nq : Nat, k ≤ n ∧ i = .int .i64 k ∧ l.take k = l'.take k ∧ wr = w.drewN nq) (fun i _ => n - (intOf i).toNat)
    case atStart => exact ⟨0, 0, Nat.zero_le _, rfl, rfl, rfl⟩
    case round =>
      obtain ⟨k, nq, hk, rfl, ht, rfl⟩ := hrel
      have HT := hide ht
      clear ht
      by_cases hlt : k < n
      · have hkl : k < l.length := by rw [HL.out]; exact hlt
        have hkl' : k < l'.length := by rw [HL'.out]; exact hlt
        obtain ⟨b, o, rfl, _, c0, c1, c2⟩ := H.out.tok k hkl
        obtain ⟨b', o', rfl, _, d0, d1, d2⟩ := H'.out.tok k hkl'
        by_cases heq : l[k] = l'[k]
        · have hd := decide_eq_true heq
          have ne := Tryd.eqTk l[k].1 l[k].2.1 l'[k].1 l'[k].2.1 l[k].2.2 l'[k].2.2
          simp only [show ((l[k].1, l[k].2.1, l[k].2.2) = (l'[k].1, l'[k].2.1, l'[k].2.2)) = (l[k] = l'[k]) from rfl, hd] at ne
          have HN := hide (take_eq_step1 l l' k hkl hkl' HT.out heq)
          clear heq
          go_wp2
          go_quiet (fail)
          go_wp2
          go_roundw
          case rel => exact ⟨k + 1, _, by omega, by go_num, HN.out, by first | rfl | exact World.drewN_drewN _ _ _⟩
          case measure => simp [intOf]; omega
        · have hd := decide_eq_false heq
          have ne := Tryd.eqTk l[k].1 l[k].2.1 l'[k].1 l'[k].2.1 l[k].2.2 l'[k].2.2
          simp only [show ((l[k].1, l[k].2.1, l[k].2.2) = (l'[k].1, l'[k].2.1, l'[k].2.2)) = (l[k] = l'[k]) from rfl, hd] at ne
          have HN : Hid (decide (l = l') = false) := decide_eq_false (fun e => heq (by subst e; rfl))
          clear heq
          go_wp2
          go_quiet (fail)
          go_wp2
          go_ret
          exact ⟨ret_bool HN.out.symm, _, by first | rfl | exact World.drewN_drewN _ _ _⟩
      · have HN : Hid (decide (l = l') = true) := decide_eq_true (by
          have := HT.out
          rw [List.take_of_length_le (by rw [HL.out]; omega), List.take_of_length_le (by rw [HL'.out]; omega)] at this
          exact this)
        go_wp2
        go_ret
        exact ⟨ret_bool HN.out.symm, _, rfl⟩
  · have hd : (((n : Nat) : Int) != (n' : Int)) = true := by rw [bne_iff_ne]; omega
    have hf : Hid (decide (l = l') = false) := decide_eq_false (fun e => hne (by rw [← hl, ← hl', e]))
    clear h h' hl hl' hne
    go_enter Tryd.func9, Tryd.ntmps9
    go_wp2
    go_ret
    exact ⟨ret_bool hf.out.symm, 0, rfl⟩
/-- What is known of a good expression. -/
theorem expr_facts {e : List Tk} (h : exprOkF e = true) : 0 < e.length ∧ e.length ≤ 20 ∧ exprEndF e 0 = e.length ∧ (∃ ar : Nat, tkAr (tkAt e 0) = ar ∧ ar ≤ 4 ∧ endL e 1 ar = e.length ∧ operandsF e 0 = opsL e ar ((1 : Nat) : Int)) ∧ (∀ t ∈ e, tkOk t = true ∧ t.2.2.size ≤ 8) ∧ peL (e.map fmtTkF) = e ∧ peB (e.map fmtTkF) = true := by
  have h' := h
  unfold exprOkF at h'
  simp only [Bool.and_eq_true, decide_eq_true_eq] at h'
  obtain ⟨⟨h1, h2⟩, h3⟩ := h'
  have h4 := h3
  rw [show (0 : Int) = ((0 : Nat) : Int) from rfl, exprEndF_nat] at h4
  obtain ⟨g1, g2, g3⟩ := good_at e 0 (by omega)
  obtain ⟨a1, a2⟩ := tkAr_ok _ g2
  have hop := operandsF_nat e 0 (by omega)
  obtain ⟨ar, har⟩ := Int.eq_ofNat_of_zero_le a1
  rw [har, Int.toNat_natCast] at g3 hop
  obtain ⟨p1, p2⟩ := pe_good (toksOf_fmt (exprOk_toksQ h)) h
  exact ⟨h2, h1, h3, ⟨ar, har, by omega, by rw [← h4, g3], hop⟩, fun t ht => ⟨exprOk_toksQ h t ht, tkOk_sizeQ (exprOk_toksQ h t ht)⟩, p1, p2⟩
namespace fnExpressions
set_option maxHeartbeats 4000000 in
theorem walk (v0 : Value) (w : World) (hp : PowIs w) (hmx : MaxIs w) (h0 : InBytes w v0) : Calls Tryd.prog 3 #[v0] w fun e w' => e = .returned (.bool true) ∧ Below w.heap.size w w' := by
  obtain ⟨i0, hi, hz0, hz1, hz2⟩ := info_parts Tryd.infoStr
  have HI := hide hi
  clear hi
  obtain ⟨A, n, c, rfl, hnc, hc, hrow⟩ := h0
  have hn : n ≤ maxLen := by omega
  have HR := hide (CodeAt.of_in hnc hc hrow)
  have HP := hide hp
  have HM := hide hmx
  clear hrow hp hmx
  by_cases hbig : 1048576 < n
  · have hd : decide (1048576 < n) = true := by simpa using hbig
    go_enter Tryd.func3, Tryd.ntmps3
    go_wp2_with (go_at_call 5; refine (l_big _ _ _ hn _).mono ?_; rintro e w' ⟨rfl, rfl⟩)
    go_ret
    exact ⟨rfl, Below.refl _ _⟩
  have hd : decide (1048576 < n) = false := by simpa using hbig
  go_enter Tryd.func3, Tryd.ntmps3
  go_wp2_with fail
  refine (l_big _ _ _ hn _).mono ?_
  rintro e w' ⟨rfl, rfl⟩
  go_wp2_with fail
  refine (s_drawProgram _ _ _ _ HR.out).mono ?_
  rintro e w1 ⟨⟨A', c', L, rfl, hO, hok, hl0, hl1⟩, hb1⟩
  have B1 := hide hb1
  obtain ⟨m, hm⟩ : ∃ m, L.length = m := ⟨_, rfl⟩
  have R1 := hide (hO.in_ hm)
  have HOK := hide hok
  rw [hm]
  have HL := hide hm
  have hm400 : m ≤ 400 := by omega
  have hm1 : 1 ≤ m := by omega
  clear hO hok hb1 hd hbig hn hl0 hl1 hm
  go_wp2_with fail
  go_loopw [4] (fun kv wr => ∃ k : Nat, kv = .int .i64 k ∧ k ≤ m ∧ Below w.heap.size w wr ∧ InLines wr A' m L) (fun kv _ => m - (intOf kv).toNat)
  case atStart => exact ⟨0, rfl, Nat.zero_le _, B1.out, R1.out⟩
  case round =>
    obtain ⟨k, rfl, hk, hb, hr⟩ := hrel
    have B2 := hide hb
    have R2 := hide hr
    clear hb hr B1 R1
    by_cases hlt : k < m
    · have hkl : k < L.length := by rw [HL.out]; exact hlt
      obtain ⟨b, o, A1, c1, A2, c2, hA', _, _, _, _, ce, hln⟩ := R2.out.ln k hkl
      subst hA'
      have hokk := HOK.out _ (List.getElem_mem hkl)
      obtain ⟨_, _, _, _, _, hx1, hx2⟩ := lineOk_partsQ hokk
      have hex : L[k].2.2.2 ≠ [] → exprOkF L[k].2.2.2 = true := fun hne => by
        cases hq : hasExprF L[k].1
        · exact absurd (hx2 hq) hne
        · exact hx1 hq
      have E2 := hide hln.2.1
      clear hln hx1 hx2 hokk
      generalize L[k].2.2.2 = e at *
      obtain ⟨ne, hne⟩ : ∃ ne, e.length = ne := ⟨_, rfl⟩
      rw [hne] at ce E2
      by_cases hz : ne = 0
      · have z : ((ne : Int) == 0) = true := by rw [hz]; rfl
        clear hz
        go_wp2_with fail
        go_roundw
        case rel => exact ⟨k + 1, by go_num, by omega, B2.out, R2.out⟩
        case measure => simp [intOf]; omega
      · have z : ((ne : Int) == 0) = false := by rw [beq_eq_false_iff_ne]; omega
        obtain ⟨f1, f2, f3, ⟨ar, f4, f5, f6, f7⟩, f8, f9, f10⟩ := expr_facts (hex (by intro h; rw [h] at hne; simp at hne; omega))
        have F3 := hide f3
        have F4 := hide f4
        have F6 := hide f6
        have F7 := hide f7
        have F8 := hide f8
        obtain ⟨W, hW⟩ : ∃ W, W = e.map fmtTkF := ⟨_, rfl⟩
        rw [← hW] at f9 f10
        have F9 := hide f9
        have F10 := hide f10
        have WL : Hid (W.length = ne) := by show _ = _; rw [hW, List.length_map]; exact hne
        have WI : Hid (∀ (i : Nat) (h : i < e.length), W[i]? = some (fmtTkF (e[i].1, e[i].2.1, e[i].2.2))) := fun i h => by
          rw [hW, List.getElem?_map, List.getElem?_eq_getElem h]; rfl
        have WS : Hid (∀ s ∈ W, s.size ≤ 1048576) := fun s hs => by
          rw [hW] at hs
          obtain ⟨t, _, rfl⟩ := List.mem_map.1 hs
          have := fmtTk_size t
          omega
        clear hW
        have NE := hide hne
        have hne20 : ne ≤ 20 := by omega
        have hne1 : 1 ≤ ne := by omega
        have FX := hide (hex (by intro h; rw [h] at hne; simp at hne; omega))
        clear hex f3 f4 f6 f7 f8 f9 f10 hne f1 f2 hz
        have hz0' := B2.out.size
        obtain ⟨wa, rfl⟩ : ∃ wa : World, wa = wr := ⟨wr, rfl⟩
        have HX := hide (F8.out)
        go_wp2_with fail
        go_loopw [6, 7] (fun v iv wx => ∃ i : Nat, i ≤ ne ∧ iv = .int .i64 i ∧ wx.ownsRow wa.heap.size 9 1 v i (strCells (W.take i)) ∧ Below wa.heap.size wa wx) (fun _ iv _ => ne - (intOf iv).toNat)
        case atStart => exact ⟨0, Nat.zero_le _, rfl, World.ownsRow_lit wa #[] 0 (Nat.le_refl _) (Nat.zero_le _) rfl, (Below.refl _ _).alloc (Nat.le_refl _) _⟩
        case round =>
          obtain ⟨i, hi, rfl, hown, hbx⟩ := hrel
          have O3 := hide hown
          have B3 := hide hbx
          have E3 := hide (E2.out.below hbx)
          clear hown hbx
          have BW := hide (B2.out.trans (B3.out.mono hz0'))
          by_cases hlti : i < ne
          · have hie : i < e.length := by rw [NE.out]; exact hlti
            obtain ⟨be, oe, hAe, _, t0, t1, t2⟩ := E3.out.tok i hie
            subst hAe
            have hts := (F8.out _ (List.getElem_mem hie)).2
            have hst : strCells (W.take (i + 1)) = strCells (W.take i) ++ [.string (fmtTkF (e[i].1, e[i].2.1, e[i].2.2))] := by
              unfold strCells
              rw [List.take_add_one, WI.out i hie, List.map_append]
              rfl
            have HST := hide hst
            clear hst
            go_wp2_with fail
            refine (i_formatTok e[i].1 e[i].2.1 e[i].2.2 (by unfold maxLen; omega) _ (HP.out.below BW.out)).mono ?_
            rintro e' w4 ⟨rfl, hb4⟩
            have B4 := hide (B3.out.trans (hb4.mono B3.out.size))
            have O4 := hide (own_belowZ O3.out hb4)
            clear hb4 t0 t1 t2
            generalize fmtTkF (e[i].1, e[i].2.1, e[i].2.2) = st at *
            go_wp2_with (first | (at_builtin; refine wpList_app _ rfl (.tmp 38) (.tmp 44) _ rfl wa.heap.size 9 i0 _ 1 16 Tryd.underlying26 HI.out hz0 hz1 hz2 rfl (by decide) u6 _ _ rfl O4.out 1 [.string st] rfl ?d1 ?d2 ?d3 ?d4 ?d5 ?_) | fail)
            case d1 => rfl
            case d2 => intro u hu; obtain rfl := List.mem_singleton.1 hu; rfl
            case d3 => omega
            case d4 => decide
            case d5 => exact B4.out.size
            intro v' w5 hown5 hb5 _ _
            rw [← HST.out] at hown5
            have O5 := hide hown5
            have B5 := hide (B4.out.trans hb5)
            clear hown5 hb5
            go_wp2_with fail
            go_roundw
            case rel => exact ⟨i + 1, by omega, by go_num, O5.out, B5.out⟩
            case measure => simp [intOf]; omega
          · have hie : i = ne := by omega
            have O4 : Hid (wr.ownsRow wa.heap.size 9 1 u6 ne (strCells W)) := by
              have := O3.out
              rw [hie, List.take_of_length_le (by rw [WL.out]; exact Nat.le_refl _)] at this
              exact this
            obtain ⟨Av, cv, hv, _, har⟩ := Arr.of_own O4.out
            subst hv
            have X4 := hide (InRow.of_arr har)
            have HSZ : Hid (∀ t ∈ e, t.2.2.size ≤ maxLen) := fun t ht => by have := (F8.out t ht).2; unfold maxLen; omega
            have zi : decide (i < ne) = false := decide_eq_false hlti
            clear har O4 O3 hie hlti
            go_wp2_with fail
            refine (i_parseExpr Av ne cv W _ (by omega) WL.out X4.out WS.out (HP.out.below BW.out) (HM.out.below BW.out)).mono ?_
            rintro e' w4 ⟨⟨v, rfl, ho⟩, hb4⟩
            rw [F10.out]
            rw [F9.out, NE.out] at ho
            obtain ⟨Af, cf, hvf, _, har4⟩ := Arr.of_own ho
            subst hvf
            have X5 := hide (InRow.of_arr har4)
            have E5 := hide (E3.out.below hb4)
            have B5 := hide (BW.out.trans (hb4.mono BW.out.size))
            have R5 := hide ((R2.out.below B3.out).below hb4)
            clear ho har4 hb4 X4 E3 BW B3
            go_wp2_with fail
            refine (l_sameToks _ _ ne ne _ _ e e _ (by omega) (by omega) E5.out X5.out).mono ?_
            rintro e' w5 ⟨rfl, nq, rfl⟩
            rw [decide_eq_true rfl]
            have E6 := hide (E5.out.below (below_drewN (Below.refl w4.heap.size w4) nq))
            have X6 := hide (X5.out.below (below_drewN (Below.refl w4.heap.size w4) nq))
            have R6 := hide (R5.out.below (below_drewN (Below.refl w4.heap.size w4) nq))
            have B6 := hide (below_drewN B5.out nq)
            clear E5 X5 R5 B5
            generalize w4.drewN nq = w5 at *
            go_wp2_with fail
            refine (i_exprOk _ ne _ e _ (by omega) NE.out X6.out HSZ.out).mono ?_
            rintro e' w6 ⟨rfl, hb6⟩
            rw [FX.out]
            have E7 := hide (E6.out.below hb6)
            have R7 := hide (R6.out.below hb6)
            have B7 := hide (B6.out.trans (hb6.mono B6.out.size))
            clear E6 X6 R6 B6 hb6
            go_wp2_with fail
            refine (i_exprEnd _ ne _ e 0 _ (by omega) NE.out E7.out HSZ.out).mono ?_
            rintro e' w7 ⟨rfl, hb7⟩
            rw [F3.out, NE.out]
            have E8 := hide (E7.out.below hb7)
            have R8 := hide (R7.out.below hb7)
            have B8 := hide (B7.out.trans (hb7.mono B7.out.size))
            clear E7 R7 B7 hb7
            have zz : ((ne : Int) != (ne : Int)) = false := by simp
            go_wp2_with fail
            refine (i_operands _ ne _ e 0 _ (by omega) NE.out E8.out HSZ.out).mono ?_
            rintro e' w8 ⟨⟨v, rfl, ho⟩, hb8⟩
            rw [F7.out, opsL_length] at ho
            obtain ⟨Ao, co, hvo, _, har8⟩ := Arr.of_own ho
            subst hvo
            have X9 := hide (InRow.of_arr har8)
            have E9 := hide (E8.out.below hb8)
            have R9 := hide (R8.out.below hb8)
            have B9 := hide (B8.out.trans (hb8.mono B8.out.size))
            clear E8 R8 B8 hb8 ho har8
            have hoL : Hid ((opsL e ar ((1 : Nat) : Int)).length = ar) := opsL_length _ _ _
            go_wp2_with fail
            go_loopw [10, 12] (fun xv iv wr => ∃ i q : Nat, i ≤ ar ∧ iv = .int .i64 i ∧ xv = .int .i64 q ∧ q ≤ ne ∧ endL e q (ar - i) = (ne : Int) ∧ (opsL e ar ((1 : Nat) : Int)).drop i = opsL e (ar - i) (q : Int) ∧ Below w8.heap.size w8 wr) (fun _ iv _ => ar - (intOf iv).toNat)
            case atStart => exact ⟨0, 1, Nat.zero_le _, rfl, rfl, by omega, by rw [show ar - 0 = ar from rfl, F6.out, NE.out], rfl, Below.refl _ _⟩
            case round =>
              obtain ⟨i, q, hia, rfl, rfl, hqn, hend, hdrop, hbx⟩ := hrel
              have E10 := hide (E9.out.below hbx)
              have X10 := hide (X9.out.below hbx)
              have R10 := hide (R9.out.below hbx)
              have B10 := hide (B9.out.trans (hbx.mono B9.out.size))
              have BX := hide hbx
              clear hbx
              by_cases hlti : i < ar
              · obtain ⟨kk, hkk⟩ : ∃ kk, ar - i = kk + 1 := ⟨ar - i - 1, by omega⟩
                rw [hkk] at hend hdrop
                obtain ⟨q1, g1, g2, g3, g4, g5⟩ := opsL_cons e kk q (by rw [NE.out]; exact hqn) (by rw [hend]; omega)
                rw [g5] at hdrop
                have hil : i < (opsL e ar ((1 : Nat) : Int)).length := by rw [hoL.out]; exact hlti
                rw [List.drop_eq_getElem_cons hil] at hdrop
                injection hdrop with hd1 hd2
                obtain ⟨bo, oo, hAo, _, cc⟩ := X10.out.int i hil
                subst hAo
                rw [hd1] at cc
                have HE : Hid (exprEndF e (q : Int) = (q1 : Int)) := (exprEndF_nat e q).trans g1
                have HR1 : Hid (endL e q1 (ar - (i + 1)) = (ne : Int) ∧ (opsL e ar ((1 : Nat) : Int)).drop (i + 1) = opsL e (ar - (i + 1)) (q1 : Int)) := by
                  have e1 : ar - (i + 1) = kk := by omega
                  exact ⟨by rw [e1, ← g4]; exact hend, by rw [e1]; exact hd2⟩
                have hq1 : q1 ≤ ne := by rw [← NE.out]; exact g3
                have zq : ((q : Int) != (q : Int)) = false := by simp
                clear hend hd1 hd2 g1 g4 g5 hkk hil
                go_wp2_with fail
                refine (i_exprEnd _ ne _ e _ _ (by omega) NE.out E10.out HSZ.out).mono ?_
                rintro e' w11 ⟨rfl, hb11⟩
                rw [HE.out]
                have B11 := hide (BX.out.trans (hb11.mono BX.out.size))
                clear hb11
                go_wp2_with fail
                go_roundw
                case rel => exact ⟨i + 1, q1, by omega, by go_num, rfl, hq1, HR1.out.1, HR1.out.2, B11.out⟩
                case measure => simp [intOf]; omega
              · have hqe : q = ne := by
                  rw [show ar - i = 0 by omega, endL_zero] at hend
                  omega
                subst hqe
                have zq : ((q : Int) != (q : Int)) = false := by simp
                have za : ((ar : Int) != (ar : Int)) = false := by simp
                have he0 : 0 < e.length := by rw [NE.out]; omega
                obtain ⟨be, oe, hAe, _, t0, t1, t2⟩ := E10.out.tok 0 he0
                subst hAe
                simp only [Nat.zero_mul, Nat.add_zero] at t0 t1 t2
                have HAR : Hid (arityF e[0].1 e[0].2.1 e[0].2.2.data.toList = (ar : Int)) := by
                  have := F4.out
                  unfold tkAt at this
                  rw [List.getD_eq_getElem?_getD, List.getElem?_eq_getElem he0] at this
                  exact this
                have hs0 := HSZ.out _ (List.getElem_mem he0)
                have hq0 : (0 : Int) < (q : Int) := by omega
                clear hend hdrop
                go_wp2_with fail
                refine (i_arity _ _ _ hs0 _).mono ?_
                rintro e' w11 ⟨rfl, hb11⟩
                rw [HAR.out]
                have B11 := hide (B10.out.trans (hb11.mono B10.out.size))
                have R11 := hide (R10.out.below hb11)
                clear hb11
                go_wp2_with fail
                go_roundw
                case rel => exact ⟨k + 1, by go_num, by omega, B11.out, R11.out⟩
                case measure => simp [intOf]; omega
    · have z : decide (k < m) = false := decide_eq_false hlt
      have hpos : decide (0 < m) = true := decide_eq_true (by omega)
      go_wp2_with fail
      go_ret
      exact ⟨rfl, B2.out⟩
end fnExpressions
end Go.Proofs.YtclldakoinnhhaaDoor
