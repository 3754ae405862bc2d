import Derived.Test.YtcfjbaanahgpoaaFPr
namespace Go.Proofs.Ytcfjbaanahgpoaa
open Go Go.RowKit
set_option maxRecDepth 100000
set_option linter.unusedVariables false
set_option linter.unusedSimpArgs false
theorem i_programOkF (A : Option Addr) (n c : Nat) (L : List Ln) (w : World) (hn : n + lnTot L ≤ 1048576) (h : InLines w A n L) (hs : ∀ x ∈ L, LnSz x) :
    Calls Try.prog 9 #[.slice A n c] w fun e w' => e = .returned (.bool (progS L)) ∧ Below w.heap.size w w' := by
  rw [← prog_eq]; exact i_programOk A n c L w hn h hs
set_option maxHeartbeats 4000000 in
theorem i_foldProgram (A : Option Addr) (n c : Nat) (L : List Ln) (w : World) (hn : n + lnTot L ≤ 1048576) (h : InLines w A n L) (hs : ∀ x ∈ L, LnSz x) :
    Calls Try.prog 50 #[.slice A n c] w fun e w' => LsRet (foldPF L) w e w' ∧ Below w.heap.size w w' := by
  obtain ⟨i0, hi, hz0, hz1, hz2⟩ := info_parts Try.infoLn'
  have H := hide h
  have HL := hide h.len
  have HS := hide hs
  have HI := hide hi
  clear h hs hi
  go_enter Try.func50, Try.ntmps50
  go_wp2_with fail
  refine (i_programOkF A n c L _ hn H.out HS.out).mono ?_
  rintro e w1 ⟨rfl, hb1⟩
  have B1 := hide hb1
  clear hb1
  cases hok : progS L
  · have HF : Hid (foldPF L = []) := by show _ = _; unfold foldPF; rw [hok]; rfl
    clear hok
    go_wp2_with fail
    go_ret
    refine ⟨⟨none, 0, by rw [HF.out]; rfl, ?_⟩, B1.out⟩
    rw [HF.out]
    exact ⟨[], rfl, ⟨fun r hr => by obtain rfl := List.mem_singleton.1 hr; exact Arr.nil_ _ _ _ _ _, by simp [rwB]⟩, fun p hp => by simp at hp⟩
  · have HF : Hid (foldPF L = L.map foldLn) := by show _ = _; unfold foldPF; rw [hok]; rfl
    have hLl : L.length = n := HL.out
    clear hok
    go_wp2_with fail
    go_loopw [3, 13] (fun v i wr => ∃ (k : Nat) (P : List LP), k ≤ n ∧ i = .int .i64 k ∧ P.map Prod.fst = (L.take k).map foldLn ∧ OwnL wr w.heap.size 34 v P P ∧ Below w.heap.size w wr) (fun _ i _ => n - (intOf i).toNat)
    case atStart => exact ⟨0, [], Nat.zero_le _, rfl, rfl, OwnL.nil_ (World.ownsRow_lit w1 #[] 0 B1.out.size (Nat.zero_le _) rfl), B1.out.alloc B1.out.size _⟩
    case round =>
      obtain ⟨k, P, hk, rfl, hP, hown, hb⟩ := hrel
      have HO := hide hown
      have HB := hide hb
      have HPP := hide hP
      have R := hide (H.out.below hb)
      have hPl : P.length ≤ n := by have := congrArg List.length hP; rw [List.length_map, List.length_map, List.length_take] at this; omega
      clear hown hb hP
      obtain ⟨A0, cA, hv, _⟩ := Arr.of_own HO.out.1
      subst hv
      obtain ⟨wo, rfl⟩ : ∃ wo : World, wo = wr := ⟨_, rfl⟩
      by_cases hlt : k < n
      · have hkl : k < L.length := by omega
        obtain ⟨b, o, A1, d1, A2, d2, rfl, hbl, c0, c1, c2, c3, hin⟩ := R.out.ln k hkl
        have htot := lnTot_mem L _ (List.getElem_mem hkl)
        have HSK := hide (HS.out _ (List.getElem_mem hkl))
        have HT : Hid (P.map Prod.fst ++ [foldLn L[k]] = (L.take (k + 1)).map foldLn) := by show _ = _; rw [HPP.out, List.take_succ_eq_append_getElem hkl, List.map_append]; rfl
        obtain ⟨x, hx⟩ : ∃ x, L[k] = x := ⟨_, rfl⟩
        rw [hx] at c0 c1 c2 c3 htot HSK HT hin
        obtain ⟨xk, xs, xa, xe⟩ := x
        simp only at c0 c1 c2 c3 htot
        have hal : Below wo.heap.size wo (wo.alloc (.cells #[.int .i64 xk, .string xs, .slice A1 xa.length d1, .slice A2 xe.length d2] 34)) := (Below.refl _ _).alloc (Nat.le_refl _) _
        have HIN := hide (hin.below hal)
        have HAL := hide hal
        have K5 := hide (Blk.new wo 34 #[.int .i64 xk, .string xs, .slice A1 xa.length d1, .slice A2 xe.length d2])
        clear hin hx hal
        go_wp2_with fail
        refine (i_copyLine (xk, xs, xa, xe) A1 A2 d1 d2 _ (by simp only; omega) HIN.out).mono ?_
        rintro e w2 ⟨⟨D1, e1, D2, e2, rfl, o2, p2⟩, hb2⟩
        have hz2' := hb2.size
        simp at hz2'
        have K5b := hide ((K5.out.below hb2 (by simp)).alloc (.cells #[.int .i64 xk, .string xs, .slice D1 xa.length e1, .slice D2 xe.length e2] 34))
        have K6 := hide (Blk.new w2 34 #[.int .i64 xk, .string xs, .slice D1 xa.length e1, .slice D2 xe.length e2])
        have HW2 := hide (HAL.out.trans (hb2.mono (by simp)))
        have OX : Hid (Own w2 wo.heap.size w2.heap.size (lnRows ((xk, xs, xa, xe), D1, e1, D2, e2))) := o2.more (by simp) (Nat.le_refl _) (Nat.le_refl _)
        have CX := hide p2
        have RE2 := hide (HIN.out.2.1.below hb2)
        clear hb2 o2 p2 c0 c1 c2 c3 K5
        have k3 := K5b.out.cell 3
        simp at k3
        by_cases he0 : xe.length = 0
        · have hxe : xe = [] := List.eq_nil_of_length_eq_zero he0
          have HN : Hid (P.map Prod.fst ++ [(xk, xs, xa, xe)] = (L.take (k + 1)).map foldLn) := by
            show _ = _
            have := HT.out
            unfold foldLn at this
            simp only at this
            rw [hxe, foldEx_nil] at this
            rw [hxe]; exact this
          have ze : decide (0 < xe.length) = false := decide_eq_false (by omega)
          have HW3 := hide (HW2.out.alloc HW2.out.size (.cells #[.int .i64 xk, .string xs, .slice D1 xa.length e1, .slice D2 xe.length e2] 34))
          have OX3 := hide ((OX.out.belowZ ((Below.refl _ _).alloc (Nat.le_refl _) (.cells #[.int .i64 xk, .string xs, .slice D1 xa.length e1, .slice D2 xe.length e2] 34))).more (Nat.le_refl _) (by simp) (Nat.le_refl _))
          have HX := hide (HO.out.line HW3.out HB.out.size OX3.out CX.out)
          have B3 := hide (HB.out.trans (HW3.out.mono HB.out.size))
          clear he0 hxe
          go_wp2_with (first | (at_builtin; refine wpList_appN _ rfl (.tmp 27) (.tmp 29) _ rfl w.heap.size 34 i0 _ 4 72 Try.underlying24 HI.out hz0 hz1 hz2 rfl (by decide) _ _ _ rfl HX.out.1 1 (lnC ((xk, xs, xa, xe), D1, e1, D2, e2)) rfl ?c0 ?c1 ?c2 ?c3 ?c4 ?c5 ?_) | fail)
          try case c0 => simp
          try case c1 => rfl
          case c2 => intro u hu; simp [lnC] at hu; rcases hu with rfl | rfl | rfl | rfl <;> rfl
          case c3 => omega
          case c4 => decide
          case c5 => exact B3.out.size
          intro v' w5 hown5 hb5 hgr5 hwh5
          have HX5 := hide (HX.out.app hown5 hgr5 (by simpa using hwh5))
          have B5 := hide (B3.out.trans hb5)
          clear hown5 hb5 hgr5 hwh5
          go_wp2_with fail
          go_roundw
          case rel => exact ⟨k + 1, _, by omega, by go_num, by rw [← HN.out]; simp, HX5.out, B5.out⟩
          case measure => simp [intOf]; omega
        · have ze : decide (0 < xe.length) = true := decide_eq_true (by omega)
          have HW3 := hide (HW2.out.alloc HW2.out.size (.cells #[.int .i64 xk, .string xs, .slice D1 xa.length e1, .slice D2 xe.length e2] 34))
          have HR2 := hide (HIN.out.2.1)
          have OX3 := hide (OX.out.belowZ ((Below.refl _ _).alloc (Nat.le_refl _) (.cells #[.int .i64 xk, .string xs, .slice D1 xa.length e1, .slice D2 xe.length e2] 34)))
          have RW : Hid (InRow (w2.alloc (.cells #[.int .i64 xk, .string xs, .slice D1 xa.length e1, .slice D2 xe.length e2] 34)) A2 xe.length 3 (tokCells xe)) := by
            exact RE2.out.below ((Below.refl _ _).alloc (Nat.le_refl _) _)
          go_wp2_with fail
          refine (i_foldExpr A2 xe.length d2 xe _ (by omega) rfl RW.out HSK.out.2.2).mono ?_
          rintro e w4 ⟨⟨v, rfl, hown⟩, hb4⟩
          obtain ⟨A4, d4, rfl, hd4, hm4, ha4, _⟩ := Arr.own2 hown
          have hz4 := hb4.size
          simp at hz4
          have K6b := hide (K6.out.below hb4 (by simp))
          have k0 := K6b.out.cell 0
          have k1 := K6b.out.cell 1
          have k2 := K6b.out.cell 2
          have k3' := K6b.out.cell 3
          have f3 := K6b.out.frozen 3
          simp at k0 k1 k2 k3'
          have K7 := hide (K6b.out.set_ 3 (.slice A4 (foldEx xe).length d4))
          have m0 := K7.out.cell 0
          have m1 := K7.out.cell 1
          have m2 := K7.out.cell 2
          have m3 := K7.out.cell 3
          simp at m0 m1 m2 m3
          have hws := Within.setCell w4 (lo := w2.heap.size) (hi := w2.heap.size + 1) (p := ⟨w2.heap.size, 3, none⟩) (Nat.le_refl _) (Nat.lt_succ_self _) (.slice A4 (foldEx xe).length d4)
          have HW5 : Hid (Below wo.heap.size wo (w4.setCell ⟨w2.heap.size, 3, none⟩ (.slice A4 (foldEx xe).length d4))) := (HW3.out.trans (hb4.mono (by simp; omega))).trans (hws.below (by omega) (by omega))
          have OX5 : Hid (Own (w4.setCell ⟨w2.heap.size, 3, none⟩ (.slice A4 (foldEx xe).length d4)) wo.heap.size (w4.setCell ⟨w2.heap.size, 3, none⟩ (.slice A4 (foldEx xe).length d4)).heap.size (lnRows ((xk, xs, xa, foldEx xe), D1, e1, A4, d4))) := by
            have r1 := ((OX3.out.belowZ hb4).within hws (.inl (Nat.le_refl _)))
            have r1' := (r1.rows (D1, xa.length, 1, strCells xa) (by simp [lnRows]))
            have r2 : Arr (w4.setCell ⟨w2.heap.size, 3, none⟩ (.slice A4 (foldEx xe).length d4)) (w2.heap.size + 1) w4.heap.size A4 (foldEx xe).length 3 (tokCells (foldEx xe)) := by
              have := ha4.within hws (.inr (by simp))
              simpa using this
            have hzz : (w4.setCell ⟨w2.heap.size, 3, none⟩ (.slice A4 (foldEx xe).length d4)).heap.size = w4.heap.size := by simp [World.setCell]
            refine Own.two (r1'.more (Nat.le_refl _) (by rw [hzz]; omega) (Nat.le_refl _)) (r2.more (by omega) (by rw [hzz]; exact Nat.le_refl _) (Nat.le_refl _)) fun hn' hm => ?_
            have h1 : blkOf D1 < w2.heap.size := (r1'.focus hn').2.2.1
            have h2 : w2.heap.size + 1 ≤ blkOf A4 := (r2.focus hm).2.1
            exact fun e => absurd (show blkOf D1 = blkOf A4 from e) (by omega)
          have CX5 : Hid (lnCap ((xk, xs, xa, foldEx xe), D1, e1, A4, d4)) := ⟨CX.out.1, CX.out.2.1, hd4, hm4⟩
          have HX := hide (HO.out.line HW5.out HB.out.size OX5.out CX5.out)
          have B5 := hide (HB.out.trans (HW5.out.mono HB.out.size))
          have hzz : (w4.setCell ⟨w2.heap.size, 3, none⟩ (.slice A4 (foldEx xe).length d4)).heap.size = w4.heap.size := by simp [World.setCell]
          clear hown hb4 ha4 hws he0 k3
          go_wp2_with (first | (at_builtin; refine wpList_appN _ rfl (.tmp 27) (.tmp 29) _ rfl w.heap.size 34 i0 _ 4 72 Try.underlying24 HI.out hz0 hz1 hz2 rfl (by decide) _ _ _ rfl HX.out.1 1 (lnC ((xk, xs, xa, foldEx xe), D1, e1, A4, d4)) rfl ?d0 ?d1 ?d2 ?d3 ?d4 ?d5 ?_) | fail)
          try case d0 => simp
          try case d1 => rfl
          case d2 => intro u hu; simp [lnC] at hu; rcases hu with rfl | rfl | rfl | rfl <;> rfl
          case d3 => omega
          case d4 => decide
          case d5 => exact B5.out.size
          intro v' w6 hown6 hb6 hgr6 hwh6
          have HX6 := hide (HX.out.app hown6 hgr6 (by simpa [World.setCell] using hwh6))
          have B6 := hide (B5.out.trans hb6)
          clear hown6 hb6 hgr6 hwh6
          go_wp2_with fail
          go_roundw
          case rel => exact ⟨k + 1, _, by omega, by go_num, by rw [← HT.out]; simp [foldLn], HX6.out, B6.out⟩
          case measure => simp [intOf]; omega
      · have HA : Hid (P.map Prod.fst = foldPF L) := by show _ = _; rw [HPP.out, HF.out, List.take_of_length_le (by omega)]
        obtain ⟨A', c', hv, hl⟩ := HO.out.lines
        cases hv
        have HL2 := hide hl
        clear hl
        go_wp2_with fail
        go_ret
        refine ⟨⟨A0, cA, ?_, by rw [← HA.out]; exact HL2.out⟩, HB.out⟩
        rw [← HA.out, List.length_map]; rfl
end Go.Proofs.Ytcfjbaanahgpoaa
