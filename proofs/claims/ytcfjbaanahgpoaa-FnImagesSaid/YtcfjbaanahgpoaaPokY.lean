import Derived.Test.YtcfjbaanahgpoaaPokX
import Derived.Test.YtcfjbaanahgpoaaLnOkX
import Derived.Deep.CutRange
import Derived.Deep.CutBlock
namespace Go.Proofs.Ytcfjbaanahgpoaa
open Go Go.RowKit
set_option maxRecDepth 100000
set_option linter.unusedVariables false
set_option linter.unusedSimpArgs false
theorem scanS_step (L : List Ln) (loc : List ByteArray) (k e i : Nat) (d : Int) (h : i < e) : scanS L loc k e i d = if (lnAtD L i).1 = 0 then false else if (lnAtD L i).1 = 4 ∧ elseIn L k i i = false then false else if 4 < d + depF (lnAtD L i).1 then false else if namesX L loc (lnAtD L i).2.2.2 = false then false else scanS L loc k e (i + 1) (d + depF (lnAtD L i).1) := by
  rw [scanS, if_pos h]
theorem scanS_done (L : List Ln) (loc : List ByteArray) (k e i : Nat) (d : Int) (h : ¬ i < e) : scanS L loc k e i d = true := by
  rw [scanS, if_neg h]
set_option maxHeartbeats 4000000 in
theorem s_body (A : Option Addr) (n c k e : Nat) (L : List Ln) (w : World) (hn : n + lnTot L ≤ 1048576) (h : InLines w A n L) (hke : k ≤ e) (he : e < n) :
    Calls Try.prog 38 #[.slice A n c, .int .i64 k, .int .i64 e] w fun e' w' => e' = .returned (.bool (fnS L k e)) ∧ Below w.heap.size w w' := by
  have H := hide h
  have HL := hide h.len
  clear h
  go_enter Try.func38, Try.ntmps38
  go_wp2_with fail
  refine (s_localsOf A n c L (k : Int) _ hn H.out).mono ?_
  rintro e1 W1 ⟨⟨v, rfl, hown⟩, hb1⟩
  have B1 := hide hb1
  obtain ⟨Al, cl, hv, hncl, hal⟩ := Arr.of_own hown
  subst hv
  have HLOC := hide (InRow.of_arr hal)
  have HR1 := hide (H.out.below hb1)
  have hll := locF_length L (k : Int) (lnTot L) (fun x hx => by have := lnTot_mem L x hx; omega)
  have hnl : L.length = n := HL.out
  have HFN : Hid (fnS L k e = (decide ((locF L (k : Int)).length ≤ 8) && scanS L (locF L (k : Int)) k e (k + 1) 0)) := rfl
  generalize locF L (k : Int) = loc at *
  clear hown hb1 hal
  by_cases h8 : 8 < loc.length
  · have HN : Hid (fnS L k e = false) := by show _ = _; rw [HFN.out, decide_eq_false (by omega)]; rfl
    go_wp2_with fail
    go_ret
    exact ⟨by rw [HN.out]; rfl, B1.out⟩
  · have HS : Hid (fnS L k e = scanS L loc k e (k + 1) 0) := by show _ = _; rw [HFN.out, decide_eq_true (by omega), Bool.true_and]
    go_wp2_with fail
    go_loopw [8, 9] (fun v i wr => ∃ (q : Nat) (d : Int), k + 1 ≤ q ∧ (q ≤ e ∨ q = k + 1) ∧ -(q : Int) ≤ d ∧ d ≤ q ∧ i = .int .i64 q ∧ v = .int .i64 d ∧ fnS L k e = scanS L loc k e q d ∧ Below W1.heap.size W1 wr) (fun _ i _ => e + 1 - (intOf i).toNat)
    case atStart => exact ⟨k + 1, 0, by omega, by omega, by omega, by omega, by go_num, rfl, HS.out, Below.refl _ _⟩
    case round =>
      obtain ⟨q, d, hq1, hq2, hd1, hd2, rfl, rfl, hres, hb⟩ := hrel
      have HB := hide hb
      have HX := hide hres
      have R := hide (HR1.out.below hb)
      have RL := hide (HLOC.out.below hb)
      clear hb hres HS
      obtain ⟨wo, rfl⟩ : ∃ wo : World, wo = wr := ⟨_, rfl⟩
      by_cases hqe : q < e
      · have hql : q < L.length := by omega
        have HSC := hide (scanS_step L loc k e q d hqe)
        rw [lnAtD_of L q hql] at HSC
        obtain ⟨b, o, A1, c1, A2, c2, rfl, hbl, d0, d1, d2, d3, hin⟩ := R.out.ln q hql
        have htot := lnTot_mem L _ (List.getElem_mem hql)
        clear hin
        have zq : decide (q < e) = true := decide_eq_true hqe
        go_upto_block 2 with fail
        go_cut [8, 10, 11] from 33 to 61 (fun v t10 t11 wx => v = .int .i64 (d + depF L[q].1) ∧ L[q].1 ≠ 0 ∧ (L[q].1 = 4 → elseIn L k q q = true) ∧ wx = wo)
        case first =>
          have BW := hide (B1.out.trans (HB.out.mono B1.out.size))
          by_cases h0 : L[q].1 = 0
          · have HN : Hid (fnS L k e = false) := by show _ = _; rw [HX.out, HSC.out, if_pos h0]
            have z0 : (L[q].1 == 0) = true := by simp [h0]
            clear h0
            go_wp2_with fail
            go_ret
            exact ⟨by rw [HN.out]; rfl, BW.out⟩
          · have z0 : (L[q].1 == 0) = false := by simp [h0]
            by_cases h3 : L[q].1 = 3
            · have HD : Hid (L[q].1 = 3) := h3
              have z3 : (L[q].1 == 3) = true := by simp [h3]
              clear h0 h3
              go_wp2_with fail
              go_meet
              refine ⟨?_, ?_, ?_, rfl⟩
              · rw [HD.out]; rfl
              · rw [HD.out]; decide
              · rw [HD.out]; intro h; exact absurd h (by decide)
            · have z3 : (L[q].1 == 3) = false := by simp [h3]
              by_cases h5 : L[q].1 = 5
              · have HD : Hid (L[q].1 = 5) := h5
                have z5 : (L[q].1 == 5) = true := by simp [h5]
                clear h0 h3 h5
                go_wp2_with fail
                go_meet
                refine ⟨?_, ?_, ?_, rfl⟩
                · rw [HD.out]; rfl
                · rw [HD.out]; decide
                · rw [HD.out]; intro h; exact absurd h (by decide)
              · have z5 : (L[q].1 == 5) = false := by simp [h5]
                by_cases h7 : L[q].1 = 7
                · have HD : Hid (L[q].1 = 7) := h7
                  have z7 : (L[q].1 == 7) = true := by simp [h7]
                  clear h0 h3 h5 h7
                  go_wp2_with fail
                  go_meet
                  refine ⟨?_, ?_, ?_, rfl⟩
                  · rw [HD.out]; rfl
                  · rw [HD.out]; decide
                  · rw [HD.out]; intro h; exact absurd h (by decide)
                · have z7 : (L[q].1 == 7) = false := by simp [h7]
                  have hdep : depF L[q].1 = 0 := by
                    rcases dep_cases L[q].1 with ⟨a, _⟩ | ⟨a, _⟩ | ⟨a, _⟩ | ⟨_, _, _, _, a⟩
                    · exact absurd a h0
                    · rcases a with a | a
                      · exact absurd a h3
                      · exact absurd a h5
                    · exact absurd a h7
                    · exact a
                  have HDEP := hide hdep
                  have H0 := hide h0
                  by_cases h4 : L[q].1 = 4
                  · have z4 : (L[q].1 == 4) = true := by simp [h4]
                    have H4 := hide h4
                    clear h0 h3 h5 h7 h4 hdep
                    go_wp2_with fail
                    go_loop [10, 11] (fun f j => ∃ p : Nat, k ≤ p ∧ p ≤ q ∧ j = .int .i64 p ∧ f = .bool (elseIn L k p q)) (fun _ j => q - (intOf j).toNat)
                    case atStart => exact ⟨k, Nat.le_refl _, by omega, rfl, by rw [elseIn_nil L k k q (Nat.le_refl _)]⟩
                    case round =>
                      obtain ⟨p, hp1, hp2, rfl, rfl⟩ := hrel
                      by_cases hpq : p < q
                      · have hst := elseIn_step L k p (q : Int) hp1
                        have HST := hide hst
                        have hei := s_elseOf (some ⟨b, o, none⟩) n c L (p : Int) wo (by omega) R.out
                        have HEI := hide hei
                        clear hst hei
                        cases hel : elseIn L k p (q : Int)
                        · by_cases heq : elseOfF L (p : Int) = (q : Int)
                          · have HN : Hid (elseIn L k (p + 1) (q : Int) = true) := by show _ = _; rw [HST.out, decide_eq_true heq, Bool.or_true]
                            have zz : (elseOfF L (p : Int) == (q : Int)) = true := by simp [heq]
                            generalize elseOfF L (p : Int) = ee at *
                            clear heq hel
                            go_wp2_with fail
                            refine HEI.out.mono ?_
                            rintro e' w' ⟨rfl, rfl⟩
                            go_wp2_with fail
                            go_round
                            case rel => exact ⟨p + 1, by omega, by omega, by go_num, by rw [HN.out]⟩
                            case measure => simp [intOf]; omega
                          · have HN : Hid (elseIn L k (p + 1) (q : Int) = false) := by show _ = _; rw [HST.out, decide_eq_false heq, hel]; rfl
                            have zz : (elseOfF L (p : Int) == (q : Int)) = false := by simp [heq]
                            generalize elseOfF L (p : Int) = ee at *
                            clear heq hel
                            go_wp2_with fail
                            refine HEI.out.mono ?_
                            rintro e' w' ⟨rfl, rfl⟩
                            go_wp2_with fail
                            go_round
                            case rel => exact ⟨p + 1, by omega, by omega, by go_num, by rw [HN.out]⟩
                            case measure => simp [intOf]; omega
                        · have HN : Hid (elseIn L k (p + 1) (q : Int) = true) := by show _ = _; rw [HST.out, hel, Bool.true_or]
                          clear hel
                          go_wp2_with fail
                          go_round
                          case rel => exact ⟨p + 1, by omega, by omega, by go_num, by rw [HN.out]⟩
                          case measure => simp [intOf]; omega
                      · have hpe : p = q := by omega
                        subst hpe
                        cases hel : elseIn L k p (p : Int)
                        · have HN : Hid (fnS L k e = false) := by show _ = _; rw [HX.out, HSC.out, if_neg H0.out, if_pos ⟨H4.out, hel⟩]
                          clear hel
                          go_wp2_with fail
                          go_ret
                          exact ⟨by rw [HN.out]; rfl, BW.out⟩
                        · have HEL := hide hel
                          clear hel
                          go_wp2_with fail
                          go_meet
                          refine ⟨?_, H0.out, fun _ => HEL.out, rfl⟩
                          rw [HDEP.out, Int.add_zero]
                  · have z4 : (L[q].1 == 4) = false := by simp [h4]
                    have H4 := hide h4
                    clear h0 h3 h5 h7 h4 hdep
                    go_wp2_with fail
                    go_meet
                    refine ⟨?_, H0.out, fun h => absurd h H4.out, rfl⟩
                    rw [HDEP.out, Int.add_zero]
        case rest =>
          obtain ⟨rfl, h0, h4, rfl⟩ := hcut
          have hdl := depF_le L[q].1
          rw [if_neg h0, if_neg (fun h => by have := h4 h.1; rw [h.2] at this; cases this)] at HSC
          generalize hdd : d + depF L[q].1 = d' at *
          have hd1' : -((q + 1 : Nat) : Int) ≤ d' := by omega
          have hd2' : d' ≤ ((q + 1 : Nat) : Int) := by omega
          clear h0 h4 hdl hdd
          by_cases hd4 : 4 < d'
          · have HN : Hid (fnS L k e = false) := by show _ = _; rw [HX.out, HSC.out, if_pos hd4]
            have zd : decide (4 < d') = true := decide_eq_true hd4
            clear hd4
            go_wp2_with fail
            go_ret
            exact ⟨by rw [HN.out]; rfl, B1.out.trans (HB.out.mono B1.out.size)⟩
          · rw [if_neg hd4] at HSC
            have zd : decide (4 < d') = false := decide_eq_false hd4
            clear hd4
            go_wp2_with fail
            clear d0 d1 d2 d3
            go_loopw [12] (fun i wr => ∃ j : Nat, j ≤ L[q].2.2.2.length ∧ i = .int .i64 j ∧ (L[q].2.2.2.take j).all (nameX L loc) = true ∧ Below W1.heap.size W1 wr) (fun i _ => L[q].2.2.2.length - (intOf i).toNat)
            case atStart => exact ⟨0, Nat.zero_le _, rfl, rfl, HB.out⟩
            case round =>
              obtain ⟨j, hj, rfl, hall, hb⟩ := hrel
              have HB2 := hide hb
              have HA := hide hall
              have R2 := hide (HR1.out.below hb)
              have RL2 := hide (HLOC.out.below hb)
              clear hb hall
              obtain ⟨b', o', A1', c1', A2', c2', eA, hbl', d0, d1, d2, d3, hin⟩ := R2.out.ln q hql
              cases eA
              have HE := hide hin.2.1
              clear hin
              have hexl : L[q].2.2.2.length ≤ 1048576 := by omega
              have HEXE : Hid (∀ m, m = L[q].2.2.2 → True) := fun _ _ => trivial
              obtain ⟨ex, hex⟩ : ∃ ex, L[q].2.2.2 = ex := ⟨_, rfl⟩
              rw [hex] at HSC HE HA d3 hexl hj ⊢
              by_cases hlt : j < ex.length
              · obtain ⟨b7, o7, rfl, hbl7, e0, e1, e2⟩ := HE.out.tok j hlt
                have HSTEP := hide (names_step L loc ex j hlt HA.out)
                have HBAD := hide (names_bad L loc ex j hlt)
                obtain ⟨t, ht⟩ : ∃ t, ex[j] = t := ⟨_, rfl⟩
                rw [ht] at HSTEP HBAD e0 e1 e2
                obtain ⟨tk, tn, ts⟩ := t
                simp only at e0 e1 e2
                have B0 := hide (HB2.out.alloc HB2.out.size (.cells #[.int .i64 tk, .int .i64 tn, .string ts] 64))
                have R0 := hide (R2.out.below ((Below.refl _ _).alloc (Nat.le_refl _) (.cells #[.int .i64 tk, .int .i64 tn, .string ts] 64)))
                have RL0 := hide (RL2.out.below ((Below.refl _ _).alloc (Nat.le_refl _) (.cells #[.int .i64 tk, .int .i64 tn, .string ts] 64)))
                have BALL := hide (B1.out.trans (B0.out.mono B1.out.size))
                have HFBAD : Hid (namesX L loc ex = false → fnS L k e = false) := fun h => by rw [HX.out, HSC.out, if_pos h]
                clear ht
                by_cases h1 : tk = 1
                · have HXV := hide (nameX_var L loc (tk, tn, ts) h1)
                  have z1 : (tk == 1) = true := by simp [h1]
                  have z7 : (tk == 7) = false := by simp [h1]
                  clear h1
                  have hix := s_index Al loc.length cl loc ts (wr.alloc (.cells #[.int .i64 tk, .int .i64 tn, .string ts] 64)) (by omega) RL0.out
                  have HIX := hide hix
                  clear hix
                  simp only at HXV
                  have hir := idxF_le loc ts
                  generalize idxF loc ts = ix at *
                  by_cases hm : 0 ≤ ix
                  · have HN := hide (HSTEP.out (by rw [HXV.out]; exact decide_eq_true hm))
                    have zx : decide (ix < 0) = false := decide_eq_false (by omega)
                    go_wp2_with fail
                    refine HIX.out.mono ?_
                    rintro e' w' ⟨rfl, rfl⟩
                    go_wp2_with fail
                    go_roundw
                    case rel => exact ⟨j + 1, by omega, by go_num, HN.out, B0.out⟩
                    case measure => simp [intOf]; omega
                  · have HN := hide (HFBAD.out (HBAD.out (by rw [HXV.out]; exact decide_eq_false hm)))
                    have zx : decide (ix < 0) = true := decide_eq_true (by omega)
                    go_wp2_with fail
                    refine HIX.out.mono ?_
                    rintro e' w' ⟨rfl, rfl⟩
                    go_wp2_with fail
                    go_ret
                    exact ⟨by rw [HN.out]; rfl, BALL.out⟩
                · have z1 : (tk == 1) = false := by simp [h1]
                  by_cases h7 : tk = 7
                  · have HXC := hide (nameX_call L loc (tk, tn, ts) h7)
                    have z7 : (tk == 7) = true := by simp [h7]
                    have hfr := findF_range L ts
                    clear h1 h7
                    have hfi := s_findFunction (some ⟨b, o, none⟩) n c L ts _ (by omega) R0.out
                    have HF := hide hfi
                    clear hfi
                    simp only at HXC
                    generalize findF L ts = f at *
                    rcases hfr with hf | ⟨hf0, hf1⟩
                    · subst hf
                      have HN := hide (HFBAD.out (HBAD.out (by rw [HXC.out]; exact decide_eq_false (fun h => by omega))))
                      go_wp2_with fail
                      refine HF.out.mono ?_
                      rintro e' w1 ⟨rfl, rfl⟩
                      go_wp2_with fail
                      go_quiet (fail)
                      go_wp2_with fail
                      go_ret
                      exact ⟨by rw [HN.out]; rfl, below_drewN BALL.out nq⟩
                    · obtain ⟨jf, rfl⟩ := Int.eq_ofNat_of_zero_le hf0
                      have hjf : jf < L.length := by omega
                      have hjn : jf < n := by omega
                      obtain ⟨b2, o2, B1', d1', B2', d2', eA, hbl2, g0, g1, g2, g3, _⟩ := R0.out.ln jf hjf
                      cases eA
                      rw [Int.toNat_natCast, lnAtD_of L jf hjf] at HXC
                      have hlen : L[jf].2.2.1.length ≤ 1048576 := by have := lnTot_mem L _ (List.getElem_mem hjf); omega
                      by_cases hq : (L[jf].2.2.1.length : Int) = tn
                      · have HN := hide (HSTEP.out (by rw [HXC.out]; exact decide_eq_true ⟨hf0, hq⟩))
                        have zq' : ((L[jf].2.2.1.length : Int) != tn) = false := by simp [hq]
                        clear hq
                        go_wp2_with fail
                        refine HF.out.mono ?_
                        rintro e' w1 ⟨rfl, rfl⟩
                        go_wp2_with fail
                        go_quiet (fail)
                        go_wp2_with fail
                        go_roundw
                        case rel => exact ⟨j + 1, by omega, by go_num, HN.out, below_drewN B0.out nq⟩
                        case measure => simp [intOf]; omega
                      · have HN := hide (HFBAD.out (HBAD.out (by rw [HXC.out]; exact decide_eq_false (fun h => hq h.2))))
                        have zq' : ((L[jf].2.2.1.length : Int) != tn) = true := by simp [hq]
                        clear hq
                        go_wp2_with fail
                        refine HF.out.mono ?_
                        rintro e' w1 ⟨rfl, rfl⟩
                        go_wp2_with fail
                        go_quiet (fail)
                        go_wp2_with fail
                        go_ret
                        exact ⟨by rw [HN.out]; rfl, below_drewN BALL.out nq⟩
                  · have z7 : (tk == 7) = false := by simp [h7]
                    have HN := hide (HSTEP.out (nameX_other L loc (tk, tn, ts) h1 h7))
                    clear h1 h7
                    go_wp2_with fail
                    go_roundw
                    case rel => exact ⟨j + 1, by omega, by go_num, HN.out, B0.out⟩
                    case measure => simp [intOf]; omega
              · have HNX := hide (names_end L loc ex j (by omega) HA.out)
                have HN : Hid (fnS L k e = scanS L loc k e (q + 1) d') := by show _ = _; rw [HX.out, HSC.out, if_neg (by rw [HNX.out]; simp)]
                have zj : decide (j < ex.length) = false := decide_eq_false hlt
                clear hlt
                go_wp2_with fail
                go_roundw
                case rel => exact ⟨q + 1, d', by omega, by omega, hd1', hd2', by go_num, rfl, HN.out, HB2.out⟩
                case measure => simp [intOf]; omega
      · have HN : Hid (fnS L k e = true) := by show _ = _; rw [HX.out, scanS_done L loc k e q d hqe]
        go_wp2_with fail
        go_ret
        exact ⟨by rw [HN.out]; rfl, B1.out.trans (HB.out.mono B1.out.size)⟩
end Go.Proofs.Ytcfjbaanahgpoaa
namespace Go.Proofs.Ytcfjbaanahgpoaa
open Go Go.RowKit
set_option maxRecDepth 100000
set_option linter.unusedVariables false
set_option linter.unusedSimpArgs false
theorem progS_not {L : List Ln} (h : ¬ (0 < L.length ∧ L.length ≤ 60 ∧ headOk L ∧ (funsF L).length ≤ 6 ∧ (∀ k : Nat, k < L.length → lineOkF (lnAtD L k) = true ∧ ((lnAtD L k).1 = 0 → findF L (lnAtD L k).2.1 = k)) ∧ tileS L 0 = true)) : progS L = false := yes_not h
theorem progS_tile {L : List Ln} (h0 : 0 < L.length) (h1 : L.length ≤ 60) (h2 : headOk L) (h3 : (funsF L).length ≤ 6) (h4 : ∀ k : Nat, k < L.length → lineOkF (lnAtD L k) = true ∧ ((lnAtD L k).1 = 0 → findF L (lnAtD L k).2.1 = k)) : progS L = tileS L 0 := by
  cases ht : tileS L 0
  · exact progS_not (fun h => by rw [ht] at h; exact absurd h.2.2.2.2.2 (by simp))
  · exact yes_of ⟨h0, h1, h2, h3, h4, ht⟩
theorem tileS_bad {L : List Ln} {k : Nat} (hk : k < L.length) (h : ¬ ((lnAtD L k).1 = 0 ∧ 0 ≤ endOfF L k ∧ fnS L k (endOfF L k).toNat = true)) : tileS L k = false := by rw [tileS, if_pos hk, if_neg h]
theorem tileS_good {L : List Ln} {k e : Nat} (hk : k < L.length) (he : endOfF L k = e) (hke : k < e) (h : (lnAtD L k).1 = 0 ∧ fnS L k e = true) : tileS L k = tileS L (e + 1) := by
  rw [tileS, if_pos hk, he, Int.toNat_natCast, if_pos ⟨h.1, by omega, h.2⟩, Nat.max_eq_right (by omega)]
theorem tileS_end {L : List Ln} {k : Nat} (hk : ¬ k < L.length) : tileS L k = true := by rw [tileS, if_neg hk]
set_option maxHeartbeats 4000000 in
theorem s_programOk (A : Option Addr) (n c : Nat) (L : List Ln) (w : World) (hn : n + lnTot L ≤ 1048576) (h : InLines w A n L) (hs : ∀ x ∈ L, LnSz x) :
    Calls Try.prog 10 #[.slice A n c] w fun e w' => e = .returned (.bool (progS L)) ∧ Below w.heap.size w w' := by
  have H := hide h
  have HL := hide h.len
  have HS := hide hs
  clear h hs
  have hnl : L.length = n := HL.out
  have HNOT := hide (@progS_not L)
  have HTILE := hide (@progS_tile L)
  by_cases hn0 : n = 0
  · have HN : Hid (progS L = false) := HNOT.out (fun h => by omega)
    subst hn0
    go_enter Try.func10, Try.ntmps10
    go_wp2_with fail
    go_ret
    exact ⟨by rw [HN.out]; rfl, Below.refl _ _⟩
  have zn0 : ((n : Int) == 0) = false := by simp [hn0]
  by_cases hn60 : 60 < n
  · have HN : Hid (progS L = false) := HNOT.out (fun h => by omega)
    have z60 : decide ((60 : Int) < (n : Int)) = true := decide_eq_true (by omega)
    go_enter Try.func10, Try.ntmps10
    go_wp2_with fail
    go_ret
    exact ⟨by rw [HN.out]; rfl, Below.refl _ _⟩
  have z60 : decide ((60 : Int) < (n : Int)) = false := decide_eq_false (by omega)
  have hn1 : 0 < L.length := by omega
  obtain ⟨b, o, A1, d1, A2, d2, rfl, hbl, c0, c1, c2, c3, hin⟩ := H.out.ln 0 hn1
  have HL0 := hide (lnAtD_of L 0 hn1)
  have htot := lnTot_mem L _ (List.getElem_mem hn1)
  clear hin
  simp only [Nat.zero_mul, Nat.add_zero] at c0 c1 c2 c3
  obtain ⟨x, hx⟩ : ∃ x, L[0] = x := ⟨_, rfl⟩
  rw [hx] at HL0 c0 c1 c2 c3 htot
  obtain ⟨xk, xs, xa, xe⟩ := x
  simp only at c0 c1 c2 c3 htot
  clear hx
  by_cases hhd : headOk L
  · have HHD := hide hhd
    obtain ⟨hh1, hh2, hh3⟩ := hhd
    rw [HL0.out] at hh1 hh2 hh3
    simp only at hh1 hh2 hh3
    have z0 : (xk != 0) = false := by simp [hh1]
    have z1 := main_eq hh2
    have z2 : ((xa.length : Int) != 0) = false := by simp [hh3]
    have z2' : (xa.length == 0) = true := by simp [hh3]
    clear hh1 hh2 hh3
    go_enter Try.func10, Try.ntmps10
    go_wp2_with fail
    refine (s_funs (some ⟨b, o, none⟩) n c L _ (by omega) H.out).mono ?_
    rintro e1 W1 ⟨⟨v, rfl, hown⟩, hb1⟩
    have B1 := hide hb1
    have HR1 := hide (H.out.below hb1)
    obtain ⟨Af, cf, hv, hncf, haf⟩ := Arr.of_own hown
    subst hv
    have hfl := funsFrom_len L 0
    have hfe : funsF L = funsFrom L 0 := rfl
    rw [← hfe] at hfl
    clear hfe hown hb1 haf c0 c1 c2 c3 z1 z0 z2 z2'
    generalize funsF L = fs at *
    by_cases h6 : 6 < fs.length
    · have HN : Hid (progS L = false) := HNOT.out (fun h => by omega)
      have z6 : decide ((6 : Int) < (fs.length : Int)) = true := decide_eq_true (by omega)
      clear h6
      go_wp2_with fail
      go_ret
      exact ⟨by rw [HN.out]; rfl, B1.out⟩
    · have z6 : decide ((6 : Int) < (fs.length : Int)) = false := decide_eq_false (by omega)
      have HF6 : Hid (fs.length ≤ 6) := by show _ ≤ _; omega
      clear h6
      go_wp2_with fail
      go_loopw [3] (fun i wr => ∃ k : Nat, k ≤ n ∧ i = .int .i64 k ∧ (∀ j : Nat, j < k → lineOkF (lnAtD L j) = true ∧ ((lnAtD L j).1 = 0 → findF L (lnAtD L j).2.1 = j)) ∧ Below W1.heap.size W1 wr) (fun i _ => n - (intOf i).toNat)
      case atStart => exact ⟨0, Nat.zero_le _, rfl, fun j hj => absurd hj (Nat.not_lt_zero j), Below.refl _ _⟩
      case round =>
        obtain ⟨k, hk, rfl, hall, hb⟩ := hrel
        have HB := hide hb
        have HA := hide hall
        have R := hide (HR1.out.below hb)
        clear hb hall
        obtain ⟨wo, rfl⟩ : ∃ wo : World, wo = wr := ⟨_, rfl⟩
        by_cases hlt : k < n
        · have hkl : k < L.length := by omega
          obtain ⟨b5, o5, A1', d1', A2', d2', eA, hbl', c0, c1, c2, c3, hin⟩ := R.out.ln k hkl
          cases eA
          have hsz := HS.out _ (List.getElem_mem hkl)
          have htot := lnTot_mem L _ (List.getElem_mem hkl)
          have HLK := hide (lnAtD_of L k hkl)
          have HIN := hide hin
          have HSZ := hide hsz
          have HRK : Hid (∀ w', Below wo.heap.size wo w' → ∃ B1 e1 B2 e2, w'.cell? ⟨b, o + k * 4, none⟩ = some (.int .i64 L[k].1) ∧ w'.cell? ⟨b, o + k * 4 + 1, none⟩ = some (.string L[k].2.1) ∧ w'.cell? ⟨b, o + k * 4 + 2, none⟩ = some (.slice B1 L[k].2.2.1.length e1) ∧ w'.cell? ⟨b, o + k * 4 + 3, none⟩ = some (.slice B2 L[k].2.2.2.length e2)) := fun w' hb => by
            obtain ⟨b6, o6, B1, e1, B2, e2, eA, _, g0, g1, g2, g3, _⟩ := (R.out.below hb).ln k hkl
            cases eA
            exact ⟨B1, e1, B2, e2, g0, g1, g2, g3⟩
          clear hin hsz
          obtain ⟨x, hx⟩ : ∃ x, L[k] = x := ⟨_, rfl⟩
          rw [hx] at HLK HIN HSZ HRK c0 c1 c2 c3 htot
          obtain ⟨yk, ys, ya, ye⟩ := x
          simp only at c0 c1 c2 c3 htot HRK
          clear hx
          cases hq : lineOkF (yk, ys, ya, ye)
          · have HN : Hid (progS L = false) := HNOT.out (fun h => by
              have := (h.2.2.2.2.1 k hkl).1
              rw [HLK.out, hq] at this; cases this)
            go_wp2_with fail
            refine (s_lineOk (yk, ys, ya, ye) A1' A2' d1' d2' _ (by simp only; omega) HIN.out HSZ.out).mono ?_
            rintro e w1 ⟨rfl, hb1⟩
            rw [hq]
            have B2 := hide (B1.out.trans ((HB.out.trans (hb1.mono HB.out.size)).mono B1.out.size))
            clear hb1 c0 c1 c2 c3
            go_wp2_with fail
            go_ret
            exact ⟨by rw [HN.out]; rfl, B2.out⟩
          · by_cases hk0 : yk = 0
            · have z0 : (yk == 0) = true := by simp [hk0]
              have HK0 := hide hk0
              clear hk0
              by_cases hfk : findF L ys = (k : Int)
              · have HN : Hid (∀ j : Nat, j < k + 1 → lineOkF (lnAtD L j) = true ∧ ((lnAtD L j).1 = 0 → findF L (lnAtD L j).2.1 = j)) := by
                  intro j hj
                  rcases Nat.lt_succ_iff_lt_or_eq.1 hj with h | h
                  · exact HA.out j h
                  · subst h; rw [HLK.out]; exact ⟨hq, fun _ => hfk⟩
                have zf : (findF L ys != (k : Int)) = false := by simp [hfk]
                have HFK := hide hfk
                clear hfk
                go_wp2_with fail
                refine (s_lineOk (yk, ys, ya, ye) A1' A2' d1' d2' _ (by simp only; omega) HIN.out HSZ.out).mono ?_
                rintro e w1 ⟨rfl, hb1⟩
                rw [hq]
                have HB2 := hide (HB.out.trans (hb1.mono HB.out.size))
                have R2 := hide (R.out.below hb1)
                obtain ⟨B1', e1, B2', e2, g0, g1, g2, g3⟩ := HRK.out w1 hb1
                clear hb1 c0 c1 c2 c3
                have hfi := s_findFunction (some ⟨b, o, none⟩) n c L ys w1 (by omega) R2.out
                have HFI := hide hfi
                clear hfi
                generalize findF L ys = ff at *
                go_wp2_with fail
                refine HFI.out.mono ?_
                rintro e w' ⟨rfl, rfl⟩
                go_wp2_with fail
                go_roundw
                case rel => exact ⟨k + 1, by omega, by go_num, HN.out, HB2.out⟩
                case measure => simp [intOf]; omega
              · have HN : Hid (progS L = false) := HNOT.out (fun h => by
                  have := (h.2.2.2.2.1 k hkl).2
                  rw [HLK.out] at this
                  exact hfk (this HK0.out))
                have zf : (findF L ys != (k : Int)) = true := by simp [hfk]
                clear hfk
                go_wp2_with fail
                refine (s_lineOk (yk, ys, ya, ye) A1' A2' d1' d2' _ (by simp only; omega) HIN.out HSZ.out).mono ?_
                rintro e w1 ⟨rfl, hb1⟩
                rw [hq]
                have HB2 := hide (B1.out.trans ((HB.out.trans (hb1.mono HB.out.size)).mono B1.out.size))
                have R2 := hide (R.out.below hb1)
                obtain ⟨B1', e1, B2', e2, g0, g1, g2, g3⟩ := HRK.out w1 hb1
                clear hb1 c0 c1 c2 c3
                have hfi := s_findFunction (some ⟨b, o, none⟩) n c L ys w1 (by omega) R2.out
                have HFI := hide hfi
                clear hfi
                generalize findF L ys = ff at *
                go_wp2_with fail
                refine HFI.out.mono ?_
                rintro e w' ⟨rfl, rfl⟩
                go_wp2_with fail
                go_ret
                exact ⟨by rw [HN.out]; rfl, HB2.out⟩
            · have z0 : (yk == 0) = false := by simp [hk0]
              have HN : Hid (∀ j : Nat, j < k + 1 → lineOkF (lnAtD L j) = true ∧ ((lnAtD L j).1 = 0 → findF L (lnAtD L j).2.1 = j)) := by
                intro j hj
                rcases Nat.lt_succ_iff_lt_or_eq.1 hj with h | h
                · exact HA.out j h
                · subst h; rw [HLK.out]; exact ⟨hq, fun h => absurd h hk0⟩
              clear hk0
              go_wp2_with fail
              refine (s_lineOk (yk, ys, ya, ye) A1' A2' d1' d2' _ (by simp only; omega) HIN.out HSZ.out).mono ?_
              rintro e w1 ⟨rfl, hb1⟩
              rw [hq]
              have HB2 := hide (HB.out.trans (hb1.mono HB.out.size))
              obtain ⟨B1', e1, B2', e2, g0, g1, g2, g3⟩ := HRK.out w1 hb1
              clear hb1 c0 c1 c2 c3
              go_wp2_with fail
              go_roundw
              case rel => exact ⟨k + 1, by omega, by go_num, HN.out, HB2.out⟩
              case measure => simp [intOf]; omega
        · have HPT : Hid (progS L = tileS L 0) := HTILE.out (by omega) (by omega) HHD.out HF6.out (fun j hj => HA.out j (by omega))
          have zk : decide (k < n) = false := decide_eq_false hlt
          clear hlt HA HNOT HTILE
          go_wp2_with fail
          go_loopw [4] (fun i wr => ∃ k : Nat, k ≤ n ∧ i = .int .i64 k ∧ tileS L 0 = tileS L k ∧ Below wo.heap.size wo wr) (fun i _ => n - (intOf i).toNat)
          case atStart => exact ⟨0, Nat.zero_le _, rfl, rfl, Below.refl _ _⟩
          case round =>
            obtain ⟨p, hp, rfl, htl, hb⟩ := hrel
            have HB2 := hide hb
            have HT := hide htl
            have R2 := hide (R.out.below hb)
            have BALL := hide (B1.out.trans ((HB.out.trans (hb.mono HB.out.size)).mono B1.out.size))
            clear hb htl
            obtain ⟨wp, rfl⟩ : ∃ wp : World, wp = wr := ⟨_, rfl⟩
            by_cases hlt : p < n
            · have hpl : p < L.length := by omega
              obtain ⟨b5, o5, A1', d1', A2', d2', eA, hbl', c0, c1, c2, c3, hin⟩ := R2.out.ln p hpl
              cases eA
              have HLK := hide (lnAtD_of L p hpl)
              have HEO : Hid (Calls Try.prog 13 #[.slice (some ⟨b, o, none⟩) n c, .int .i64 (p : Int)] wp fun e w' => e = .returned (.int .i64 (endOfF L (p : Int))) ∧ wp = w') := s_endOf (some ⟨b, o, none⟩) n c L (p : Int) wp (by omega) R2.out
              have HBAD : Hid (¬ (L[p].1 = 0 ∧ 0 ≤ endOfF L (p : Int) ∧ fnS L p (endOfF L (p : Int)).toNat = true) → progS L = false) := fun hh => by rw [HPT.out, HT.out, tileS_bad hpl (by rwa [HLK.out])]
              clear hin
              by_cases hk0 : L[p].1 = 0
              · have z0 : (L[p].1 != 0) = false := by simp [hk0]
                by_cases he0 : 0 ≤ endOfF L (p : Int)
                · obtain ⟨p', hp', hpl', hop, hpe, hel, _⟩ := endOf_pos L (p : Int) he0
                  have HGOOD : Hid (fnS L p (endOfF L (p : Int)).toNat = true → tileS L 0 = tileS L ((endOfF L (p : Int)).toNat + 1)) := fun hh => by
                    rw [HT.out, tileS_good hpl (e := (endOfF L (p : Int)).toNat) (by omega) (by omega) ⟨by rw [HLK.out]; exact hk0, hh⟩]
                  obtain ⟨ee, he⟩ := Int.eq_ofNat_of_zero_le he0
                  rw [he] at HEO HBAD hpe hel HGOOD
                  rw [Int.toNat_natCast] at HBAD HGOOD
                  have hen : ee < n := by omega
                  have hke : p ≤ ee := by omega
                  have ze : decide ((ee : Int) < 0) = false := decide_eq_false (by omega)
                  clear he0 he hp' hpl' hop hpe hel
                  cases hfn : fnS L p ee
                  · have HN := hide (HBAD.out (fun h => by rw [hfn] at h; exact absurd h.2.2 (by simp)))
                    clear hk0
                    go_wp2_with fail
                    refine HEO.out.mono ?_
                    rintro e' w' ⟨rfl, rfl⟩
                    go_wp2_with fail
                    refine (s_body (some ⟨b, o, none⟩) n c p ee L _ hn R2.out hke hen).mono ?_
                    rintro e' w3 ⟨rfl, hb3⟩
                    rw [hfn]
                    have HB3 := hide (BALL.out.trans (hb3.mono BALL.out.size))
                    clear hb3
                    go_wp2_with fail
                    go_ret
                    exact ⟨by rw [HN.out]; rfl, HB3.out⟩
                  · have HN := hide (HGOOD.out hfn)
                    clear hk0
                    go_wp2_with fail
                    refine HEO.out.mono ?_
                    rintro e' w' ⟨rfl, rfl⟩
                    go_wp2_with fail
                    refine (s_body (some ⟨b, o, none⟩) n c p ee L _ hn R2.out hke hen).mono ?_
                    rintro e' w3 ⟨rfl, hb3⟩
                    rw [hfn]
                    have HB3 := hide (HB2.out.trans (hb3.mono HB2.out.size))
                    clear hb3
                    go_wp2_with fail
                    go_roundw
                    case rel => exact ⟨ee + 1, by omega, by go_num, HN.out, HB3.out⟩
                    case measure => simp [intOf]; omega
                · have HN := hide (HBAD.out (fun h => he0 h.2.1))
                  have ze : decide (endOfF L (p : Int) < 0) = true := decide_eq_true (by omega)
                  generalize endOfF L (p : Int) = ee at *
                  clear hk0 he0
                  go_wp2_with fail
                  refine HEO.out.mono ?_
                  rintro e' w' ⟨rfl, rfl⟩
                  go_wp2_with fail
                  go_ret
                  exact ⟨by rw [HN.out]; rfl, BALL.out⟩
              · have HN := hide (HBAD.out (fun h => hk0 h.1))
                have z0 : (L[p].1 != 0) = true := by simp [hk0]
                generalize endOfF L (p : Int) = ee at *
                clear hk0
                go_wp2_with fail
                refine HEO.out.mono ?_
                rintro e' w' ⟨rfl, rfl⟩
                go_wp2_with fail
                go_ret
                exact ⟨by rw [HN.out]; rfl, BALL.out⟩
            · have HN : Hid (progS L = true) := by show _ = _; rw [HPT.out, HT.out, tileS_end (by omega)]
              go_wp2_with fail
              go_ret
              exact ⟨by rw [HN.out]; rfl, BALL.out⟩
  · have HN : Hid (progS L = false) := HNOT.out (fun h => hhd h.2.2.1)
    unfold headOk at hhd
    rw [HL0.out] at hhd
    simp only at hhd
    by_cases hh1 : xk = 0
    · have z0 : (xk != 0) = false := by simp [hh1]
      by_cases hh2 : xs = mainW
      · have hh3 : xa.length ≠ 0 := fun h3 => hhd ⟨hh1, hh2, h3⟩
        have z1 := main_eq hh2
        have z2 : ((xa.length : Int) != 0) = true := by simp [hh3]
        have z2' : (xa.length == 0) = false := by simp [hh3]
        clear hhd hh1 hh2 hh3
        go_enter Try.func10, Try.ntmps10
        go_wp2_with fail
        go_ret
        exact ⟨by rw [HN.out]; rfl, Below.refl _ _⟩
      · have z1 := main_ne hh2
        clear hhd hh1 hh2
        go_enter Try.func10, Try.ntmps10
        go_wp2_with fail
        go_ret
        exact ⟨by rw [HN.out]; rfl, Below.refl _ _⟩
    · have z0 : (xk != 0) = true := by simp [hh1]
      clear hhd hh1
      go_enter Try.func10, Try.ntmps10
      go_wp2_with fail
      go_ret
      exact ⟨by rw [HN.out]; rfl, Below.refl _ _⟩
end Go.Proofs.Ytcfjbaanahgpoaa
