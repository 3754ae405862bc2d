import Derived.Test.YthhlimbaoenkkaaFPi
import Derived.Test.YthhlimbaoenkkaaHeld
import Derived.Test.YthhlimbaoenkkaaL7
namespace Go.Proofs.Ythhlimbaoenkkaa
open Go Go.RowKit
set_option maxRecDepth 100000
set_option linter.unusedVariables false
set_option linter.unusedSimpArgs false
theorem foldPF_small (L : List Ln) : (foldPF L).length ≤ L.length ∧ lnTot (foldPF L) ≤ lnTot L := by
  unfold foldPF
  split
  · refine ⟨by simp, ?_⟩
    unfold lnTot
    induction L with
    | nil => simp
    | cons x L ih =>
      simp only [List.map_cons, List.sum_cons]
      rename_i hp
      have h1 : (foldLn x).2.2.1.length + (foldLn x).2.2.2.length ≤ x.2.2.1.length + x.2.2.2.length := by
        have := foldEx_len x.2.2.2
        unfold foldLn; simp only; omega
      have h2 : ((L.map foldLn).map fun x => x.2.2.1.length + x.2.2.2.length).sum ≤ (L.map fun x => x.2.2.1.length + x.2.2.2.length).sum := by
        clear ih hp
        induction L with
        | nil => simp
        | cons y L ih =>
          simp only [List.map_cons, List.sum_cons]
          have := foldEx_len y.2.2.2
          unfold foldLn at ih ⊢
          simp only at ih ⊢
          omega
      omega
  · simp [lnTot]
namespace fnExactFoldProgram
set_option maxHeartbeats 1000000 in
theorem walk (v0 : Value) (w : World) (h0 : InLinesV w v0) : Calls Try.prog 13 #[v0] w fun e w' => e = .returned (.bool true) ∧ Below w.heap.size w w' := by
  obtain ⟨A0, n0, c0, x0, rfl, hnc0, hcm0, hR0, hS0⟩ := h0
  have BB0 := hide (Below.refl w.heap.size w)
  have R0 := hide hR0
  have HS0 := hide hS0
  have HL0 := hide hR0.len
  clear hR0 hS0
  have se0 : same x0 x0 = true := same_of rfl
  go_enter Try.func13, Try.ntmps13
  go_wp2_with fail
  refine (l_szLineS A0 n0 c0 x0 _ _ (by omega) (by omega) (R0.out.below BB0.out) HS0.out).mono ?_
  rintro e w1 ⟨⟨r1, rfl, hlo1, hhi1, hr1⟩, hb1⟩
  have hz1 := hb1.size
  have BB1 := hide (BB0.out.trans (hb1.mono BB0.out.size))
  clear hb1
  by_cases hneg1 : r1 < 0

  · skip
    go_wp2
    go_ret
    exact ⟨rfl, BB1.out⟩
  · have hn0 : n0 + lnTot x0 ≤ 1048576 := by have := hr1 (by omega); omega
    clear hr1
    obtain ⟨hfl, hft⟩ := foldPF_small x0
    have hll := HL0.out
    rw [hll] at hfl
    clear hll
    have hcn := lnsCnt_le (foldPF x0)
    have hneg : ¬ ((1 : Int) + (lnsCnt (foldPF x0) : Int) < 0) := by omega
    have hcm := lnsCnt_le x0
    have hll2 := HL0.out
    have hneg2 : ¬ ((1 : Int) + (lnsCnt x0 : Int) < 0) := by omega
    go_wp2_with fail
    refine (l_toLineS A0 n0 c0 x0 _ (by omega) (R0.out.below BB1.out)).mono ?_
    rintro e w2 ⟨⟨A2, rfl, o2⟩, hb2⟩
    have hz2 := hb2.size
    have BB2 := hide (BB1.out.trans (hb2.mono BB1.out.size))
    clear hb2
    have S0 := hide o2
    clear o2
    go_wp2_with fail
    refine (s_foldProgram A2 n0 n0 x0 _ hn0 (S0.out.in_ HL0.out) HS0.out).mono ?_
    rintro e w3 ⟨⟨A3, c3, rfl, o3⟩, hb3⟩
    have hz3 := hb3.size
    have BB3 := hide (BB2.out.trans (hb3.mono BB2.out.size))
    have S0_3 := hide (S0.out.belowZ hb3)
    clear hb3
    clear S0
    have X3 := hide o3
    clear o3
    have W := X3
    clear X3
    go_wp2_with fail
    refine (l_toLineS A0 n0 c0 x0 _ (by omega) (R0.out.below BB3.out)).mono ?_
    rintro e w4 ⟨⟨A4, rfl, o4⟩, hb4⟩
    have hz4 := hb4.size
    have BB4 := hide (BB3.out.trans (hb4.mono BB3.out.size))
    have W_4 := hide (W.out.belowZ hb4)
    clear hb4
    clear W
    have Y0 := hide o4
    clear o4
    go_wp2_with fail
    refine (i_foldProgram A4 n0 n0 x0 _ hn0 (Y0.out.in_ HL0.out) HS0.out).mono ?_
    rintro e w5 ⟨⟨A5, c5, rfl, o5⟩, hb5⟩
    have hz5 := hb5.size
    have BB5 := hide (BB4.out.trans (hb5.mono BB4.out.size))
    have W_5 := hide (W_4.out.belowZ hb5)
    have Y0_5 := hide (Y0.out.belowZ hb5)
    clear hb5
    clear W_4 Y0
    have X5 := hide o5
    clear o5
    have Z := X5
    clear X5
    have sr : same (foldPF x0) (foldPF x0) = true := same_of rfl
    go_wp2_with fail
    refine (l_eqLineS _ _ _ _ _ _ (foldPF x0) (foldPF x0) _ (by omega) (by omega) (Z.out.in_ rfl) (W_5.out.in_ rfl)).mono ?_
    rintro e w6 ⟨rfl, hb6⟩
    have hz6 := hb6.size
    have BB6 := hide (BB5.out.trans (hb6.mono BB5.out.size))
    have W_6 := hide (W_5.out.belowZ hb6)
    have Y0_6 := hide (Y0_5.out.belowZ hb6)
    have Z_6 := hide (Z.out.belowZ hb6)
    clear hb6
    clear W_5 Y0_5 Z
    go_wp2_with fail
    refine (l_toLineS A0 n0 c0 x0 _ (by omega) (R0.out.below BB6.out)).mono ?_
    rintro e w7 ⟨⟨A7, rfl, o7⟩, hb7⟩
    have hz7 := hb7.size
    have BB7 := hide (BB6.out.trans (hb7.mono BB6.out.size))
    have W_7 := hide (W_6.out.belowZ hb7)
    have Y0_7 := hide (Y0_6.out.belowZ hb7)
    have Z_7 := hide (Z_6.out.belowZ hb7)
    clear hb7
    clear W_6 Y0_6 Z_6
    have T0 := hide o7
    clear o7
    go_wp2_with fail
    refine (l_eqLineS _ _ _ _ _ _ x0 x0 _ (by omega) (by omega) (Y0_7.out.in_ HL0.out) (T0.out.in_ HL0.out)).mono ?_
    rintro e w8 ⟨rfl, hb8⟩
    have hz8 := hb8.size
    have BB8 := hide (BB7.out.trans (hb8.mono BB7.out.size))
    have W_8 := hide (W_7.out.belowZ hb8)
    have Y0_8 := hide (Y0_7.out.belowZ hb8)
    have Z_8 := hide (Z_7.out.belowZ hb8)
    have T0_8 := hide (T0.out.belowZ hb8)
    clear hb8
    clear W_7 Y0_7 Z_7 T0
    go_wp2_with fail
    refine (l_markLineS _ n0 _ _ _ x0 _ _ HL0.out (by omega) (by omega) Y0_8.out).mono ?_
    rintro e w9 ⟨rfl, _, wi9⟩
    have hz9 := wi9.size
    have BB9 := hide (BB8.out.trans (wi9.below (B := w.heap.size) (by omega) (by omega)))
    have W_9 := hide (W_8.out.within wi9 (by omega))
    have Z_9 := hide (Z_8.out.within wi9 (by omega))
    clear wi9
    clear W_8 Z_8
    go_wp2_with fail
    refine (l_eqLineS _ _ _ _ _ _ (foldPF x0) (foldPF x0) _ (by omega) (by omega) (Z_9.out.in_ rfl) (W_9.out.in_ rfl)).mono ?_
    rintro e w10 ⟨rfl, hb10⟩
    have hz10 := hb10.size
    have BB10 := hide (BB9.out.trans (hb10.mono BB9.out.size))
    have W_10 := hide (W_9.out.belowZ hb10)
    have Z_10 := hide (Z_9.out.belowZ hb10)
    clear hb10
    clear W_9 Z_9
    go_wp2_with fail
    refine (l_markLineS _ _ _ _ _ (foldPF x0) _ _ rfl (by omega) (by omega) Z_10.out).mono ?_
    rintro e w11 ⟨rfl, z11, wi11⟩
    have hz11 := wi11.size
    have BB11 := hide (BB10.out.trans (wi11.below (B := w.heap.size) (by omega) (by omega)))
    have W_11 := hide (W_10.out.within wi11 (by omega))
    clear wi11
    clear W_10
    have M := hide z11
    clear z11
    go_wp2_with fail
    refine (l_heldLineS _ _ _ _ _ (foldPF x0) _ _ rfl (by omega) (by omega) M.out).mono ?_
    rintro e w12 ⟨rfl, hb12⟩
    have hz12 := hb12.size
    have BB12 := hide (BB11.out.trans (hb12.mono BB11.out.size))
    have W_12 := hide (W_11.out.belowZ hb12)
    have M_12 := hide (M.out.belowZ hb12)
    clear hb12
    clear W_11 M
    go_wp2_with fail
    refine (l_toLineS A0 n0 c0 x0 _ (by omega) (R0.out.below BB12.out)).mono ?_
    rintro e w13 ⟨⟨A13, rfl, o13⟩, hb13⟩
    have hz13 := hb13.size
    have BB13 := hide (BB12.out.trans (hb13.mono BB12.out.size))
    have W_13 := hide (W_12.out.belowZ hb13)
    have M_13 := hide (M_12.out.belowZ hb13)
    clear hb13
    clear W_12 M_12
    have U0 := hide o13
    clear o13
    go_wp2_with fail
    refine (i_foldProgram A13 n0 n0 x0 _ hn0 (U0.out.in_ HL0.out) HS0.out).mono ?_
    rintro e w14 ⟨⟨A14, c14, rfl, o14⟩, hb14⟩
    have hz14 := hb14.size
    have BB14 := hide (BB13.out.trans (hb14.mono BB13.out.size))
    have W_14 := hide (W_13.out.belowZ hb14)
    have M_14 := hide (M_13.out.belowZ hb14)
    have U0_14 := hide (U0.out.belowZ hb14)
    clear hb14
    clear W_13 M_13 U0
    have X14 := hide o14
    clear o14
    have Q := X14
    clear X14
    go_wp2_with fail
    refine (l_eqLineS _ _ _ _ _ _ (foldPF x0) (foldPF x0) _ (by omega) (by omega) (Q.out.in_ rfl) (W_14.out.in_ rfl)).mono ?_
    rintro e w15 ⟨rfl, hb15⟩
    have hz15 := hb15.size
    have BB15 := hide (BB14.out.trans (hb15.mono BB14.out.size))
    have W_15 := hide (W_14.out.belowZ hb15)
    have M_15 := hide (M_14.out.belowZ hb15)
    have Q_15 := hide (Q.out.belowZ hb15)
    clear hb15
    clear W_14 M_14 Q
    go_wp2_with fail
    refine (l_heldLineS _ _ _ _ _ (foldPF x0) _ _ rfl (by omega) (by omega) M_15.out).mono ?_
    rintro e w16 ⟨rfl, hb16⟩
    have hz16 := hb16.size
    have BB16 := hide (BB15.out.trans (hb16.mono BB15.out.size))
    have W_16 := hide (W_15.out.belowZ hb16)
    have M_16 := hide (M_15.out.belowZ hb16)
    have Q_16 := hide (Q_15.out.belowZ hb16)
    clear hb16
    clear W_15 M_15 Q_15
    go_wp2
    go_ret
    exact ⟨rfl, BB16.out⟩
end fnExactFoldProgram
def savedTo (L M : List Ln) (k : Nat) : Int := ((List.range k).map fun j => ((lnAtD L j).2.2.2.length : Int) - ((lnAtD M j).2.2.2.length : Int)).sum
theorem savedTo_succ (L M : List Ln) (k : Nat) : savedTo L M (k + 1) = savedTo L M k + (((lnAtD L k).2.2.2.length : Int) - ((lnAtD M k).2.2.2.length : Int)) := by
  unfold savedTo; rw [List.range_succ, List.map_append, List.sum_append]; simp
set_option maxHeartbeats 2000000 in
theorem s_savedTokens (A : Option Addr) (n c : Nat) (L : List Ln) (w : World) (hn : n + lnTot L ≤ 1048576) (h : InLines w A n L) (hs : ∀ x ∈ L, LnSz x) :
    Calls Try.prog 57 #[.slice A n c] w fun e w' => e = .returned (.int .i64 (savedTo L (foldPF L) (foldPF L).length)) ∧ Below w.heap.size w w' := by
  have H := hide h
  have HL := hide h.len
  have HS := hide hs
  clear h hs
  go_enter Try.func57, Try.ntmps57
  go_wp2_with fail
  refine (s_foldProgram A n c L _ hn H.out HS.out).mono ?_
  rintro e w1 ⟨⟨A1, c1, rfl, o1⟩, hb1⟩
  obtain ⟨hf1, hf2⟩ := foldPF_small L
  have B1 := hide hb1
  have F1 := hide (o1.in_ rfl)
  have R1 := hide (H.out.below hb1)
  have hLl : L.length = n := HL.out
  clear hb1 o1
  obtain ⟨M, hM⟩ : ∃ M, foldPF L = M := ⟨_, rfl⟩
  rw [hM] at hf1 hf2 F1 ⊢
  have HM := hide hM
  clear hM
  go_wp2_with fail
  go_loopw [4, 5] (fun s i wr => ∃ (k : Nat) (q : Int), k ≤ M.length ∧ i = .int .i64 k ∧ s = .int .i64 q ∧ q = savedTo L M k ∧ -(1048576 * (k : Int)) ≤ q ∧ q ≤ 1048576 * (k : Int) ∧ Below w1.heap.size w1 wr) (fun _ i _ => M.length - (intOf i).toNat)
  case atStart => exact ⟨0, 0, Nat.zero_le _, rfl, rfl, rfl, by omega, by omega, Below.refl _ _⟩
  case round =>
    obtain ⟨k, q, hk, rfl, rfl, hq, hq1, hq2, hb⟩ := hrel
    have HQ := hide hq
    have HB := hide hb
    have R := hide (R1.out.below hb)
    have F := hide (F1.out.below hb)
    clear hq hb
    by_cases hlt : k < M.length
    · have hkl : k < L.length := by omega
      obtain ⟨b, o, A2, d1, A3, d2, rfl, hbl, c0, c1', c2, c3, _⟩ := R.out.ln k hkl
      obtain ⟨b', o', A2', d1', A3', d2', rfl, hbl', e0, e1, e2, e3, _⟩ := F.out.ln k hlt
      have htL := lnTot_mem L _ (List.getElem_mem hkl)
      have htM := lnTot_mem M _ (List.getElem_mem hlt)
      have HN : Hid (q + (L[k].2.2.2.length : Int) - (M[k].2.2.2.length : Int) = savedTo L M (k + 1)) := by
        show _ = _
        rw [savedTo_succ, lnAtD_of L k hkl, lnAtD_of M k hlt, HQ.out]; omega
      generalize L[k].2.2.2.length = lx at *
      generalize M[k].2.2.2.length = ly at *
      have hw1 : IntKind.i64.wrap (q + (lx : Int)) = q + lx := IntWalk.i64_in _ (by omega)
      have hw2 : IntKind.i64.wrap (q + (lx : Int) - (ly : Int)) = q + lx - ly := IntWalk.i64_in _ (by omega)
      go_wp2_with fail
      go_quiet (fail)
      go_wp2_with fail
      go_roundw
      case rel => exact ⟨k + 1, _, by omega, by go_num, rfl, HN.out, by omega, by omega, below_drewN HB.out nq⟩
      case measure => simp [intOf]; omega
    · have HA : Hid (q = savedTo L M M.length) := by show _ = _; rw [HQ.out]; congr 1; omega
      go_wp2_with fail
      go_ret
      exact ⟨by rw [HM.out, ← HA.out]; rfl, B1.out.trans (HB.out.mono B1.out.size)⟩
set_option maxHeartbeats 2000000 in
theorem i_savedTokens (A : Option Addr) (n c : Nat) (L : List Ln) (w : World) (hn : n + lnTot L ≤ 1048576) (h : InLines w A n L) (hs : ∀ x ∈ L, LnSz x) :
    Calls Try.prog 58 #[.slice A n c] w fun e w' => e = .returned (.int .i64 (savedTo L (foldPF L) (foldPF L).length)) ∧ Below w.heap.size w w' := by
  have H := hide h
  have HL := hide h.len
  have HS := hide hs
  clear h hs
  go_enter Try.func58, Try.ntmps58
  go_wp2_with fail
  refine (i_foldProgram A n c L _ hn H.out HS.out).mono ?_
  rintro e w1 ⟨⟨A1, c1, rfl, o1⟩, hb1⟩
  obtain ⟨hf1, hf2⟩ := foldPF_small L
  have B1 := hide hb1
  have F1 := hide (o1.in_ rfl)
  have R1 := hide (H.out.below hb1)
  have hLl : L.length = n := HL.out
  clear hb1 o1
  obtain ⟨M, hM⟩ : ∃ M, foldPF L = M := ⟨_, rfl⟩
  rw [hM] at hf1 hf2 F1 ⊢
  have HM := hide hM
  clear hM
  go_wp2_with fail
  go_loopw [3, 9] (fun s i wr => ∃ (k : Nat) (q : Int), k ≤ M.length ∧ i = .int .i64 k ∧ s = .int .i64 q ∧ q = savedTo L M k ∧ -(1048576 * (k : Int)) ≤ q ∧ q ≤ 1048576 * (k : Int) ∧ Below w1.heap.size w1 wr) (fun _ i _ => M.length - (intOf i).toNat)
  case atStart => exact ⟨0, 0, Nat.zero_le _, rfl, rfl, rfl, by omega, by omega, Below.refl _ _⟩
  case round =>
    obtain ⟨k, q, hk, rfl, rfl, hq, hq1, hq2, hb⟩ := hrel
    have HQ := hide hq
    have HB := hide hb
    have R := hide (R1.out.below hb)
    have F := hide (F1.out.below hb)
    clear hq hb
    by_cases hlt : k < M.length
    · have hkl : k < L.length := by omega
      obtain ⟨b', o', A2', d1', A3', d2', rfl, hbl', e0, e1, e2, e3, _⟩ := F.out.ln k hlt
      have hal : Below wr.heap.size wr (wr.alloc (.cells #[.int .i64 M[k].1, .string M[k].2.1, .slice A2' M[k].2.2.1.length d1', .slice A3' M[k].2.2.2.length d2'] 76)) := (Below.refl _ _).alloc (Nat.le_refl _) _
      obtain ⟨b, o, A2, d1, A3, d2, rfl, hbl, c0, c1', c2, c3, _⟩ := (R.out.below hal).ln k hkl
      have K5 := hide (Blk.new wr 76 #[.int .i64 M[k].1, .string M[k].2.1, .slice A2' M[k].2.2.1.length d1', .slice A3' M[k].2.2.2.length d2'])
      have htL := lnTot_mem L _ (List.getElem_mem hkl)
      have htM := lnTot_mem M _ (List.getElem_mem hlt)
      have HN : Hid (q + ((L[k].2.2.2.length : Int) - (M[k].2.2.2.length : Int)) = savedTo L M (k + 1)) := by
        show _ = _
        rw [savedTo_succ, lnAtD_of L k hkl, lnAtD_of M k hlt, HQ.out]
      have HB2 := hide (HB.out.trans (hal.mono HB.out.size))
      have k3 := K5.out.cell 3
      simp at k3
      clear hal
      generalize L[k].2.2.2.length = lx at *
      generalize M[k].2.2.2.length = ly at *
      have hw1 : IntKind.i64.wrap ((lx : Int) - (ly : Int)) = lx - ly := IntWalk.i64_in _ (by omega)
      have hw2 : IntKind.i64.wrap (q + ((lx : Int) - (ly : Int))) = q + (lx - ly) := IntWalk.i64_in _ (by omega)
      go_wp2_with fail
      go_quiet (fail)
      go_wp2_with fail
      go_roundw
      case rel => exact ⟨k + 1, _, by omega, by go_num, rfl, HN.out, by omega, by omega, below_drewN HB2.out nq⟩
      case measure => simp [intOf]; omega
    · have HA : Hid (q = savedTo L M M.length) := by show _ = _; rw [HQ.out]; congr 1; omega
      go_wp2_with fail
      go_ret
      exact ⟨by rw [HM.out, ← HA.out]; rfl, B1.out.trans (HB.out.mono B1.out.size)⟩
namespace fnExactSavedTokens
set_option maxHeartbeats 1000000 in
theorem walk (v0 : Value) (w : World) (h0 : InLinesV w v0) : Calls Try.prog 12 #[v0] w fun e w' => e = .returned (.bool true) ∧ Below w.heap.size w w' := by
  obtain ⟨A0, n0, c0, x0, rfl, hnc0, hcm0, hR0, hS0⟩ := h0
  have BB0 := hide (Below.refl w.heap.size w)
  have R0 := hide hR0
  have HS0 := hide hS0
  have HL0 := hide hR0.len
  clear hR0 hS0
  have se0 : same x0 x0 = true := same_of rfl
  go_enter Try.func12, Try.ntmps12
  go_wp2_with fail
  refine (l_szLineS A0 n0 c0 x0 _ _ (by omega) (by omega) (R0.out.below BB0.out) HS0.out).mono ?_
  rintro e w1 ⟨⟨r1, rfl, hlo1, hhi1, hr1⟩, hb1⟩
  have hz1 := hb1.size
  have BB1 := hide (BB0.out.trans (hb1.mono BB0.out.size))
  clear hb1
  by_cases hneg1 : r1 < 0

  · skip
    go_wp2
    go_ret
    exact ⟨rfl, BB1.out⟩
  · have hn0 : n0 + lnTot x0 ≤ 1048576 := by have := hr1 (by omega); omega
    clear hr1
    go_wp2_with fail
    refine (l_toLineS A0 n0 c0 x0 _ (by omega) (R0.out.below BB1.out)).mono ?_
    rintro e w2 ⟨⟨A2, rfl, o2⟩, hb2⟩
    have hz2 := hb2.size
    have BB2 := hide (BB1.out.trans (hb2.mono BB1.out.size))
    clear hb2
    have S0 := hide o2
    clear o2
    go_wp2_with fail
    refine (s_savedTokens A2 n0 n0 x0 _ hn0 (S0.out.in_ HL0.out) HS0.out).mono ?_
    rintro e w3 ⟨rfl, hb3⟩
    have hz3 := hb3.size
    have BB3 := hide (BB2.out.trans (hb3.mono BB2.out.size))
    have S0_3 := hide (S0.out.belowZ hb3)
    clear hb3
    clear S0
    go_wp2_with fail
    refine (l_toLineS A0 n0 c0 x0 _ (by omega) (R0.out.below BB3.out)).mono ?_
    rintro e w4 ⟨⟨A4, rfl, o4⟩, hb4⟩
    have hz4 := hb4.size
    have BB4 := hide (BB3.out.trans (hb4.mono BB3.out.size))
    clear hb4
    have Y0 := hide o4
    clear o4
    go_wp2_with fail
    refine (i_savedTokens A4 n0 n0 x0 _ hn0 (Y0.out.in_ HL0.out) HS0.out).mono ?_
    rintro e w5 ⟨rfl, hb5⟩
    have hz5 := hb5.size
    have BB5 := hide (BB4.out.trans (hb5.mono BB4.out.size))
    have Y0_5 := hide (Y0.out.belowZ hb5)
    clear hb5
    clear Y0
    go_wp2_with fail
    refine (l_toLineS A0 n0 c0 x0 _ (by omega) (R0.out.below BB5.out)).mono ?_
    rintro e w6 ⟨⟨A6, rfl, o6⟩, hb6⟩
    have hz6 := hb6.size
    have BB6 := hide (BB5.out.trans (hb6.mono BB5.out.size))
    have Y0_6 := hide (Y0_5.out.belowZ hb6)
    clear hb6
    clear Y0_5
    have T0 := hide o6
    clear o6
    go_wp2_with fail
    refine (l_eqLineS _ _ _ _ _ _ x0 x0 _ (by omega) (by omega) (Y0_6.out.in_ HL0.out) (T0.out.in_ HL0.out)).mono ?_
    rintro e w7 ⟨rfl, hb7⟩
    have hz7 := hb7.size
    have BB7 := hide (BB6.out.trans (hb7.mono BB6.out.size))
    have Y0_7 := hide (Y0_6.out.belowZ hb7)
    have T0_7 := hide (T0.out.belowZ hb7)
    clear hb7
    clear Y0_6 T0
    go_wp2
    go_ret
    exact ⟨rfl, BB7.out⟩
end fnExactSavedTokens
end Go.Proofs.Ythhlimbaoenkkaa
