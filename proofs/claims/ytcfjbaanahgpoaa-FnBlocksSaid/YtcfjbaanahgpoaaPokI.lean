import Derived.Test.YtcfjbaanahgpoaaPok0
namespace Go.Proofs.Ytcfjbaanahgpoaa
open Go Go.RowKit
set_option maxRecDepth 100000
set_option linter.unusedVariables false
set_option linter.unusedSimpArgs false
theorem findFrom_ge (s : ByteArray) : ∀ (M : List Ln) (k : Nat), findFrom s M k = -1 ∨ ((k : Int) ≤ findFrom s M k ∧ findFrom s M k < k + M.length) := by
  intro M
  induction M with
  | nil => intro k; exact .inl rfl
  | cons x M ih =>
    intro k
    rw [findFrom]
    split
    · right; simp; omega
    · rcases ih (k + 1) with h | h
      · exact .inl h
      · right; simp; omega
theorem findF_range (L : List Ln) (s : ByteArray) : findF L s = -1 ∨ (0 ≤ findF L s ∧ findF L s < L.length) := by
  rcases findFrom_ge s L 0 with h | h
  · exact .inl h
  · right; unfold findF; omega
theorem names_step (L : List Ln) (loc : List ByteArray) (ex : List Tk) (k : Nat) (hk : k < ex.length) (h : (ex.take k).all (nameX L loc) = true) (hx : nameX L loc ex[k] = true) : (ex.take (k + 1)).all (nameX L loc) = true := by
  rw [List.take_succ_eq_append_getElem hk, List.all_append, h]
  simp [hx]
theorem names_bad (L : List Ln) (loc : List ByteArray) (ex : List Tk) (k : Nat) (hk : k < ex.length) (hx : nameX L loc ex[k] = false) : namesX L loc ex = false := by
  unfold namesX
  rw [List.all_eq_false]
  exact ⟨ex[k], List.getElem_mem hk, by rw [hx]; simp⟩
theorem names_end (L : List Ln) (loc : List ByteArray) (ex : List Tk) (k : Nat) (hk : ex.length ≤ k) (h : (ex.take k).all (nameX L loc) = true) : namesX L loc ex = true := by
  rw [List.take_of_length_le hk] at h; exact h
theorem nameX_var (L : List Ln) (loc : List ByteArray) (t : Tk) (h : t.1 = 1) : nameX L loc t = decide (0 ≤ idxF loc t.2.2) := by
  unfold nameX
  rw [decide_eq_true (p := t.1 = 7 → _) (fun e => by omega), Bool.and_true]
  by_cases hq : 0 ≤ idxF loc t.2.2
  · rw [decide_eq_true hq]; exact decide_eq_true (fun _ => hq)
  · rw [decide_eq_false hq]; exact decide_eq_false (fun e => hq (e h))
theorem nameX_call (L : List Ln) (loc : List ByteArray) (t : Tk) (h : t.1 = 7) : nameX L loc t = decide (0 ≤ findF L t.2.2 ∧ ((lnAtD L (findF L t.2.2).toNat).2.2.1.length : Int) = t.2.1) := by
  unfold nameX
  rw [decide_eq_true (p := t.1 = 1 → _) (fun e => by omega), Bool.true_and]
  by_cases hq : 0 ≤ findF L t.2.2 ∧ ((lnAtD L (findF L t.2.2).toNat).2.2.1.length : Int) = t.2.1
  · rw [decide_eq_true hq]; exact decide_eq_true (fun _ => hq)
  · rw [decide_eq_false hq]; exact decide_eq_false (fun e => hq (e h))
theorem nameX_other (L : List Ln) (loc : List ByteArray) (t : Tk) (h1 : t.1 ≠ 1) (h : t.1 ≠ 7) : nameX L loc t = true := by
  unfold nameX
  rw [decide_eq_true (p := t.1 = 1 → _) (fun e => absurd e h1), decide_eq_true (p := t.1 = 7 → _) (fun e => absurd e h)]; rfl
set_option maxHeartbeats 1000000 in
theorem i_exprNames (A Al Ae : Option Addr) (n c nl cl ne ce : Nat) (L : List Ln) (loc : List ByteArray) (ex : List Tk) (w : World) (hn : n + lnTot L ≤ 1048576) (h : InLines w A n L) (hnl : nl ≤ 1048576) (hl : InRow w Al nl 1 (strCells loc)) (hne : ne ≤ 1048576) (hle : ex.length = ne) (he : InRow w Ae ne 3 (tokCells ex)) :
    Calls Try.prog 61 #[.slice A n c, .slice Al nl cl, .slice Ae ne ce] w fun e w' => e = .returned (.bool (namesX L loc ex)) ∧ Below w.heap.size w w' := by
  have H := hide h
  have HLL := hide h.len
  have HL := hide hl
  have HE := hide he
  have HEL := hide hle
  clear h hl he hle
  go_enter Try.func61, Try.ntmps61
  go_wp2_with fail
  go_loopw [12] (fun i wr => ∃ k : Nat, k ≤ ne ∧ i = .int .i64 k ∧ (ex.take k).all (nameX L loc) = true ∧ Below w.heap.size w wr) (fun i _ => ne - (intOf i).toNat)
  case atStart => exact ⟨0, Nat.zero_le _, rfl, rfl, Below.refl _ _⟩
  case round =>
    obtain ⟨k, hk, rfl, hall, hb⟩ := hrel
    have HB := hide hb
    have HA := hide hall
    clear hb hall
    by_cases hlt : k < ne
    · have hkl : k < ex.length := by rw [HEL.out]; exact hlt
      obtain ⟨b, o, rfl, hbl, c0, c1, c2⟩ := (HE.out.below HB.out).tok k hkl
      have HSTEP := hide (names_step L loc ex k hkl HA.out)
      have HBAD := hide (names_bad L loc ex k hkl)
      obtain ⟨t, ht⟩ : ∃ t, ex[k] = t := ⟨_, rfl⟩
      rw [ht] at HSTEP HBAD c0 c1 c2
      obtain ⟨tk, tn, ts⟩ := t
      simp only at c0 c1 c2
      have B0 := hide (HB.out.alloc HB.out.size (.cells #[.int .i64 tk, .int .i64 tn, .string ts] 64))
      have R0 := hide (H.out.below B0.out)
      have RL := hide (HL.out.below B0.out)
      clear ht
      by_cases h1 : tk = 1
      · have HX := hide (nameX_var L loc (tk, tn, ts) h1)
        have z1 : (tk == 1) = true := by simp [h1]
        have z7 : (tk == 7) = false := by simp [h1]
        clear h1
        by_cases hm : ts ∈ loc
        · have hy := yes_of hm
          have HN := hide (HSTEP.out (by rw [HX.out]; exact decide_eq_true ((idxF_mem loc ts).2 hm)))
          go_wp2_with fail
          refine (i_contains Al nl cl loc ts _ (by omega) RL.out).mono ?_
          rintro e w' ⟨rfl, rfl⟩
          rw [hy]
          go_wp2_with fail
          go_roundw
          case rel => exact ⟨k + 1, by omega, by go_num, HN.out, B0.out⟩
          case measure => simp [intOf]; omega
        · have hy := yes_not hm
          have HN := hide (HBAD.out (by rw [HX.out]; exact decide_eq_false (fun h => hm ((idxF_mem loc ts).1 h))))
          go_wp2_with fail
          refine (i_contains Al nl cl loc ts _ (by omega) RL.out).mono ?_
          rintro e w' ⟨rfl, rfl⟩
          rw [hy]
          go_wp2_with fail
          go_ret
          exact ⟨by rw [HN.out]; rfl, B0.out⟩
      · have z1 : (tk == 1) = false := by simp [h1]
        by_cases h7 : tk = 7
        · have HX := hide (nameX_call L loc (tk, tn, ts) h7)
          have z7 : (tk == 7) = true := by simp [h7]
          have hfr := findF_range L ts
          clear h1 h7
          have hfi := i_findFunction A n c L ts _ (by omega) R0.out
          have HF := hide hfi
          have K0 := hide (Blk.new wr 64 #[.int .i64 tk, .int .i64 tn, .string ts])
          clear hfi
          simp only at HX
          generalize findF L ts = f at *
          rcases hfr with hf | ⟨hf0, hf1⟩
          · subst hf
            have HN := hide (HBAD.out (by rw [HX.out]; exact decide_eq_false (fun h => by omega)))
            go_wp2_with fail
            refine HF.out.mono ?_
            rintro e w1 ⟨rfl, hb1⟩
            have B1 := hide (B0.out.trans (hb1.mono B0.out.size))
            have k1 := (K0.out.below hb1 (by simp)).cell 1
            simp at k1
            clear hb1
            go_wp2_with fail
            go_quiet (fail)
            go_wp2_with fail
            go_ret
            exact ⟨by rw [HN.out]; rfl, below_drewN B1.out nq⟩
          · obtain ⟨j, rfl⟩ := Int.eq_ofNat_of_zero_le hf0
            have hj : j < L.length := by omega
            have hjn : j < n := by have := HLL.out; omega
            obtain ⟨b2, o2, B1, d1, B2, d2, rfl, hbl2, e0, e1, e2, e3, _⟩ := R0.out.ln j hj
            rw [Int.toNat_natCast, lnAtD_of L j hj] at HX
            have hlen : L[j].2.2.1.length ≤ 1048576 := by have := lnTot_mem L _ (List.getElem_mem hj); omega
            by_cases hq : (L[j].2.2.1.length : Int) = tn
            · have HN := hide (HSTEP.out (by rw [HX.out]; exact decide_eq_true ⟨hf0, hq⟩))
              have zq : ((L[j].2.2.1.length : Int) != tn) = false := by simp [hq]
              go_wp2_with fail
              refine HF.out.mono ?_
              rintro e w1 ⟨rfl, hb1⟩
              have B1 := hide (B0.out.trans (hb1.mono B0.out.size))
              have k1 := (K0.out.below hb1 (by simp)).cell 1
              simp at k1
              obtain ⟨b2, o2, B1', d1, B2', d2, eA, hbl2, e0, e1, e2, e3, _⟩ := (R0.out.below hb1).ln j hj
              cases eA
              clear hb1
              go_wp2_with fail
              go_quiet (fail)
              go_wp2_with fail
              go_roundw
              case rel => exact ⟨k + 1, by omega, by go_num, HN.out, below_drewN B1.out nq⟩
              case measure => simp [intOf]; omega
            · have HN := hide (HBAD.out (by rw [HX.out]; exact decide_eq_false (fun h => hq h.2)))
              have zq : ((L[j].2.2.1.length : Int) != tn) = true := by simp [hq]
              go_wp2_with fail
              refine HF.out.mono ?_
              rintro e w1 ⟨rfl, hb1⟩
              have B1 := hide (B0.out.trans (hb1.mono B0.out.size))
              have k1 := (K0.out.below hb1 (by simp)).cell 1
              simp at k1
              obtain ⟨b2, o2, B1', d1, B2', d2, eA, hbl2, e0, e1, e2, e3, _⟩ := (R0.out.below hb1).ln j hj
              cases eA
              clear hb1
              go_wp2_with fail
              go_quiet (fail)
              go_wp2_with fail
              go_ret
              exact ⟨by rw [HN.out]; rfl, below_drewN B1.out nq⟩
        · have z7 : (tk == 7) = false := by simp [h7]
          have HN := hide (HSTEP.out (nameX_other L loc (tk, tn, ts) h1 h7))
          clear h1 h7
          go_wp2_with fail
          go_roundw
          case rel => exact ⟨k + 1, by omega, by go_num, HN.out, B0.out⟩
          case measure => simp [intOf]; omega
    · have HN := hide (names_end L loc ex k (by rw [HEL.out]; omega) HA.out)
      go_wp2_with fail
      go_ret
      exact ⟨by rw [HN.out]; rfl, HB.out⟩
end Go.Proofs.Ytcfjbaanahgpoaa
