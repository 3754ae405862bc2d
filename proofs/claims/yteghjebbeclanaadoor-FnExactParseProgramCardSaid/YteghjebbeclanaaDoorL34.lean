import Derived.Test.YteghjebbeclanaaDoorPPr
import Derived.Test.YteghjebbeclanaaDoorHeld
import Derived.Test.YteghjebbeclanaaDoorLinS2
import Derived.Test.YteghjebbeclanaaDoorDoor5
namespace Go.Proofs.YteghjebbeclanaaDoor
open Go Go.RowKit
set_option maxRecDepth 100000
set_option linter.unusedVariables false
set_option linter.unusedSimpArgs false
theorem plX_ok {s : ByteArray} (h : plB s = true) : lineOkF (plX s) = true := by
  have := (pl_from_split h).2.2.2.2.1
  unfold plX; rw [if_pos h]; exact this
theorem ppL_ok : ∀ (l cur : List UInt8) (L : List Ln), ppL l cur = some L → ∀ x ∈ L, lineOkF x = true := by
  intro l
  induction l with
  | nil =>
    intro cur L h x hx
    rw [ppL] at h
    split at h
    · cases h; cases hx
    · cases h
  | cons b l ih =>
    intro cur L h x hx
    rw [ppL] at h
    split at h
    · split at h
      · rename_i hp
        obtain ⟨y, hy, rfl⟩ := Option.map_eq_some_iff.1 h
        rcases List.mem_cons.1 hx with rfl | hx
        · exact plX_ok hp
        · exact ih _ _ hy x hx
      · cases h
    · exact ih _ _ h x hx
theorem lineOk_small {x : Ln} (h : lineOkF x = true) : x.2.2.1.length + x.2.2.2.length ≤ 24 := by
  obtain ⟨_, _, _, h4, h5, h6, h7⟩ := lineOk_parts h
  have ha : x.2.2.1.length ≤ 4 := by
    by_cases h0 : x.1 = 0
    · exact (h4 h0).1
    · rw [h5 h0]; exact Nat.zero_le _
  have he : x.2.2.2.length ≤ 20 := by
    cases hq : hasExprF x.1
    · rw [h7 hq]; exact Nat.zero_le _
    · have := h6 hq
      unfold exprOkF at this
      simp only [Bool.and_eq_true, decide_eq_true_eq] at this
      exact this.1.1
  omega
theorem lnTot_small (L : List Ln) (h : ∀ x ∈ L, x.2.2.1.length + x.2.2.2.length ≤ 24) : lnTot L ≤ 24 * L.length := by
  unfold lnTot
  induction L with
  | nil => simp
  | cons x L ih =>
    have h1 := h x (by simp)
    have h2 := ih (fun y hy => h y (by simp [hy]))
    simp only [List.map_cons, List.sum_cons, List.length_cons]
    omega
theorem ppF_small (s : ByteArray) : ((ppF s).getD []).length ≤ 60 ∧ lnTot ((ppF s).getD []) ≤ 1440 := by
  unfold ppF
  cases h : ppL s.data.toList [] with
  | none => simp [lnTot]
  | some L =>
    simp only
    split
    · rename_i hl
      have := lnTot_small L (fun x hx => lineOk_small (ppL_ok _ _ _ h x hx))
      simp only [Option.getD_some]
      omega
    · simp [lnTot]
namespace fnExactParseProgram
set_option maxHeartbeats 4000000 in
theorem walk (v0 : Value) (w : World) (hp : PowIs w) (hmx : MaxIs w) (h0 : InString w v0) : Calls Tryd.prog 7 #[v0] w fun e w' => e = .returned (.bool true) ∧ Below w.heap.size w w' := by
  obtain ⟨s, rfl, hs⟩ := h0
  unfold maxLen at hs
  have HP := hide hp
  have HM := hide hmx
  clear hp hmx
  by_cases hbig : 1048576 < (s.size : Int)
  · go_enter Tryd.func7, Tryd.ntmps7
    go_wp2_with fail
    go_ret
    exact ⟨rfl, Below.refl _ _⟩
  · have hsz : s.size ≤ 1048576 := by omega
    have hsm := ppF_small s
    have S1 : Hid (∀ w, PowIs w → Calls Tryd.prog 34 #[.string s] w fun e w' => PpRet s w e w' ∧ Below w.heap.size w w') := fun w hp => s_parseProgram s hsz w hp
    have I1 : Hid (∀ w, PowIs w → MaxIs w → Calls Tryd.prog 35 #[.string s] w fun e w' => PpRet s w e w' ∧ Below w.heap.size w w') := fun w hp hm => i_parseProgram s hsz w hp hm
    unfold PpRet at S1 I1
    generalize (ppF s).getD [] = L at *
    generalize (ppF s).isSome = b at *
    obtain ⟨hL1, hL2⟩ := hsm
    have se : same L L = true := same_of rfl
    have hcn := lnsCnt_le L
    go_enter Tryd.func7, Tryd.ntmps7
    go_wp2_with fail
    refine (S1.out _ HP.out).mono ?_
    rintro e w1 ⟨⟨A1, c1, rfl, o1⟩, hb1⟩
    have O1 := hide o1
    have B1 := hide hb1
    have hz1 := hb1.size
    clear hb1 o1
    go_wp2_with fail
    refine (I1.out _ (HP.out.below B1.out) (HM.out.below B1.out)).mono ?_
    rintro e w2 ⟨⟨A2, c2, rfl, o2⟩, hb2⟩
    have hz2 := hb2.size
    have O1b := hide (O1.out.belowZ hb2)
    have O2 := hide o2
    have B2 := hide (B1.out.trans (hb2.mono B1.out.size))
    clear hb2 o2 O1 B1
    go_wp2_with fail
    refine (l_eqLineS _ _ _ _ _ _ L L _ (by omega) (by omega) (O2.out.in_ rfl) (O1b.out.in_ rfl)).mono ?_
    rintro e w3 ⟨rfl, hb3⟩
    rw [se]
    have hz3 := hb3.size
    have O1c := hide (O1b.out.belowZ hb3)
    have O2c := hide (O2.out.belowZ hb3)
    have B3 := hide (B2.out.trans (hb3.mono B2.out.size))
    clear hb3 O1b O2 B2
    go_wp2_with fail
    refine (l_markLineS _ _ _ w1.heap.size w2.heap.size L _ _ rfl (by omega) (by omega) O2c.out).mono ?_
    rintro e w4 ⟨rfl, o4, wi4⟩
    have hz4 := wi4.size
    have M4 := hide o4
    have O1d := hide (O1c.out.within wi4 (.inl (Nat.le_refl _)))
    have B4 := hide (B3.out.trans (wi4.below (B := w.heap.size) (by omega) (by omega)))
    clear o4 wi4 O1c O2c B3
    go_wp2_with fail
    refine (l_heldLineS _ _ _ w1.heap.size w2.heap.size L 1 _ rfl (by omega) (by omega) M4.out).mono ?_
    rintro e w5 ⟨rfl, hb5⟩
    have hz5 := hb5.size
    have M5 := hide (M4.out.belowZ hb5)
    have O1e := hide (O1d.out.belowZ hb5)
    have B5 := hide (B4.out.trans (hb5.mono B4.out.size))
    clear hb5 M4 O1d B4
    have hneg : ¬ ((1 : Int) + (lnsCnt L : Int) < 0) := by omega
    go_wp2_with fail
    refine (I1.out _ (HP.out.below B5.out) (HM.out.below B5.out)).mono ?_
    rintro e w6 ⟨⟨A6, c6, rfl, o6⟩, hb6⟩
    have hz6 := hb6.size
    have M6 := hide (M5.out.belowZ hb6)
    have O1f := hide (O1e.out.belowZ hb6)
    have O6 := hide o6
    have B6 := hide (B5.out.trans (hb6.mono B5.out.size))
    clear hb6 o6 M5 O1e B5
    go_wp2_with fail
    refine (l_eqLineS _ _ _ _ _ _ L L _ (by omega) (by omega) (O6.out.in_ rfl) (O1f.out.in_ rfl)).mono ?_
    rintro e w7 ⟨rfl, hb7⟩
    rw [se]
    have M7 := hide (M6.out.belowZ hb7)
    have B7 := hide (B6.out.trans (hb7.mono B6.out.size))
    clear hb7 M6 O1f O6 B6
    go_wp2_with fail
    refine (l_heldLineS _ _ _ w1.heap.size w2.heap.size L 1 _ rfl (by omega) (by omega) M7.out).mono ?_
    rintro e w8 ⟨rfl, hb8⟩
    have B8 := hide (B7.out.trans (hb8.mono B7.out.size))
    clear hb8
    go_wp2_with fail
    go_ret
    exact ⟨rfl, B8.out⟩
end fnExactParseProgram
end Go.Proofs.YteghjebbeclanaaDoor
