import Derived.Test.YteghjebbeclanaaDoorPLs
import Derived.Test.YteghjebbeclanaaDoorLin3
import Derived.Test.YteghjebbeclanaaDoorDoor5
namespace Go.Proofs.YteghjebbeclanaaDoor
open Go Go.RowKit
set_option maxRecDepth 100000
set_option linter.unusedVariables false
set_option linter.unusedSimpArgs false
theorem plX_sz {s : ByteArray} (hs : s.size ≤ 1048576) : (plX s).2.2.1.length + (plX s).2.2.2.length ≤ 1048576 := by
  unfold plX
  split
  · have h1 := splW_len s
    have h2 := splW_cnt s
    have h3 := splW_size s
    exact (lnG1_sz (kwI ((splW s).headD ⟨#[]⟩)) (splW s).tail (fun a ha => by have := h3 a (List.mem_of_mem_tail ha); omega) (by rw [List.length_tail]; omega)).2
  · simp
set_option maxHeartbeats 1000000 in
theorem l_markLine (k : Int) (s : ByteArray) (A1 A2 : Option Addr) (n1 n2 c1 c2 lo hi : Nat) (xs1 xs2 : List Value) (k0 : Int) (w : World) (hn1 : n1 ≤ 1048576) (hn2 : n2 ≤ 1048576) (hk0 : 0 ≤ k0 ∧ k0 ≤ 1000) (hhi : hi ≤ w.heap.size)
    (h : Own w lo hi [(A1, n1, 1, xs1), (A2, n2, 3, xs2)]) :
    Calls Tryd.prog 32 #[.agg #[.int .i64 k, .string s, .slice A1 n1 c1, .slice A2 n2 c2], .int .i64 k0] w fun e w' =>
      e = .returned (.int .i64 (k0 + (n1 : Int) + ((n2 * 3 : Nat) : Int))) ∧ Own w' lo hi [(A1, n1, 1, markStrs k0 n1), (A2, n2, 3, markToks (k0 + n1) n2)] ∧ Within lo hi (w.alloc (.cells #[.int .i64 k, .string s, .slice A1 n1 c1, .slice A2 n2 c2] 43)) w' := by
  have O0 := hide (h.belowZ ((Below.refl _ _).alloc (Nat.le_refl _) (.cells #[.int .i64 k, .string s, .slice A1 n1 c1, .slice A2 n2 c2] 43)))
  have K0 := hide (Blk.new w 43 #[.int .i64 k, .string s, .slice A1 n1 c1, .slice A2 n2 c2])
  clear h
  go_enter Tryd.func32, Tryd.ntmps32
  go_wp2_with fail
  refine (l_markStringS A1 n1 c1 (rlo A1 n1) (rhi A1 n1) xs1 k0 _ (by omega) (by omega) (Own.row (pre := []) (post := [(A2, n2, 3, xs2)]) O0.out)).mono ?_
  rintro e w1 ⟨rfl, a1, wi1⟩
  have W1 := hide (Own.rowIn (pre := []) (post := [(A2, n2, 3, xs2)]) O0.out wi1)
  have O1 := hide (Own.rowTurn (pre := []) (post := [(A2, n2, 3, xs2)]) O0.out a1 wi1)
  have K1 := hide (K0.out.within W1.out (by omega))
  clear a1 wi1 O0
  have k3 := K1.out.cell 3
  simp at k3
  go_wp2_with fail
  refine (l_markTokS A2 n2 c2 (rlo A2 n2) (rhi A2 n2) xs2 (k0 + n1) _ (by omega) (by omega) (Own.row (pre := [(A1, n1, 1, markStrs k0 n1)]) (post := []) O1.out)).mono ?_
  rintro e w2 ⟨rfl, a2, wi2⟩
  have W2 := hide (W1.out.trans (Own.rowIn (pre := [(A1, n1, 1, markStrs k0 n1)]) (post := []) O1.out wi2))
  have O2 := hide (Own.rowTurn (pre := [(A1, n1, 1, markStrs k0 n1)]) (post := []) O1.out a2 wi2)
  clear a2 wi2 O1 k3
  go_wp2_with fail
  go_ret
  exact ⟨rfl, O2.out, W2.out⟩
set_option maxHeartbeats 1000000 in
theorem l_heldLine (k : Int) (s : ByteArray) (A1 A2 : Option Addr) (n1 n2 c1 c2 lo hi : Nat) (k0 : Int) (w : World) (hn1 : n1 ≤ 1048576) (hn2 : n2 ≤ 1048576) (hk0 : 0 ≤ k0 ∧ k0 ≤ 1000)
    (h : Own w lo hi [(A1, n1, 1, markStrs k0 n1), (A2, n2, 3, markToks (k0 + n1) n2)]) :
    Calls Tryd.prog 33 #[.agg #[.int .i64 k, .string s, .slice A1 n1 c1, .slice A2 n2 c2], .int .i64 k0] w fun e w' =>
      e = .returned (.int .i64 (k0 + (n1 : Int) + ((n2 * 3 : Nat) : Int))) ∧ Below w.heap.size w w' := by
  have O0 := hide (h.belowZ ((Below.refl _ _).alloc (Nat.le_refl _) (.cells #[.int .i64 k, .string s, .slice A1 n1 c1, .slice A2 n2 c2] 43)))
  have K0 := hide (Blk.new w 43 #[.int .i64 k, .string s, .slice A1 n1 c1, .slice A2 n2 c2])
  have B0 := hide ((Below.refl w.heap.size w).alloc (Nat.le_refl _) (.cells #[.int .i64 k, .string s, .slice A1 n1 c1, .slice A2 n2 c2] 43))
  clear h
  have hneg : ¬ (k0 + (n1 : Int) < 0) := by omega
  have hneg2 : ¬ (k0 + (n1 : Int) + ((n2 * 3 : Nat) : Int) < 0) := by omega
  go_enter Tryd.func33, Tryd.ntmps33
  go_wp2_with fail
  refine (l_heldStringS A1 n1 c1 _ _ k0 _ (by omega) (by omega) (Own.row (pre := []) (post := [(A2, n2, 3, markToks (k0 + n1) n2)]) O0.out)).mono ?_
  rintro e w1 ⟨rfl, hb1⟩
  have O1 := hide (O0.out.belowZ hb1)
  have K1 := hide (K0.out.below hb1 (by simp))
  have B1 := hide (B0.out.trans (hb1.mono B0.out.size))
  clear hb1 O0
  have k3 := K1.out.cell 3
  simp at k3
  go_wp2_with fail
  refine (l_heldTokS A2 n2 c2 _ _ (k0 + n1) _ (by omega) (by omega) (Own.row (pre := [(A1, n1, 1, markStrs k0 n1)]) (post := []) O1.out)).mono ?_
  rintro e w2 ⟨rfl, hb2⟩
  have B2 := hide (B1.out.trans (hb2.mono B1.out.size))
  clear hb2 k3
  go_wp2_with fail
  go_ret
  exact ⟨rfl, B2.out⟩
namespace fnExactParseLine
set_option maxHeartbeats 4000000 in
theorem walk (v0 : Value) (w : World) (hp : PowIs w) (hmx : MaxIs w) (h0 : InString w v0) : Calls Tryd.prog 6 #[v0] w fun e w' => e = .returned (.bool true) ∧ Below w.heap.size w w' := by
  obtain ⟨s, rfl, hs⟩ := h0
  unfold maxLen at hs
  have HP := hide hp
  have HM := hide hmx
  clear hp hmx
  by_cases hbig : 1048576 < (s.size : Int)
  · go_enter Tryd.func6, Tryd.ntmps6
    go_wp2_with fail
    go_ret
    exact ⟨rfl, Below.refl _ _⟩
  · have hsz : s.size ≤ 1048576 := by omega
    have HN := hide (plX_sz hsz)
    have S1 : Hid (∀ w, PowIs w → Calls Tryd.prog 29 #[.string s] w fun e w' => PlRet s w e w' ∧ Below w.heap.size w w') := fun w hp => s_parseLine s hsz w hp
    have I1 : Hid (∀ w, PowIs w → MaxIs w → Calls Tryd.prog 30 #[.string s] w fun e w' => PlRet s w e w' ∧ Below w.heap.size w w') := fun w hp hm => i_parseLine s hsz w hp hm
    unfold PlRet at S1 I1
    generalize plX s = x at *
    generalize plB s = b at *
    have se : same x x = true := same_of rfl
    have hn1 : x.2.2.1.length ≤ 1048576 ∧ x.2.2.2.length ≤ 1048576 := by have := HN.out; omega
    obtain ⟨hn1, hn2⟩ := hn1
    go_enter Tryd.func6, Tryd.ntmps6
    go_wp2_with fail
    refine (S1.out _ HP.out).mono ?_
    rintro e w1 ⟨⟨A1, c1, A2, c2, rfl, o1, p1⟩, hb1⟩
    have O1 := hide (o1.belowZ ((Below.refl _ _).alloc (Nat.le_refl _) (.cells #[.int .i64 x.1, .string x.2.1, .slice A1 x.2.2.1.length c1, .slice A2 x.2.2.2.length c2] 43)))
    have C1 := hide p1
    have K1 := hide (Blk.new w1 43 #[.int .i64 x.1, .string x.2.1, .slice A1 x.2.2.1.length c1, .slice A2 x.2.2.2.length c2])
    have B1 := hide (hb1.alloc hb1.size (.cells #[.int .i64 x.1, .string x.2.1, .slice A1 x.2.2.1.length c1, .slice A2 x.2.2.2.length c2] 43))
    have hz1 := hb1.size
    clear hb1 o1 p1
    go_wp2_with fail
    refine (I1.out _ (HP.out.below B1.out) (HM.out.below B1.out)).mono ?_
    rintro e w2 ⟨⟨D1, d1, D2, d2, rfl, o2, p2⟩, hb2⟩
    have hz2 := hb2.size
    simp at hz2
    have O1b := hide ((O1.out.belowZ hb2).belowZ ((Below.refl _ _).alloc (Nat.le_refl _) (.cells #[.int .i64 x.1, .string x.2.1, .slice D1 x.2.2.1.length d1, .slice D2 x.2.2.2.length d2] 43)))
    have K1b := hide ((K1.out.below hb2 (by simp)).alloc (.cells #[.int .i64 x.1, .string x.2.1, .slice D1 x.2.2.1.length d1, .slice D2 x.2.2.2.length d2] 43))
    have O2 := hide (o2.belowZ ((Below.refl _ _).alloc (Nat.le_refl _) (.cells #[.int .i64 x.1, .string x.2.1, .slice D1 x.2.2.1.length d1, .slice D2 x.2.2.2.length d2] 43)))
    have C2 := hide p2
    have K2 := hide (Blk.new w2 43 #[.int .i64 x.1, .string x.2.1, .slice D1 x.2.2.1.length d1, .slice D2 x.2.2.2.length d2])
    have B2 := hide ((B1.out.trans (hb2.mono B1.out.size)).alloc (by omega) (.cells #[.int .i64 x.1, .string x.2.1, .slice D1 x.2.2.1.length d1, .slice D2 x.2.2.2.length d2] 43))
    clear hb2 o2 p2 O1 K1 B1
    have y10 := K1b.out.cell 0
    have y11 := K1b.out.cell 1
    have y12 := K1b.out.cell 2
    have y13 := K1b.out.cell 3
    have y20 := K2.out.cell 0
    have y21 := K2.out.cell 1
    have y22 := K2.out.cell 2
    have y23 := K2.out.cell 3
    simp at y10 y11 y12 y13 y20 y21 y22 y23
    go_wp2_with fail
    refine (l_eqLine x x _ _ _ _ _ _ _ _ _ (by omega) (by omega) (by omega) (by omega) (lnIn_of_own (p := (x, D1, d1, D2, d2)) (fun r hr => O2.out.rows r hr) C2.out) (lnIn_of_own (p := (x, A1, c1, A2, c2)) (fun r hr => O1b.out.rows r hr) C1.out)).mono ?_
    rintro e w3 ⟨rfl, hb3⟩
    rw [se]
    have hz3 := hb3.size
    simp at hz3
    have O1c := hide (O1b.out.belowZ hb3)
    have O2c := hide (O2.out.belowZ hb3)
    have K1c := hide (K1b.out.below hb3 (by simp; omega))
    have K2c := hide (K2.out.below hb3 (by simp))
    have B3 := hide (B2.out.trans (hb3.mono B2.out.size))
    clear hb3 O1b O2 K1b K2 B2 y10 y11 y12 y13 y20 y21 y22 y23
    have y10 := K1c.out.cell 0
    have y11 := K1c.out.cell 1
    have y12 := K1c.out.cell 2
    have y13 := K1c.out.cell 3
    have y20 := K2c.out.cell 0
    have y21 := K2c.out.cell 1
    have y22 := K2c.out.cell 2
    have y23 := K2c.out.cell 3
    simp at y10 y11 y12 y13 y20 y21 y22 y23
    go_wp2_with fail
    refine (l_markLine x.1 x.2.1 D1 D2 x.2.2.1.length x.2.2.2.length d1 d2 _ _ _ _ 1 _ hn1 hn2 (by omega) (by omega) O2c.out).mono ?_
    rintro e w4 ⟨rfl, o4, wi4⟩
    have hz4 := wi4.size
    simp at hz4
    have M4 := hide o4
    have O1d := hide ((O1c.out.belowZ ((Below.refl _ _).alloc (Nat.le_refl _) _)).within wi4 (by simp))
    have K1d := hide ((K1c.out.alloc _).within wi4 (by simp))
    have K2d := hide ((K2c.out.alloc _).within wi4 (by simp))
    have B4 := hide ((B3.out.alloc B3.out.size _).trans (wi4.below (B := w.heap.size) (by simp; omega) (by simp; omega)))
    clear o4 wi4 O1c O2c K1c K2c B3 y10 y11 y12 y13 y20 y21 y22 y23
    have y10 := K1d.out.cell 0
    have y11 := K1d.out.cell 1
    have y12 := K1d.out.cell 2
    have y13 := K1d.out.cell 3
    have y20 := K2d.out.cell 0
    have y21 := K2d.out.cell 1
    have y22 := K2d.out.cell 2
    have y23 := K2d.out.cell 3
    simp at y10 y11 y12 y13 y20 y21 y22 y23
    go_wp2_with fail
    refine (l_heldLine x.1 x.2.1 D1 D2 x.2.2.1.length x.2.2.2.length d1 d2 _ _ 1 _ hn1 hn2 (by omega) M4.out).mono ?_
    rintro e w5 ⟨rfl, hb5⟩
    have hz5 := hb5.size
    have M5 := hide (M4.out.belowZ hb5)
    have O1e := hide (O1d.out.belowZ hb5)
    have K1e := hide (K1d.out.below hb5 (by omega))
    have K2e := hide (K2d.out.below hb5 (by omega))
    have B5 := hide (B4.out.trans (hb5.mono B4.out.size))
    clear hb5 M4 O1d K1d K2d B4 y10 y11 y12 y13 y20 y21 y22 y23
    have hneg : ¬ ((1 : Int) + (x.2.2.1.length : Int) + ((x.2.2.2.length * 3 : Nat) : Int) < 0) := by omega
    go_wp2_with fail
    refine (I1.out _ (HP.out.below B5.out) (HM.out.below B5.out)).mono ?_
    rintro e w6 ⟨⟨E1, e1, E2, e2, rfl, o6, p6⟩, hb6⟩
    have hz6 := hb6.size
    have M6 := hide ((M5.out.belowZ hb6).belowZ ((Below.refl _ _).alloc (Nat.le_refl _) (.cells #[.int .i64 x.1, .string x.2.1, .slice E1 x.2.2.1.length e1, .slice E2 x.2.2.2.length e2] 43)))
    have O1f := hide ((O1e.out.belowZ hb6).belowZ ((Below.refl _ _).alloc (Nat.le_refl _) (.cells #[.int .i64 x.1, .string x.2.1, .slice E1 x.2.2.1.length e1, .slice E2 x.2.2.2.length e2] 43)))
    have K1f := hide ((K1e.out.below hb6 (by omega)).alloc (.cells #[.int .i64 x.1, .string x.2.1, .slice E1 x.2.2.1.length e1, .slice E2 x.2.2.2.length e2] 43))
    have K2f := hide ((K2e.out.below hb6 (by omega)).alloc (.cells #[.int .i64 x.1, .string x.2.1, .slice E1 x.2.2.1.length e1, .slice E2 x.2.2.2.length e2] 43))
    have K3 := hide (Blk.new w6 43 #[.int .i64 x.1, .string x.2.1, .slice E1 x.2.2.1.length e1, .slice E2 x.2.2.2.length e2])
    have O3 := hide (o6.belowZ ((Below.refl _ _).alloc (Nat.le_refl _) (.cells #[.int .i64 x.1, .string x.2.1, .slice E1 x.2.2.1.length e1, .slice E2 x.2.2.2.length e2] 43)))
    have C3 := hide p6
    have B6 := hide ((B5.out.trans (hb6.mono B5.out.size)).alloc (by omega) (.cells #[.int .i64 x.1, .string x.2.1, .slice E1 x.2.2.1.length e1, .slice E2 x.2.2.2.length e2] 43))
    clear hb6 o6 p6 M5 O1e K1e K2e B5
    have y10 := K1f.out.cell 0
    have y11 := K1f.out.cell 1
    have y12 := K1f.out.cell 2
    have y13 := K1f.out.cell 3
    have y20 := K3.out.cell 0
    have y21 := K3.out.cell 1
    have y22 := K3.out.cell 2
    have y23 := K3.out.cell 3
    simp at y10 y11 y12 y13 y20 y21 y22 y23
    go_wp2_with fail
    refine (l_eqLine x x _ _ _ _ _ _ _ _ _ (by omega) (by omega) (by omega) (by omega) (lnIn_of_own (p := (x, E1, e1, E2, e2)) (fun r hr => O3.out.rows r hr) C3.out) (lnIn_of_own (p := (x, A1, c1, A2, c2)) (fun r hr => O1f.out.rows r hr) C1.out)).mono ?_
    rintro e w7 ⟨rfl, hb7⟩
    rw [se]
    have hz7 := hb7.size
    simp at hz7
    have M7 := hide (M6.out.belowZ hb7)
    have K1g := hide (K1f.out.below hb7 (by simp; omega))
    have K2g := hide (K2f.out.below hb7 (by simp; omega))
    have B7 := hide (B6.out.trans (hb7.mono B6.out.size))
    clear hb7 M6 O1f O3 K1f K2f K3 B6 y10 y11 y12 y13 y20 y21 y22 y23
    have y10 := K1g.out.cell 0
    have y11 := K1g.out.cell 1
    have y12 := K1g.out.cell 2
    have y13 := K1g.out.cell 3
    have y20 := K2g.out.cell 0
    have y21 := K2g.out.cell 1
    have y22 := K2g.out.cell 2
    have y23 := K2g.out.cell 3
    simp at y10 y11 y12 y13 y20 y21 y22 y23
    go_wp2_with fail
    refine (l_heldLine x.1 x.2.1 D1 D2 x.2.2.1.length x.2.2.2.length d1 d2 _ _ 1 _ hn1 hn2 (by omega) M7.out).mono ?_
    rintro e w8 ⟨rfl, hb8⟩
    have B8 := hide (B7.out.trans (hb8.mono B7.out.size))
    clear hb8 y10 y11 y12 y13 y20 y21 y22 y23
    go_wp2_with fail
    go_ret
    exact ⟨rfl, B8.out⟩
end fnExactParseLine
end Go.Proofs.YteghjebbeclanaaDoor
