import Derived.Test.YtncpkhkdhckdkaaIn
import Derived.Test.YtncpkhkdhckdkaaDis
namespace Go.Proofs.Ytncpkhkdhckdkaa
open Go.RowKit
namespace fnExactEncodeOp
theorem walk (v0 : Value) (w : World) (h0 : InOp w v0) : Calls Try.prog 11 #[v0] w fun e w' => e = .returned (.bool true) ∧ Below w.heap.size w w' := by
  obtain ⟨k, n, rfl, hk, hn⟩ := h0
  go_enter Try.func11, Try.ntmps11
  go_wp2_with fail
  refine (l_toOp _ _ _).mono ?_
  rintro e w2 ⟨rfl, hb2⟩
  go_wp2_with fail
  refine (s_encodeOp _ _ _).mono ?_
  rintro e w3 ⟨rfl, hb3⟩
  have hz2 := hb2.size
  simp at hz2
  have hz3 := hb3.size
  have hc3 : ∀ o, w3.cell? ⟨w.heap.size, o, none⟩ = _ := fun o => (hb3.cell (p := ⟨w.heap.size, o, none⟩) (by simp; omega)).trans (hb2.cell (p := ⟨w.heap.size, o, none⟩) (by simp))
  go_wp2_with fail
  refine (l_toOp _ _ _).mono ?_
  rintro e w4 ⟨rfl, hb4⟩
  go_wp2_with fail
  refine (i_encodeOp _ _ _).mono ?_
  rintro e w5 ⟨rfl, hb5⟩
  have hz4 := hb4.size
  go_wp2
  go_ret
  exact ⟨rfl, (((Below.refl _ _).alloc (Nat.le_refl _) _).trans ((hb2.mono (by simp)).trans (hb3.mono (by omega)))).trans ((hb4.mono (by omega)).trans (hb5.mono (by omega)))⟩
end fnExactEncodeOp
namespace fnExactDecodeOp
theorem decV_form (o : Option (Int × Int)) : ∃ (c a n : Int) (b : Bool), decV o = .tuple #[.agg #[.int .i64 c, .int .i64 a], .int .i64 n, .bool b] := by
  rcases o with _ | ⟨c, a⟩
  · exact ⟨0, 0, 0, false, rfl⟩
  · exact ⟨c, a, _, true, rfl⟩
theorem walk (v0 v1 : Value) (w : World) (h0 : InString w v0) (h1 : InInt w v1) : Calls Try.prog 12 #[v0, v1] w fun e w' => e = .returned (.bool true) ∧ Below w.heap.size w w' := by
  obtain ⟨s, rfl, hs⟩ := h0
  obtain ⟨p, rfl, _, _⟩ := h1
  unfold maxLen at hs
  by_cases hbig : 1048576 < (s.size : Int)
  · go_enter Try.func12, Try.ntmps12
    go_wp2_with fail
    go_ret
    exact ⟨rfl, Below.refl _ _⟩
  · obtain ⟨c, a, n, b, hv⟩ := decV_form (decOpF s.data.toList p)
    have HV := hide hv
    have hd : decide (c = c ∧ a = a) = true := by simp
    clear hv
    go_enter Try.func12, Try.ntmps12
    go_wp2_with fail
    refine (s_decodeOp s (by omega) _ _).mono ?_
    rintro e w1 ⟨rfl, hb1⟩
    rw [HV.out]
    go_wp2_with fail
    refine (i_decodeOp s (by omega) _ _).mono ?_
    rintro e w2 ⟨rfl, hb2⟩
    rw [HV.out]
    have hz2 := hb2.size
    simp at hz2
    have hc2 : ∀ o O, (w2.alloc O).cell? ⟨w1.heap.size, o, none⟩ = _ := fun o O => (World.cell?_alloc_lt w2 O ⟨w1.heap.size, o, none⟩ (by simp; omega)).trans (hb2.cell (p := ⟨w1.heap.size, o, none⟩) (by simp))
    go_wp2_with fail
    refine (l_eqOp _ _ _ _ _).mono ?_
    rintro e w3 ⟨rfl, hb3⟩
    have hz1 := hb1.size
    go_wp2
    go_ret
    exact ⟨rfl, (((hb1.alloc hz1 _).trans (hb2.mono (by simp; omega))).alloc (by omega) _).trans (hb3.mono (by simp; omega))⟩
end fnExactDecodeOp
namespace fnExactDisassemble
theorem walk (v0 : Value) (w : World) (h0 : InString w v0) : Calls Try.prog 14 #[v0] w fun e w' => e = .returned (.bool true) ∧ Below w.heap.size w w' := by
  obtain ⟨s, rfl, hs⟩ := h0
  unfold maxLen at hs
  by_cases hbig : 1048576 < (s.size : Int)
  · go_enter Try.func14, Try.ntmps14
    go_wp2_with fail
    go_ret
    exact ⟨rfl, Below.refl _ _⟩
  · generalize hR : disF s.data.toList 0 = R
    have hlen : (disL R).length ≤ 1048576 := by
      have := disL_length s.data.toList 0
      rw [len_toList, hR] at this
      omega
    have hd : decide (disL R = disL R) = true := by simp
    have HR := hide hR
    have i1 := i_disassemble s (by omega)
    have i2 := s_disassemble s (by omega)
    rw [hR] at i1 i2
    have I1 := hide i1
    have I2 := hide i2
    clear i1 i2 hR
    generalize disL R = ops at *
    generalize R.isSome = b at *
    go_enter Try.func14, Try.ntmps14
    go_wp2_with fail
    refine (I2.out _).mono ?_
    rintro e w1 ⟨⟨v1, rfl, ho1⟩, hb1⟩
    obtain ⟨A1, c1, rfl, _, r1⟩ := Arr.of_own ho1
    have R1 := hide r1
    clear ho1 r1
    go_wp2_with fail
    refine (I1.out _).mono ?_
    rintro e w2 ⟨⟨v2, rfl, ho2⟩, hb2⟩
    obtain ⟨A2, c2, rfl, _, r2⟩ := Arr.of_own ho2
    have R12 := hide (R1.out.belowZ hb2)
    have R2 := hide r2
    clear ho2 r2 R1
    have hz1 := hb1.size
    have hz2 := hb2.size
    go_wp2_with fail
    refine (l_eqOpS _ _ _ _ _ _ _ _ _ _ _ _ _ (by omega) (by omega) R2.out R12.out).mono ?_
    rintro e w3 ⟨rfl, hb3⟩
    have R13 := hide (R12.out.belowZ hb3)
    have R23 := hide (R2.out.belowZ hb3)
    have hz3 := hb3.size
    clear R12 R2
    go_wp2_with fail
    refine (l_markOpS _ _ _ _ _ _ _ _ (by omega) (by omega) R23.out).mono ?_
    rintro e w4 ⟨rfl, r4, wi4⟩
    have R14 := hide (R13.out.within wi4 (.inl (Nat.le_refl _)))
    have R24 := hide r4
    have hz4 := wi4.size
    clear R13 R23 r4
    go_wp2_with fail
    refine (l_heldOpS _ _ _ _ _ _ _ (by omega) (by omega) R24.out).mono ?_
    rintro e w4' ⟨rfl, rfl⟩
    go_wp2_with fail
    refine (I1.out _).mono ?_
    rintro e w5 ⟨⟨v3, rfl, ho5⟩, hb5⟩
    obtain ⟨A3, c3, rfl, _, r5⟩ := Arr.of_own ho5
    have R5 := hide r5
    have R15 := hide (R14.out.belowZ hb5)
    have R25 := hide (R24.out.belowZ hb5)
    have hz5 := hb5.size
    clear ho5 r5 R14 R24
    go_wp2_with fail
    refine (l_eqOpS _ _ _ _ _ _ _ _ _ _ _ _ _ (by omega) (by omega) R5.out R15.out).mono ?_
    rintro e w6 ⟨rfl, hb6⟩
    have R26 := hide (R25.out.belowZ hb6)
    clear R25
    go_wp2_with fail
    refine (l_heldOpS _ _ _ _ _ _ _ (by omega) (by omega) R26.out).mono ?_
    rintro e w6' ⟨rfl, rfl⟩
    go_wp2
    go_ret
    exact ⟨rfl, hb1.trans ((hb2.mono hz1).trans ((hb3.mono (by omega)).trans ((wi4.below hz1 (by omega)).trans ((hb5.mono (by omega)).trans (hb6.mono (by omega))))))⟩
end fnExactDisassemble
end Go.Proofs.Ytncpkhkdhckdkaa
