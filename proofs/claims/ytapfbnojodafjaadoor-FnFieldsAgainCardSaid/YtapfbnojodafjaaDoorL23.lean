import Derived.Test.YtapfbnojodafjaaDoorFAg
namespace Go.Proofs.YtapfbnojodafjaaDoor
open Go Go.RowKit
set_option maxRecDepth 100000
namespace fnFieldsAgain
set_option maxHeartbeats 1000000 in
theorem walk (v0 : Value) (w : World) (hp : PowIs w) (h0 : InBytes w v0) : Calls Tryd.prog 6 #[v0] w fun e w' => e = .returned (.bool true) ∧ Below w.heap.size w w' := by
  obtain ⟨A, n, c, rfl, hnc, hc, hrow⟩ := h0
  have hn : n ≤ maxLen := by omega
  have HP := hide hp
  have HR := hide (CodeAt.of_in hnc hc hrow)
  clear hrow hp
  by_cases hbig : 1048576 < n
  · have hd : decide (1048576 < n) = true := by simpa using hbig
    go_enter Tryd.func6, Tryd.ntmps6
    go_wp2_with (go_at_call 17; refine (l_big _ _ _ hn _).mono ?_; rintro e w' ⟨rfl, rfl⟩)
    go_ret
    exact ⟨rfl, Below.refl _ _⟩
  · have hd : decide (1048576 < n) = false := by simpa using hbig
    go_enter Tryd.func6, Tryd.ntmps6
    go_wp2_with fail
    refine (l_big _ _ _ hn _).mono ?_
    rintro e w' ⟨rfl, rfl⟩
    go_wp2_with fail
    refine (s_drawSplitFields _ _ _ _ HR.out).mono ?_
    rintro e w1 ⟨⟨s, rfl, hs⟩, hb1⟩
    have B1 := hide hb1
    clear hb1 hd hbig
    have hsm : s.size ≤ maxLen := by unfold maxLen; omega
    go_wp2_with fail
    refine (i_splitFields s hsm _).mono ?_
    rintro e w2 ⟨⟨v, rfl, ho⟩, hb2⟩
    have B2 := hide (B1.out.trans (hb2.mono B1.out.size))
    have O2 := hide ho
    clear hb2 ho
    go_wp2_with fail
    refine (s_splitFields s hsm _).mono ?_
    rintro e w3 ⟨⟨v', rfl, _⟩, hb3⟩
    have B3 := hide (B2.out.trans (hb3.mono B2.out.size))
    have O3 := hide (own_belowZ O2.out hb3)
    clear hb3
    cases hq : sfB s
    · have hv : sfV s = [] := by unfold sfV; rw [hq]; rfl
      have O4 := O3.out
      rw [hv] at O4
      obtain ⟨A1, d1, rfl, _, _⟩ := Arr.of_own O4
      clear O4
      go_wp2_with fail
      refine (i_formatInt (-3) (by omega) (by omega) _ (HP.out.below B3.out)).mono ?_
      rintro e w4 ⟨rfl, hb4⟩
      rw [itoaM3]
      go_wp2_with fail
      go_ret
      exact ⟨rfl, B3.out.trans (hb4.mono B3.out.size)⟩
    · have hv : sfV s = fieldsF s := by unfold sfV; rw [hq]; rfl
      have hJS := joinB_size s
      have hJT := joinB_take (fieldsF s)
      have HOK := hide (join_ok s hq)
      have hlen := sfV_length s
      have O4 := O3.out
      rw [hv] at O4 hlen
      obtain ⟨A1, d1, hv1, _, ha1⟩ := Arr.of_own O4
      subst hv1
      have X := hide (InRow.of_arr ha1)
      have HQ := hide hq
      clear O4 ha1 hv hq O2
      generalize fieldsF s = F at *
      go_wp2_with fail
      go_loopw [8, 9] (fun v i wr => ∃ k : Nat, k ≤ F.length ∧ i = .int .i64 k ∧ v = .string (joinB (F.take k)) ∧ wr = w3) (fun _ i _ => F.length - (intOf i).toNat)
      case atStart => exact ⟨0, Nat.zero_le _, rfl, rfl, rfl⟩
      case round =>
        obtain ⟨k, hk, rfl, rfl, rfl⟩ := hrel
        by_cases hlt : k < F.length
        · obtain ⟨b, o, rfl, hbl, c0⟩ := X.out.str k hlt
          have hst : joinB (F.take (k + 1)) = (joinB (F.take k) ++ F[k]) ++ ⟨#[32]⟩ := by rw [List.take_succ_eq_append_getElem hlt, joinB_snoc]
          have h1 := hJT (k + 1)
          have HX := hide hst
          rw [hst, ByteArray.size_append, ByteArray.size_append] at h1
          clear hst
          generalize joinB (F.take k) = S at *
          have hs2 : (S ++ F[k] : ByteArray).size = S.size + F[k].size := ByteArray.size_append
          go_wp2_with fail
          go_roundw
          case rel => exact ⟨k + 1, by omega, by go_num, by rw [HX.out], trivial⟩
          case measure => simp [intOf]; omega
        · have hk' : F.take k = F := List.take_of_length_le (by omega)
          rw [hk']
          clear hk' hJT
          generalize joinB F = J at *
          have hJm : J.size ≤ maxLen := by unfold maxLen; omega
          go_wp2_with fail
          refine (i_splitFields J hJm _).mono ?_
          rintro e w5 ⟨⟨v5, rfl, ho5⟩, hb5⟩
          have B5 := hide (B3.out.trans (hb5.mono B3.out.size))
          have X5 := hide (X.out.below hb5)
          by_cases hbig : (600 : Int) < (J.size : Int)
          · clear ho5 hb5
            go_wp2_with fail
            go_ret
            exact ⟨rfl, B5.out⟩
          · obtain ⟨hb, hv⟩ := HOK.out (by omega)
            rw [hv] at ho5
            rw [hb]
            obtain ⟨A5, d5, hv5, _, ha5⟩ := Arr.of_own ho5
            subst hv5
            have Y5 := hide (InRow.of_arr ha5)
            clear ho5 hb5 ha5 hb hv
            go_wp2_with fail
            refine (l_sameTexts _ _ _ _ d1 d5 F F _ (by omega) (by omega) X5.out Y5.out).mono ?_
            rintro e w6 ⟨rfl, q, rfl⟩
            rw [decide_eq_true rfl]
            go_wp2_with fail
            go_ret
            exact ⟨rfl, below_drewN B5.out _⟩
end fnFieldsAgain
end Go.Proofs.YtapfbnojodafjaaDoor
