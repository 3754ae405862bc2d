import Derived.Test.YtmihlgkbnakjmaaL7
import Derived.Test.YtmihlgkbnakjmaaSam
import Derived.Deep.CutRange
namespace Go.Proofs.Ytmihlgkbnakjmaa
open Go Go.RowKit
set_option maxRecDepth 100000
set_option linter.unusedVariables false
namespace fnExactSameLine
set_option maxHeartbeats 4000000 in
theorem walk (v0 v1 : Value) (w : World) (h0 : InLine w v0) (h1 : InLine w v1) : Calls Try.prog 7 #[v0, v1] w fun e w' => e = .returned (.bool true) ∧ Below w.heap.size w w' := by
  obtain ⟨x0, A0, c0, B0, d0, rfl, hR0, hS0⟩ := h0
  obtain ⟨x1, A1, c1, B1, d1, rfl, hR1, hS1⟩ := h1
  have BB0 := hide (show Below w.heap.size w ((w.alloc (.cells #[.int .i64 x0.1, .string x0.2.1, .slice A0 x0.2.2.1.length c0, .slice B0 x0.2.2.2.length d0] 51)).alloc (.cells #[.int .i64 x1.1, .string x1.2.1, .slice A1 x1.2.2.1.length c1, .slice B1 x1.2.2.2.length d1] 51)) from by repeat (first | exact Below.refl _ _ | refine Below.alloc ?_ (by first | (simp; done) | (simp; omega)) _ | refine Below.drew ?_ | refine below_drewN ?_ _ | refine Below.setCell ?_ (by first | (simp; done) | (simp; omega)) _))
  have R0 := hide hR0
  have HS0 := hide hS0
  clear hR0 hS0
  have se0 : same x0 x0 = true := same_of rfl
  have R1 := hide hR1
  have HS1 := hide hS1
  clear hR1 hS1
  have se1 : same x1 x1 = true := same_of rfl
  go_enter Try.func7, Try.ntmps7
  have KB0_0 : Hid (Blk ((w.alloc (.cells #[.int .i64 x0.1, .string x0.2.1, .slice A0 x0.2.2.1.length c0, .slice B0 x0.2.2.2.length d0] 51)).alloc (.cells #[.int .i64 x1.1, .string x1.2.1, .slice A1 x1.2.2.1.length c1, .slice B1 x1.2.2.2.length d1] 51)) (w.heap.size + 0) 51 #[.int .i64 x0.1, .string x0.2.1, .slice A0 x0.2.2.1.length c0, .slice B0 x0.2.2.2.length d0]) := by show Blk _ _ _ _; have := (Blk.new w 51 #[.int .i64 x0.1, .string x0.2.1, .slice A0 x0.2.2.1.length c0, .slice B0 x0.2.2.2.length d0]).alloc (.cells #[.int .i64 x1.1, .string x1.2.1, .slice A1 x1.2.2.1.length c1, .slice B1 x1.2.2.2.length d1] 51); simpa using this
  have KB1_0 : Hid (Blk ((w.alloc (.cells #[.int .i64 x0.1, .string x0.2.1, .slice A0 x0.2.2.1.length c0, .slice B0 x0.2.2.2.length d0] 51)).alloc (.cells #[.int .i64 x1.1, .string x1.2.1, .slice A1 x1.2.2.1.length c1, .slice B1 x1.2.2.2.length d1] 51)) (w.heap.size + 1) 51 #[.int .i64 x1.1, .string x1.2.1, .slice A1 x1.2.2.1.length c1, .slice B1 x1.2.2.2.length d1]) := by show Blk _ _ _ _; have := Blk.new (w.alloc (.cells #[.int .i64 x0.1, .string x0.2.1, .slice A0 x0.2.2.1.length c0, .slice B0 x0.2.2.2.length d0] 51)) 51 #[.int .i64 x1.1, .string x1.2.1, .slice A1 x1.2.2.1.length c1, .slice B1 x1.2.2.2.length d1]; simpa using this
  go_wp2_with fail
  refine (l_szLine x0 A0 B0 c0 d0 _ _ (by omega) (R0.out.below BB0.out) HS0.out).mono ?_
  rintro e w1 ⟨⟨r1, rfl, hlo1, hhi1, hr1⟩, hb1⟩
  have hz1 := hb1.size
  simp at hz1
  have KB0_1 := hide (KB0_0.out.below hb1 (by first | (simp; done) | (simp; omega) | omega))
  clear KB0_0
  have KB1_1 := hide (KB1_0.out.below hb1 (by first | (simp; done) | (simp; omega) | omega))
  clear KB1_0
  have BB1 := hide (BB0.out.trans (hb1.mono BB0.out.size))
  clear hb1
  by_cases hneg1 : r1 < 0

  · skip
    have kb0_0 := KB0_1.out.cell 0
    have kb0_1 := KB0_1.out.cell 1
    have kb0_2 := KB0_1.out.cell 2
    have kb0_3 := KB0_1.out.cell 3
    have kb1_0 := KB1_1.out.cell 0
    have kb1_1 := KB1_1.out.cell 1
    have kb1_2 := KB1_1.out.cell 2
    have kb1_3 := KB1_1.out.cell 3
    simp at kb0_0 kb0_1 kb0_2 kb0_3 kb1_0 kb1_1 kb1_2 kb1_3
    go_wp2
    clear kb0_0 kb0_1 kb0_2 kb0_3 kb1_0 kb1_1 kb1_2 kb1_3
    go_ret
    exact ⟨rfl, BB1.out⟩
  · have hn0 : x0.2.2.1.length + x0.2.2.2.length ≤ 1048576 := by have := hr1 (by omega); omega
    clear hr1
    have kb0_0 := KB0_1.out.cell 0
    have kb0_1 := KB0_1.out.cell 1
    have kb0_2 := KB0_1.out.cell 2
    have kb0_3 := KB0_1.out.cell 3
    have kb1_0 := KB1_1.out.cell 0
    have kb1_1 := KB1_1.out.cell 1
    have kb1_2 := KB1_1.out.cell 2
    have kb1_3 := KB1_1.out.cell 3
    simp at kb0_0 kb0_1 kb0_2 kb0_3 kb1_0 kb1_1 kb1_2 kb1_3
    go_wp2_with fail
    clear kb0_0 kb0_1 kb0_2 kb0_3 kb1_0 kb1_1 kb1_2 kb1_3
    refine (l_szLine x1 A1 B1 c1 d1 _ _ (by omega) (R1.out.below BB1.out) HS1.out).mono ?_
    rintro e w2 ⟨⟨r2, rfl, hlo2, hhi2, hr2⟩, hb2⟩
    have hz2 := hb2.size
    have KB0_2 := hide (KB0_1.out.below hb2 (by first | (simp; done) | (simp; omega) | omega))
    clear KB0_1
    have KB1_2 := hide (KB1_1.out.below hb2 (by first | (simp; done) | (simp; omega) | omega))
    clear KB1_1
    have BB2 := hide (BB1.out.trans (hb2.mono BB1.out.size))
    clear hb2
    by_cases hneg2 : r2 < 0

    · skip
      have kb0_0 := KB0_2.out.cell 0
      have kb0_1 := KB0_2.out.cell 1
      have kb0_2 := KB0_2.out.cell 2
      have kb0_3 := KB0_2.out.cell 3
      have kb1_0 := KB1_2.out.cell 0
      have kb1_1 := KB1_2.out.cell 1
      have kb1_2 := KB1_2.out.cell 2
      have kb1_3 := KB1_2.out.cell 3
      simp at kb0_0 kb0_1 kb0_2 kb0_3 kb1_0 kb1_1 kb1_2 kb1_3
      go_wp2
      clear kb0_0 kb0_1 kb0_2 kb0_3 kb1_0 kb1_1 kb1_2 kb1_3
      go_ret
      exact ⟨rfl, BB2.out⟩
    · have hn1 : x1.2.2.1.length + x1.2.2.2.length ≤ 1048576 := by have := hr2 (by omega); omega
      clear hr2
      have kb0_0 := KB0_2.out.cell 0
      have kb0_1 := KB0_2.out.cell 1
      have kb0_2 := KB0_2.out.cell 2
      have kb0_3 := KB0_2.out.cell 3
      have kb1_0 := KB1_2.out.cell 0
      have kb1_1 := KB1_2.out.cell 1
      have kb1_2 := KB1_2.out.cell 2
      have kb1_3 := KB1_2.out.cell 3
      simp at kb0_0 kb0_1 kb0_2 kb0_3 kb1_0 kb1_1 kb1_2 kb1_3
      go_upto_region 8 with fail
      go_cut [6] from 20 to 24 (fun s6 wx => s6 = .bool (same x0 x1) ∧ Below w.heap.size w wx ∧ Blk wx (w.heap.size + 0) 51 #[.int .i64 x0.1, .string x0.2.1, .slice A0 x0.2.2.1.length c0, .slice B0 x0.2.2.2.length d0] ∧ Blk wx (w.heap.size + 1) 51 #[.int .i64 x1.1, .string x1.2.1, .slice A1 x1.2.2.1.length c1, .slice B1 x1.2.2.2.length d1])
      case first =>
        go_region_with (first | (go_at_call 34; (with_reducible show Calls _ _ #[Value.agg #[Value.int IntKind.i64 x0.1, _, _, _]] _ _); refine (l_toLine x0 A0 B0 c0 d0 _ (by omega) (by omega) (R0.out.below (by first | exact BT1.out | exact BT1.out.drew | exact BT1.out.drew.drew | exact BT1.out.drew.drew.drew | exact BB2.out | exact BB2.out.drew | exact BB2.out.drew.drew | exact BB2.out.drew.drew.drew))).mono ?_; rintro e wt0 ⟨⟨At0, Bt0, rfl, ot0⟩, hbt0⟩; have BT0 : Hid (Below w.heap.size w wt0) := (by first | exact BT1.out.trans (hbt0.mono BT1.out.size) | exact BT1.out.drew.trans (hbt0.mono BT1.out.drew.size) | exact BT1.out.drew.drew.trans (hbt0.mono BT1.out.drew.drew.size) | exact BT1.out.drew.drew.drew.trans (hbt0.mono BT1.out.drew.drew.drew.size) | exact BB2.out.trans (hbt0.mono BB2.out.size) | exact BB2.out.drew.trans (hbt0.mono BB2.out.drew.size) | exact BB2.out.drew.drew.trans (hbt0.mono BB2.out.drew.drew.size) | exact BB2.out.drew.drew.drew.trans (hbt0.mono BB2.out.drew.drew.drew.size)); have KT00 : Hid (Blk wt0 (w.heap.size + 0) 51 #[.int .i64 x0.1, .string x0.2.1, .slice A0 x0.2.2.1.length c0, .slice B0 x0.2.2.2.length d0]) := (by first | exact KT10.out.below hbt0 (Blk.lt KT10.out) | exact KT10.out.drew.below hbt0 (Blk.lt KT10.out.drew) | exact KT10.out.drew.drew.below hbt0 (Blk.lt KT10.out.drew.drew) | exact KT10.out.drew.drew.drew.below hbt0 (Blk.lt KT10.out.drew.drew.drew) | exact KB0_2.out.below hbt0 (Blk.lt KB0_2.out) | exact KB0_2.out.drew.below hbt0 (Blk.lt KB0_2.out.drew) | exact KB0_2.out.drew.drew.below hbt0 (Blk.lt KB0_2.out.drew.drew) | exact KB0_2.out.drew.drew.drew.below hbt0 (Blk.lt KB0_2.out.drew.drew.drew)); have kt0_00 := KT00.out.cell 0; have kt0_10 := KT00.out.cell 1; have kt0_20 := KT00.out.cell 2; have kt0_30 := KT00.out.cell 3; have KT01 : Hid (Blk wt0 (w.heap.size + 1) 51 #[.int .i64 x1.1, .string x1.2.1, .slice A1 x1.2.2.1.length c1, .slice B1 x1.2.2.2.length d1]) := (by first | exact KT11.out.below hbt0 (Blk.lt KT11.out) | exact KT11.out.drew.below hbt0 (Blk.lt KT11.out.drew) | exact KT11.out.drew.drew.below hbt0 (Blk.lt KT11.out.drew.drew) | exact KT11.out.drew.drew.drew.below hbt0 (Blk.lt KT11.out.drew.drew.drew) | exact KB1_2.out.below hbt0 (Blk.lt KB1_2.out) | exact KB1_2.out.drew.below hbt0 (Blk.lt KB1_2.out.drew) | exact KB1_2.out.drew.drew.below hbt0 (Blk.lt KB1_2.out.drew.drew) | exact KB1_2.out.drew.drew.drew.below hbt0 (Blk.lt KB1_2.out.drew.drew.drew)); have kt1_00 := KT01.out.cell 0; have kt1_10 := KT01.out.cell 1; have kt1_20 := KT01.out.cell 2; have kt1_30 := KT01.out.cell 3; simp at kt0_00 kt0_10 kt0_20 kt0_30 kt1_00 kt1_10 kt1_20 kt1_30; (first | have OT1 := hide (ot1.belowZ hbt0) | have OT1 := hide (ot1.drew.belowZ hbt0) | have OT1 := hide (ot1.drew.drew.belowZ hbt0) | have OT1 := hide (ot1.drew.drew.drew.belowZ hbt0) | skip)) | (go_at_call 34; (with_reducible show Calls _ _ #[Value.agg #[Value.int IntKind.i64 x1.1, _, _, _]] _ _); refine (l_toLine x1 A1 B1 c1 d1 _ (by omega) (by omega) (R1.out.below (by first | exact BT0.out | exact BT0.out.drew | exact BT0.out.drew.drew | exact BT0.out.drew.drew.drew | exact BB2.out | exact BB2.out.drew | exact BB2.out.drew.drew | exact BB2.out.drew.drew.drew))).mono ?_; rintro e wt1 ⟨⟨At1, Bt1, rfl, ot1⟩, hbt1⟩; have BT1 : Hid (Below w.heap.size w wt1) := (by first | exact BT0.out.trans (hbt1.mono BT0.out.size) | exact BT0.out.drew.trans (hbt1.mono BT0.out.drew.size) | exact BT0.out.drew.drew.trans (hbt1.mono BT0.out.drew.drew.size) | exact BT0.out.drew.drew.drew.trans (hbt1.mono BT0.out.drew.drew.drew.size) | exact BB2.out.trans (hbt1.mono BB2.out.size) | exact BB2.out.drew.trans (hbt1.mono BB2.out.drew.size) | exact BB2.out.drew.drew.trans (hbt1.mono BB2.out.drew.drew.size) | exact BB2.out.drew.drew.drew.trans (hbt1.mono BB2.out.drew.drew.drew.size)); have KT10 : Hid (Blk wt1 (w.heap.size + 0) 51 #[.int .i64 x0.1, .string x0.2.1, .slice A0 x0.2.2.1.length c0, .slice B0 x0.2.2.2.length d0]) := (by first | exact KT00.out.below hbt1 (Blk.lt KT00.out) | exact KT00.out.drew.below hbt1 (Blk.lt KT00.out.drew) | exact KT00.out.drew.drew.below hbt1 (Blk.lt KT00.out.drew.drew) | exact KT00.out.drew.drew.drew.below hbt1 (Blk.lt KT00.out.drew.drew.drew) | exact KB0_2.out.below hbt1 (Blk.lt KB0_2.out) | exact KB0_2.out.drew.below hbt1 (Blk.lt KB0_2.out.drew) | exact KB0_2.out.drew.drew.below hbt1 (Blk.lt KB0_2.out.drew.drew) | exact KB0_2.out.drew.drew.drew.below hbt1 (Blk.lt KB0_2.out.drew.drew.drew)); have kt0_01 := KT10.out.cell 0; have kt0_11 := KT10.out.cell 1; have kt0_21 := KT10.out.cell 2; have kt0_31 := KT10.out.cell 3; have KT11 : Hid (Blk wt1 (w.heap.size + 1) 51 #[.int .i64 x1.1, .string x1.2.1, .slice A1 x1.2.2.1.length c1, .slice B1 x1.2.2.2.length d1]) := (by first | exact KT01.out.below hbt1 (Blk.lt KT01.out) | exact KT01.out.drew.below hbt1 (Blk.lt KT01.out.drew) | exact KT01.out.drew.drew.below hbt1 (Blk.lt KT01.out.drew.drew) | exact KT01.out.drew.drew.drew.below hbt1 (Blk.lt KT01.out.drew.drew.drew) | exact KB1_2.out.below hbt1 (Blk.lt KB1_2.out) | exact KB1_2.out.drew.below hbt1 (Blk.lt KB1_2.out.drew) | exact KB1_2.out.drew.drew.below hbt1 (Blk.lt KB1_2.out.drew.drew) | exact KB1_2.out.drew.drew.drew.below hbt1 (Blk.lt KB1_2.out.drew.drew.drew)); have kt1_01 := KT11.out.cell 0; have kt1_11 := KT11.out.cell 1; have kt1_21 := KT11.out.cell 2; have kt1_31 := KT11.out.cell 3; simp at kt0_01 kt0_11 kt0_21 kt0_31 kt1_01 kt1_11 kt1_21 kt1_31; (first | have OT0 := hide (ot0.belowZ hbt1) | have OT0 := hide (ot0.drew.belowZ hbt1) | have OT0 := hide (ot0.drew.drew.belowZ hbt1) | have OT0 := hide (ot0.drew.drew.drew.belowZ hbt1) | skip)) | (go_at_call 33; refine (s_sameLine x0 x1 _ _ _ _ _ _ _ _ _ (by omega) (by omega) (by omega) (by omega) (by first | exact lnIn_own OT0.out (by omega) | exact lnIn_own OT0.out.drew (by omega) | exact lnIn_own OT0.out.drew.drew (by omega) | exact lnIn_own OT0.out.drew.drew.drew (by omega) | exact lnIn_own ot0 (by omega) | exact lnIn_own ot0.drew (by omega) | exact lnIn_own ot0.drew.drew (by omega) | exact lnIn_own ot0.drew.drew.drew (by omega)) (by first | exact lnIn_own OT1.out (by omega) | exact lnIn_own OT1.out.drew (by omega) | exact lnIn_own OT1.out.drew.drew (by omega) | exact lnIn_own OT1.out.drew.drew.drew (by omega) | exact lnIn_own ot1 (by omega) | exact lnIn_own ot1.drew (by omega) | exact lnIn_own ot1.drew.drew (by omega) | exact lnIn_own ot1.drew.drew.drew (by omega))).mono ?_; rintro e we ⟨rfl, hbe⟩))
        all_goals
          go_wp2_with fail
          go_meet
          exact ⟨rfl, (by first | exact BT0.out.trans (hbe.mono BT0.out.size) | exact BT0.out.drew.trans (hbe.mono BT0.out.drew.size) | exact BT0.out.drew.drew.trans (hbe.mono BT0.out.drew.drew.size) | exact BT0.out.drew.drew.drew.trans (hbe.mono BT0.out.drew.drew.drew.size) | exact BT1.out.trans (hbe.mono BT1.out.size) | exact BT1.out.drew.trans (hbe.mono BT1.out.drew.size) | exact BT1.out.drew.drew.trans (hbe.mono BT1.out.drew.drew.size) | exact BT1.out.drew.drew.drew.trans (hbe.mono BT1.out.drew.drew.drew.size)), (by first | exact KT00.out.below hbe (Blk.lt KT00.out) | exact KT00.out.drew.below hbe (Blk.lt KT00.out.drew) | exact KT00.out.drew.drew.below hbe (Blk.lt KT00.out.drew.drew) | exact KT00.out.drew.drew.drew.below hbe (Blk.lt KT00.out.drew.drew.drew) | exact KT10.out.below hbe (Blk.lt KT10.out) | exact KT10.out.drew.below hbe (Blk.lt KT10.out.drew) | exact KT10.out.drew.drew.below hbe (Blk.lt KT10.out.drew.drew) | exact KT10.out.drew.drew.drew.below hbe (Blk.lt KT10.out.drew.drew.drew)), (by first | exact KT01.out.below hbe (Blk.lt KT01.out) | exact KT01.out.drew.below hbe (Blk.lt KT01.out.drew) | exact KT01.out.drew.drew.below hbe (Blk.lt KT01.out.drew.drew) | exact KT01.out.drew.drew.drew.below hbe (Blk.lt KT01.out.drew.drew.drew) | exact KT11.out.below hbe (Blk.lt KT11.out) | exact KT11.out.drew.below hbe (Blk.lt KT11.out.drew) | exact KT11.out.drew.drew.below hbe (Blk.lt KT11.out.drew.drew) | exact KT11.out.drew.drew.drew.below hbe (Blk.lt KT11.out.drew.drew.drew))⟩
      case rest =>
      clear kb0_0 kb0_1 kb0_2 kb0_3 kb1_0 kb1_1 kb1_2 kb1_3
      obtain ⟨rfl, hB5, hK0, hK1⟩ := hcut
      have BB5 := hide hB5
      have KB0_5 := hide hK0
      have KB1_5 := hide hK1
      have hl0 := Blk.lt hK0
      have hl1 := Blk.lt hK1
      clear hB5 hK0 hK1
      clear BB2 KB0_2 KB1_2
      have kb0_0 := KB0_5.out.cell 0
      have kb0_1 := KB0_5.out.cell 1
      have kb0_2 := KB0_5.out.cell 2
      have kb0_3 := KB0_5.out.cell 3
      have kb1_0 := KB1_5.out.cell 0
      have kb1_1 := KB1_5.out.cell 1
      have kb1_2 := KB1_5.out.cell 2
      have kb1_3 := KB1_5.out.cell 3
      simp at kb0_0 kb0_1 kb0_2 kb0_3 kb1_0 kb1_1 kb1_2 kb1_3
      go_wp2_with fail
      clear kb0_0 kb0_1 kb0_2 kb0_3 kb1_0 kb1_1 kb1_2 kb1_3
      refine (l_toLine x0 A0 B0 c0 d0 _ (by omega) (by omega) (R0.out.below BB5.out)).mono ?_
      rintro e w6 ⟨⟨A6, B6, rfl, o6⟩, hb6⟩
      have hz6 := hb6.size
      have KB0_6 := hide (KB0_5.out.below hb6 (by first | (simp; done) | (simp; omega) | omega))
      clear KB0_5
      have KB1_6 := hide (KB1_5.out.below hb6 (by first | (simp; done) | (simp; omega) | omega))
      clear KB1_5
      have BB6 := hide (BB5.out.trans (hb6.mono BB5.out.size))
      clear hb6
      have Y0 := hide o6
      clear o6
      have Y0_n := hide (Blk.new w6 55 #[.int .i64 x0.1, .string x0.2.1, .slice A6 x0.2.2.1.length x0.2.2.1.length, .slice B6 x0.2.2.2.length x0.2.2.2.length])
      have BB6a := hide (BB6.out.alloc BB6.out.size (.cells #[.int .i64 x0.1, .string x0.2.1, .slice A6 x0.2.2.1.length x0.2.2.1.length, .slice B6 x0.2.2.2.length x0.2.2.2.length] 55))
      clear BB6
      have Y0_6a := hide (Y0.out.belowZ ((Below.refl _ _).alloc (Nat.le_refl _) (.cells #[.int .i64 x0.1, .string x0.2.1, .slice A6 x0.2.2.1.length x0.2.2.1.length, .slice B6 x0.2.2.2.length x0.2.2.2.length] 55)))
      clear Y0
      have KB0_6a := hide (KB0_6.out.alloc (.cells #[.int .i64 x0.1, .string x0.2.1, .slice A6 x0.2.2.1.length x0.2.2.1.length, .slice B6 x0.2.2.2.length x0.2.2.2.length] 55))
      clear KB0_6
      have KB1_6a := hide (KB1_6.out.alloc (.cells #[.int .i64 x0.1, .string x0.2.1, .slice A6 x0.2.2.1.length x0.2.2.1.length, .slice B6 x0.2.2.2.length x0.2.2.2.length] 55))
      clear KB1_6
      have kb0_0 := KB0_6a.out.cell 0
      have kb0_1 := KB0_6a.out.cell 1
      have kb0_2 := KB0_6a.out.cell 2
      have kb0_3 := KB0_6a.out.cell 3
      have kb1_0 := KB1_6a.out.cell 0
      have kb1_1 := KB1_6a.out.cell 1
      have kb1_2 := KB1_6a.out.cell 2
      have kb1_3 := KB1_6a.out.cell 3
      have kb2_0 := Y0_n.out.cell 0
      have kb2_1 := Y0_n.out.cell 1
      have kb2_2 := Y0_n.out.cell 2
      have kb2_3 := Y0_n.out.cell 3
      simp at kb0_0 kb0_1 kb0_2 kb0_3 kb1_0 kb1_1 kb1_2 kb1_3 kb2_0 kb2_1 kb2_2 kb2_3
      go_wp2_with fail
      clear kb0_0 kb0_1 kb0_2 kb0_3 kb1_0 kb1_1 kb1_2 kb1_3 kb2_0 kb2_1 kb2_2 kb2_3
      refine (l_toLine x1 A1 B1 c1 d1 _ (by omega) (by omega) (R1.out.below BB6a.out)).mono ?_
      rintro e w7 ⟨⟨A7, B7, rfl, o7⟩, hb7⟩
      have hz7 := hb7.size
      simp at hz7
      have KB0_7 := hide (KB0_6a.out.below hb7 (by first | (simp; done) | (simp; omega) | omega))
      clear KB0_6a
      have KB1_7 := hide (KB1_6a.out.below hb7 (by first | (simp; done) | (simp; omega) | omega))
      clear KB1_6a
      have KB2_7 := hide (Y0_n.out.below hb7 (by first | (simp; done) | (simp; omega) | omega))
      clear Y0_n
      have BB7 := hide (BB6a.out.trans (hb7.mono BB6a.out.size))
      have Y0_7 := hide (Y0_6a.out.belowZ hb7)
      clear hb7
      clear Y0_6a
      have Y1 := hide o7
      clear o7
      have Y1_n := hide (Blk.new w7 55 #[.int .i64 x1.1, .string x1.2.1, .slice A7 x1.2.2.1.length x1.2.2.1.length, .slice B7 x1.2.2.2.length x1.2.2.2.length])
      have BB7a := hide (BB7.out.alloc BB7.out.size (.cells #[.int .i64 x1.1, .string x1.2.1, .slice A7 x1.2.2.1.length x1.2.2.1.length, .slice B7 x1.2.2.2.length x1.2.2.2.length] 55))
      clear BB7
      have Y0_7a := hide (Y0_7.out.belowZ ((Below.refl _ _).alloc (Nat.le_refl _) (.cells #[.int .i64 x1.1, .string x1.2.1, .slice A7 x1.2.2.1.length x1.2.2.1.length, .slice B7 x1.2.2.2.length x1.2.2.2.length] 55)))
      clear Y0_7
      have Y1_7a := hide (Y1.out.belowZ ((Below.refl _ _).alloc (Nat.le_refl _) (.cells #[.int .i64 x1.1, .string x1.2.1, .slice A7 x1.2.2.1.length x1.2.2.1.length, .slice B7 x1.2.2.2.length x1.2.2.2.length] 55)))
      clear Y1
      have KB0_7a := hide (KB0_7.out.alloc (.cells #[.int .i64 x1.1, .string x1.2.1, .slice A7 x1.2.2.1.length x1.2.2.1.length, .slice B7 x1.2.2.2.length x1.2.2.2.length] 55))
      clear KB0_7
      have KB1_7a := hide (KB1_7.out.alloc (.cells #[.int .i64 x1.1, .string x1.2.1, .slice A7 x1.2.2.1.length x1.2.2.1.length, .slice B7 x1.2.2.2.length x1.2.2.2.length] 55))
      clear KB1_7
      have KB2_7a := hide (KB2_7.out.alloc (.cells #[.int .i64 x1.1, .string x1.2.1, .slice A7 x1.2.2.1.length x1.2.2.1.length, .slice B7 x1.2.2.2.length x1.2.2.2.length] 55))
      clear KB2_7
      have kb0_0 := KB0_7a.out.cell 0
      have kb0_1 := KB0_7a.out.cell 1
      have kb0_2 := KB0_7a.out.cell 2
      have kb0_3 := KB0_7a.out.cell 3
      have kb1_0 := KB1_7a.out.cell 0
      have kb1_1 := KB1_7a.out.cell 1
      have kb1_2 := KB1_7a.out.cell 2
      have kb1_3 := KB1_7a.out.cell 3
      have kb2_0 := KB2_7a.out.cell 0
      have kb2_1 := KB2_7a.out.cell 1
      have kb2_2 := KB2_7a.out.cell 2
      have kb2_3 := KB2_7a.out.cell 3
      have kb3_0 := Y1_n.out.cell 0
      have kb3_1 := Y1_n.out.cell 1
      have kb3_2 := Y1_n.out.cell 2
      have kb3_3 := Y1_n.out.cell 3
      simp at kb0_0 kb0_1 kb0_2 kb0_3 kb1_0 kb1_1 kb1_2 kb1_3 kb2_0 kb2_1 kb2_2 kb2_3 kb3_0 kb3_1 kb3_2 kb3_3
      go_wp2_with fail
      clear kb0_0 kb0_1 kb0_2 kb0_3 kb1_0 kb1_1 kb1_2 kb1_3 kb2_0 kb2_1 kb2_2 kb2_3 kb3_0 kb3_1 kb3_2 kb3_3
      refine (i_sameLine x0 x1 _ _ _ _ _ _ _ _ _ (by omega) (by omega) (by omega) (by omega) (lnIn_own Y0_7a.out (by omega)) (lnIn_own Y1_7a.out (by omega))).mono ?_
      rintro e w8 ⟨rfl, hb8⟩
      have hz8 := hb8.size
      simp at hz8
      have KB0_8 := hide (KB0_7a.out.below hb8 (by first | (simp; done) | (simp; omega) | omega))
      clear KB0_7a
      have KB1_8 := hide (KB1_7a.out.below hb8 (by first | (simp; done) | (simp; omega) | omega))
      clear KB1_7a
      have KB2_8 := hide (KB2_7a.out.below hb8 (by first | (simp; done) | (simp; omega) | omega))
      clear KB2_7a
      have KB3_8 := hide (Y1_n.out.below hb8 (by first | (simp; done) | (simp; omega) | omega))
      clear Y1_n
      have BB8 := hide (BB7a.out.trans (hb8.mono BB7a.out.size))
      have Y0_8 := hide (Y0_7a.out.belowZ hb8)
      have Y1_8 := hide (Y1_7a.out.belowZ hb8)
      clear hb8
      clear Y0_7a Y1_7a
      have kb0_0 := KB0_8.out.cell 0
      have kb0_1 := KB0_8.out.cell 1
      have kb0_2 := KB0_8.out.cell 2
      have kb0_3 := KB0_8.out.cell 3
      have kb1_0 := KB1_8.out.cell 0
      have kb1_1 := KB1_8.out.cell 1
      have kb1_2 := KB1_8.out.cell 2
      have kb1_3 := KB1_8.out.cell 3
      have kb2_0 := KB2_8.out.cell 0
      have kb2_1 := KB2_8.out.cell 1
      have kb2_2 := KB2_8.out.cell 2
      have kb2_3 := KB2_8.out.cell 3
      have kb3_0 := KB3_8.out.cell 0
      have kb3_1 := KB3_8.out.cell 1
      have kb3_2 := KB3_8.out.cell 2
      have kb3_3 := KB3_8.out.cell 3
      simp at kb0_0 kb0_1 kb0_2 kb0_3 kb1_0 kb1_1 kb1_2 kb1_3 kb2_0 kb2_1 kb2_2 kb2_3 kb3_0 kb3_1 kb3_2 kb3_3
      go_upto_region 14 with fail
      go_cut [39] from 35 to 38 (fun s39 wx => s39 = .bool false ∧ Below w.heap.size w wx ∧ Blk wx (w.heap.size + 1) 51 #[.int .i64 x1.1, .string x1.2.1, .slice A1 x1.2.2.1.length c1, .slice B1 x1.2.2.2.length d1] ∧ Blk wx (w7.heap.size) 55 #[.int .i64 x1.1, .string x1.2.1, .slice A7 x1.2.2.1.length x1.2.2.1.length, .slice B7 x1.2.2.2.length x1.2.2.2.length] ∧ LnIn wx x1 A7 x1.2.2.1.length B7 x1.2.2.2.length)
      case first =>
        go_region_with (first | (go_at_call 34; refine (l_toLine x0 A0 B0 c0 d0 _ (by omega) (by omega) (R0.out.below BB8.out.drew)).mono ?_; rintro e wt ⟨⟨At, Bt, rfl, ot⟩, hbt⟩; have KT0 := KB0_8.out.drew.below hbt (by first | (simp; done) | (simp; omega) | omega); have KT1 := KB1_8.out.drew.below hbt (by first | (simp; done) | (simp; omega) | omega); have KT2 := KB2_8.out.drew.below hbt (by first | (simp; done) | (simp; omega) | omega); have KT3 := KB3_8.out.drew.below hbt (by first | (simp; done) | (simp; omega) | omega); have kt0_0 := KT0.cell 0; have kt0_1 := KT0.cell 1; have kt0_2 := KT0.cell 2; have kt0_3 := KT0.cell 3; have kt1_0 := KT1.cell 0; have kt1_1 := KT1.cell 1; have kt1_2 := KT1.cell 2; have kt1_3 := KT1.cell 3; have kt2_0 := KT2.cell 0; have kt2_1 := KT2.cell 1; have kt2_2 := KT2.cell 2; have kt2_3 := KT2.cell 3; have kt3_0 := KT3.cell 0; have kt3_1 := KT3.cell 1; have kt3_2 := KT3.cell 2; have kt3_3 := KT3.cell 3; simp at kt0_0 kt0_1 kt0_2 kt0_3 kt1_0 kt1_1 kt1_2 kt1_3 kt2_0 kt2_1 kt2_2 kt2_3 kt3_0 kt3_1 kt3_2 kt3_3) | (go_at_call 36; refine (l_eqLine x0 x0 _ _ _ _ _ _ _ _ _ (by omega) (by omega) (by omega) (by omega) (lnIn_own (Y0_8.out.drew.belowZ hbt) (by omega)) (lnIn_own ot (by omega))).mono ?_; rintro e we ⟨rfl, hbe⟩))
        all_goals
          go_wp2_with fail
          go_meet
          have hb1 := BB8.out.drew.trans ((hbt.mono BB8.out.size).trans (hbe.mono (Nat.le_trans BB8.out.size hbt.size)))
          exact ⟨by first | rfl | (rw [se0]; rfl), hb1, KT1.below hbe (Blk.lt KT1), KT3.below hbe (Blk.lt KT3), (lnIn_own ((Y1_8.out.drew.belowZ hbt).belowZ hbe) (by omega))⟩
      case rest =>
      clear kb0_0 kb0_1 kb0_2 kb0_3 kb1_0 kb1_1 kb1_2 kb1_3 kb2_0 kb2_1 kb2_2 kb2_3 kb3_0 kb3_1 kb3_2 kb3_3
      obtain ⟨rfl, hB9, hK1, hK3, hL⟩ := hcut
      have BB9 := hide hB9
      have KB1_9 := hide hK1
      have KB3_9 := hide hK3
      have YL := hide hL
      clear hB9 hK1 hK3 hL
      have kb1_0 := KB1_9.out.cell 0
      have kb1_1 := KB1_9.out.cell 1
      have kb1_2 := KB1_9.out.cell 2
      have kb1_3 := KB1_9.out.cell 3
      have kb3_0 := KB3_9.out.cell 0
      have kb3_1 := KB3_9.out.cell 1
      have kb3_2 := KB3_9.out.cell 2
      have kb3_3 := KB3_9.out.cell 3
      simp at kb1_0 kb1_1 kb1_2 kb1_3 kb3_0 kb3_1 kb3_2 kb3_3
      go_wp2_with fail
      go_region_with (first | (go_at_call 34; refine (l_toLine x1 A1 B1 c1 d1 _ (by omega) (by omega) (R1.out.below BB9.out.drew)).mono ?_; rintro e wt ⟨⟨At, Bt, rfl, ot⟩, hbt⟩; have KT1 := KB1_9.out.drew.below hbt (Blk.lt KB1_9.out); have KT3 := KB3_9.out.drew.below hbt (Blk.lt KB3_9.out); have kt1_0 := KT1.cell 0; have kt1_1 := KT1.cell 1; have kt1_2 := KT1.cell 2; have kt1_3 := KT1.cell 3; have kt3_0 := KT3.cell 0; have kt3_1 := KT3.cell 1; have kt3_2 := KT3.cell 2; have kt3_3 := KT3.cell 3; simp at kt1_0 kt1_1 kt1_2 kt1_3 kt3_0 kt3_1 kt3_2 kt3_3) | (go_at_call 36; refine (l_eqLine x1 x1 _ _ _ _ _ _ _ _ _ (by omega) (by omega) (by omega) (by omega) (YL.out.below (((Below.refl _ _).drew).trans hbt)) (lnIn_own ot (by omega))).mono ?_; rintro e we ⟨rfl, hbe⟩))
      all_goals
        go_wp2
        go_ret
        exact ⟨rfl, BB9.out.drew.trans ((hbt.mono BB9.out.size).trans (hbe.mono (Nat.le_trans BB9.out.size hbt.size)))⟩
end fnExactSameLine
end Go.Proofs.Ytmihlgkbnakjmaa
