import Derived.Test.YteghjebbeclanaaDoorPTokM
import Derived.Test.YteghjebbeclanaaDoorTokS2
namespace Go.Proofs.YteghjebbeclanaaDoor
open Go Go.RowKit
set_option maxRecDepth 100000
theorem ptV_form (o : Option Tk) : ∃ (k n : Int) (z : ByteArray) (b : Bool), ptV o = .tuple #[.agg #[.int .i64 k, .int .i64 n, .string z], .bool b] := by
  cases o with
  | none => exact ⟨0, 0, ⟨#[]⟩, false, rfl⟩
  | some t => exact ⟨t.1, t.2.1, t.2.2, true, rfl⟩
namespace fnExactParseTok
set_option maxHeartbeats 1000000 in
theorem walk (v0 : Value) (w : World) (hp : PowIs w) (hmx : MaxIs w) (h0 : InString w v0) : Calls Tryd.prog 3 #[v0] w fun e w' => e = .returned (.bool true) ∧ Below w.heap.size w w' := by
  obtain ⟨x0, rfl, hs0⟩ := h0
  have HP := hide hp
  have HM := hide hmx
  clear hp hmx
  by_cases hq0 : 1048576 < (x0.size : Int)
  · go_enter Tryd.func3, Tryd.ntmps3
    go_wp2_with fail
    go_ret
    exact ⟨rfl, Below.refl _ _⟩
  · have hs : x0.size ≤ 1048576 := by omega
    go_enter Tryd.func3, Tryd.ntmps3
    go_wp2_with fail
    refine (s_parseTok x0 hs _ HP.out).mono ?_
    rintro e w1 ⟨rfl, hb1⟩
    rw [cands_ptF]
    obtain ⟨k, n, z, b, hV⟩ := ptV_form (ptF x0)
    rw [hV]
    have HV := hide hV
    clear hV
    have K1 := hide (Blk.new w1 23 #[.int .i64 k, .int .i64 n, .string z])
    have B1 := hide (hb1.alloc hb1.size (.cells #[.int .i64 k, .int .i64 n, .string z] 23))
    have hz1 := hb1.size
    clear hb1
    go_wp2_with fail
    refine (i_parseTok x0 hs _ (HP.out.below B1.out) (HM.out.below B1.out)).mono ?_
    rintro e w2 ⟨rfl, hb2⟩
    rw [HV.out]
    have K2 := hide ((K1.out.below hb2 (by simp)).alloc (.cells #[.int .i64 k, .int .i64 n, .string z] 23))
    have N2 := hide (Blk.new w2 23 #[.int .i64 k, .int .i64 n, .string z])
    have B2 := hide ((B1.out.trans (hb2.mono B1.out.size)).alloc (B1.out.trans (hb2.mono B1.out.size)).size (.cells #[.int .i64 k, .int .i64 n, .string z] 23))
    clear hb2 K1
    have c0 := K2.out.cell 0
    have c1 := K2.out.cell 1
    have c2 := K2.out.cell 2
    have d0 := N2.out.cell 0
    have d1 := N2.out.cell 1
    have d2 := N2.out.cell 2
    simp at c0 c1 c2 d0 d1 d2
    go_wp2_with fail
    refine (l_eqTok (k, n, z) (k, n, z) _).mono ?_
    rintro e w3 ⟨rfl, hb3⟩
    rw [decide_eq_true rfl]
    go_wp2_with fail
    go_ret
    exact ⟨rfl, B2.out.trans (hb3.mono B2.out.size)⟩
end fnExactParseTok
end Go.Proofs.YteghjebbeclanaaDoor
