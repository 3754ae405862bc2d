import Derived.Test.YtcfjbaanahgpoaaMem
import Derived.Test.YtcfjbaanahgpoaaTm
namespace Go.Proofs.Ytcfjbaanahgpoaa
open Go.RowKit
theorem Try.info8' : (Try.prog.info? 5).map (fun i => (i.zero, i.size, i.bytes)) = some (some (.int .u8 0), 1, 1) := by kernel_rfl
/-- The bytes of an instruction. -/
def opByte (a : Int) (k : Nat) : UInt8 := UInt8.ofNat (a / 2 ^ (8 * k) % 256).toNat
def opBytes (c a : Int) (n : Nat) : List UInt8 := UInt8.ofNat (c % 256).toNat :: (List.range n).map (opByte a)
def encOpF (c a : Int) : List UInt8 := if opOkF c a then opBytes c a (opW c) else []
theorem u8_cell' (x : Int) (h : 0 ≤ x ∧ x ≤ 255) : ((UInt8.ofNat x.toNat).toNat : Int) = x := by simp; omega
theorem opByte_cell (a : Int) (k : Nat) : [Value.int .u8 (a / 2 ^ (8 * k) % 256)] = bcells [opByte a k] := by
  simp only [bcells, List.map_cons, List.map_nil, opByte]
  rw [u8_cell' _ (by omega)]
theorem opByte_head (c : Int) : [Value.int .u8 (c % 256)] = bcells [UInt8.ofNat (c % 256).toNat] := by
  simp only [bcells, List.map_cons, List.map_nil]
  rw [u8_cell' _ (by omega)]
theorem opBytes_succ (c a : Int) (n : Nat) : opBytes c a (n + 1) = opBytes c a n ++ [opByte a n] := by
  unfold opBytes; rw [List.range_succ, List.map_append, List.cons_append]; rfl
set_option maxHeartbeats 400000 in
theorem i_encodeOp (c a : Int) (w : World) :
    Calls Try.prog 45 #[.agg #[.int .i64 c, .int .i64 a]] w fun e w' => e = .returned (.string ⟨(encOpF c a).toArray⟩) ∧ Below w.heap.size w w' := by
  obtain ⟨i0, hi, hz0, hz1, hz2⟩ := info_parts Try.info8'
  cases hok : opOkF c a
  · have hfin : Hid (encOpF c a = []) := by unfold encOpF; rw [hok]; rfl
    go_enter Try.func45, Try.ntmps45
    go_wp2_with fail
    refine (i_opOk c a _).mono ?_
    rintro e w1 ⟨rfl, hb1⟩
    go_wp2_with fail
    go_ret
    refine ⟨?_, ((Below.refl _ _).alloc (Nat.le_refl _) _).trans (hb1.mono (by simp))⟩
    rw [hfin.out]; rfl
  · have hfin : Hid (encOpF c a = opBytes c a (opW c)) := by unfold encOpF; rw [hok]; rfl
    have hw4 := opW_le c
    go_enter Try.func45, Try.ntmps45
    go_wp2_with fail
    refine (i_opOk c a _).mono ?_
    rintro e w1 ⟨rfl, hb1⟩
    have hc1 : ∀ o, w1.cell? ⟨w.heap.size, o, none⟩ = _ := fun o => hb1.cell (p := ⟨w.heap.size, o, none⟩) (by simp)
    have hz := hb1.size
    simp at hz
    go_wp2_with (go_at_call 76; refine (i_argument _ _).mono ?_; rintro e w' ⟨rfl, rfl⟩)
    go_loopw [5, 6] (fun v i wr => ∃ k : Nat, k ≤ opW c ∧ i = .int .i64 k ∧ wr.ownsRow w1.heap.size 5 1 v (k + 1) (bcells (opBytes c a k)) ∧ Below w1.heap.size w1 wr) (fun _ i _ => opW c - (intOf i).toNat)
    case atStart =>
      have e := World.ownsRow_lit (base := w1.heap.size) (e := 5) (size := 1) w1 [Value.int .u8 (c % 256)].toArray 1 (Nat.le_refl _) (by decide) rfl
      rw [opByte_head] at e
      exact ⟨0, Nat.zero_le _, rfl, by rw [opByte_head]; simpa [opBytes] using e, (Below.refl _ _).alloc (Nat.le_refl _) _⟩
    case round =>
      obtain ⟨k, hk, rfl, hown, hb⟩ := hrel
      have HO := hide hown
      have HB := hide hb
      have hc2 : ∀ o, wr.cell? ⟨w.heap.size, o, none⟩ = _ := fun o => (hb.cell (p := ⟨w.heap.size, o, none⟩) (by simp; omega)).trans (hc1 o)
      clear hown hb hc1
      by_cases hlt : k < opW c
      · have e := hide (opByte_cell a k)
        have hs := hide (opBytes_succ c a k)
        go_wp2_with (at_builtin; refine wpList_app _ rfl (.tmp 25) (.tmp 32) _ rfl w1.heap.size 5 i0 (.int .u8 0) 1 1 Try.underlying22 hi hz0 hz1 hz2 rfl (by decide) u5 _ _ rfl HO.out 1 _ rfl ?c1 ?c2 ?c3 ?c4 ?c5 ?_)
        case c1 => rfl
        case c2 => rw [e.out]; exact bcells_one _
        case c3 => omega
        case c4 => decide
        case c5 => exact HB.out.size
        intro v' w3 hown3 hb3 _ _
        rw [e.out, ← bcells_append, ← hs.out] at hown3
        have hown4 := hide hown3
        have hb4 := hide (HB.out.trans hb3)
        clear hown3 hb3
        go_wp2
        go_roundw
        case rel => exact ⟨k + 1, by omega, by go_num, hown4.out, hb4.out⟩
        case measure => simp [intOf]; omega
      · have hconv := conv_own (P := Try.prog) Try.underlying22 Try.underlying5 HO.out 9 Try.underlying9
        have hke : k = opW c := by omega
        have HK := hide hke
        clear hke
        go_wp2
        go_ret
        refine ⟨?_, (((Below.refl _ _).alloc (Nat.le_refl _) _).trans (hb1.mono (by simp))).trans (HB.out.mono (by omega))⟩
        rw [hfin.out, ← HK.out]; rfl
end Go.Proofs.Ytcfjbaanahgpoaa
