import Derived.Test.YtclldakoinnhhaaDoorFmtE
import Derived.Test.YtclldakoinnhhaaDoorPUint
import Derived.Test.YtclldakoinnhhaaDoorDoor2
import Derived.Lib.CutLaws
import Derived.Lib.IndexMore
namespace Go.Proofs.YtclldakoinnhhaaDoor
open Go Go.RowKit
set_option maxRecDepth 100000
/-! The token of a word. -/
def sgnL : List UInt8 := [43, 45, 42, 60, 61]
def opQ (s : ByteArray) : Int := Lib.index sgnL s.data.toList
def cutOf (s : ByteArray) : List UInt8 × List UInt8 × Bool := Lib.cut s.data.toList [47]
noncomputable def ptTok (s : ByteArray) : Tk :=
  if puB s.data.toList = true then (0, puV s.data.toList, ⟨#[]⟩)
  else if s.size = 1 ∧ 0 ≤ opQ s then (2 + opQ s, 0, ⟨#[]⟩)
  else if (cutOf s).2.2 = true ∧ puB (cutOf s).2.1 = true then (7, puV (cutOf s).2.1, ⟨(cutOf s).1.toArray⟩)
  else (1, 0, s)
noncomputable def ptF (s : ByteArray) : Option Tk := if s ≠ ⟨#[]⟩ ∧ fmtTkF (ptTok s) = s then some (ptTok s) else none
def ptV : Option Tk → Value
  | some t => .tuple #[.agg #[.int .i64 t.1, .int .i64 t.2.1, .string t.2.2], .bool true]
  | none => .tuple #[.agg #[.int .i64 0, .int .i64 0, .string ⟨#[]⟩], .bool false]
theorem cut_size (s : ByteArray) : (cutOf s).1.length ≤ s.size ∧ (cutOf s).2.1.length ≤ s.size := by
  have : s.data.toList.length = s.size := rfl
  unfold cutOf Lib.cut
  split <;> simp <;> omega
theorem puV_range (l : List UInt8) : 0 ≤ puV l ∧ puV l ≤ 1000000000 := by
  rcases Classical.em (puOk l) with h | h
  · rw [(pu_yes h).1]
    obtain ⟨_, _, _, h4⟩ := h
    omega
  · rw [(pu_not h).1]; omega
theorem opQ_range (s : ByteArray) : -1 ≤ opQ s ∧ opQ s ≤ 5 := by
  have h1 := Lib.index_ge sgnL s.data.toList
  have h2 := Lib.index_le sgnL s.data.toList
  have : sgnL.length = 5 := rfl
  unfold opQ
  omega
theorem toList_ne2 {s : ByteArray} (h : s ≠ ⟨#[]⟩) : s.toList.isEmpty = false := by
  rw [ByteArray.toList_eq]
  cases hs : s.data.toList with
  | nil => exact absurd (ByteArray.ext (Array.ext' (by simpa using hs))) h
  | cons a l => rfl
theorem toList_e2 {s : ByteArray} (h : s = ⟨#[]⟩) : s.toList.isEmpty = true := by rw [h, ByteArray.toList_eq]; rfl
set_option maxHeartbeats 4000000 in
theorem i_ptA (s : ByteArray) (hs : s.size ≤ 1048576) (w : World) (hp : PowIs w) (hmx : MaxIs w) (hcond : puB s.data.toList = true) :
    Calls Tryd.prog 25 #[.string s] w fun e w' => e = .returned (ptV (ptF s)) ∧ Below w.heap.size w w' := by
  have HP := hide hp
  have HM := hide hmx
  clear hp hmx
  have hsm : s.size ≤ maxLen := by unfold maxLen; omega
  have hcs := cut_size s
  have hpu := puV_range s.data.toList
  have hpn := puV_range (cutOf s).2.1
  have hq := opQ_range s
  have hnm : (⟨(cutOf s).2.1.toArray⟩ : ByteArray).size ≤ maxLen := by show (cutOf s).2.1.length ≤ maxLen; omega
  have hcut : ∀ W : World, MaxIs W → Calls Tryd.prog 27 #[.string s, .string ⟨#[47]⟩] W fun e w' => e = .returned (.tuple #[.string ⟨(cutOf s).1.toArray⟩, .string ⟨(cutOf s).2.1.toArray⟩, .bool (cutOf s).2.2]) ∧ ∃ n, w' = W.drewN n := by
    intro W hW
    obtain ⟨m, hm⟩ := hW
    exact Tryd.strings_Cut s ⟨#[47]⟩ m W (by omega) hm
  have hidx : ∀ W : World, MaxIs W → Calls Tryd.prog 45 #[.string ⟨#[43, 45, 42, 60, 61]⟩, .string s] W fun e w' => e = .returned (.int .i64 (opQ s)) ∧ w' = W := by
    intro W hW
    obtain ⟨m, hm⟩ := hW
    exact Tryd.strings_Index ⟨#[43, 45, 42, 60, 61]⟩ s m W (by decide) hm
  have hpuN : ∀ W : World, Calls Tryd.prog 44 #[.string ⟨(cutOf s).2.1.toArray⟩] W fun e w' => e = .returned (.tuple #[.int .i64 (puV (cutOf s).2.1), .bool (puB (cutOf s).2.1)]) ∧ W = w' := fun W => i_parseUint _ hnm W
  have hname : (⟨(cutOf s).1.toArray⟩ : ByteArray).size ≤ maxLen := by show (cutOf s).1.length ≤ maxLen; omega
  have hT : ptTok s = (0, puV s.data.toList, ⟨#[]⟩) := by unfold ptTok; rw [if_pos hcond]
  have T1 : Hid (s ≠ ⟨#[]⟩ → fmtTkF (0, puV s.data.toList, ⟨#[]⟩) = s → ptF s = some (0, puV s.data.toList, ⟨#[]⟩)) := fun h1 h2 => by unfold ptF; rw [hT, if_pos ⟨h1, h2⟩]
  have T2 : Hid (s ≠ ⟨#[]⟩ → fmtTkF (0, puV s.data.toList, ⟨#[]⟩) ≠ s → ptF s = none) := fun h1 h2 => by unfold ptF; rw [hT, if_neg (fun h => h2 h.2)]
  have T3 : Hid (s = ⟨#[]⟩ → ptF s = none) := fun h1 => by unfold ptF; rw [if_neg (fun h => h.1 h1)]
  clear hT
  have HCUT := hide hcut
  have HIDX := hide hidx
  have HPN := hide hpuN
  clear hcut hidx hpuN
  generalize hcc : cutOf s = cc at *
  obtain ⟨cn, cm, cf⟩ := cc
  simp only at hnm hpn hname hcond
  generalize opQ s = q at *
  have HPU := hide (i_parseUint s hsm)
  generalize puB s.data.toList = u at *
  generalize puV s.data.toList = un at *
  have HPN2 := HPN.out
  simp only at HPN2
  generalize puB cm = v at *
  generalize puV cm = vn at *
  have HPN3 := hide HPN2
  clear HPN2 HPN hcc hcs
  have K2 := hide ((Blk.new w 32 #[.int .i64 0, .int .i64 0, .string ⟨#[]⟩]).alloc (.cells #[.int .i64 1, .int .i64 0, .string s] 32))
  have K4 : Hid (Blk ((w.alloc (.cells #[.int .i64 0, .int .i64 0, .string ⟨#[]⟩] 32)).alloc (.cells #[.int .i64 1, .int .i64 0, .string s] 32)) (w.heap.size + 1) 32 #[.int .i64 1, .int .i64 0, .string s]) := by
    have := Blk.new (w.alloc (.cells #[.int .i64 0, .int .i64 0, .string ⟨#[]⟩] 32)) 32 #[.int .i64 1, .int .i64 0, .string s]
    show Blk _ _ _ _
    simpa using this
  have B0 : Hid (Below w.heap.size w ((w.alloc (.cells #[.int .i64 0, .int .i64 0, .string ⟨#[]⟩] 32)).alloc (.cells #[.int .i64 1, .int .i64 0, .string s] 32))) := ((Below.refl _ _).alloc (Nat.le_refl _) _).alloc (by simp) _
  subst hcond
  have hz : (⟨#[]⟩ : ByteArray).size ≤ maxLen := Nat.zero_le _
  go_enter Tryd.func25, Tryd.ntmps25
  go_wp2_with fail
  refine (HCUT.out _ (HM.out.below B0.out)).mono ?_
  rintro e w1 ⟨rfl, nq, rfl⟩
  go_wp2_with fail
  refine (HPU.out _).mono ?_
  rintro e w' ⟨rfl, rfl⟩
  obtain ⟨W, hW⟩ : ∃ W : World, W = ((w.alloc (.cells #[.int .i64 0, .int .i64 0, .string ⟨#[]⟩] 32)).alloc (.cells #[.int .i64 1, .int .i64 0, .string s] 32)).drewN nq := ⟨_, rfl⟩
  rw [← hW]
  have L2 : Hid (Blk W w.heap.size 32 #[.int .i64 0, .int .i64 0, .string ⟨#[]⟩]) := by rw [hW]; exact K2.out.drewN nq
  have L4 : Hid (Blk W (w.heap.size + 1) 32 #[.int .i64 1, .int .i64 0, .string s]) := by rw [hW]; exact K4.out.drewN nq
  have BW : Hid (Below w.heap.size w W) := by rw [hW]; exact below_drewN B0.out _
  clear hW K2 K4 B0 nq
  have k20 := L2.out.cell 0
  have f20 := L2.out.frozen 0
  have k21 := L2.out.cell 1
  have f21 := L2.out.frozen 1
  have k22 := L2.out.cell 2
  have f22 := L2.out.frozen 2
  have k40 := L4.out.cell 0
  have f40 := L4.out.frozen 0
  have k41 := L4.out.cell 1
  have f41 := L4.out.frozen 1
  have k42 := L4.out.cell 2
  have f42 := L4.out.frozen 2
  simp at k20 k21 k22 k40 k41 k42
  by_cases he : s = ⟨#[]⟩
  · have hz0 := toList_e2 he
    have HE := hide (T3.out he)
    clear he
    go_wp2_with fail
    refine bodyPost_ret (v := .tuple #[.agg #[.int .i64 0, .int .i64 0, .string ⟨#[]⟩], .bool false]) (by simp [results, Tryd.results25, go_sem, k20, k21, k22]) rfl ⟨by rw [HE.out]; rfl, ?_⟩
    repeat (first | (with_reducible exact BW.out) | refine Below.setCell ?_ (by first | exact Nat.le_refl _ | (simp; done) | (simp; omega) | omega) _ | refine Below.drew ?_ | refine below_drewN ?_ _)
  · have hz0 := toList_ne2 he
    have HY := hide (T1.out he)
    have HX := hide (T2.out he)
    clear he
    have M4 := ((L4.out.set_ 0 (.int .i64 (0))).set_ 1 (.int .i64 (un))).set_ 2 (.string ⟨#[]⟩)
    have M2 := ((L2.out.far (p := ⟨w.heap.size + 1, 0, none⟩) (by simp) (.int .i64 (0))).far (p := ⟨w.heap.size + 1, 1, none⟩) (by simp) (.int .i64 (un))).far (p := ⟨w.heap.size + 1, 2, none⟩) (by simp) (.string ⟨#[]⟩)
    simp at M4
    have BS : Hid (Below w.heap.size w (((W.setCell ⟨w.heap.size + 1, 0, none⟩ (.int .i64 (0))).setCell ⟨w.heap.size + 1, 1, none⟩ (.int .i64 (un))).setCell ⟨w.heap.size + 1, 2, none⟩ (.string ⟨#[]⟩))) := ((BW.out.setCell (p := ⟨w.heap.size + 1, 0, none⟩) (by simp) _).setCell (p := ⟨w.heap.size + 1, 1, none⟩) (by simp) _).setCell (p := ⟨w.heap.size + 1, 2, none⟩) (by simp) _
    have N4 := hide M4
    have N2 := hide M2
    clear M4 M2
    go_wp2_with fail
    refine (i_formatTok _ _ _ hz _ (HP.out.below BS.out)).mono ?_
    rintro e w5 ⟨rfl, hb5⟩
    have Q4 := N4.out.below hb5 (Blk.lt N4.out)
    have Q2 := N2.out.below hb5 (Blk.lt N2.out)
    have B5 := hide (BS.out.trans (hb5.mono BS.out.size))
    clear hb5 k20 k21 k22 k40 k41 k42 f20 f21 f22 f40 f41 f42 N4 N2 L2 L4
    have k20 := Q2.cell 0
    have f20 := Q2.frozen 0
    have k21 := Q2.cell 1
    have f21 := Q2.frozen 1
    have k22 := Q2.cell 2
    have f22 := Q2.frozen 2
    have k40 := Q4.cell 0
    have f40 := Q4.frozen 0
    have k41 := Q4.cell 1
    have f41 := Q4.frozen 1
    have k42 := Q4.cell 2
    have f42 := Q4.frozen 2
    simp at k20 k21 k22 k40 k41 k42
    clear Q4 Q2
    by_cases hf : fmtTkF (0, un, ⟨#[]⟩) = s
    · have HR := hide (HY.out hf)
      have hz1 := bneF hf
      clear HX HY
      generalize fmtTkF (0, un, ⟨#[]⟩) = t at *
      clear hf
      go_wp2_with fail
      refine bodyPost_ret (v := .tuple #[.agg #[.int .i64 (0), .int .i64 (un), .string ⟨#[]⟩], .bool true]) (by simp [results, Tryd.results25, go_sem, k20, k21, k22]) rfl ⟨by rw [HR.out]; rfl, ?_⟩
      repeat (first | (with_reducible exact B5.out) | refine Below.setCell ?_ (by first | exact Nat.le_refl _ | (simp; done) | (simp; omega) | omega) _ | refine Below.drew ?_ | refine below_drewN ?_ _)
    · have HR := hide (HX.out hf)
      have hz1 := bneT hf
      clear HX HY
      generalize fmtTkF (0, un, ⟨#[]⟩) = t at *
      clear hf
      go_wp2_with fail
      refine bodyPost_ret (v := .tuple #[.agg #[.int .i64 0, .int .i64 0, .string ⟨#[]⟩], .bool false]) (by simp [results, Tryd.results25, go_sem, k20, k21, k22]) rfl ⟨by rw [HR.out]; rfl, ?_⟩
      repeat (first | (with_reducible exact B5.out) | refine Below.setCell ?_ (by first | exact Nat.le_refl _ | (simp; done) | (simp; omega) | omega) _ | refine Below.drew ?_ | refine below_drewN ?_ _)
end Go.Proofs.YtclldakoinnhhaaDoor
