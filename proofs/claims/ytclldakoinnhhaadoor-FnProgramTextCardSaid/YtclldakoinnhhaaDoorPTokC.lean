import Derived.Test.YtclldakoinnhhaaDoorPTokB
namespace Go.Proofs.YtclldakoinnhhaaDoor
open Go Go.RowKit
set_option maxRecDepth 100000
set_option linter.unusedVariables false
set_option maxHeartbeats 4000000 in
theorem i_ptC (s : ByteArray) (hs : s.size ≤ 1048576) (w : World) (hp : PowIs w) (hmx : MaxIs w) (hcond : puB s.data.toList = false ∧ ¬ (s.size = 1 ∧ 0 ≤ opQ s) ∧ (cutOf s).2.2 = true ∧ puB (cutOf s).2.1 = true) :
    Calls Tryd.prog 25 #[.string s] w fun e w' => e = .returned (ptV (ptF s)) ∧ Below w.heap.size w w' := by
  have HP := hide hp
  have HM := hide hmx
  clear hp hmx
  have hsm : s.size ≤ maxLen := by unfold maxLen; omega
  have hcs := cut_size s
  have hpu := puV_range s.data.toList
  have hpn := puV_range (cutOf s).2.1
  have hq := opQ_range s
  have hnm : (⟨(cutOf s).2.1.toArray⟩ : ByteArray).size ≤ maxLen := by show (cutOf s).2.1.length ≤ maxLen; omega
  have hcut : ∀ W : World, MaxIs W → Calls Tryd.prog 27 #[.string s, .string ⟨#[47]⟩] W fun e w' => e = .returned (.tuple #[.string ⟨(cutOf s).1.toArray⟩, .string ⟨(cutOf s).2.1.toArray⟩, .bool (cutOf s).2.2]) ∧ ∃ n, w' = W.drewN n := by
    intro W hW
    obtain ⟨m, hm⟩ := hW
    exact Tryd.strings_Cut s ⟨#[47]⟩ m W (by omega) hm
  have hidx : ∀ W : World, MaxIs W → Calls Tryd.prog 45 #[.string ⟨#[43, 45, 42, 60, 61]⟩, .string s] W fun e w' => e = .returned (.int .i64 (opQ s)) ∧ w' = W := by
    intro W hW
    obtain ⟨m, hm⟩ := hW
    exact Tryd.strings_Index ⟨#[43, 45, 42, 60, 61]⟩ s m W (by decide) hm
  have hpuN : ∀ W : World, Calls Tryd.prog 44 #[.string ⟨(cutOf s).2.1.toArray⟩] W fun e w' => e = .returned (.tuple #[.int .i64 (puV (cutOf s).2.1), .bool (puB (cutOf s).2.1)]) ∧ W = w' := fun W => i_parseUint _ hnm W
  have hname : (⟨(cutOf s).1.toArray⟩ : ByteArray).size ≤ maxLen := by show (cutOf s).1.length ≤ maxLen; omega
  have hT : ptTok s = (7, puV (cutOf s).2.1, ⟨(cutOf s).1.toArray⟩) := by unfold ptTok; rw [if_neg (by rw [hcond.1]; exact fun h => by cases h), if_neg hcond.2.1, if_pos hcond.2.2]
  have T1 : Hid (s ≠ ⟨#[]⟩ → fmtTkF (7, puV (cutOf s).2.1, ⟨(cutOf s).1.toArray⟩) = s → ptF s = some (7, puV (cutOf s).2.1, ⟨(cutOf s).1.toArray⟩)) := fun h1 h2 => by unfold ptF; rw [hT, if_pos ⟨h1, h2⟩]
  have T2 : Hid (s ≠ ⟨#[]⟩ → fmtTkF (7, puV (cutOf s).2.1, ⟨(cutOf s).1.toArray⟩) ≠ s → ptF s = none) := fun h1 h2 => by unfold ptF; rw [hT, if_neg (fun h => h2 h.2)]
  have T3 : Hid (s = ⟨#[]⟩ → ptF s = none) := fun h1 => by unfold ptF; rw [if_neg (fun h => h.1 h1)]
  clear hT
  have HCUT := hide hcut
  have HIDX := hide hidx
  have HPN := hide hpuN
  clear hcut hidx hpuN
  generalize hcc : cutOf s = cc at *
  obtain ⟨cn, cm, cf⟩ := cc
  simp only at hnm hpn hname hcond
  generalize opQ s = q at *
  have HPU := hide (i_parseUint s hsm)
  generalize puB s.data.toList = u at *
  generalize puV s.data.toList = un at *
  have HPN2 := HPN.out
  simp only at HPN2
  generalize puB cm = v at *
  generalize puV cm = vn at *
  have HPN3 := hide HPN2
  clear HPN2 HPN hcc hcs
  have K2 := hide ((Blk.new w 32 #[.int .i64 0, .int .i64 0, .string ⟨#[]⟩]).alloc (.cells #[.int .i64 1, .int .i64 0, .string s] 32))
  have K4 : Hid (Blk ((w.alloc (.cells #[.int .i64 0, .int .i64 0, .string ⟨#[]⟩] 32)).alloc (.cells #[.int .i64 1, .int .i64 0, .string s] 32)) (w.heap.size + 1) 32 #[.int .i64 1, .int .i64 0, .string s]) := by
    have := Blk.new (w.alloc (.cells #[.int .i64 0, .int .i64 0, .string ⟨#[]⟩] 32)) 32 #[.int .i64 1, .int .i64 0, .string s]
    show Blk _ _ _ _
    simpa using this
  have B0 : Hid (Below w.heap.size w ((w.alloc (.cells #[.int .i64 0, .int .i64 0, .string ⟨#[]⟩] 32)).alloc (.cells #[.int .i64 1, .int .i64 0, .string s] 32))) := ((Below.refl _ _).alloc (Nat.le_refl _) _).alloc (by simp) _
  obtain ⟨rfl, h1, rfl, rfl⟩ := hcond
  have hz := hname
  go_enter Tryd.func25, Tryd.ntmps25
  go_wp2_with fail
  refine (HCUT.out _ (HM.out.below B0.out)).mono ?_
  rintro e w1 ⟨rfl, nq, rfl⟩
  go_wp2_with fail
  refine (HPU.out _).mono ?_
  rintro e w' ⟨rfl, rfl⟩
  obtain ⟨W, hW⟩ : ∃ W : World, W = ((w.alloc (.cells #[.int .i64 0, .int .i64 0, .string ⟨#[]⟩] 32)).alloc (.cells #[.int .i64 1, .int .i64 0, .string s] 32)).drewN nq := ⟨_, rfl⟩
  rw [← hW]
  have L2 : Hid (Blk W w.heap.size 32 #[.int .i64 0, .int .i64 0, .string ⟨#[]⟩]) := by rw [hW]; exact K2.out.drewN nq
  have L4 : Hid (Blk W (w.heap.size + 1) 32 #[.int .i64 1, .int .i64 0, .string s]) := by rw [hW]; exact K4.out.drewN nq
  have BW : Hid (Below w.heap.size w W) := by rw [hW]; exact below_drewN B0.out _
  clear hW K2 K4 B0 nq
  have k20 := L2.out.cell 0
  have f20 := L2.out.frozen 0
  have k21 := L2.out.cell 1
  have f21 := L2.out.frozen 1
  have k22 := L2.out.cell 2
  have f22 := L2.out.frozen 2
  have k40 := L4.out.cell 0
  have f40 := L4.out.frozen 0
  have k41 := L4.out.cell 1
  have f41 := L4.out.frozen 1
  have k42 := L4.out.cell 2
  have f42 := L4.out.frozen 2
  simp at k20 k21 k22 k40 k41 k42
  go_wp2_with fail
  refine (HIDX.out _ (HM.out.below BW.out)).mono ?_
  rintro e w' ⟨rfl, hww⟩
  replace hww := hww.symm
  subst hww
  by_cases hsz : s.size = 1
  · have hs1 : ((s.size : Int) == 1) = true := by rw [hsz]; rfl
    have hq2 : decide (0 ≤ q) = false := decide_eq_false (fun h => h1 ⟨hsz, h⟩)
    go_wp2_with fail
    refine (HPN3.out _).mono ?_
    rintro e w' ⟨rfl, hww⟩
    subst hww
    by_cases he : s = ⟨#[]⟩
    · have hz0 := toList_e2 he
      have HE := hide (T3.out he)
      clear he
      go_wp2_with fail
      refine bodyPost_ret (v := .tuple #[.agg #[.int .i64 0, .int .i64 0, .string ⟨#[]⟩], .bool false]) (by simp [results, Tryd.results25, go_sem, k20, k21, k22]) rfl ⟨by rw [HE.out]; rfl, ?_⟩
      repeat (first | (with_reducible exact BW.out) | refine Below.setCell ?_ (by first | exact Nat.le_refl _ | (simp; done) | (simp; omega) | omega) _ | refine Below.drew ?_ | refine below_drewN ?_ _)
    · have hz0 := toList_ne2 he
      have HY := hide (T1.out he)
      have HX := hide (T2.out he)
      clear he
      have M4 := ((L4.out.set_ 0 (.int .i64 (7))).set_ 1 (.int .i64 (vn))).set_ 2 (.string ⟨cn.toArray⟩)
      have M2 := ((L2.out.far (p := ⟨w.heap.size + 1, 0, none⟩) (by simp) (.int .i64 (7))).far (p := ⟨w.heap.size + 1, 1, none⟩) (by simp) (.int .i64 (vn))).far (p := ⟨w.heap.size + 1, 2, none⟩) (by simp) (.string ⟨cn.toArray⟩)
      simp at M4
      have BS : Hid (Below w.heap.size w (((W.setCell ⟨w.heap.size + 1, 0, none⟩ (.int .i64 (7))).setCell ⟨w.heap.size + 1, 1, none⟩ (.int .i64 (vn))).setCell ⟨w.heap.size + 1, 2, none⟩ (.string ⟨cn.toArray⟩))) := ((BW.out.setCell (p := ⟨w.heap.size + 1, 0, none⟩) (by simp) _).setCell (p := ⟨w.heap.size + 1, 1, none⟩) (by simp) _).setCell (p := ⟨w.heap.size + 1, 2, none⟩) (by simp) _
      have N4 := hide M4
      have N2 := hide M2
      clear M4 M2
      go_wp2_with fail
      refine (i_formatTok _ _ _ hz _ (HP.out.below BS.out)).mono ?_
      rintro e w5 ⟨rfl, hb5⟩
      have Q4 := N4.out.below hb5 (Blk.lt N4.out)
      have Q2 := N2.out.below hb5 (Blk.lt N2.out)
      have B5 := hide (BS.out.trans (hb5.mono BS.out.size))
      clear hb5 k20 k21 k22 k40 k41 k42 f20 f21 f22 f40 f41 f42 N4 N2 L2 L4
      have k20 := Q2.cell 0
      have f20 := Q2.frozen 0
      have k21 := Q2.cell 1
      have f21 := Q2.frozen 1
      have k22 := Q2.cell 2
      have f22 := Q2.frozen 2
      have k40 := Q4.cell 0
      have f40 := Q4.frozen 0
      have k41 := Q4.cell 1
      have f41 := Q4.frozen 1
      have k42 := Q4.cell 2
      have f42 := Q4.frozen 2
      simp at k20 k21 k22 k40 k41 k42
      clear Q4 Q2
      by_cases hf : fmtTkF (7, vn, ⟨cn.toArray⟩) = s
      · have HR := hide (HY.out hf)
        have hz1 := bneF hf
        clear HX HY
        generalize fmtTkF (7, vn, ⟨cn.toArray⟩) = t at *
        clear hf
        go_wp2_with fail
        refine bodyPost_ret (v := .tuple #[.agg #[.int .i64 (7), .int .i64 (vn), .string ⟨cn.toArray⟩], .bool true]) (by simp [results, Tryd.results25, go_sem, k20, k21, k22]) rfl ⟨by rw [HR.out]; rfl, ?_⟩
        repeat (first | (with_reducible exact B5.out) | refine Below.setCell ?_ (by first | exact Nat.le_refl _ | (simp; done) | (simp; omega) | omega) _ | refine Below.drew ?_ | refine below_drewN ?_ _)
      · have HR := hide (HX.out hf)
        have hz1 := bneT hf
        clear HX HY
        generalize fmtTkF (7, vn, ⟨cn.toArray⟩) = t at *
        clear hf
        go_wp2_with fail
        refine bodyPost_ret (v := .tuple #[.agg #[.int .i64 0, .int .i64 0, .string ⟨#[]⟩], .bool false]) (by simp [results, Tryd.results25, go_sem, k20, k21, k22]) rfl ⟨by rw [HR.out]; rfl, ?_⟩
        repeat (first | (with_reducible exact B5.out) | refine Below.setCell ?_ (by first | exact Nat.le_refl _ | (simp; done) | (simp; omega) | omega) _ | refine Below.drew ?_ | refine below_drewN ?_ _)
  · have hs1 : ((s.size : Int) == 1) = false := by rw [beq_eq_false_iff_ne]; omega
    go_wp2_with fail
    refine (HPN3.out _).mono ?_
    rintro e w' ⟨rfl, hww⟩
    subst hww
    by_cases he : s = ⟨#[]⟩
    · have hz0 := toList_e2 he
      have HE := hide (T3.out he)
      clear he
      go_wp2_with fail
      refine bodyPost_ret (v := .tuple #[.agg #[.int .i64 0, .int .i64 0, .string ⟨#[]⟩], .bool false]) (by simp [results, Tryd.results25, go_sem, k20, k21, k22]) rfl ⟨by rw [HE.out]; rfl, ?_⟩
      repeat (first | (with_reducible exact BW.out) | refine Below.setCell ?_ (by first | exact Nat.le_refl _ | (simp; done) | (simp; omega) | omega) _ | refine Below.drew ?_ | refine below_drewN ?_ _)
    · have hz0 := toList_ne2 he
      have HY := hide (T1.out he)
      have HX := hide (T2.out he)
      clear he
      have M4 := ((L4.out.set_ 0 (.int .i64 (7))).set_ 1 (.int .i64 (vn))).set_ 2 (.string ⟨cn.toArray⟩)
      have M2 := ((L2.out.far (p := ⟨w.heap.size + 1, 0, none⟩) (by simp) (.int .i64 (7))).far (p := ⟨w.heap.size + 1, 1, none⟩) (by simp) (.int .i64 (vn))).far (p := ⟨w.heap.size + 1, 2, none⟩) (by simp) (.string ⟨cn.toArray⟩)
      simp at M4
      have BS : Hid (Below w.heap.size w (((W.setCell ⟨w.heap.size + 1, 0, none⟩ (.int .i64 (7))).setCell ⟨w.heap.size + 1, 1, none⟩ (.int .i64 (vn))).setCell ⟨w.heap.size + 1, 2, none⟩ (.string ⟨cn.toArray⟩))) := ((BW.out.setCell (p := ⟨w.heap.size + 1, 0, none⟩) (by simp) _).setCell (p := ⟨w.heap.size + 1, 1, none⟩) (by simp) _).setCell (p := ⟨w.heap.size + 1, 2, none⟩) (by simp) _
      have N4 := hide M4
      have N2 := hide M2
      clear M4 M2
      go_wp2_with fail
      refine (i_formatTok _ _ _ hz _ (HP.out.below BS.out)).mono ?_
      rintro e w5 ⟨rfl, hb5⟩
      have Q4 := N4.out.below hb5 (Blk.lt N4.out)
      have Q2 := N2.out.below hb5 (Blk.lt N2.out)
      have B5 := hide (BS.out.trans (hb5.mono BS.out.size))
      clear hb5 k20 k21 k22 k40 k41 k42 f20 f21 f22 f40 f41 f42 N4 N2 L2 L4
      have k20 := Q2.cell 0
      have f20 := Q2.frozen 0
      have k21 := Q2.cell 1
      have f21 := Q2.frozen 1
      have k22 := Q2.cell 2
      have f22 := Q2.frozen 2
      have k40 := Q4.cell 0
      have f40 := Q4.frozen 0
      have k41 := Q4.cell 1
      have f41 := Q4.frozen 1
      have k42 := Q4.cell 2
      have f42 := Q4.frozen 2
      simp at k20 k21 k22 k40 k41 k42
      clear Q4 Q2
      by_cases hf : fmtTkF (7, vn, ⟨cn.toArray⟩) = s
      · have HR := hide (HY.out hf)
        have hz1 := bneF hf
        clear HX HY
        generalize fmtTkF (7, vn, ⟨cn.toArray⟩) = t at *
        clear hf
        go_wp2_with fail
        refine bodyPost_ret (v := .tuple #[.agg #[.int .i64 (7), .int .i64 (vn), .string ⟨cn.toArray⟩], .bool true]) (by simp [results, Tryd.results25, go_sem, k20, k21, k22]) rfl ⟨by rw [HR.out]; rfl, ?_⟩
        repeat (first | (with_reducible exact B5.out) | refine Below.setCell ?_ (by first | exact Nat.le_refl _ | (simp; done) | (simp; omega) | omega) _ | refine Below.drew ?_ | refine below_drewN ?_ _)
      · have HR := hide (HX.out hf)
        have hz1 := bneT hf
        clear HX HY
        generalize fmtTkF (7, vn, ⟨cn.toArray⟩) = t at *
        clear hf
        go_wp2_with fail
        refine bodyPost_ret (v := .tuple #[.agg #[.int .i64 0, .int .i64 0, .string ⟨#[]⟩], .bool false]) (by simp [results, Tryd.results25, go_sem, k20, k21, k22]) rfl ⟨by rw [HR.out]; rfl, ?_⟩
        repeat (first | (with_reducible exact B5.out) | refine Below.setCell ?_ (by first | exact Nat.le_refl _ | (simp; done) | (simp; omega) | omega) _ | refine Below.drew ?_ | refine below_drewN ?_ _)
end Go.Proofs.YtclldakoinnhhaaDoor
