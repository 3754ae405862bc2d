import Derived.Test.YtclldakoinnhhaaDoorFmtI
import Derived.Test.YtclldakoinnhhaaDoorExpr
namespace Go.Proofs.YtclldakoinnhhaaDoor
open Go Go.RowKit
set_option maxRecDepth 100000
/-- The sign of an operator. -/
def opSign (k : Int) : ByteArray := (⟨#[43, 45, 42, 60, 61]⟩ : ByteArray).extract (k - 2).toNat ((k - 2).toNat + 1)
def fmtTkF (t : Tk) : ByteArray :=
  if tkOk t = true then (if t.1 = 0 then ⟨(Lib.itoa t.2.1).toArray⟩ else if t.1 = 1 then t.2.2 else if t.1 = 7 then (t.2.2 ++ ⟨#[47]⟩) ++ ⟨(Lib.itoa t.2.1).toArray⟩ else opSign t.1) else ByteArray.empty
theorem tok_cases (k n : Int) (s : List UInt8) (h : tokOkF k n s = true) : (k = 0 ∧ 0 ≤ n ∧ n ≤ 999) ∨ k = 1 ∨ (k = 7 ∧ 0 ≤ n ∧ n ≤ 4) ∨ k = 2 ∨ k = 3 ∨ k = 4 ∨ k = 5 ∨ k = 6 := by
  unfold tokOkF at h
  split at h
  · simp [btw] at h; omega
  · split at h
    · simp [btw] at h; omega
    · split at h
      · omega
      · simp [btw] at h; omega
theorem tok7_size (n : Int) (s : ByteArray) (h : tokOkF 7 n s.data.toList = true) : s.size ≤ 8 := by
  unfold tokOkF nameOkF at h
  simp [btw] at h
  have : s.data.toList.length = s.size := rfl
  simp at this
  omega
set_option maxHeartbeats 1000000 in
theorem i_formatTok (k n : Int) (s : ByteArray) (hs : s.size ≤ maxLen) (w : World) (hp : PowIs w) :
    Calls Tryd.prog 7 #[.agg #[.int .i64 k, .int .i64 n, .string s]] w fun e w' => e = .returned (.string (fmtTkF (k, n, s))) ∧ Below w.heap.size w w' := by
  have HP := hide hp
  clear hp
  cases hok : tokOkF k n s.data.toList
  · have HN : Hid (fmtTkF (k, n, s) = ByteArray.empty) := by show _ = _; unfold fmtTkF tkOk; rw [hok]; rfl
    have HK := hide hok
    clear hok
    go_enter Tryd.func7, Tryd.ntmps7
    go_wp2_with fail
    refine (i_tokOk _ _ _ hs _).mono ?_
    rintro e w1 ⟨rfl, hb⟩
    rw [HK.out]
    go_wp2_with fail
    go_ret
    exact ⟨by rw [HN.out]; rfl, ((Below.refl _ _).alloc (Nat.le_refl _) _).trans (hb.mono (by simp))⟩
  · have hkn := tok_cases k n s.data.toList hok
    have HK := hide hok
    have K0 := hide (Blk.new w 32 #[.int .i64 k, .int .i64 n, .string s])
    have hfm : Hid (fmtTkF (k, n, s) = if k = 0 then ⟨(Lib.itoa n).toArray⟩ else if k = 1 then s else if k = 7 then (s ++ ⟨#[47]⟩) ++ ⟨(Lib.itoa n).toArray⟩ else opSign k) := by
      show _ = _; unfold fmtTkF tkOk; rw [hok]; rfl
    clear hok
    go_enter Tryd.func7, Tryd.ntmps7
    go_wp2_with fail
    refine (i_tokOk _ _ _ hs _).mono ?_
    rintro e w1 ⟨rfl, hb⟩
    rw [HK.out]
    have KB := hide (K0.out.below hb (by simp))
    have B1 := hide (show Below w.heap.size w w1 from ((Below.refl _ _).alloc (Nat.le_refl _) _).trans (hb.mono (by simp)))
    have hz : w.heap.size < w1.heap.size := by have := hb.size; simp at this; omega
    clear hb K0
    have c0 := KB.out.cell 0
    have c1 := KB.out.cell 1
    have c2 := KB.out.cell 2
    simp at c0 c1 c2
    have HP1 := hide (HP.out.below B1.out)
    rcases hkn with ⟨rfl, n0, n1⟩ | rfl | ⟨rfl, n0, n1⟩ | rfl | rfl | rfl | rfl | rfl
    · have HF : Hid (fmtTkF (0, n, s) = ⟨(Lib.itoa n).toArray⟩) := by show _ = _; rw [hfm.out]; rfl
      go_wp2_with fail
      refine (i_formatInt n (by omega) (by omega) _ HP1.out).mono ?_
      rintro e w2 ⟨rfl, hb2⟩
      generalize (⟨(Lib.itoa n).toArray⟩ : ByteArray) = t at *
      go_wp2_with fail
      go_ret
      exact ⟨by rw [HF.out]; rfl, B1.out.trans (hb2.mono (by omega))⟩
    · have HF : Hid (fmtTkF (1, n, s) = s) := by show _ = _; rw [hfm.out]; rfl
      go_wp2_with fail
      go_ret
      exact ⟨by rw [HF.out]; rfl, B1.out⟩
    · have hs8 : s.size ≤ 8 := tok7_size n s HK.out
      have hsz2 : (⟨(Lib.itoa n).toArray⟩ : ByteArray).size ≤ 21 := Lib.itoa_length_le n (by omega) (by omega)
      have HF : Hid (fmtTkF (7, n, s) = (s ++ ⟨#[47]⟩) ++ ⟨(Lib.itoa n).toArray⟩) := by show _ = _; rw [hfm.out]; rfl
      obtain ⟨t, ht⟩ : ∃ t : ByteArray, t = ⟨(Lib.itoa n).toArray⟩ := ⟨_, rfl⟩
      have hfi : ∀ w : World, PowIs w → Calls Tryd.prog 24 #[.int .i64 n] w fun e w' => e = .returned (.string t) ∧ Below w.heap.size w w' := by
        intro w hp; rw [ht]; exact i_formatInt n (by omega) (by omega) w hp
      rw [← ht] at hsz2 HF
      have hsz3 : (s ++ ⟨#[47]⟩ : ByteArray).size = s.size + 1 := by rw [ByteArray.size_append]; rfl
      clear ht
      go_wp2_with fail
      have KD := hide KB.out.drew
      have HPd : Hid (PowIs w1.drew) := HP1.out.below (show Below w1.heap.size w1 w1.drew from (Below.refl _ _).drew)
      go_region_with (go_at_call 24; refine (hfi _ HPd.out).mono ?_; rintro e w2 ⟨rfl, hb2⟩; have KE := KD.out.below hb2 hz; have d0 := KE.cell 0; have d1 := KE.cell 1; have d2 := KE.cell 2; simp at d0 d1 d2)
      all_goals
        go_wp2_with fail
        go_ret
        exact ⟨by rw [HF.out]; rfl, B1.out.drew.trans (hb2.mono B1.out.size)⟩
    · have HF : Hid (fmtTkF (2, n, s) = opSign 2) := by show _ = _; rw [hfm.out]; rfl
      go_wp2_with fail
      go_ret
      exact ⟨by rw [HF.out]; rfl, B1.out⟩
    · have HF : Hid (fmtTkF (3, n, s) = opSign 3) := by show _ = _; rw [hfm.out]; rfl
      go_wp2_with fail
      go_ret
      exact ⟨by rw [HF.out]; rfl, B1.out⟩
    · have HF : Hid (fmtTkF (4, n, s) = opSign 4) := by show _ = _; rw [hfm.out]; rfl
      go_wp2_with fail
      go_ret
      exact ⟨by rw [HF.out]; rfl, B1.out⟩
    · have HF : Hid (fmtTkF (5, n, s) = opSign 5) := by show _ = _; rw [hfm.out]; rfl
      go_wp2_with fail
      go_ret
      exact ⟨by rw [HF.out]; rfl, B1.out⟩
    · have HF : Hid (fmtTkF (6, n, s) = opSign 6) := by show _ = _; rw [hfm.out]; rfl
      go_wp2_with fail
      go_ret
      exact ⟨by rw [HF.out]; rfl, B1.out⟩
end Go.Proofs.YtclldakoinnhhaaDoor
