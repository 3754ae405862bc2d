import Derived.Test.YtcfjbaanahgpoaaTokX
namespace Go.Proofs.Ytcfjbaanahgpoaa
open Go.RowKit
set_option maxRecDepth 100000
def tkOk (t : Tk) : Bool := tokOkF t.1 t.2.1 t.2.2.data.toList
def tkAr (t : Tk) : Int := arityF t.1 t.2.1 t.2.2.data.toList
theorem tkAr_ok (t : Tk) (h : tkOk t = true) : 0 ≤ tkAr t ∧ tkAr t ≤ 4 := by
  unfold tkOk at h
  unfold tkAr arityF
  rw [if_neg (by rw [h]; simp)]
  split
  · rename_i h7
    unfold tokOkF at h
    rw [if_neg (by omega), if_pos h7] at h
    simp [btw] at h
    omega
  · split <;> omega
theorem tkAr_bad (t : Tk) (h : tkOk t = false) : tkAr t = -1 := by unfold tkOk at h; unfold tkAr arityF; rw [if_pos h]
/-- Where an expression ends of which need operands more are wanted from p on. -/
def endL (l : List Tk) (p need : Nat) : Int :=
  if need = 0 then p
  else if h : p < l.length then (if tkOk l[p] then endL l (p + 1) (need - 1 + (tkAr l[p]).toNat) else -1)
  else -1
termination_by l.length - p
decreasing_by omega
def exprEndF (l : List Tk) (at' : Int) : Int := if 0 ≤ at' ∧ at' < l.length then endL l at'.toNat 1 else -1
theorem endL_zero (l : List Tk) (p : Nat) : endL l p 0 = p := by rw [endL]; rfl
theorem endL_out (l : List Tk) (p need : Nat) (h0 : 0 < need) (h : l.length ≤ p) : endL l p need = -1 := by rw [endL, if_neg (by omega), dif_neg (by omega)]
theorem endL_bad (l : List Tk) (p need : Nat) (h0 : 0 < need) (h : p < l.length) (hb : tkOk l[p] = false) : endL l p need = -1 := by rw [endL, if_neg (by omega), dif_pos h, if_neg (by rw [hb]; simp)]
theorem endL_step (l : List Tk) (p need : Nat) (h0 : 0 < need) (h : p < l.length) (hb : tkOk l[p] = true) : endL l p need = endL l (p + 1) (need - 1 + (tkAr l[p]).toNat) := by rw [endL, if_neg (by omega), dif_pos h, if_pos hb]
set_option maxHeartbeats 1000000 in
theorem i_exprEnd (A : Option Addr) (n c : Nat) (l : List Tk) (at0 : Int) (w : World) (hn : n ≤ 1048576) (hl : l.length = n) (h : InRow w A n 3 (tokCells l)) (hs : ∀ t ∈ l, t.2.2.size ≤ maxLen) :
    Calls Try.prog 86 #[.slice A n c, .int .i64 at0] w fun e w' => e = .returned (.int .i64 (exprEndF l at0)) ∧ Below w.heap.size w w' := by
  have H := hide h
  have HL := hide hl
  have HS := hide hs
  clear h hl hs
  by_cases ha : 0 ≤ at0 ∧ at0 < n
  · have hin : btw at0 0 ((n : Int) - 1) = true := by simp [btw]; omega
    have HF : Hid (exprEndF l at0 = endL l at0.toNat 1) := by show _ = _; unfold exprEndF; rw [if_pos (by rw [HL.out]; exact ha)]
    obtain ⟨a0, a1⟩ := ha
    obtain ⟨p0, rfl⟩ := Int.eq_ofNat_of_zero_le a0
    rw [Int.toNat_natCast] at HF
    clear a0
    go_enter Try.func86, Try.ntmps86
    go_wp2_with (go_at_call 32; refine (i_between _ _ _ _).mono ?_; rintro e w' ⟨rfl, rfl⟩)
    go_loopw [1, 5] (fun a m wr => ∃ p need : Nat, a = .int .i64 p ∧ m = .int .i64 need ∧ p ≤ n ∧ need ≤ 4 * p + 1 ∧ endL l p0 1 = endL l p need ∧ Below w.heap.size w wr) (fun a _ _ => n + 1 - (intOf a).toNat)
    case atStart => exact ⟨p0, 1, rfl, rfl, by omega, by omega, rfl, Below.refl _ _⟩
    case round =>
      obtain ⟨p, need, rfl, rfl, hp, hneed, he, hb⟩ := hrel
      have HE := hide he
      have HB := hide hb
      have R := hide (H.out.below hb)
      clear he hb
      by_cases h0 : 0 < need
      · by_cases hlt : p < n
        · have hkl : p < l.length := by rw [HL.out]; exact hlt
          obtain ⟨b, o, rfl, _, c0, c1, c2⟩ := R.out.tok p hkl
          have hsz := HS.out _ (List.getElem_mem hkl)
          cases hok : tkOk l[p]
          · have HN := hide (HE.out.trans (endL_bad l p need h0 hkl hok))
            unfold tkOk at hok
            go_wp2_with fail
            refine (i_tokOk _ _ _ hsz _).mono ?_
            rintro e w2 ⟨rfl, hb2⟩
            go_wp2
            go_ret
            exact ⟨by rw [HF.out, HN.out]; rfl, HB.out.trans (hb2.mono HB.out.size)⟩
          · have HN := hide (HE.out.trans (endL_step l p need h0 hkl hok))
            have har := tkAr_ok _ hok
            have HA : Hid (arityF l[p].1 l[p].2.1 l[p].2.2.data.toList = tkAr l[p]) := rfl
            unfold tkOk at hok
            go_wp2_with fail
            refine (i_tokOk _ _ _ hsz _).mono ?_
            rintro e w2 ⟨rfl, hb2⟩
            have HB2 := hide (HB.out.trans (hb2.mono HB.out.size))
            have R2 := hide (R.out.below hb2)
            obtain ⟨b2, o2, e2, _, d0, d1, d2⟩ := R2.out.tok p hkl
            obtain ⟨rfl, rfl⟩ : b = b2 ∧ o = o2 := by injection e2 with e2; injection e2 with e2 e3; exact ⟨e2, e3⟩
            clear hb2 c0 c1 c2 e2
            go_wp2_with fail
            refine (i_arity _ _ _ hsz _).mono ?_
            rintro e w3 ⟨rfl, hb3⟩
            rw [HA.out]
            have HB3 := hide (HB2.out.trans (hb3.mono HB2.out.size))
            clear hb3
            generalize tkAr l[p] = ar at *
            go_wp2
            go_roundw
            case rel => exact ⟨p + 1, need - 1 + ar.toNat, by go_num, by go_num, by omega, by omega, HN.out, HB3.out⟩
            case measure => simp [intOf]; omega
        · have HN := hide (HE.out.trans (endL_out l p need h0 (by rw [HL.out]; omega)))
          go_wp2
          go_ret
          exact ⟨by rw [HF.out, HN.out]; rfl, HB.out⟩
      · have HN : Hid (endL l p0 1 = p) := by
          show _ = _
          rw [HE.out, show need = 0 by omega, endL_zero]
        go_wp2
        go_ret
        exact ⟨by rw [HF.out, HN.out]; rfl, HB.out⟩
  · have hin : btw at0 0 ((n : Int) - 1) = false := by simp [btw]; omega
    have HF : Hid (exprEndF l at0 = -1) := by show _ = _; unfold exprEndF; rw [if_neg (by rw [HL.out]; exact ha)]
    clear ha
    go_enter Try.func86, Try.ntmps86
    go_wp2_with (go_at_call 32; refine (i_between _ _ _ _).mono ?_; rintro e w' ⟨rfl, rfl⟩)
    go_ret
    exact ⟨by rw [HF.out]; rfl, Below.refl _ _⟩
set_option maxHeartbeats 1000000 in
theorem s_exprEnd (A : Option Addr) (n c : Nat) (l : List Tk) (at0 : Int) (w : World) (hn : n ≤ 1048576) (hl : l.length = n) (h : InRow w A n 3 (tokCells l)) (hs : ∀ t ∈ l, t.2.2.size ≤ maxLen) :
    Calls Try.prog 87 #[.slice A n c, .int .i64 at0] w fun e w' => e = .returned (.int .i64 (exprEndF l at0)) ∧ Below w.heap.size w w' := by
  have H := hide h
  have HL := hide hl
  have HS := hide hs
  clear h hl hs
  by_cases ha : 0 ≤ at0 ∧ at0 < n
  · have HF : Hid (exprEndF l at0 = endL l at0.toNat 1) := by show _ = _; unfold exprEndF; rw [if_pos (by rw [HL.out]; exact ha)]
    obtain ⟨a0, a1⟩ := ha
    obtain ⟨p0, rfl⟩ := Int.eq_ofNat_of_zero_le a0
    rw [Int.toNat_natCast] at HF
    clear a0
    go_enter Try.func87, Try.ntmps87
    go_wp2_with fail
    go_loopw [1, 5] (fun a m wr => ∃ p need : Nat, a = .int .i64 p ∧ m = .int .i64 need ∧ p ≤ n ∧ need ≤ 4 * p + 1 ∧ endL l p0 1 = endL l p need ∧ Below w.heap.size w wr) (fun a _ _ => n + 1 - (intOf a).toNat)
    case atStart => exact ⟨p0, 1, rfl, rfl, by omega, by omega, rfl, Below.refl _ _⟩
    case round =>
      obtain ⟨p, need, rfl, rfl, hp, hneed, he, hb⟩ := hrel
      have HE := hide he
      have HB := hide hb
      have R := hide (H.out.below hb)
      clear he hb
      by_cases h0 : 0 < need
      · by_cases hlt : p < n
        · have hkl : p < l.length := by rw [HL.out]; exact hlt
          obtain ⟨b, o, rfl, _, c0, c1, c2⟩ := R.out.tok p hkl
          have hsz := HS.out _ (List.getElem_mem hkl)
          cases hok : tkOk l[p]
          · have HN := hide (HE.out.trans (endL_bad l p need h0 hkl hok))
            unfold tkOk at hok
            go_wp2_with fail
            refine (s_tokOk _ _ _ hsz _).mono ?_
            rintro e w2 ⟨rfl, hb2⟩
            go_wp2
            go_ret
            exact ⟨by rw [HF.out, HN.out]; rfl, HB.out.trans (hb2.mono HB.out.size)⟩
          · have HN := hide (HE.out.trans (endL_step l p need h0 hkl hok))
            have har := tkAr_ok _ hok
            have HA : Hid (arityF l[p].1 l[p].2.1 l[p].2.2.data.toList = tkAr l[p]) := rfl
            unfold tkOk at hok
            go_wp2_with fail
            refine (s_tokOk _ _ _ hsz _).mono ?_
            rintro e w2 ⟨rfl, hb2⟩
            have HB2 := hide (HB.out.trans (hb2.mono HB.out.size))
            have R2 := hide (R.out.below hb2)
            obtain ⟨b2, o2, e2, _, d0, d1, d2⟩ := R2.out.tok p hkl
            obtain ⟨rfl, rfl⟩ : b = b2 ∧ o = o2 := by injection e2 with e2; injection e2 with e2 e3; exact ⟨e2, e3⟩
            clear hb2 c0 c1 c2 e2
            go_wp2_with fail
            refine (s_arity _ _ _ hsz _).mono ?_
            rintro e w3 ⟨rfl, hb3⟩
            rw [HA.out]
            have HB3 := hide (HB2.out.trans (hb3.mono HB2.out.size))
            clear hb3
            generalize tkAr l[p] = ar at *
            go_wp2
            go_roundw
            case rel => exact ⟨p + 1, need - 1 + ar.toNat, by go_num, by go_num, by omega, by omega, HN.out, HB3.out⟩
            case measure => simp [intOf]; omega
        · have HN := hide (HE.out.trans (endL_out l p need h0 (by rw [HL.out]; omega)))
          go_wp2
          go_ret
          exact ⟨by rw [HF.out, HN.out]; rfl, HB.out⟩
      · have HN : Hid (endL l p0 1 = p) := by
          show _ = _
          rw [HE.out, show need = 0 by omega, endL_zero]
        go_wp2
        go_ret
        exact ⟨by rw [HF.out, HN.out]; rfl, HB.out⟩
  · have HF : Hid (exprEndF l at0 = -1) := by show _ = _; unfold exprEndF; rw [if_neg (by rw [HL.out]; exact ha)]
    by_cases h0 : at0 < 0
    · clear ha
      go_enter Try.func87, Try.ntmps87
      go_wp2_with fail
      go_ret
      exact ⟨by rw [HF.out]; rfl, Below.refl _ _⟩
    · have h1 : (n : Int) ≤ at0 := by omega
      clear ha
      go_enter Try.func87, Try.ntmps87
      go_wp2_with fail
      go_loopw [1, 5] (fun a m wr => a = .int .i64 at0 ∧ m = .int .i64 1 ∧ wr = w) (fun a _ _ => 0)
      case atStart => exact ⟨rfl, rfl, rfl⟩
      case round =>
        obtain ⟨rfl, rfl, rfl⟩ := hrel
        go_wp2_with fail
        go_ret
        exact ⟨by rw [HF.out]; rfl, Below.refl _ _⟩
def exprOkF (l : List Tk) : Bool := decide (l.length ≤ 20) && decide (0 < l.length) && decide (exprEndF l 0 = l.length)
set_option maxHeartbeats 400000 in
theorem i_exprOk (A : Option Addr) (n c : Nat) (l : List Tk) (w : World) (hn : n ≤ 1048576) (hl : l.length = n) (h : InRow w A n 3 (tokCells l)) (hs : ∀ t ∈ l, t.2.2.size ≤ maxLen) :
    Calls Try.prog 60 #[.slice A n c] w fun e w' => e = .returned (.bool (exprOkF l)) ∧ Below w.heap.size w w' := by
  by_cases h1 : n ≤ 20
  · by_cases h2 : 0 < n
    · have HF : Hid (exprOkF l = (exprEndF l 0 == (n : Int))) := by
        show _ = _
        unfold exprOkF
        rw [hl, decide_eq_true h1, decide_eq_true h2]
        exact (Bool.true_and _).trans ((Bool.true_and _).trans rfl)
      have h3 : (n : Int) ≤ 20 := by omega
      clear h1
      go_enter Try.func60, Try.ntmps60
      go_wp2_with fail
      refine (i_exprEnd A n c l 0 _ hn hl h hs).mono ?_
      rintro e w1 ⟨rfl, hb1⟩
      go_wp2
      go_ret
      exact ⟨by rw [HF.out]; rfl, hb1⟩
    · have HF : Hid (exprOkF l = false) := by show _ = _; unfold exprOkF; rw [hl, decide_eq_false h2]; simp
      have h3 : n = 0 := by omega
      subst h3
      clear h1 h2 hs hl h
      go_enter Try.func60, Try.ntmps60
      go_wp2_with fail
      go_ret
      exact ⟨by rw [HF.out]; rfl, Below.refl _ _⟩
  · have HF : Hid (exprOkF l = false) := by show _ = _; unfold exprOkF; rw [hl, decide_eq_false h1]; rfl
    have h3 : ¬ (n : Int) ≤ 20 := by omega
    clear h1 hs hl h
    go_enter Try.func60, Try.ntmps60
    go_wp2_with fail
    go_ret
    exact ⟨by rw [HF.out]; rfl, Below.refl _ _⟩
set_option maxHeartbeats 400000 in
theorem s_exprOk (A : Option Addr) (n c : Nat) (l : List Tk) (w : World) (hn : n ≤ 1048576) (hl : l.length = n) (h : InRow w A n 3 (tokCells l)) (hs : ∀ t ∈ l, t.2.2.size ≤ maxLen) :
    Calls Try.prog 66 #[.slice A n c] w fun e w' => e = .returned (.bool (exprOkF l)) ∧ Below w.heap.size w w' := by
  by_cases h2 : 0 < n
  · by_cases h1 : n ≤ 20
    · have HF : Hid (exprOkF l = (exprEndF l 0 == (n : Int))) := by
        show _ = _
        unfold exprOkF
        rw [hl, decide_eq_true h1, decide_eq_true h2]
        exact (Bool.true_and _).trans ((Bool.true_and _).trans rfl)
      have h3 : (n : Int) ≤ 20 := by omega
      clear h1
      go_enter Try.func66, Try.ntmps66
      go_wp2_with fail
      refine (s_exprEnd A n c l 0 _ hn hl h hs).mono ?_
      rintro e w1 ⟨rfl, hb1⟩
      go_wp2
      go_ret
      exact ⟨by rw [HF.out]; rfl, hb1⟩
    · have HF : Hid (exprOkF l = false) := by show _ = _; unfold exprOkF; rw [hl, decide_eq_false h1]; rfl
      have h3 : ¬ (n : Int) ≤ 20 := by omega
      clear h1 hs hl h
      go_enter Try.func66, Try.ntmps66
      go_wp2_with fail
      go_ret
      exact ⟨by rw [HF.out]; rfl, Below.refl _ _⟩
  · have HF : Hid (exprOkF l = false) := by show _ = _; unfold exprOkF; rw [hl, decide_eq_false h2]; simp
    have h3 : n = 0 := by omega
    subst h3
    clear h2 hs hl h
    go_enter Try.func66, Try.ntmps66
    go_wp2_with fail
    go_ret
    exact ⟨by rw [HF.out]; rfl, Below.refl _ _⟩
end Go.Proofs.Ytcfjbaanahgpoaa
