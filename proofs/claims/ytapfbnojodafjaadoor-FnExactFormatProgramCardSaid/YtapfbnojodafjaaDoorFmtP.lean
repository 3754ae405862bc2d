import Derived.Test.YtapfbnojodafjaaDoorFmtL
import Derived.Test.YtapfbnojodafjaaDoorLinS
namespace Go.Proofs.YtapfbnojodafjaaDoor
open Go Go.RowKit
set_option maxRecDepth 100000
/-! The text of a program. -/
noncomputable def catL : List Ln → ByteArray → ByteArray
  | [], a => a
  | x :: L, a => catL L (a ++ (fmtLnF x ++ ⟨#[10]⟩))
theorem catL_append (L M : List Ln) : ∀ a, catL (L ++ M) a = catL M (catL L a) := by
  induction L with
  | nil => intro a; rfl
  | cons x L ih => intro a; exact ih _
theorem fmtLn_size (x : Ln) : (fmtLnF x).size ≤ 5288 := by
  obtain ⟨k, s, ar, ex⟩ := x
  unfold fmtLnF
  split
  · rename_i h
    obtain ⟨m, rfl, hm, hs8, ha4, ha8⟩ := lineOk_facts h
    have hl := lnHead_len m s
    have hwl : (lnWords (↑m, s, ar, ex)).length ≤ 8 := by
      unfold lnWords lnTail
      simp only [List.length_append, Int.toNat_natCast]
      split <;> simp <;> omega
    have hws : ∀ a ∈ lnWords (↑m, s, ar, ex), a.size ≤ 660 := by
      intro a ha
      unfold lnWords at ha
      rcases List.mem_append.1 ha with ha | ha
      · rcases List.mem_append.1 ha with ha | ha
        · exact Nat.le_trans (lnHead_size hs8 a ha) (by omega)
        · exact Nat.le_trans (ha8 a ha) (by omega)
      · unfold lnTail at ha
        split at ha
        · cases ha
        · rw [List.mem_singleton.1 ha]; exact fmtEx_size ex
    have := jb_size _ 660 hws
    omega
  · exact Nat.zero_le _
theorem catL_size (L : List Ln) : ∀ a : ByteArray, (catL L a).size ≤ a.size + 5289 * L.length := by
  induction L with
  | nil => intro a; simp [catL]
  | cons x L ih =>
    intro a
    have h := ih (a ++ (fmtLnF x ++ ⟨#[10]⟩))
    have h2 := fmtLn_size x
    have h3 : (⟨#[10]⟩ : ByteArray).size = 1 := rfl
    rw [ByteArray.size_append, ByteArray.size_append, h3] at h
    rw [catL, List.length_cons]
    omega
theorem catL_take (L : List Ln) (j : Nat) (h : j < L.length) : catL (L.take (j + 1)) ⟨#[]⟩ = catL (L.take j) ⟨#[]⟩ ++ (fmtLnF L[j] ++ ⟨#[10]⟩) := by
  rw [List.take_succ_eq_append_getElem h, catL_append]
  rfl
noncomputable def fmtPF (L : List Ln) : ByteArray := if L.length ≤ 60 ∧ L.all lineOkF = true then catL L ⟨#[]⟩ else ⟨#[]⟩
theorem fmtPF_long {L : List Ln} (h : 60 < L.length) : fmtPF L = ⟨#[]⟩ := if_neg (fun h' => by omega)
theorem fmtPF_bad {L : List Ln} {j : Nat} (hj : j < L.length) (h : lineOkF L[j] = false) : fmtPF L = ⟨#[]⟩ := if_neg (fun h' => by
  have := List.all_eq_true.1 h'.2 L[j] (List.getElem_mem hj)
  rw [h] at this
  cases this)
theorem fmtPF_good {L : List Ln} (h : L.length ≤ 60) (ha : ∀ i (hi : i < L.length), lineOkF L[i] = true) : fmtPF L = catL L ⟨#[]⟩ := if_pos ⟨h, List.all_eq_true.2 fun x hx => by
  obtain ⟨i, hi, rfl⟩ := List.mem_iff_getElem.1 hx
  exact ha i hi⟩
set_option maxHeartbeats 2000000 in
theorem i_formatProgram (A : Option Addr) (n c : Nat) (L : List Ln) (w : World) (hn : n + lnTot L ≤ 1048576) (h : InLines w A n L) (hs : ∀ x ∈ L, LnSz x) (hp : PowIs w) :
    Calls Tryd.prog 61 #[.slice A n c] w fun e w' => e = .returned (.string (fmtPF L)) ∧ Below w.heap.size w w' := by
  have H := hide h
  have HL := hide h.len
  have HS := hide hs
  have HP := hide hp
  clear h hs hp
  go_enter Tryd.func61, Tryd.ntmps61
  by_cases hlong : 60 < n
  · have HN : Hid (fmtPF L = ⟨#[]⟩) := fmtPF_long (by rw [HL.out]; exact hlong)
    go_wp2_with fail
    go_ret
    exact ⟨by rw [HN.out]; rfl, Below.refl _ _⟩
  go_wp2_with fail
  go_loopw [3, 11] (fun v i wr => ∃ k : Nat, k ≤ n ∧ i = .int .i64 k ∧ v = .string (catL (L.take k) ⟨#[]⟩) ∧ (∀ i, i < k → ∀ hi : i < L.length, lineOkF L[i] = true) ∧ Below w.heap.size w wr) (fun _ i _ => n - (intOf i).toNat)
  case atStart => exact ⟨0, Nat.zero_le _, rfl, rfl, fun i hi => absurd hi (Nat.not_lt_zero i), Below.refl _ _⟩
  case round =>
    obtain ⟨k, hk, rfl, rfl, hok, hb⟩ := hrel
    have HB := hide hb
    have HO := hide hok
    have R := hide (H.out.below hb)
    clear hb hok
    by_cases hlt : k < n
    · have hkl : k < L.length := by rw [HL.out]; exact hlt
      obtain ⟨b, o, A1, d1, A2, d2, rfl, hbl, c0, c1, c2, c3, hin⟩ := R.out.ln k hkl
      have hsz := HS.out _ (List.getElem_mem hkl)
      have htot := lnTot_mem L _ (List.getElem_mem hkl)
      have HIN := hide hin
      have HSZ := hide hsz
      have hcs := catL_size (L.take k) ⟨#[]⟩
      have h0 : (⟨#[]⟩ : ByteArray).size = 0 := rfl
      rw [h0, List.length_take] at hcs
      have hcs' : (catL (L.take k) ⟨#[]⟩).size ≤ 317340 := by omega
      have HX := hide (catL_take L k hkl)
      have hfs := fmtLn_size L[k]
      clear hin hsz hcs h0
      generalize hS : catL (L.take k) ⟨#[]⟩ = S at *
      generalize hx : L[k] = x at *
      obtain ⟨xk, xs, xa, xe⟩ := x
      simp only at c0 c1 c2 c3 htot
      have K0 := hide (Blk.new wr 63 #[.int .i64 xk, .string xs, .slice A1 xa.length d1, .slice A2 xe.length d2])
      have B0 := hide (HB.out.alloc HB.out.size (.cells #[.int .i64 xk, .string xs, .slice A1 xa.length d1, .slice A2 xe.length d2] 63))
      have I0 := hide (HIN.out.below ((Below.refl _ _).alloc (Nat.le_refl _) (.cells #[.int .i64 xk, .string xs, .slice A1 xa.length d1, .slice A2 xe.length d2] 63)))
      cases hq : lineOkF (xk, xs, xa, xe)
      · have HN : Hid (fmtPF L = ⟨#[]⟩) := fmtPF_bad hkl (by rw [hx]; exact hq)
        clear hS hx
        go_wp2_with fail
        refine (i_lineOk (xk, xs, xa, xe) A1 A2 d1 d2 _ (by simp only; omega) I0.out HSZ.out).mono ?_
        rintro e w1 ⟨rfl, hb1⟩
        rw [hq]
        go_wp2_with fail
        go_ret
        exact ⟨by rw [HN.out]; rfl, B0.out.trans (hb1.mono B0.out.size)⟩
      · have HN : Hid (∀ i, i < k + 1 → ∀ hi : i < L.length, lineOkF L[i] = true) := by
          intro i hi hil
          rcases Nat.lt_succ_iff_lt_or_eq.1 hi with h | h
          · exact HO.out i h hil
          · subst h; rw [hx]; exact hq
        clear hS hx
        go_wp2_with fail
        refine (i_lineOk (xk, xs, xa, xe) A1 A2 d1 d2 _ (by simp only; omega) I0.out HSZ.out).mono ?_
        rintro e w1 ⟨rfl, hb1⟩
        rw [hq]
        have K1 := hide (K0.out.below hb1 (by simp))
        have B1 := hide (B0.out.trans (hb1.mono B0.out.size))
        have I1 := hide (I0.out.below hb1)
        clear hb1 K0 B0 I0 c0 c1 c2 c3
        have c0 := K1.out.cell 0
        have c1 := K1.out.cell 1
        have c2 := K1.out.cell 2
        have c3 := K1.out.cell 3
        simp at c0 c1 c2 c3
        go_wp2_with fail
        refine (i_formatLine (xk, xs, xa, xe) A1 A2 d1 d2 _ (by simp only; omega) I1.out HSZ.out (HP.out.below B1.out)).mono ?_
        rintro e w2 ⟨rfl, hb2⟩
        have B2 := hide (B1.out.trans (hb2.mono B1.out.size))
        clear hb2 c0 c1 c2 c3
        generalize fmtLnF (xk, xs, xa, xe) = t at *
        have ht1 : (t ++ ⟨#[10]⟩ : ByteArray).size = t.size + 1 := by rw [ByteArray.size_append]; rfl
        go_wp2_with fail
        go_roundw
        case rel => exact ⟨k + 1, by omega, by go_num, by rw [HX.out], HN.out, B2.out⟩
        case measure => simp [intOf]; omega
    · have hkn : k = n := by omega
      have HN : Hid (fmtPF L = catL (L.take k) ⟨#[]⟩) := by
        show _ = _
        rw [List.take_of_length_le (by rw [HL.out]; omega)]
        exact fmtPF_good (by rw [HL.out]; omega) (fun i hi => HO.out i (by rw [HL.out] at hi; omega) hi)
      generalize catL (L.take k) ⟨#[]⟩ = S at *
      go_wp2_with fail
      go_ret
      exact ⟨by rw [HN.out]; rfl, HB.out⟩
set_option maxHeartbeats 2000000 in
theorem s_formatProgram (A : Option Addr) (n c : Nat) (L : List Ln) (w : World) (hn : n + lnTot L ≤ 1048576) (h : InLines w A n L) (hs : ∀ x ∈ L, LnSz x) (hp : PowIs w) :
    Calls Tryd.prog 59 #[.slice A n c] w fun e w' => e = .returned (.string (fmtPF L)) ∧ Below w.heap.size w w' := by
  have H := hide h
  have HL := hide h.len
  have HS := hide hs
  have HP := hide hp
  clear h hs hp
  go_enter Tryd.func59, Tryd.ntmps59
  go_wp2_with fail
  go_loopw [3, 4] (fun v i wr => ∃ k : Nat, k ≤ n ∧ (0 < k → n ≤ 60) ∧ i = .int .i64 k ∧ v = .string (catL (L.take k) ⟨#[]⟩) ∧ (∀ i, i < k → ∀ hi : i < L.length, lineOkF L[i] = true) ∧ Below w.heap.size w wr) (fun _ i _ => n - (intOf i).toNat)
  case atStart => exact ⟨0, Nat.zero_le _, fun h => absurd h (Nat.lt_irrefl 0), rfl, rfl, fun i hi => absurd hi (Nat.not_lt_zero i), Below.refl _ _⟩
  case round =>
    obtain ⟨k, hk, h60, rfl, rfl, hok, hb⟩ := hrel
    have HB := hide hb
    have HO := hide hok
    have R := hide (H.out.below hb)
    clear hb hok
    by_cases hlt : k < n
    · by_cases hlong : 60 < n
      · have HN : Hid (fmtPF L = ⟨#[]⟩) := fmtPF_long (by rw [HL.out]; exact hlong)
        clear h60
        generalize catL (L.take k) ⟨#[]⟩ = S at *
        go_wp2_with fail
        go_ret
        exact ⟨by rw [HN.out]; rfl, HB.out⟩
      have hkl : k < L.length := by rw [HL.out]; exact hlt
      obtain ⟨b, o, A1, d1, A2, d2, rfl, hbl, c0, c1, c2, c3, hin⟩ := R.out.ln k hkl
      have hsz := HS.out _ (List.getElem_mem hkl)
      have htot := lnTot_mem L _ (List.getElem_mem hkl)
      have HIN := hide hin
      have HSZ := hide hsz
      have hcs := catL_size (L.take k) ⟨#[]⟩
      have h0 : (⟨#[]⟩ : ByteArray).size = 0 := rfl
      rw [h0, List.length_take] at hcs
      have hcs' : (catL (L.take k) ⟨#[]⟩).size ≤ 317340 := by omega
      have HX := hide (catL_take L k hkl)
      have hfs := fmtLn_size L[k]
      clear hin hsz hcs h0
      generalize hS : catL (L.take k) ⟨#[]⟩ = S at *
      generalize hx : L[k] = x at *
      obtain ⟨xk, xs, xa, xe⟩ := x
      simp only at c0 c1 c2 c3 htot
      cases hq : lineOkF (xk, xs, xa, xe)
      · have HN : Hid (fmtPF L = ⟨#[]⟩) := fmtPF_bad hkl (by rw [hx]; exact hq)
        clear hS hx
        go_wp2_with fail
        refine (s_lineOk (xk, xs, xa, xe) A1 A2 d1 d2 _ (by simp only; omega) HIN.out HSZ.out).mono ?_
        rintro e w1 ⟨rfl, hb1⟩
        rw [hq]
        go_wp2_with fail
        go_ret
        exact ⟨by rw [HN.out]; rfl, HB.out.trans (hb1.mono HB.out.size)⟩
      · have HN : Hid (∀ i, i < k + 1 → ∀ hi : i < L.length, lineOkF L[i] = true) := by
          intro i hi hil
          rcases Nat.lt_succ_iff_lt_or_eq.1 hi with h | h
          · exact HO.out i h hil
          · subst h; rw [hx]; exact hq
        go_wp2_with fail
        refine (s_lineOk (xk, xs, xa, xe) A1 A2 d1 d2 _ (by simp only; omega) HIN.out HSZ.out).mono ?_
        rintro e w1 ⟨rfl, hb1⟩
        rw [hq]
        have B1 := hide (HB.out.trans (hb1.mono HB.out.size))
        have R1 := hide (R.out.below hb1)
        clear hb1 c0 c1 c2 c3
        obtain ⟨b', o', A1', d1', A2', d2', he, hbl', c0, c1, c2, c3, hin⟩ := R1.out.ln k hkl
        cases he
        simp only [hx] at c0 c1 c2 c3 hin
        have I1 := hide hin
        clear hS hx hin
        go_wp2_with fail
        refine (s_formatLine (xk, xs, xa, xe) A1' A2' d1' d2' _ (by simp only; omega) I1.out HSZ.out (HP.out.below B1.out)).mono ?_
        rintro e w2 ⟨rfl, hb2⟩
        have B2 := hide (B1.out.trans (hb2.mono B1.out.size))
        have HY : Hid ((S ++ fmtLnF (xk, xs, xa, xe)) ++ ⟨#[10]⟩ = catL (L.take (k + 1)) ⟨#[]⟩) := by
          show _ = _
          rw [HX.out, ByteArray.append_assoc]
        clear hb2 c0 c1 c2 c3 HX
        generalize fmtLnF (xk, xs, xa, xe) = t at *
        have ht1 : (S ++ t : ByteArray).size = S.size + t.size := ByteArray.size_append
        go_wp2_with fail
        go_roundw
        case rel => exact ⟨k + 1, by omega, fun _ => by omega, by go_num, by rw [HY.out], HN.out, B2.out⟩
        case measure => simp [intOf]; omega
    · have hkn : k = n := by omega
      have hn60 : n ≤ 60 := by
        rcases Nat.eq_zero_or_pos k with h | h
        · omega
        · exact h60 h
      have HN : Hid (fmtPF L = catL (L.take k) ⟨#[]⟩) := by
        show _ = _
        rw [List.take_of_length_le (by rw [HL.out]; omega)]
        exact fmtPF_good (by rw [HL.out]; omega) (fun i hi => HO.out i (by rw [HL.out] at hi; omega) hi)
      clear h60
      generalize catL (L.take k) ⟨#[]⟩ = S at *
      go_wp2_with fail
      go_ret
      exact ⟨by rw [HN.out]; rfl, HB.out⟩
end Go.Proofs.YtapfbnojodafjaaDoor
