import Derived.Test.YthhlimbaoenkkaaLin3
import Derived.Test.YthhlimbaoenkkaaLinS
namespace Go.Proofs.Ythhlimbaoenkkaa
open Go.RowKit
set_option maxRecDepth 100000
set_option linter.unusedVariables false
set_option maxHeartbeats 2000000 in
theorem l_heldLineS (A : Option Addr) (n c lo hi : Nat) (L : List Ln) (k0 : Int) (w : World) (hL : L.length = n) (hn : n + lnTot L ≤ 100000000000) (hk0 : 0 ≤ k0 ∧ k0 ≤ 100000000000) (h : OwnLines w lo hi A (mkLns k0 L)) :
    Calls Try.prog 62 #[.slice A n c, .int .i64 k0] w fun e w' => e = .returned (.int .i64 (k0 + (lnsCnt L : Int))) ∧ Below w.heap.size w w' := by
  obtain ⟨P, hPL, hO⟩ := h
  have hPl : P.length = n := by have := congrArg List.length hPL; rw [List.length_map, mkLns_length] at this; omega
  have O := hide hO
  have HPL := hide hPL
  have HLn := hide hL
  clear hO hPL hL
  go_enter Try.func62, Try.ntmps62
  go_wp2
  go_loopw [1, 5] (fun m i wr => ∃ (k : Nat) (q : Int), k ≤ n ∧ i = .int .i64 k ∧ m = .int .i64 q ∧ q = k0 + (lnsCnt (L.take k) : Int) ∧ Below w.heap.size w wr) (fun _ i _ => n - (intOf i).toNat)
  case atStart => exact ⟨0, k0, Nat.zero_le _, rfl, rfl, by simp [lnsCnt], Below.refl _ _⟩
  case round =>
    obtain ⟨k, q, hk, rfl, rfl, hq, hb⟩ := hrel
    have HQ := hide hq
    have HB := hide hb
    have R := hide (O.out.belowZ hb)
    clear hq hb
    by_cases hlt : k < n
    · have hkl : k < L.length := by rw [HLn.out]; exact hlt
      have hkp : k < P.length := by omega
      have hq0 : 0 ≤ q ∧ q ≤ 600000000000 := by
        have := HQ.out
        have h2 := lnsCnt_take_le L k
        have h3 := lnsCnt_le L
        have h4 := HLn.out
        omega
      have hb1 : L[k].2.2.1.length ≤ 100000000000 ∧ L[k].2.2.2.length ≤ 100000000000 := by
        have := lnTot_mem L L[k] (List.getElem_mem hkl)
        omega
      have hPk : P[k].1 = mkLn q L[k] := by
        have h1 : (P.map Prod.fst)[k]'(by simpa using hkp) = P[k].1 := by simp
        rw [← h1]
        have h2 := mkLns_at L k0 k hkl
        rw [← HQ.out] at h2
        rw [← h2]
        congr 1 <;> exact HPL.out
      have HQ2 : Hid (q + 1 + 1 + (L[k].2.2.1.length : Int) + ((L[k].2.2.2.length * 3 : Nat) : Int) = k0 + (lnsCnt (L.take (k + 1)) : Int)) := by
        show _ = _
        rw [List.take_succ_eq_append_getElem hkl, lnsCnt_snoc, HQ.out]
        unfold lnCnt; push_cast; omega
      obtain ⟨p, hp⟩ : ∃ p, P[k] = p := ⟨_, rfl⟩
      obtain ⟨x, A1, d1, A2, d2⟩ := p
      have hx : x = mkLn q L[k] := by rw [← hPk, hp]
      have HR1 : Hid (∀ w', Below wr.heap.size wr w' → Arr w' lo hi A1 L[k].2.2.1.length 1 (markStrs (q + 1 + 1) L[k].2.2.1.length)) := fun w' hb => by
        have := ((R.out.belowZ hb).1.rows (A1, x.2.2.1.length, 1, strCells x.2.2.1) (List.mem_cons_of_mem _ (List.mem_flatMap.2 ⟨P[k], List.getElem_mem hkp, by rw [hp]; simp [lnRows]⟩)))
        rw [hx] at this
        unfold mkLn at this
        simp only [mkStrL_length, ← markStrs_cells] at this
        rw [show q + 1 + 1 = q + 2 by omega]; exact this
      have HR2 : Hid (∀ w', Below wr.heap.size wr w' → Arr w' lo hi A2 L[k].2.2.2.length 3 (markToks (q + 1 + 1 + L[k].2.2.1.length) L[k].2.2.2.length)) := fun w' hb => by
        have := ((R.out.belowZ hb).1.rows (A2, x.2.2.2.length, 3, tokCells x.2.2.2) (List.mem_cons_of_mem _ (List.mem_flatMap.2 ⟨P[k], List.getElem_mem hkp, by rw [hp]; simp [lnRows]⟩)))
        rw [hx] at this
        unfold mkLn at this
        simp only [mkTokL_length, ← markToks_cells] at this
        rw [show q + 1 + 1 = q + 2 by omega]; exact this
      obtain ⟨g, hA, g1, g2, g3, hc⟩ := (R.out.1.rows _ List.mem_cons_self).2 (by simp only; omega)
      simp only at hA hc
      subst hA
      have hce : ∀ j, j < 4 → wr.cell? ⟨g, k * 4 + j, none⟩ = (lnC (mkLn q L[k], A1, d1, A2, d2))[j]? := fun j hj => by
        rw [(hc (k * 4 + j) (by omega)).1, flat_at lnC 4 (fun _ => rfl) P k j hkp hj, hp, hx]
      have c0 : wr.cell? ⟨g, k * 4, none⟩ = some (.int .i64 q) := hce 0 (by omega)
      have c1 : wr.cell? ⟨g, k * 4 + 1, none⟩ = some (.string (markT (q + 1))) := hce 1 (by omega)
      have c2 : wr.cell? ⟨g, k * 4 + 2, none⟩ = some (.slice A1 L[k].2.2.1.length d1) := (hce 2 (by omega)).trans (by simp [lnC, mkLn, mkStrL_length])
      have c3 : wr.cell? ⟨g, k * 4 + 3, none⟩ = some (.slice A2 L[k].2.2.2.length d2) := (hce 3 (by omega)).trans (by simp [lnC, mkLn, mkTokL_length])
      have gl : g < wr.heap.size := by omega
      have hsz := HB.out.size
      clear hce hc hx hp hPk
      generalize L[k].2.2.1.length = n1 at *
      generalize L[k].2.2.2.length = n2 at *
      have hng1 : ¬ (q + 1 + 1 + (n1 : Int) < 0) := by omega
      have hng2 : ¬ (q + 1 + 1 + (n1 : Int) + ((n2 * 3 : Nat) : Int) < 0) := by omega
      go_wp2_with fail
      go_region_with (go_at_call 78; refine (l_markText _ (by omega) _).mono ?_; rintro e w2 ⟨rfl, hb2⟩; have e1 := (hb2.cell (p := ⟨g, k * 4 + 1, none⟩) gl).trans c1; have e2 := (hb2.cell (p := ⟨g, k * 4 + 2, none⟩) gl).trans c2; have e3 := (hb2.cell (p := ⟨g, k * 4 + 3, none⟩) gl).trans c3)
      all_goals
        have HW2 : Hid (Below wr.heap.size wr w2) := by first | exact (Below.refl _ _).drew.trans hb2 | exact hb2
        have HB2 := hide (HB.out.trans (HW2.out.mono hsz))
        clear hb2
        go_wp2_with fail
        refine (l_heldStringS A1 n1 d1 lo hi (q + 1 + 1) _ (by omega) (by omega) (HR1.out _ (by first | exact HW2.out | exact HW2.out.drew))).mono ?_
        rintro e w3 ⟨rfl, hb3⟩
        have HW3 : Hid (Below wr.heap.size wr w3) := by first | exact HW2.out.trans (hb3.mono HW2.out.size) | exact HW2.out.drew.trans (hb3.mono HW2.out.size)
        have f3 : w3.cell? ⟨g, k * 4 + 3, none⟩ = some (.slice A2 n2 d2) := (HW3.out.cell (p := ⟨g, k * 4 + 3, none⟩) gl).trans c3
        clear hb3
        go_wp2_with fail
        refine (l_heldTokS A2 n2 d2 lo hi (q + 1 + 1 + n1) _ (by omega) (by omega) (HR2.out _ HW3.out)).mono ?_
        rintro e w4 ⟨rfl, hb4⟩
        have HB4 := hide (HB.out.trans ((HW3.out.trans (hb4.mono HW3.out.size)).mono hsz))
        clear hb4
        go_wp2_with fail
        go_roundw
        case rel => exact ⟨k + 1, _, by omega, by go_num, rfl, HQ2.out, HB4.out⟩
        case measure => simp [intOf]; omega
    · have HK : Hid (q = k0 + (lnsCnt L : Int)) := by
        show _ = _
        rw [HQ.out, List.take_of_length_le (by rw [HLn.out]; omega)]
      go_wp2
      go_ret
      exact ⟨by rw [HK.out]; rfl, HB.out⟩
end Go.Proofs.Ythhlimbaoenkkaa
