import Derived.Test.YtcfjbaanahgpoaaStrX
import Derived.Test.YtcfjbaanahgpoaaLnOkX
import Derived.Test.YtcfjbaanahgpoaaLinSX
import Derived.Test.YtcfjbaanahgpoaaApp
namespace Go.Proofs.Ytcfjbaanahgpoaa
open Go Go.RowKit
set_option maxRecDepth 100000
/-! The locals of a function: its arguments, then every variable that is set first inside it. -/
noncomputable def locStep (acc : List ByteArray) (x : Ln) : List ByteArray := if x.1 = 1 ∧ idxF acc x.2.1 < 0 then acc ++ [x.2.1] else acc
noncomputable def locFold (M : List Ln) (acc : List ByteArray) : List ByteArray := M.foldl locStep acc
noncomputable def locF (L : List Ln) (k : Int) : List ByteArray :=
  if 0 ≤ endOfF L k ∧ (lnAtD L k.toNat).1 = 0 then locFold ((L.drop k.toNat).take ((endOfF L k).toNat - k.toNat)) (lnAtD L k.toNat).2.2.1 else []
theorem locFold_length (M : List Ln) : ∀ acc, (locFold M acc).length ≤ acc.length + M.length := by
  induction M with
  | nil => intro acc; exact Nat.le_refl _
  | cons x M ih =>
    intro acc
    have := ih (locStep acc x)
    have h2 : (locStep acc x).length ≤ acc.length + 1 := by unfold locStep; split <;> simp
    show (locFold M (locStep acc x)).length ≤ _
    rw [List.length_cons]
    omega
theorem locF_length (L : List Ln) (k : Int) (T : Nat) (hT : ∀ x ∈ L, x.2.2.1.length ≤ T) : (locF L k).length ≤ L.length + T := by
  unfold locF
  split
  · rename_i h
    have h1 := locFold_length ((L.drop k.toNat).take ((endOfF L k).toNat - k.toNat)) (lnAtD L k.toNat).2.2.1
    have h2 : ((L.drop k.toNat).take ((endOfF L k).toNat - k.toNat)).length ≤ L.length := by rw [List.length_take, List.length_drop]; omega
    have h3 : (lnAtD L k.toNat).2.2.1.length ≤ T := by
      obtain ⟨p, rfl, hp, _⟩ := endOf_pos L k h.1
      rw [Int.toNat_natCast, lnAtD_of L p hp]
      exact hT _ (List.getElem_mem hp)
    omega
  · exact Nat.zero_le _
theorem locF_size (L : List Ln) (k : Int) (T : Nat) (h1 : ∀ x ∈ L, x.2.1.size ≤ T) (h2 : ∀ x ∈ L, ∀ s ∈ x.2.2.1, s.size ≤ T) : ∀ s ∈ locF L k, s.size ≤ T := by
  have key : ∀ (M : List Ln), (∀ x ∈ M, x.2.1.size ≤ T) → ∀ acc : List ByteArray, (∀ s ∈ acc, s.size ≤ T) → ∀ s ∈ locFold M acc, s.size ≤ T := by
    intro M
    induction M with
    | nil => intro _ acc h; exact h
    | cons x M ih =>
      intro hM acc h
      refine ih (fun y hy => hM y (List.mem_cons_of_mem _ hy)) _ ?_
      intro s hs
      unfold locStep at hs
      split at hs
      · rcases List.mem_append.1 hs with hs | hs
        · exact h s hs
        · rw [List.mem_singleton.1 hs]; exact hM x List.mem_cons_self
      · exact h s hs
  unfold locF
  split
  · rename_i h
    obtain ⟨p, rfl, hp, _⟩ := endOf_pos L k h.1
    rw [Int.toNat_natCast, lnAtD_of L p hp]
    exact key _ (fun x hx => h1 x (List.mem_of_mem_drop (List.mem_of_mem_take hx))) _ (h2 _ (List.getElem_mem hp))
  · intro s hs; cases hs
theorem loc_step (L : List Ln) (acc : List ByteArray) (i e : Nat) (hi : i < L.length) (he : i < e) :
    locFold ((L.drop i).take (e - i)) acc = locFold ((L.drop (i + 1)).take (e - (i + 1))) (locStep acc L[i]) := by
  rw [List.drop_eq_getElem_cons hi, show e - i = (e - (i + 1)) + 1 by omega, List.take_succ_cons]
  rfl
set_option maxHeartbeats 2000000 in
theorem i_localsOf (A : Option Addr) (n c : Nat) (L : List Ln) (k0 : Int) (w : World) (hn : n + lnTot L ≤ 1048576) (h : InLines w A n L) :
    Calls Try.prog 16 #[.slice A n c, .int .i64 k0] w fun e w' => (∃ v, e = .returned v ∧ w'.ownsRow w.heap.size 9 1 v (locF L k0).length (strCells (locF L k0))) ∧ Below w.heap.size w w' := by
  obtain ⟨i0, hi, hz0, hz1, hz2⟩ := info_parts Try.infoStr
  have H := hide h
  have HL := hide h.len
  have HI := hide hi
  clear h hi
  by_cases hneg : endOfF L k0 < 0
  · have HF : Hid (locF L k0 = []) := by show _ = _; unfold locF; rw [if_neg (fun h => by omega)]
    go_enter Try.func16, Try.ntmps16
    go_wp2_with fail
    refine (i_endOf A n c L k0 _ (by omega) H.out).mono ?_
    rintro e w' ⟨rfl, rfl⟩
    go_wp2
    go_ret
    exact ⟨⟨_, rfl, by rw [HF.out]; exact World.ownsRow_nil _ _ _ _⟩, Below.refl _ _⟩
  · obtain ⟨p, rfl, hpl, hop, hpe, hel, _⟩ := endOf_pos L k0 (by omega)
    obtain ⟨ee, he⟩ := Int.eq_ofNat_of_zero_le (show 0 ≤ endOfF L (p : Int) by omega)
    have HE := hide he
    rw [he] at hpe hel
    have HLn := HL.out
    have hen : ee < n := by omega
    have hpe' : p < ee := by omega
    have hpn : p < n := by omega
    clear he hneg hop HLn hpe hel
    obtain ⟨b, o, A1, c1, A2, c2, rfl, hbl, c0, c1', c2', c3', hin⟩ := H.out.ln p hpl
    have htot := lnTot_mem L _ (List.getElem_mem hpl)
    by_cases h0 : L[p].1 = 0
    · have HF : Hid (locF L (p : Int) = locFold ((L.drop p).take (ee - p)) L[p].2.2.1) := by
        show _ = _; unfold locF; rw [HE.out, Int.toNat_natCast, lnAtD_of L p hpl, if_pos ⟨by omega, h0⟩]; rfl
      have z0 : (L[p].1 != 0) = false := by simp [h0]
      have HIN := hide hin.1
      clear h0 hin
      go_enter Try.func16, Try.ntmps16
      go_wp2_with fail
      refine (i_endOf _ n c L p _ (by omega) H.out).mono ?_
      rintro e w' ⟨rfl, rfl⟩
      rw [HE.out]
      have O0 := hide (World.ownsRow_lit w #[] 0 (size := 1) (e := 9) (Nat.le_refl _) (Nat.zero_le _) rfl)
      have B0 := hide ((Below.refl w.heap.size w).alloc (Nat.le_refl _) (.cells #[] 9))
      have R0 := hide (HIN.out.below B0.out)
      go_wp2_with (first | (at_builtin; refine wpList_apps _ rfl (.tmp 21) (.tmp 26) _ rfl w.heap.size 9 i0 _ 1 16 Try.underlying31 HI.out hz0 hz1 hz2 rfl (by decide) _ _ _ rfl O0.out A1 _ c1 (strCells L[p].2.2.1) rfl R0.out ?d1 ?d2 ?d3 ?d4 ?_) | fail)
      case d1 => intro u hu; obtain ⟨b, _, rfl⟩ := List.mem_map.1 hu; rfl
      case d2 => omega
      try case d3 => decide
      case d4 => simp
      intro v5 w5 hown5 hb5 _ _
      have O5 := hide hown5
      have B5 := hide (B0.out.trans hb5)
      clear hown5 hb5 c0 c1' c2' c3' O0 B0 R0 HIN
      go_wp2_with fail
      go_loopw [6, 7] (fun v i wr => ∃ (k : Nat) (acc : List ByteArray), p ≤ k ∧ k ≤ ee ∧ i = .int .i64 k ∧ acc.length + ee ≤ L[p].2.2.1.length + k + ee ∧ locF L (p : Int) = locFold ((L.drop k).take (ee - k)) acc ∧ wr.ownsRow w.heap.size 9 1 v acc.length (strCells acc) ∧ Below w.heap.size w wr) (fun _ i _ => ee - (intOf i).toNat)
      case atStart => exact ⟨p, _, Nat.le_refl _, by omega, rfl, by omega, HF.out, by have := O5.out; simpa using this, B5.out⟩
      case round =>
        obtain ⟨k, acc, hpk, hk, rfl, hacc, ho, hown, hb⟩ := hrel
        have HO := hide hown
        have HB := hide hb
        have HX := hide ho
        have R := hide (H.out.below hb)
        obtain ⟨Av, cv, hv, hncv, hav⟩ := Arr.of_own hown
        subst hv
        have HA := hide (InRow.of_arr hav)
        clear hown hb ho hav hncv
        by_cases hlt : k < ee
        · have hkl : k < L.length := by rw [HL.out]; omega
          obtain ⟨b', o', A1', d1, A2', d2, he, hbl', e0, e1, e2, e3, _⟩ := R.out.ln k hkl
          cases he
          have HS := hide (loc_step L acc k ee hkl hlt)
          by_cases h1 : L[k].1 = 1
          · by_cases hm : L[k].2.1 ∈ acc
            · have HN : Hid (locF L (p : Int) = locFold ((L.drop (k + 1)).take (ee - (k + 1))) acc) := by
                show _ = _
                rw [HX.out, HS.out]
                unfold locStep
                rw [if_neg (fun h => by have := (idxF_mem acc L[k].2.1).2 hm; omega)]
              have z1 : (L[k].1 == 1) = true := by simp [h1]
              have hy := yes_of hm
              clear h1 hm
              go_wp2_with fail
              refine (i_contains _ _ cv acc L[k].2.1 _ (by omega) HA.out).mono ?_
              rintro e w' ⟨rfl, rfl⟩
              rw [hy]
              go_wp2_with fail
              go_roundw
              case rel => exact ⟨k + 1, acc, by omega, by omega, by go_num, by omega, HN.out, HO.out, HB.out⟩
              case measure => simp [intOf]; omega
            · have HN : Hid (locF L (p : Int) = locFold ((L.drop (k + 1)).take (ee - (k + 1))) (acc ++ [L[k].2.1])) := by
                show _ = _
                rw [HX.out, HS.out]
                unfold locStep
                rw [if_pos ⟨h1, by have hq := mt (idxF_mem acc L[k].2.1).1 hm; omega⟩]
              have z1 : (L[k].1 == 1) = true := by simp [h1]
              have hy := yes_not hm
              have hsn := hide (strCells_snoc acc L[k].2.1)
              clear h1 hm
              go_wp2_with fail
              refine (i_contains _ _ cv acc L[k].2.1 _ (by omega) HA.out).mono ?_
              rintro e w' ⟨rfl, rfl⟩
              rw [hy]
              go_wp2_with (first | (at_builtin; refine wpList_app _ rfl (.tmp 50) (.tmp 56) _ rfl w.heap.size 9 i0 _ 1 16 Try.underlying31 HI.out hz0 hz1 hz2 rfl (by decide) _ _ _ rfl HO.out 1 [.string L[k].2.1] rfl ?c1 ?c2 ?c3 ?c4 ?c5 ?_) | fail)
              try case c1 => rfl
              try case c2 => first | rfl | (intro u hu; obtain rfl := List.mem_singleton.1 hu; rfl)
              try case c3 => omega
              try case c4 => decide
              try case c5 => exact HB.out.size
              intro v' w3 hown3 hb3 _ _
              rw [← hsn.out] at hown3
              have HO3 := hide hown3
              have HB3 := hide (HB.out.trans hb3)
              clear hown3 hb3
              go_wp2_with fail
              go_roundw
              case rel => exact ⟨k + 1, _, by omega, by omega, by go_num, by simp; omega, HN.out, by simpa using HO3.out, HB3.out⟩
              case measure => simp [intOf]; omega
          · have HN : Hid (locF L (p : Int) = locFold ((L.drop (k + 1)).take (ee - (k + 1))) acc) := by
              show _ = _
              rw [HX.out, HS.out]
              unfold locStep
              rw [if_neg (fun h => h1 h.1)]
            have z1 : (L[k].1 == 1) = false := by simp [h1]
            clear h1
            go_wp2_with fail
            go_roundw
            case rel => exact ⟨k + 1, acc, by omega, by omega, by go_num, by omega, HN.out, HO.out, HB.out⟩
            case measure => simp [intOf]; omega
        · have hke : k = ee := by omega
          have HN : Hid (locF L (p : Int) = acc) := by
            show _ = _
            rw [HX.out, show ee - k = 0 by omega, List.take_zero]; rfl
          go_wp2_with fail
          go_ret
          exact ⟨⟨_, rfl, by rw [HN.out]; exact HO.out⟩, HB.out⟩
    · have HF : Hid (locF L (p : Int) = []) := by
        show _ = _; unfold locF; rw [if_neg (fun h => h0 (by have := h.2; rwa [Int.toNat_natCast, lnAtD_of L p hpl] at this))]
      have z0 : (L[p].1 != 0) = true := by simp [h0]
      clear h0 hin
      go_enter Try.func16, Try.ntmps16
      go_wp2_with fail
      refine (i_endOf _ n c L p _ (by omega) H.out).mono ?_
      rintro e w' ⟨rfl, rfl⟩
      rw [HE.out]
      go_wp2
      go_ret
      exact ⟨⟨_, rfl, by rw [HF.out]; exact World.ownsRow_nil _ _ _ _⟩, Below.refl _ _⟩
set_option maxHeartbeats 2000000 in
theorem s_localsOf (A : Option Addr) (n c : Nat) (L : List Ln) (k0 : Int) (w : World) (hn : n + lnTot L ≤ 1048576) (h : InLines w A n L) :
    Calls Try.prog 67 #[.slice A n c, .int .i64 k0] w fun e w' => (∃ v, e = .returned v ∧ w'.ownsRow w.heap.size 9 1 v (locF L k0).length (strCells (locF L k0))) ∧ Below w.heap.size w w' := by
  obtain ⟨i0, hi, hz0, hz1, hz2⟩ := info_parts Try.infoStr
  have H := hide h
  have HL := hide h.len
  have HI := hide hi
  clear h hi
  by_cases hneg : endOfF L k0 < 0
  · have HF : Hid (locF L k0 = []) := by show _ = _; unfold locF; rw [if_neg (fun h => by omega)]
    go_enter Try.func67, Try.ntmps67
    go_wp2_with fail
    refine (s_endOf A n c L k0 _ (by omega) H.out).mono ?_
    rintro e w' ⟨rfl, rfl⟩
    go_wp2
    go_ret
    exact ⟨⟨_, rfl, by rw [HF.out]; exact World.ownsRow_lit w #[] 0 (size := 1) (e := 9) (Nat.le_refl _) (Nat.zero_le _) rfl⟩, (Below.refl w.heap.size w).alloc (Nat.le_refl _) _⟩
  · obtain ⟨p, rfl, hpl, hop, hpe, hel, _⟩ := endOf_pos L k0 (by omega)
    obtain ⟨ee, he⟩ := Int.eq_ofNat_of_zero_le (show 0 ≤ endOfF L (p : Int) by omega)
    have HE := hide he
    rw [he] at hpe hel
    have HLn := HL.out
    have hen : ee < n := by omega
    have hpe' : p < ee := by omega
    have hpn : p < n := by omega
    clear he hneg hop HLn hpe hel
    obtain ⟨b, o, A1, c1, A2, c2, rfl, hbl, c0, c1', c2', c3', hin⟩ := H.out.ln p hpl
    have htot := lnTot_mem L _ (List.getElem_mem hpl)
    by_cases h0 : L[p].1 = 0
    · have HF : Hid (locF L (p : Int) = locFold ((L.drop p).take (ee - p)) L[p].2.2.1) := by
        show _ = _; unfold locF; rw [HE.out, Int.toNat_natCast, lnAtD_of L p hpl, if_pos ⟨by omega, h0⟩]; rfl
      have z0 : (L[p].1 != 0) = false := by simp [h0]
      have HIN := hide hin.1
      clear h0 hin
      go_enter Try.func67, Try.ntmps67
      go_wp2_with fail
      refine (s_endOf _ n c L p _ (by omega) H.out).mono ?_
      rintro e w' ⟨rfl, rfl⟩
      rw [HE.out]
      have O0 := hide (World.ownsRow_lit w #[] 0 (size := 1) (e := 9) (Nat.le_refl _) (Nat.zero_le _) rfl)
      have B0 := hide ((Below.refl w.heap.size w).alloc (Nat.le_refl _) (.cells #[] 9))
      have R0 := hide (HIN.out.below B0.out)
      go_wp2_with (first | (at_builtin; refine wpList_apps _ rfl (.tmp 22) (.tmp 27) _ rfl w.heap.size 9 i0 _ 1 16 Try.underlying31 HI.out hz0 hz1 hz2 rfl (by decide) _ _ _ rfl O0.out A1 _ c1 (strCells L[p].2.2.1) rfl R0.out ?d1 ?d2 ?d3 ?d4 ?_) | fail)
      case d1 => intro u hu; obtain ⟨b, _, rfl⟩ := List.mem_map.1 hu; rfl
      case d2 => omega
      try case d3 => decide
      case d4 => simp
      intro v5 w5 hown5 hb5 _ _
      have O5 := hide hown5
      have B5 := hide (B0.out.trans hb5)
      clear hown5 hb5 c0 c1' c2' c3' O0 B0 R0 HIN
      go_wp2_with fail
      go_loopw [6, 7] (fun v i wr => ∃ (k : Nat) (acc : List ByteArray), p ≤ k ∧ k ≤ ee ∧ i = .int .i64 k ∧ acc.length + ee ≤ L[p].2.2.1.length + k + ee ∧ locF L (p : Int) = locFold ((L.drop k).take (ee - k)) acc ∧ wr.ownsRow w.heap.size 9 1 v acc.length (strCells acc) ∧ Below w.heap.size w wr) (fun _ i _ => ee - (intOf i).toNat)
      case atStart => exact ⟨p, _, Nat.le_refl _, by omega, rfl, by omega, HF.out, by have := O5.out; simpa using this, B5.out⟩
      case round =>
        obtain ⟨k, acc, hpk, hk, rfl, hacc, ho, hown, hb⟩ := hrel
        have HO := hide hown
        have HB := hide hb
        have HX := hide ho
        have R := hide (H.out.below hb)
        obtain ⟨Av, cv, hv, hncv, hav⟩ := Arr.of_own hown
        subst hv
        have HA := hide (InRow.of_arr hav)
        clear hown hb ho hav hncv
        by_cases hlt : k < ee
        · have hkl : k < L.length := by rw [HL.out]; omega
          obtain ⟨b', o', A1', d1, A2', d2, he, hbl', e0, e1, e2, e3, _⟩ := R.out.ln k hkl
          cases he
          have HS := hide (loc_step L acc k ee hkl hlt)
          by_cases h1 : L[k].1 = 1
          · by_cases hm : L[k].2.1 ∈ acc
            · have HN : Hid (locF L (p : Int) = locFold ((L.drop (k + 1)).take (ee - (k + 1))) acc) := by
                show _ = _
                rw [HX.out, HS.out]
                unfold locStep
                rw [if_neg (fun h => by have := (idxF_mem acc L[k].2.1).2 hm; omega)]
              have z1 : (L[k].1 == 1) = true := by simp [h1]
              have hy := (idxF_mem acc L[k].2.1).2 hm
              clear h1 hm
              go_wp2_with fail
              refine (s_index _ _ cv acc L[k].2.1 _ (by omega) HA.out).mono ?_
              rintro e w' ⟨rfl, rfl⟩
              generalize idxF acc L[k].2.1 = q at *
              go_wp2_with fail
              go_roundw
              case rel => exact ⟨k + 1, acc, by omega, by omega, by go_num, by omega, HN.out, HO.out, HB.out⟩
              case measure => simp [intOf]; omega
            · have HN : Hid (locF L (p : Int) = locFold ((L.drop (k + 1)).take (ee - (k + 1))) (acc ++ [L[k].2.1])) := by
                show _ = _
                rw [HX.out, HS.out]
                unfold locStep
                rw [if_pos ⟨h1, by have hq := mt (idxF_mem acc L[k].2.1).1 hm; omega⟩]
              have z1 : (L[k].1 == 1) = true := by simp [h1]
              have hy : idxF acc L[k].2.1 < 0 := by have hq := mt (idxF_mem acc L[k].2.1).1 hm; omega
              have hsn := hide (strCells_snoc acc L[k].2.1)
              clear h1 hm
              go_wp2_with fail
              refine (s_index _ _ cv acc L[k].2.1 _ (by omega) HA.out).mono ?_
              rintro e w' ⟨rfl, rfl⟩
              generalize idxF acc L[k].2.1 = q at *
              go_wp2_with (first | (at_builtin; refine wpList_app _ rfl (.tmp 51) (.tmp 57) _ rfl w.heap.size 9 i0 _ 1 16 Try.underlying31 HI.out hz0 hz1 hz2 rfl (by decide) _ _ _ rfl HO.out 1 [.string L[k].2.1] rfl ?c1 ?c2 ?c3 ?c4 ?c5 ?_) | fail)
              try case c1 => rfl
              try case c2 => first | rfl | (intro u hu; obtain rfl := List.mem_singleton.1 hu; rfl)
              try case c3 => omega
              try case c4 => decide
              try case c5 => exact HB.out.size
              intro v' w3 hown3 hb3 _ _
              rw [← hsn.out] at hown3
              have HO3 := hide hown3
              have HB3 := hide (HB.out.trans hb3)
              clear hown3 hb3
              go_wp2_with fail
              go_roundw
              case rel => exact ⟨k + 1, _, by omega, by omega, by go_num, by simp; omega, HN.out, by simpa using HO3.out, HB3.out⟩
              case measure => simp [intOf]; omega
          · have HN : Hid (locF L (p : Int) = locFold ((L.drop (k + 1)).take (ee - (k + 1))) acc) := by
              show _ = _
              rw [HX.out, HS.out]
              unfold locStep
              rw [if_neg (fun h => h1 h.1)]
            have z1 : (L[k].1 == 1) = false := by simp [h1]
            clear h1
            go_wp2_with fail
            go_roundw
            case rel => exact ⟨k + 1, acc, by omega, by omega, by go_num, by omega, HN.out, HO.out, HB.out⟩
            case measure => simp [intOf]; omega
        · have hke : k = ee := by omega
          have HN : Hid (locF L (p : Int) = acc) := by
            show _ = _
            rw [HX.out, show ee - k = 0 by omega, List.take_zero]; rfl
          go_wp2_with fail
          go_ret
          exact ⟨⟨_, rfl, by rw [HN.out]; exact HO.out⟩, HB.out⟩
    · have HF : Hid (locF L (p : Int) = []) := by
        show _ = _; unfold locF; rw [if_neg (fun h => h0 (by have := h.2; rwa [Int.toNat_natCast, lnAtD_of L p hpl] at this))]
      have z0 : (L[p].1 != 0) = true := by simp [h0]
      clear h0 hin
      go_enter Try.func67, Try.ntmps67
      go_wp2_with fail
      refine (s_endOf _ n c L p _ (by omega) H.out).mono ?_
      rintro e w' ⟨rfl, rfl⟩
      rw [HE.out]
      go_wp2
      go_ret
      exact ⟨⟨_, rfl, by rw [HF.out]; exact World.ownsRow_lit w #[] 0 (size := 1) (e := 9) (Nat.le_refl _) (Nat.zero_le _) rfl⟩, (Below.refl w.heap.size w).alloc (Nat.le_refl _) _⟩
end Go.Proofs.Ytcfjbaanahgpoaa
