import Derived.Test.YtcfjbaanahgpoaaSym
import Derived.Test.YtcfjbaanahgpoaaLnOkX
import Derived.Test.YtcfjbaanahgpoaaDis
namespace Go.Proofs.Ytcfjbaanahgpoaa
open Go.RowKit
set_option maxRecDepth 100000
def ImgP (code : ByteArray) (l : List Sy) : List Sy → Nat → Nat → Prop
  | [], _, p => p = code.size
  | x :: rest, k, p => x.2.1 = (p : Int) ∧ 1 ≤ x.2.2 ∧ x.2.2 ≤ (code.size : Int) - p ∧ nameOkF x.1.data.toList = true ∧ x.1 ∉ (l.take k).map Prod.fst ∧
      (disF (code.extract p (p + x.2.2.toNat)).data.toList 0).isSome = true ∧ ImgP code l rest (k + 1) (p + x.2.2.toNat)
noncomputable def imgOkF (x : Im) : Bool := yes (ImgP x.1 x.2 x.2 0 0 ∧ x.1.size ≤ 1000000)
set_option maxHeartbeats 2000000 in
theorem i_imageOk (x : Im) (A : Option Addr) (c : Nat) (w : World) (hn : x.1.size + x.2.length ≤ 1048576) (h : ImIn w x A c) (hs : ImSz x) :
    Calls Try.prog 23 #[.agg #[.string x.1, .slice A x.2.length c]] w fun e w' => e = .returned (.bool (imgOkF x)) ∧ Below w.heap.size w w' := by
  obtain ⟨s, l⟩ := x
  obtain ⟨h1, hlc, hcm⟩ := h
  obtain ⟨s1, s2⟩ := hs
  simp only at h1 hn hlc hcm s1 s2 ⊢
  have H := hide (h1.below ((Below.refl _ _).alloc (Nat.le_refl _) (.cells #[.string s, .slice A l.length c] 42)))
  have K := hide (Blk.new w 42 #[.string s, .slice A l.length c])
  have S2 := hide s2
  have hsz : (s.size : Int) ≤ 1048576 := by omega
  have hln : (l.length : Int) ≤ 1048576 := by omega
  unfold maxLen at hcm
  clear h1 s2 s1 hn
  by_cases hbig : 1000000 < (s.size : Int)
  · have HN : Hid (imgOkF (s, l) = false) := yes_not (fun h => by have := h.2; simp only at this; omega)
    go_enter Try.func23, Try.ntmps23
    go_wp2_with fail
    go_ret
    exact ⟨ret_bool HN.out.symm, by repeat (first | exact Below.refl _ _ | refine Below.alloc ?_ (by first | (simp; done) | (simp; omega)) _ | refine Below.drew ?_ | refine below_drewN ?_ _ | refine Below.setCell ?_ (by first | (simp; done) | (simp; omega)) _)⟩
  have hbig' : (s.size : Int) ≤ 1000000 := by omega
  clear hbig
  go_enter Try.func23, Try.ntmps23
  go_wp2_with fail
  go_loopw [3, 17] (fun m i wr => ∃ k p : Nat, k ≤ l.length ∧ i = .int .i64 k ∧ m = .int .i64 p ∧ p ≤ s.size ∧ (ImgP s l l 0 0 ↔ ImgP s l (l.drop k) k p) ∧ Below (w.heap.size + 1) (w.alloc (.cells #[.string s, .slice A l.length c] 42)) wr) (fun _ i _ => l.length - (intOf i).toNat)
  case atStart => exact ⟨0, 0, Nat.zero_le _, rfl, rfl, Nat.zero_le _, Iff.rfl, Below.refl _ _⟩
  case round =>
    obtain ⟨wo, rfl⟩ : ∃ wo : World, wo = wr := ⟨_, rfl⟩
    obtain ⟨k, p, hk, rfl, rfl, hps, he, hb⟩ := hrel
    have HE := hide he
    have HB := hide hb
    have hz : w.heap.size + 1 ≤ wo.heap.size := by have := hb.size; simpa using this
    have hb' : Below (w.alloc (.cells #[.string s, .slice A l.length c] 42)).heap.size (w.alloc (.cells #[.string s, .slice A l.length c] 42)) wo := by simpa using hb
    have hzl : w.heap.size < wo.heap.size := by omega
    have R := hide (H.out.below hb')
    have KO := hide (K.out.below hb (by omega))
    have k0 := KO.out.cell 0
    have k1 := KO.out.cell 1
    simp at k0 k1
    have BW := hide (show Below w.heap.size w wo from ((Below.refl _ _).alloc (Nat.le_refl _) _).trans (hb.mono (by omega)))
    have hps' : (p : Int) ≤ (s.size : Int) := by omega
    clear he hb hb'
    by_cases hlt : k < l.length
    · obtain ⟨b, o, rfl, hbl, c0, c1, c2⟩ := R.out.sym k hlt
      have HD := hide (List.drop_eq_getElem_cons hlt)
      have hnm := S2.out _ (List.getElem_mem hlt)
      by_cases g1 : l[k].2.1 = (p : Int)
      · rw [g1] at c1
        by_cases g2 : 1 ≤ l[k].2.2 ∧ l[k].2.2 ≤ (s.size : Int) - p
        · obtain ⟨z, hzz⟩ := Int.eq_ofNat_of_zero_le (show 0 ≤ l[k].2.2 by omega)
          have HZ := hide hzz
          have g2' := g2
          rw [hzz] at c2 g2'
          obtain ⟨z1, z2⟩ := g2'
          clear hzz
          have zn : (1 : Int) ≤ (z : Int) := z1
          cases hq : nameOkF l[k].1.data.toList
          · have HN : Hid (imgOkF (s, l) = false) := yes_not (fun h => by have h' := HE.out.1 h.1; rw [HD.out] at h'; have := h'.2.2.2.1; rw [hq] at this; cases this)
            clear g1 g2
            go_wp2_with (first | (go_at_call 48; refine (i_nameOk _ hnm _).mono ?_; rintro e w' ⟨rfl, rfl⟩))
            go_ret
            exact ⟨ret_bool HN.out.symm, BW.out.alloc (by omega) _⟩
          · go_wp2_with (first | (go_at_call 48; refine (i_nameOk _ hnm _).mono ?_; rintro e w' ⟨rfl, rfl⟩))
            have HQ := hide hq
            clear hq
            have G1 := hide g1
            have G2 := hide g2
            clear g1 g2
            have KS := hide (Blk.new wo 79 #[.string l[k].1, .int .i64 (p : Int), .int .i64 (z : Int)])
            have KP := hide (KO.out.alloc (.cells #[.string l[k].1, .int .i64 (p : Int), .int .i64 (z : Int)] 79))
            have RP := hide (R.out.below ((Below.refl _ _).alloc (Nat.le_refl _) (.cells #[.string l[k].1, .int .i64 (p : Int), .int .i64 (z : Int)] 79)))
            clear c0 c1 c2
            clear k0 k1
            go_loopw [52] (fun i wr => ∃ j : Nat, j ≤ k ∧ i = .int .i64 j ∧ l[k].1 ∉ (l.take j).map Prod.fst ∧ Below (wo.heap.size + 1) (wo.alloc (.cells #[.string l[k].1, .int .i64 (p : Int), .int .i64 (z : Int)] 79)) wr) (fun i _ => k - (intOf i).toNat)
            case atStart => exact ⟨0, Nat.zero_le _, rfl, by simp, Below.refl _ _⟩
            case round =>
              obtain ⟨j, hj, rfl, hnot, hb2⟩ := hrel
              have HNOT := hide hnot
              have HB2 := hide hb2
              have hz2 : wo.heap.size + 1 ≤ wr.heap.size := by have := hb2.size; simpa using this
              have hb2' : Below (wo.alloc (.cells #[.string l[k].1, .int .i64 (p : Int), .int .i64 (z : Int)] 79)).heap.size (wo.alloc (.cells #[.string l[k].1, .int .i64 (p : Int), .int .i64 (z : Int)] 79)) wr := by simpa using hb2
              have hzl2 : w.heap.size < wr.heap.size := by omega
              have hzl3 : wo.heap.size < wr.heap.size := by omega
              have RQ := hide (RP.out.below hb2')
              have KQ0 := KP.out.below hb2 (by omega)
              have k0 := KQ0.cell 0
              have k1 := KQ0.cell 1
              have KQ1 := KS.out.below hb2 (by omega)
              have s0 := KQ1.cell 0
              have s1 := KQ1.cell 1
              have s2 := KQ1.cell 2
              simp at k0 k1 s0 s1 s2
              have BW2 := hide (show Below w.heap.size w wr from (BW.out.alloc (by omega) _).trans (hb2.mono (by omega)))
              have BX := hide (show Below (w.heap.size + 1) (w.alloc (.cells #[.string s, .slice (some ⟨b, o, none⟩) l.length c] 42)) wr from (HB.out.alloc hz _).trans (hb2.mono (by omega)))
              clear hnot hb2 hb2' KQ0 KQ1
              by_cases hjk : j < k
              · have hjl : j < l.length := by omega
                obtain ⟨b', o', eA, _, d0, d1, d2⟩ := RQ.out.sym j hjl
                obtain ⟨rfl, rfl⟩ : b = b' ∧ o = o' := by injection eA with eA; injection eA with eA eB; exact ⟨eA, eB⟩
                clear eA
                by_cases heq : l[j].1 = l[k].1
                · have hmem : l[k].1 ∈ (l.take k).map Prod.fst := by rw [← heq]; exact List.mem_map.2 ⟨l[j], List.mem_take_iff_getElem.2 ⟨j, by omega, rfl⟩, rfl⟩
                  have HN : Hid (imgOkF (s, l) = false) := yes_not (fun h => by have h' := HE.out.1 h.1; rw [HD.out] at h'; exact h'.2.2.2.2.1 hmem)
                  have zq := beqT heq
                  clear heq hmem
                  go_wp2_with fail
                  go_ret
                  exact ⟨ret_bool HN.out.symm, BW2.out.alloc (by omega) _⟩
                · have HN : Hid (l[k].1 ∉ (l.take (j + 1)).map Prod.fst) := by
                    show _ ∉ _
                    rw [List.take_succ_eq_append_getElem hjl, List.map_append, List.mem_append]
                    rintro (h | h)
                    · exact HNOT.out h
                    · exact heq (List.mem_singleton.1 h).symm
                  have zq := beqF heq
                  clear heq
                  go_wp2_with fail
                  go_roundw
                  case rel => exact ⟨j + 1, by omega, by go_num, HN.out, HB2.out.alloc hz2 _⟩
                  case measure => simp [intOf]; omega
              · have HM : Hid (l[k].1 ∉ (l.take k).map Prod.fst) := by have := HNOT.out; rwa [show j = k by omega] at this
                have hes : (s.extract p (p + z)).size ≤ 1073741824 := by rw [ByteArray.size_extract]; omega
                cases hd : (disF (s.extract p (p + z)).data.toList 0).isSome
                · have HN : Hid (imgOkF (s, l) = false) := yes_not (fun h => by have h' := HE.out.1 h.1; rw [HD.out] at h'; have := h'.2.2.2.2.2.1; rw [HZ.out, Int.toNat_natCast, hd] at this; cases this)
                  have HDI := hide hd
                  clear hd
                  go_wp2_with fail
                  refine (i_disassemble _ hes _).mono ?_
                  rintro e w3 ⟨⟨v3, rfl, _⟩, hb3⟩
                  rw [HDI.out]
                  go_wp2_with fail
                  go_ret
                  exact ⟨ret_bool HN.out.symm, BW2.out.trans (hb3.mono (by omega))⟩
                · have HN : Hid (ImgP s l l 0 0 ↔ ImgP s l (l.drop (k + 1)) (k + 1) (p + z)) := by
                    refine HE.out.trans ?_
                    rw [HD.out]
                    constructor
                    · intro h; have := h.2.2.2.2.2.2; rwa [HZ.out, Int.toNat_natCast] at this
                    · intro h; exact ⟨G1.out, G2.out.1, G2.out.2, HQ.out, HM.out, by rw [HZ.out, Int.toNat_natCast]; exact hd, by rw [HZ.out, Int.toNat_natCast]; exact h⟩
                  have HDI := hide hd
                  clear hd
                  go_wp2_with fail
                  refine (i_disassemble _ hes _).mono ?_
                  rintro e w3 ⟨⟨v3, rfl, _⟩, hb3⟩
                  rw [HDI.out]
                  obtain ⟨hc3, hf3⟩ := bcell hb3
                  have BY := hide (BX.out.trans (hb3.mono (by omega)))
                  clear hb3
                  go_wp2_with fail
                  go_roundw
                  case rel => exact ⟨k + 1, p + z, by omega, by go_num, by go_num, by omega, HN.out, BY.out⟩
                  case measure => simp [intOf]; omega
        · have HN : Hid (imgOkF (s, l) = false) := yes_not (fun h => by have h' := HE.out.1 h.1; rw [HD.out] at h'; exact g2 ⟨h'.2.1, h'.2.2.1⟩)
          have g3 : l[k].2.2 < 1 ∨ (s.size : Int) - p < l[k].2.2 := by omega
          clear g2 g1
          rcases g3 with g3 | g3
          · go_wp2_with fail
            go_ret
            exact ⟨ret_bool HN.out.symm, BW.out.alloc (by omega) _⟩
          · have g4 : ¬ l[k].2.2 < 1 := by omega
            go_wp2_with fail
            go_ret
            exact ⟨ret_bool HN.out.symm, BW.out.alloc (by omega) _⟩
      · have HN : Hid (imgOkF (s, l) = false) := yes_not (fun h => by have h' := HE.out.1 h.1; rw [HD.out] at h'; exact g1 h'.1)
        have zq : (l[k].2.1 != (p : Int)) = true := by simpa using g1
        clear g1
        go_wp2_with fail
        go_ret
        exact ⟨ret_bool HN.out.symm, BW.out.alloc (by omega) _⟩
    · have HF : Hid (ImgP s l l 0 0 ↔ p = s.size) := by
        have := HE.out
        rw [List.drop_of_length_le (by omega)] at this
        exact this
      by_cases hp : p = s.size
      · have HN : Hid (imgOkF (s, l) = true) := yes_of ⟨HF.out.2 hp, by simp only; omega⟩
        have zq : ((p : Int) == (s.size : Int)) = true := by rw [hp]; simp
        clear hp
        go_wp2_with fail
        go_ret
        exact ⟨ret_bool HN.out.symm, BW.out⟩
      · have HN : Hid (imgOkF (s, l) = false) := yes_not (fun h => hp (HF.out.1 h.1))
        have zq : ((p : Int) == (s.size : Int)) = false := by rw [beq_eq_false_iff_ne]; omega
        clear hp
        go_wp2_with fail
        go_ret
        exact ⟨ret_bool HN.out.symm, BW.out⟩
end Go.Proofs.Ytcfjbaanahgpoaa
