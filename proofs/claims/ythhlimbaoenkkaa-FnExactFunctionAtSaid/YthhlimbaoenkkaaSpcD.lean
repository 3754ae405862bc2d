import Derived.Test.YthhlimbaoenkkaaSpcC
import Derived.Test.YthhlimbaoenkkaaOpD
import Derived.Test.YthhlimbaoenkkaaImgA
namespace Go.Proofs.Ythhlimbaoenkkaa
open Go Go.RowKit
set_option maxRecDepth 100000
set_option linter.unusedVariables false
/-! Locate and FetchOp. (printed by gen_loc.py) -/
noncomputable def spLoc (x : Sp) (addr : Int) : Int × Int := if spOkF x = true then lct addr x.1 x.2.1 0 else (-1, -1)
theorem spOk_num {x : Sp} (h : spOkF x = true) : SpNum x ∧ SymNum x := by
  obtain ⟨h1, h2, _, hg, _⟩ := yes_prop h
  exact spGood_num (im := x.1) (bs := x.2.1) (en := x.2.2) h1 h2 hg
theorem lct_cases (addr : Int) (I : List Im) (B : List Int) : lct addr I B 0 = (-1, -1) ∨ ∃ (k : Nat) (h1 : k < I.length) (h2 : k < B.length), lct addr I B 0 = ((k : Int), addr - B[k]) ∧ B[k] ≤ addr ∧ addr < B[k] + (I[k].1.size : Int) := by
  rcases lct_in addr I B 0 with h | ⟨j, h1, h2, h3, h4⟩
  · exact .inl h
  · exact .inr ⟨j, h1, h2, by rw [h3, Nat.zero_add], h4⟩
theorem spLoc_cases (x : Sp) (addr : Int) : spLoc x addr = (-1, -1) ∨ ∃ (k : Nat) (h1 : k < x.1.length) (h2 : k < x.2.1.length), spLoc x addr = ((k : Int), addr - x.2.1[k]) ∧ (x.2.1[k] ≤ addr ∧ addr < x.2.1[k] + (x.1[k].1.size : Int)) ∧ SpNum x ∧ SymNum x := by
  unfold spLoc
  by_cases h : spOkF x = true
  · rw [if_pos h]
    rcases lct_cases addr x.1 x.2.1 with e | ⟨k, h1, h2, e, h4⟩
    · exact .inl e
    · exact .inr ⟨k, h1, h2, e, h4, spOk_num h⟩
  · rw [if_neg h]; exact .inl rfl
def fetF (x : Sp) (p : Int × Int) : Option (Int × Int) := if p.1 < 0 then none else decOpF (x.1.getD p.1.toNat (ByteArray.empty, [])).1.data.toList p.2
theorem fetF_in {x : Sp} {k : Nat} (h : k < x.1.length) (o : Int) : fetF x ((k : Int), o) = decOpF x.1[k].1.data.toList o := by
  unfold fetF
  rw [if_neg (by show ¬ ((k : Int) < 0); omega)]
  simp [List.getD_eq_getElem?_getD, h]
theorem decV_form (o : Option (Int × Int)) : ∃ (c a n : Int) (b : Bool), decV o = .tuple #[.agg #[.int .i64 c, .int .i64 a], .int .i64 n, .bool b] := by
  rcases o with _ | ⟨c, a⟩
  · exact ⟨0, 0, 0, false, rfl⟩
  · exact ⟨c, a, _, true, rfl⟩
theorem ret_val {a b : Value} (h : a = b) : Ending.returned a = .returned b := by rw [h]
set_option maxHeartbeats 2000000 in
theorem i_Loc (x : Sp) (A B C : Option Addr) (a b c : Nat) (addr : Int) (w : World) (hn : spTot x ≤ 1048576) (h : SpIn w x A B C a b c) (hs : SpSz x) :
    Calls Try.prog 39 #[.agg #[.slice A x.1.length a, .slice B x.2.1.length b, .slice C x.2.2.length c], .int .i64 addr] w fun e w' =>
      e = .returned (.tuple #[.int .i64 (spLoc x addr).1, .int .i64 (spLoc x addr).2]) ∧ Below w.heap.size w w' := by
  have HS := hide hs
  have HT := hide hn
  obtain ⟨im, bs, en⟩ := x
  have H := hide (h.below ((Below.refl _ _).alloc (Nat.le_refl _) (.cells #[.slice A im.length a, .slice B bs.length b, .slice C en.length c] 58)))
  have K := hide (Blk.new w 58 #[.slice A im.length a, .slice B bs.length b, .slice C en.length c])
  have BA := hide ((Below.refl w.heap.size w).alloc (Nat.le_refl _) (.cells #[.slice A im.length a, .slice B bs.length b, .slice C en.length c] 58))
  simp only at ⊢
  clear h hs hn
  have hE := spLoc.eq_1 (im, bs, en) addr
  cases hok : spOkF (im, bs, en)
  all_goals
    have HOK := hide hok
    go_enter Try.func39, Try.ntmps39
    go_wp2_with fail
    refine (i_spaceOk (im, bs, en) A B C a b c _ HT.out H.out HS.out).mono ?_
    rintro e w2 ⟨rfl, hb⟩
    rw [HOK.out]
    have H2 := hide (H.out.below hb)
    have B2 := hide (BA.out.trans (hb.mono BA.out.size))
    have K2 := hide (K.out.below hb (by simp))
    have k0 := K2.out.cell 0
    have k1 := K2.out.cell 1
    have k2 := K2.out.cell 2
    simp at k0 k1 k2
    clear hb
    rw [hok] at hE
  · have HE : Hid (spLoc (im, bs, en) addr = (-1, -1)) := by show _ = _; rw [hE]; rfl
    clear hE hok
    go_wp2_with fail
    go_ret2
    exact ⟨ret_two (by rw [HE.out]) (by rw [HE.out]), B2.out⟩
  · have HE : Hid (spLoc (im, bs, en) addr = lct addr im bs 0) := by show _ = _; rw [hE]; rfl
    clear hE hok
    go_wp2_with fail
    refine (i_locate (im, bs, en) A B C a b c addr _ HT.out H2.out (spOk_num HOK.out).1).mono ?_
    rintro e w3 ⟨rfl, hb⟩
    have B3 := hide (B2.out.trans (hb.mono B2.out.size))
    clear hb k0 k1 k2
    go_wp2
    go_ret2
    exact ⟨ret_two (by rw [HE.out]) (by rw [HE.out]), B3.out⟩
set_option maxHeartbeats 2000000 in
theorem s_Loc (x : Sp) (A B C : Option Addr) (a b c : Nat) (addr : Int) (w : World) (hn : spTot x ≤ 1048576) (h : SpIn w x A B C a b c) (hs : SpSz x) :
    Calls Try.prog 38 #[.agg #[.slice A x.1.length a, .slice B x.2.1.length b, .slice C x.2.2.length c], .int .i64 addr] w fun e w' =>
      e = .returned (.tuple #[.int .i64 (spLoc x addr).1, .int .i64 (spLoc x addr).2]) ∧ Below w.heap.size w w' := by
  have HS := hide hs
  have HT := hide hn
  obtain ⟨im, bs, en⟩ := x
  have H := hide (h.below ((Below.refl _ _).alloc (Nat.le_refl _) (.cells #[.slice A im.length a, .slice B bs.length b, .slice C en.length c] 58)))
  have K := hide (Blk.new w 58 #[.slice A im.length a, .slice B bs.length b, .slice C en.length c])
  have BA := hide ((Below.refl w.heap.size w).alloc (Nat.le_refl _) (.cells #[.slice A im.length a, .slice B bs.length b, .slice C en.length c] 58))
  simp only at ⊢
  clear h hs hn
  have hE := spLoc.eq_1 (im, bs, en) addr
  cases hok : spOkF (im, bs, en)
  all_goals
    have HOK := hide hok
    go_enter Try.func38, Try.ntmps38
    go_wp2_with fail
    refine (s_spaceOk (im, bs, en) A B C a b c _ HT.out H.out HS.out).mono ?_
    rintro e w2 ⟨rfl, hb⟩
    rw [HOK.out]
    have H2 := hide (H.out.below hb)
    have B2 := hide (BA.out.trans (hb.mono BA.out.size))
    have K2 := hide (K.out.below hb (by simp))
    have k0 := K2.out.cell 0
    have k1 := K2.out.cell 1
    have k2 := K2.out.cell 2
    simp at k0 k1 k2
    clear hb
    rw [hok] at hE
  · have HE : Hid (spLoc (im, bs, en) addr = (-1, -1)) := by show _ = _; rw [hE]; rfl
    clear hE hok
    go_wp2_with fail
    go_ret2
    exact ⟨ret_two (by rw [HE.out]) (by rw [HE.out]), B2.out⟩
  · have HE : Hid (spLoc (im, bs, en) addr = lct addr im bs 0) := by show _ = _; rw [hE]; rfl
    clear hE hok
    go_wp2_with fail
    refine (s_locate (im, bs, en) A B C a b c addr _ HT.out H2.out (spOk_num HOK.out).1).mono ?_
    rintro e w3 ⟨rfl, hb⟩
    have B3 := hide (B2.out.trans (hb.mono B2.out.size))
    clear hb k0 k1 k2
    go_wp2
    go_ret2
    exact ⟨ret_two (by rw [HE.out]) (by rw [HE.out]), B3.out⟩
set_option maxHeartbeats 4000000 in
theorem i_fetchOp (x : Sp) (A B C : Option Addr) (a b c : Nat) (addr : Int) (w : World) (hn : spTot x ≤ 1048576) (h : SpIn w x A B C a b c) (hs : SpSz x) :
    Calls Try.prog 41 #[.agg #[.slice A x.1.length a, .slice B x.2.1.length b, .slice C x.2.2.length c], .int .i64 addr] w fun e w' =>
      e = .returned (decV (fetF x (spLoc x addr))) ∧ Below w.heap.size w w' := by
  have HT := hide hn
  have HS := hide hs
  obtain ⟨im, bs, en⟩ := x
  have BA := hide (((Below.refl w.heap.size w).alloc (Nat.le_refl _) (.cells #[.slice A im.length a, .slice B bs.length b, .slice C en.length c] 58)).alloc (by simp) (.cells #[.int .i64 0, .int .i64 0] 28))
  have H := hide (h.below BA.out)
  have K := hide ((Blk.new w 58 #[.slice A im.length a, .slice B bs.length b, .slice C en.length c]).alloc (.cells #[.int .i64 0, .int .i64 0] 28))
  have R : Hid (Blk ((w.alloc (.cells #[.slice A im.length a, .slice B bs.length b, .slice C en.length c] 58)).alloc (.cells #[.int .i64 0, .int .i64 0] 28)) (w.heap.size + 1) 28 #[.int .i64 0, .int .i64 0]) := by show Blk _ _ _ _; have := Blk.new (w.alloc (.cells #[.slice A im.length a, .slice B bs.length b, .slice C en.length c] 58)) 28 #[.int .i64 0, .int .i64 0]; simpa using this
  simp only at ⊢
  clear h hs hn
  rcases (show _ ∨ ∃ (k : Nat) (h1 : k < im.length) (h2 : k < bs.length), spLoc (im, bs, en) addr = ((k : Int), addr - bs[k]) ∧ (bs[k] ≤ addr ∧ addr < bs[k] + (im[k].1.size : Int)) ∧ SpNum (im, bs, en) ∧ SymNum (im, bs, en) from spLoc_cases (im, bs, en) addr) with hl | ⟨k, hk1, hk2, hl, ⟨hb1, hb2⟩, hnum⟩
  · have HL := hide hl
    have HD : Hid (decV (fetF (im, bs, en) (spLoc (im, bs, en) addr)) = .tuple #[.agg #[.int .i64 0, .int .i64 0], .int .i64 0, .bool false]) := by show _ = _; rw [hl]; rfl
    clear hl
    go_enter Try.func41, Try.ntmps41
    go_wp2_with fail
    refine (i_Loc (im, bs, en) A B C a b c addr _ HT.out H.out HS.out).mono ?_
    rintro e w2 ⟨rfl, hb⟩
    rw [show spLoc (im, bs, en) addr = _ from HL.out]
    have B2 := hide (BA.out.trans (hb.mono BA.out.size))
    have R2 := hide (R.out.below hb (by simp))
    have r0 := R2.out.cell 0
    have r1 := R2.out.cell 1
    have f0 := R2.out.frozen 0
    have f1 := R2.out.frozen 1
    simp at r0 r1
    clear hb
    go_wp2_with fail
    refine bodyPost_ret (v := .tuple #[.agg #[.int .i64 0, .int .i64 0], .int .i64 0, .bool false]) (by simp [results, Try.results41, go_sem, r0, r1]) rfl ⟨?_, ?_⟩
    · exact ret_val HD.out.symm
    · exact (B2.out.setCell (p := ⟨w.heap.size + 1, 0, none⟩) (by simp) _).setCell (p := ⟨w.heap.size + 1, 1, none⟩) (by simp) _
  · have HL := hide hl
    have HF : Hid (fetF (im, bs, en) (spLoc (im, bs, en) addr) = decOpF im[k].1.data.toList (addr - bs[k])) := by show _ = _; rw [hl]; exact fetF_in (x := (im, bs, en)) hk1 _
    have hsz : im[k].1.size ≤ 1073741824 := by have := imTot_mem im _ (List.getElem_mem hk1); have h2 := HT.out; unfold spTot at h2; simp only at h2; omega
    have hkI : (k : Int) < (im.length : Int) := by omega
    have hk0 : ¬ ((k : Int) < 0) := by omega
    clear hl hb1 hb2
    rcases hdec : decOpF im[k].1.data.toList (addr - bs[k]) with _ | q
    all_goals
      have HDEC := hide hdec
      rw [hdec] at HF
      clear hdec
      go_enter Try.func41, Try.ntmps41
      go_wp2_with fail
      refine (i_Loc (im, bs, en) A B C a b c addr _ HT.out H.out HS.out).mono ?_
      rintro e w2 ⟨rfl, hb⟩
      rw [show spLoc (im, bs, en) addr = _ from HL.out]
      have hz := hb.size
      simp at hz
      have B2 := hide (BA.out.trans (hb.mono BA.out.size))
      have R2 := hide (R.out.below hb (by simp))
      have K2 := hide (K.out.below hb (by simp; omega))
      have H2 := hide (H.out.below hb)
      have k0 := K2.out.cell 0
      simp at k0
      obtain ⟨p, o, A1, c1, rfl, hpl, q0, q1, hin⟩ := H2.out.1.at_ k hk1
      simp only at q0 q1
      clear hb hin
      go_wp2_with fail
      refine (i_decodeOp im[k].1 hsz _ _).mono ?_
      rintro e w3 ⟨rfl, hb⟩
      rw [HDEC.out]
      simp only [decV]
      have hz3 := hb.size
      have B3 := hide (B2.out.trans (hb.mono B2.out.size))
      have R3 := hide (R2.out.below hb (by omega))
      have r0 := R3.out.cell 0
      have r1 := R3.out.cell 1
      have f0 := R3.out.frozen 0
      have f1 := R3.out.frozen 1
      simp at r0 r1
      clear hb k0 q0 q1
    · skip
      go_wp2_with fail
      refine bodyPost_ret (v := .tuple #[.agg #[.int .i64 0, .int .i64 0], .int .i64 0, .bool false]) (by simp [results, Try.results41, go_sem, r0, r1]) rfl ⟨?_, ?_⟩
      · rw [HF.out]; rfl
      · exact (B3.out.setCell (p := ⟨w.heap.size + 1, 0, none⟩) (by simp) _).setCell (p := ⟨w.heap.size + 1, 1, none⟩) (by simp) _
    · skip
      go_wp2_with fail
      refine bodyPost_ret (v := .tuple #[.agg #[.int .i64 q.1, .int .i64 q.2], .int .i64 (opW q.1 + 1), .bool true]) (by simp [results, Try.results41, go_sem, r0, r1]) rfl ⟨?_, ?_⟩
      · rw [HF.out]; rfl
      · exact (B3.out.setCell (p := ⟨w.heap.size + 1, 0, none⟩) (by simp) _).setCell (p := ⟨w.heap.size + 1, 1, none⟩) (by simp) _
set_option maxHeartbeats 4000000 in
theorem s_l10Fetch (x : Sp) (A B C : Option Addr) (a b c : Nat) (addr : Int) (w : World) (hn : spTot x ≤ 1048576) (h : SpIn w x A B C a b c) (hs : SpNum x) :
    Calls Try.prog 92 #[.agg #[.slice A x.1.length a, .slice B x.2.1.length b, .slice C x.2.2.length c], .int .i64 addr] w fun e w' =>
      e = .returned (decV (fetF x (lct addr x.1 x.2.1 0))) ∧ Below w.heap.size w w' := by
  have HT := hide hn
  have HS := hide hs
  obtain ⟨im, bs, en⟩ := x
  have BA := hide (((Below.refl w.heap.size w).alloc (Nat.le_refl _) (.cells #[.slice A im.length a, .slice B bs.length b, .slice C en.length c] 58)).alloc (by simp) (.cells #[.int .i64 0, .int .i64 0] 28))
  have H := hide (h.below BA.out)
  have K := hide ((Blk.new w 58 #[.slice A im.length a, .slice B bs.length b, .slice C en.length c]).alloc (.cells #[.int .i64 0, .int .i64 0] 28))
  have R : Hid (Blk ((w.alloc (.cells #[.slice A im.length a, .slice B bs.length b, .slice C en.length c] 58)).alloc (.cells #[.int .i64 0, .int .i64 0] 28)) (w.heap.size + 1) 28 #[.int .i64 0, .int .i64 0]) := by show Blk _ _ _ _; have := Blk.new (w.alloc (.cells #[.slice A im.length a, .slice B bs.length b, .slice C en.length c] 58)) 28 #[.int .i64 0, .int .i64 0]; simpa using this
  simp only at ⊢
  clear h hs hn
  rcases (show _ ∨ ∃ (k : Nat) (h1 : k < im.length) (h2 : k < bs.length), lct addr im bs 0 = ((k : Int), addr - bs[k]) ∧ (bs[k] ≤ addr ∧ addr < bs[k] + (im[k].1.size : Int)) ∧ True from (lct_cases addr im bs).imp id (fun ⟨k, h1, h2, h3, h4⟩ => ⟨k, h1, h2, h3, h4, trivial⟩)) with hl | ⟨k, hk1, hk2, hl, ⟨hb1, hb2⟩, hnum⟩
  · have HL := hide hl
    have HD : Hid (decV (fetF (im, bs, en) (lct addr im bs 0)) = .tuple #[.agg #[.int .i64 0, .int .i64 0], .int .i64 0, .bool false]) := by show _ = _; rw [hl]; rfl
    clear hl
    go_enter Try.func92, Try.ntmps92
    go_wp2_with fail
    refine (s_locate (im, bs, en) A B C a b c addr _ HT.out H.out HS.out).mono ?_
    rintro e w2 ⟨rfl, hb⟩
    rw [show lct addr im bs 0 = _ from HL.out]
    have B2 := hide (BA.out.trans (hb.mono BA.out.size))
    have R2 := hide (R.out.below hb (by simp))
    have r0 := R2.out.cell 0
    have r1 := R2.out.cell 1
    have f0 := R2.out.frozen 0
    have f1 := R2.out.frozen 1
    simp at r0 r1
    clear hb
    go_wp2_with fail
    refine bodyPost_ret (v := .tuple #[.agg #[.int .i64 0, .int .i64 0], .int .i64 0, .bool false]) (by simp [results, Try.results92, go_sem, r0, r1]) rfl ⟨?_, ?_⟩
    · exact ret_val HD.out.symm
    · exact (B2.out.setCell (p := ⟨w.heap.size + 1, 0, none⟩) (by simp) _).setCell (p := ⟨w.heap.size + 1, 1, none⟩) (by simp) _
  · have HL := hide hl
    have HF : Hid (fetF (im, bs, en) (lct addr im bs 0) = decOpF im[k].1.data.toList (addr - bs[k])) := by show _ = _; rw [hl]; exact fetF_in (x := (im, bs, en)) hk1 _
    have hsz : im[k].1.size ≤ 1073741824 := by have := imTot_mem im _ (List.getElem_mem hk1); have h2 := HT.out; unfold spTot at h2; simp only at h2; omega
    have hkI : (k : Int) < (im.length : Int) := by omega
    have hk0 : ¬ ((k : Int) < 0) := by omega
    clear hl hb1 hb2
    rcases hdec : decOpF im[k].1.data.toList (addr - bs[k]) with _ | q
    all_goals
      have HDEC := hide hdec
      rw [hdec] at HF
      clear hdec
      go_enter Try.func92, Try.ntmps92
      go_wp2_with fail
      refine (s_locate (im, bs, en) A B C a b c addr _ HT.out H.out HS.out).mono ?_
      rintro e w2 ⟨rfl, hb⟩
      rw [show lct addr im bs 0 = _ from HL.out]
      have hz := hb.size
      simp at hz
      have B2 := hide (BA.out.trans (hb.mono BA.out.size))
      have R2 := hide (R.out.below hb (by simp))
      have K2 := hide (K.out.below hb (by simp; omega))
      have H2 := hide (H.out.below hb)
      have k0 := K2.out.cell 0
      simp at k0
      obtain ⟨p, o, A1, c1, rfl, hpl, q0, q1, hin⟩ := H2.out.1.at_ k hk1
      simp only at q0 q1
      clear hb hin
      go_wp2_with fail
      refine (s_decodeOp im[k].1 hsz _ _).mono ?_
      rintro e w3 ⟨rfl, hb⟩
      rw [HDEC.out]
      simp only [decV]
      have hz3 := hb.size
      have B3 := hide (B2.out.trans (hb.mono B2.out.size))
      have hne : w3.heap.size ≠ w.heap.size + 1 := by omega
      have hne2 : w.heap.size + 1 ≠ w3.heap.size := by omega
      have R3b := hide (R2.out.below hb (by omega))
      clear hb k0 q0 q1
    · skip
      have R3 := hide (R3b.out.alloc (.cells #[.int .i64 0, .int .i64 0] 28))
      have r0 := R3.out.cell 0
      have r1 := R3.out.cell 1
      have f0 := R3.out.frozen 0
      have f1 := R3.out.frozen 1
      simp at r0 r1
      have B4 := hide (B3.out.alloc B3.out.size (.cells #[.int .i64 0, .int .i64 0] 28))
      go_wp2_with fail
      refine bodyPost_ret (v := .tuple #[.agg #[.int .i64 0, .int .i64 0], .int .i64 0, .bool false]) (by simp [results, Try.results92, go_sem, r0, r1]) rfl ⟨?_, ?_⟩
      · rw [HF.out]; rfl
      · exact (B4.out.setCell (p := ⟨w.heap.size + 1, 0, none⟩) (by simp) _).setCell (p := ⟨w.heap.size + 1, 1, none⟩) (by simp) _
    · skip
      have R3 := hide (R3b.out.alloc (.cells #[.int .i64 q.1, .int .i64 q.2] 28))
      have r0 := R3.out.cell 0
      have r1 := R3.out.cell 1
      have f0 := R3.out.frozen 0
      have f1 := R3.out.frozen 1
      simp at r0 r1
      have B4 := hide (B3.out.alloc B3.out.size (.cells #[.int .i64 q.1, .int .i64 q.2] 28))
      go_wp2_with fail
      refine bodyPost_ret (v := .tuple #[.agg #[.int .i64 q.1, .int .i64 q.2], .int .i64 (opW q.1 + 1), .bool true]) (by simp [results, Try.results92, go_sem, r0, r1]) rfl ⟨?_, ?_⟩
      · rw [HF.out]; rfl
      · exact (B4.out.setCell (p := ⟨w.heap.size + 1, 0, none⟩) (by simp) _).setCell (p := ⟨w.heap.size + 1, 1, none⟩) (by simp) _
set_option maxHeartbeats 4000000 in
theorem s_fetchOp (x : Sp) (A B C : Option Addr) (a b c : Nat) (addr : Int) (w : World) (hn : spTot x ≤ 1048576) (h : SpIn w x A B C a b c) (hs : SpSz x) :
    Calls Try.prog 40 #[.agg #[.slice A x.1.length a, .slice B x.2.1.length b, .slice C x.2.2.length c], .int .i64 addr] w fun e w' =>
      e = .returned (decV (fetF x (spLoc x addr))) ∧ Below w.heap.size w w' := by
  have HT := hide hn
  have HS := hide hs
  obtain ⟨im, bs, en⟩ := x
  have BA := hide (((Below.refl w.heap.size w).alloc (Nat.le_refl _) (.cells #[.slice A im.length a, .slice B bs.length b, .slice C en.length c] 58)).alloc (by simp) (.cells #[.int .i64 0, .int .i64 0] 28))
  have H := hide (h.below BA.out)
  have K := hide ((Blk.new w 58 #[.slice A im.length a, .slice B bs.length b, .slice C en.length c]).alloc (.cells #[.int .i64 0, .int .i64 0] 28))
  have R : Hid (Blk ((w.alloc (.cells #[.slice A im.length a, .slice B bs.length b, .slice C en.length c] 58)).alloc (.cells #[.int .i64 0, .int .i64 0] 28)) (w.heap.size + 1) 28 #[.int .i64 0, .int .i64 0]) := by show Blk _ _ _ _; have := Blk.new (w.alloc (.cells #[.slice A im.length a, .slice B bs.length b, .slice C en.length c] 58)) 28 #[.int .i64 0, .int .i64 0]; simpa using this
  simp only at ⊢
  clear h hs hn
  have hE := spLoc.eq_1 (im, bs, en) addr
  cases hok : spOkF (im, bs, en)
  · have HOK := hide hok
    have HD : Hid (decV (fetF (im, bs, en) (spLoc (im, bs, en) addr)) = .tuple #[.agg #[.int .i64 0, .int .i64 0], .int .i64 0, .bool false]) := by show _ = _; rw [hE, hok]; rfl
    clear hok hE
    go_enter Try.func40, Try.ntmps40
    go_wp2_with fail
    refine (s_spaceOk (im, bs, en) A B C a b c _ HT.out H.out HS.out).mono ?_
    rintro e w2 ⟨rfl, hb⟩
    rw [HOK.out]
    have B2 := hide (BA.out.trans (hb.mono BA.out.size))
    have R2 := hide (R.out.below hb (by simp))
    have r0 := R2.out.cell 0
    have r1 := R2.out.cell 1
    have f0 := R2.out.frozen 0
    have f1 := R2.out.frozen 1
    simp at r0 r1
    clear hb
    go_wp2_with fail
    refine bodyPost_ret (v := .tuple #[.agg #[.int .i64 0, .int .i64 0], .int .i64 0, .bool false]) (by simp [results, Try.results40, go_sem, r0, r1]) rfl ⟨?_, ?_⟩
    · exact ret_val HD.out.symm
    · exact (B2.out.setCell (p := ⟨w.heap.size + 1, 0, none⟩) (by simp) _).setCell (p := ⟨w.heap.size + 1, 1, none⟩) (by simp) _
  · have HOK := hide hok
    have HF : Hid (fetF (im, bs, en) (lct addr im bs 0) = fetF (im, bs, en) (spLoc (im, bs, en) addr)) := by show _ = _; rw [hE, hok]; rfl
    clear hok hE
    rcases hdec : fetF (im, bs, en) (lct addr im bs 0) with _ | q
    all_goals
      have HDEC := hide hdec
      rw [hdec] at HF
      clear hdec
      go_enter Try.func40, Try.ntmps40
      go_wp2_with fail
      refine (s_spaceOk (im, bs, en) A B C a b c _ HT.out H.out HS.out).mono ?_
      rintro e w2 ⟨rfl, hb⟩
      rw [HOK.out]
      have hz := hb.size
      simp at hz
      have B2 := hide (BA.out.trans (hb.mono BA.out.size))
      have R2 := hide (R.out.below hb (by simp))
      have K2 := hide (K.out.below hb (by simp; omega))
      have H2 := hide (H.out.below hb)
      have k0 := K2.out.cell 0
      have k1 := K2.out.cell 1
      have k2 := K2.out.cell 2
      simp at k0 k1 k2
      clear hb
      go_wp2_with fail
      refine (s_l10Fetch (im, bs, en) A B C a b c addr _ HT.out H2.out (spOk_num HOK.out).1).mono ?_
      rintro e w3 ⟨rfl, hb⟩
      rw [show fetF (im, bs, en) (lct addr (im, bs, en).1 (im, bs, en).2.1 0) = _ from HDEC.out]
      simp only [decV]
      have hz3 := hb.size
      have B3 := hide (B2.out.trans (hb.mono B2.out.size))
      have hne : w3.heap.size ≠ w.heap.size + 1 := by omega
      have hne2 : w.heap.size + 1 ≠ w3.heap.size := by omega
      have R3b := hide (R2.out.below hb (by omega))
      clear hb k0 k1 k2
    · skip
      have R3 := hide (R3b.out.alloc (.cells #[.int .i64 0, .int .i64 0] 28))
      have r0 := R3.out.cell 0
      have r1 := R3.out.cell 1
      have f0 := R3.out.frozen 0
      have f1 := R3.out.frozen 1
      simp at r0 r1
      have B4 := hide (B3.out.alloc B3.out.size (.cells #[.int .i64 0, .int .i64 0] 28))
      go_wp2_with fail
      refine bodyPost_ret (v := .tuple #[.agg #[.int .i64 0, .int .i64 0], .int .i64 0, .bool false]) (by simp [results, Try.results40, go_sem, r0, r1]) rfl ⟨?_, ?_⟩
      · rw [← HF.out]; rfl
      · exact (B4.out.setCell (p := ⟨w.heap.size + 1, 0, none⟩) (by simp) _).setCell (p := ⟨w.heap.size + 1, 1, none⟩) (by simp) _
    · skip
      have R3 := hide (R3b.out.alloc (.cells #[.int .i64 q.1, .int .i64 q.2] 28))
      have r0 := R3.out.cell 0
      have r1 := R3.out.cell 1
      have f0 := R3.out.frozen 0
      have f1 := R3.out.frozen 1
      simp at r0 r1
      have B4 := hide (B3.out.alloc B3.out.size (.cells #[.int .i64 q.1, .int .i64 q.2] 28))
      go_wp2_with fail
      refine bodyPost_ret (v := .tuple #[.agg #[.int .i64 q.1, .int .i64 q.2], .int .i64 (opW q.1 + 1), .bool true]) (by simp [results, Try.results40, go_sem, r0, r1]) rfl ⟨?_, ?_⟩
      · rw [← HF.out]; rfl
      · exact (B4.out.setCell (p := ⟨w.heap.size + 1, 0, none⟩) (by simp) _).setCell (p := ⟨w.heap.size + 1, 1, none⟩) (by simp) _
end Go.Proofs.Ythhlimbaoenkkaa
