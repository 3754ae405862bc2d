import Derived.Test.YthhlimbaoenkkaaSpcD
namespace Go.Proofs.Ythhlimbaoenkkaa
open Go Go.RowKit
set_option maxRecDepth 100000
set_option linter.unusedVariables false
/-! FunctionAt. (printed by gen_loc.py) -/
def posF (s : Int) : List Int → Nat → Int
  | [], _ => -1
  | e :: l, k => if e = s then (k : Int) else posF s l (k + 1)
theorem posF_at (s : Int) (l : List Int) (m : Nat) (h : m < l.length) : posF s (l.drop m) m = if l[m] = s then (m : Int) else posF s (l.drop (m + 1)) (m + 1) := by
  rw [List.drop_eq_getElem_cons h, posF]
theorem posF_out (s : Int) (l : List Int) (m : Nat) (h : l.length ≤ m) : posF s (l.drop m) m = -1 := by rw [List.drop_of_length_le h]; rfl
def fnAt2 (L : List Sy) (base off : Int) (en : List Int) : Int := if symF L off < 0 then -1 else posF (base + (L.getD (symF L off).toNat (ByteArray.empty, 0, 0)).2.1) en 0
noncomputable def fnAtF (x : Sp) (addr : Int) : Int := if (spLoc x addr).1 < 0 then -1 else fnAt2 (x.1.getD (spLoc x addr).1.toNat (ByteArray.empty, [])).2 (x.2.1.getD (spLoc x addr).1.toNat 0) (spLoc x addr).2 x.2.2
theorem fnAt_none {x : Sp} {addr : Int} (h : spLoc x addr = (-1, -1)) : fnAtF x addr = -1 := by unfold fnAtF; rw [h]; rfl
theorem fnAt_in {x : Sp} {addr o : Int} {k : Nat} (h : spLoc x addr = ((k : Int), o)) (h1 : k < x.1.length) (h2 : k < x.2.1.length) : fnAtF x addr = fnAt2 x.1[k].2 x.2.1[k] o x.2.2 := by
  unfold fnAtF
  rw [h, if_neg (by show ¬ ((k : Int) < 0); omega)]
  simp [List.getD_eq_getElem?_getD, h1, h2]
theorem sym_cases (L : List Sy) (off : Int) : symF L off = -1 ∨ ∃ (n : Nat) (h : n < L.length), symF L off = (n : Int) := by
  rcases symFrom_ge off L 0 with h | ⟨h1, h2⟩
  · exact .inl h
  · refine .inr ⟨(symF L off).toNat, ?_, ?_⟩ <;> (unfold symF; omega)
theorem fnAt2_neg {L : List Sy} {base off : Int} (en : List Int) (h : symF L off = -1) : fnAt2 L base off en = -1 := by unfold fnAt2; rw [h]; rfl
theorem fnAt2_in {L : List Sy} {base off : Int} (en : List Int) {n : Nat} (hn : n < L.length) (h : symF L off = (n : Int)) : fnAt2 L base off en = posF (base + L[n].2.1) en 0 := by
  unfold fnAt2
  rw [h, if_neg (by omega)]
  simp [List.getD_eq_getElem?_getD, hn]
set_option maxHeartbeats 4000000 in
theorem i_functionAt (x : Sp) (A B C : Option Addr) (a b c : Nat) (addr : Int) (w : World) (hn : spTot x ≤ 1048576) (h : SpIn w x A B C a b c) (hs : SpSz x) :
    Calls Try.prog 44 #[.agg #[.slice A x.1.length a, .slice B x.2.1.length b, .slice C x.2.2.length c], .int .i64 addr] w fun e w' =>
      e = .returned (.int .i64 (fnAtF x addr)) ∧ Below w.heap.size w w' := by
  have HT := hide hn
  have HS := hide hs
  obtain ⟨im, bs, en⟩ := x
  have BA := hide ((Below.refl w.heap.size w).alloc (Nat.le_refl _) (.cells #[.slice A im.length a, .slice B bs.length b, .slice C en.length c] 58))
  have H := hide (h.below BA.out)
  have K := hide (Blk.new w 58 #[.slice A im.length a, .slice B bs.length b, .slice C en.length c])
  simp only at ⊢
  have hle : (en.length : Int) ≤ 1048576 := by have := hn; unfold spTot at this; simp only at this; omega
  clear h hs hn
  rcases (show _ ∨ ∃ (k : Nat) (h1 : k < im.length) (h2 : k < bs.length), spLoc (im, bs, en) addr = ((k : Int), addr - bs[k]) ∧ (bs[k] ≤ addr ∧ addr < bs[k] + (im[k].1.size : Int)) ∧ SpNum (im, bs, en) ∧ SymNum (im, bs, en) from spLoc_cases (im, bs, en) addr) with hl | ⟨k, hk1, hk2, hl, _, hnum, hsym⟩
  · have HL := hide hl
    have HD := hide (fnAt_none hl)
    clear hl
    go_enter Try.func44, Try.ntmps44
    go_wp2_with fail
    refine (i_Loc (im, bs, en) A B C a b c addr _ HT.out H.out HS.out).mono ?_
    rintro e w2 ⟨rfl, hb⟩
    rw [HL.out]
    have B2 := hide (BA.out.trans (hb.mono BA.out.size))
    clear hb
    go_wp2_with fail
    go_ret
    exact ⟨ret_int HD.out.symm, B2.out⟩
  · have HL := hide hl
    have HF := hide (show fnAtF (im, bs, en) addr = fnAt2 im[k].2 bs[k] (addr - bs[k]) en from fnAt_in (x := (im, bs, en)) hl hk1 hk2)
    have hbr : 0 ≤ bs[k] ∧ bs[k] ≤ 1000000 := hnum.2.1 _ (List.getElem_mem hk2)
    have HSM : Hid (∀ t ∈ im[k].2, 0 ≤ t.2.1 ∧ t.2.1 ≤ 1000000) := hsym _ (List.getElem_mem hk1)
    have hsl : im[k].2.length ≤ 1048576 := by have := imTot_mem im _ (List.getElem_mem hk1); have h2 := HT.out; unfold spTot at h2; simp only at h2; omega
    have hkI : (k : Int) < (im.length : Int) := by omega
    have hkB : (k : Int) < (bs.length : Int) := by omega
    have hk0 : ¬ ((k : Int) < 0) := by omega
    clear hl hnum hsym
    rcases sym_cases im[k].2 (addr - bs[k]) with hy | ⟨n, hnl, hy⟩
    all_goals
      have HY := hide hy
      clear hy
      go_enter Try.func44, Try.ntmps44
      go_wp2_with fail
      refine (i_Loc (im, bs, en) A B C a b c addr _ HT.out H.out HS.out).mono ?_
      rintro e w2 ⟨rfl, hb⟩
      rw [HL.out]
      have B2 := hide (BA.out.trans (hb.mono BA.out.size))
      have K2 := hide (K.out.below hb (by simp))
      have H2 := hide (H.out.below hb)
      have hz2 := hb.size
      simp at hz2
      have k0 := K2.out.cell 0
      simp at k0
      obtain ⟨p, o, A1, c1, rfl, hpl, q0, q1, hin⟩ := H2.out.1.at_ k hk1
      simp only at q0 q1
      have HIN := hide hin
      clear hb hin
      go_wp2_with fail
      refine (i_symbolAt im[k] A1 c1 _ _ hsl HIN.out).mono ?_
      rintro e w3 ⟨rfl, hb⟩
      rw [HY.out]
      have B3 := hide (B2.out.trans (hb.mono B2.out.size))
      have K3 := hide (K2.out.below hb (by omega))
      have H3 := hide (H2.out.below hb)
      have hz3 := hb.size
      clear hb k0 q0 q1
      have k0 := K3.out.cell 0
      have k1 := K3.out.cell 1
      have k2 := K3.out.cell 2
      simp at k0 k1 k2
    · have HD := hide (HF.out.trans (fnAt2_neg en HY.out))
      go_wp2_with fail
      go_ret
      exact ⟨ret_int HD.out.symm, B3.out⟩
    · have HD := hide (HF.out.trans (fnAt2_in en hnl HY.out))
      have hyr := HSM.out _ (List.getElem_mem hnl)
      have hnI : (n : Int) < (im[k].2.length : Int) := by omega
      have hn0 : ¬ ((n : Int) < 0) := by omega
      have w1 : IntKind.i64.wrap (bs[k] + im[k].2[n].2.1) = bs[k] + im[k].2[n].2.1 := IntWalk.i64_in _ (by omega)
      go_wp2_with fail
      go_loopw [30] (fun i wr => ∃ m : Nat, m ≤ en.length ∧ i = .int .i64 m ∧ posF (bs[k] + im[k].2[n].2.1) en 0 = posF (bs[k] + im[k].2[n].2.1) (en.drop m) m ∧ Below w3.heap.size w3 wr) (fun i _ => en.length - (intOf i).toNat)
      case atStart => exact ⟨0, Nat.zero_le _, rfl, rfl, Below.refl _ _⟩
      case round =>
        obtain ⟨m, hm, rfl, he, hb⟩ := hrel
        have HE := hide he
        have HB := hide hb
        have R := hide (H3.out.below hb)
        have KR := hide (K3.out.below hb (by omega))
        have BW := hide (B3.out.trans (hb.mono B3.out.size))
        clear he hb k0 k1 k2
        have k0 := KR.out.cell 0
        have k1 := KR.out.cell 1
        have k2 := KR.out.cell 2
        simp at k0 k1 k2
        by_cases hlt : m < en.length
        · have hltI : (m : Int) < (en.length : Int) := by omega
          have HS2 := hide (posF_at (bs[k] + im[k].2[n].2.1) en m hlt)
          obtain ⟨pe, oe, rfl, hpe, e0⟩ := R.out.2.2.1.int m hlt
          simp only at e0
          obtain ⟨p_, o_, A1, c1, e_, hpl, q0, q1, hin⟩ := R.out.1.at_ k hk1
          cases e_
          obtain ⟨p1, o1, rfl, hp1, q2⟩ := R.out.2.1.int k hk2
          obtain ⟨ps, os, rfl, hps, s0, s1, s2⟩ := hin.1.sym n hnl
          simp only at q0 q1 q2
          clear hin
          by_cases heq : en[m] = bs[k] + im[k].2[n].2.1
          · have d1 : (en[m] == bs[k] + im[k].2[n].2.1) = true := by simpa using heq
            have HN : Hid (fnAtF (im, bs, en) addr = (m : Int)) := by show _ = _; rw [HD.out, HE.out, HS2.out, if_pos heq]
            clear heq
            go_wp2_with fail
            go_quiet (fail)
            go_wp2_with fail
            go_ret
            exact ⟨ret_int HN.out.symm, below_drewN BW.out _⟩
          · have d1 : (en[m] == bs[k] + im[k].2[n].2.1) = false := by simpa using heq
            have HN : Hid (posF (bs[k] + im[k].2[n].2.1) en 0 = posF (bs[k] + im[k].2[n].2.1) (en.drop (m + 1)) (m + 1)) := by show _ = _; rw [HE.out, HS2.out, if_neg heq]
            clear heq
            go_wp2_with fail
            go_quiet (fail)
            have HBN := hide (below_drewN HB.out nq)
            clear k0 k1 k2 q0 q1 q2 s0 s1 s2 e0
            go_wp2_with fail
            go_roundw
            case rel => exact ⟨m + 1, by omega, by go_num, HN.out, HBN.out⟩
            case measure => simp [intOf]; omega
        · have HN : Hid (fnAtF (im, bs, en) addr = -1) := by show _ = _; rw [HD.out, HE.out, posF_out _ _ _ (by omega)]
          go_wp2_with fail
          go_ret
          exact ⟨ret_int HN.out.symm, BW.out⟩
set_option maxHeartbeats 4000000 in
theorem s_functionAt (x : Sp) (A B C : Option Addr) (a b c : Nat) (addr : Int) (w : World) (hn : spTot x ≤ 1048576) (h : SpIn w x A B C a b c) (hs : SpSz x) :
    Calls Try.prog 43 #[.agg #[.slice A x.1.length a, .slice B x.2.1.length b, .slice C x.2.2.length c], .int .i64 addr] w fun e w' =>
      e = .returned (.int .i64 (fnAtF x addr)) ∧ Below w.heap.size w w' := by
  have HT := hide hn
  have HS := hide hs
  obtain ⟨im, bs, en⟩ := x
  have BA := hide ((Below.refl w.heap.size w).alloc (Nat.le_refl _) (.cells #[.slice A im.length a, .slice B bs.length b, .slice C en.length c] 58))
  have H := hide (h.below BA.out)
  have K := hide (Blk.new w 58 #[.slice A im.length a, .slice B bs.length b, .slice C en.length c])
  simp only at ⊢
  have hle : (en.length : Int) ≤ 1048576 := by have := hn; unfold spTot at this; simp only at this; omega
  clear h hs hn
  rcases (show _ ∨ ∃ (k : Nat) (h1 : k < im.length) (h2 : k < bs.length), spLoc (im, bs, en) addr = ((k : Int), addr - bs[k]) ∧ (bs[k] ≤ addr ∧ addr < bs[k] + (im[k].1.size : Int)) ∧ SpNum (im, bs, en) ∧ SymNum (im, bs, en) from spLoc_cases (im, bs, en) addr) with hl | ⟨k, hk1, hk2, hl, _, hnum, hsym⟩
  · have HL := hide hl
    have HD := hide (fnAt_none hl)
    clear hl
    go_enter Try.func43, Try.ntmps43
    go_wp2_with fail
    refine (s_Loc (im, bs, en) A B C a b c addr _ HT.out H.out HS.out).mono ?_
    rintro e w2 ⟨rfl, hb⟩
    rw [HL.out]
    have B2 := hide (BA.out.trans (hb.mono BA.out.size))
    clear hb
    go_wp2_with fail
    go_ret
    exact ⟨ret_int HD.out.symm, B2.out⟩
  · have HL := hide hl
    have HF := hide (show fnAtF (im, bs, en) addr = fnAt2 im[k].2 bs[k] (addr - bs[k]) en from fnAt_in (x := (im, bs, en)) hl hk1 hk2)
    have hbr : 0 ≤ bs[k] ∧ bs[k] ≤ 1000000 := hnum.2.1 _ (List.getElem_mem hk2)
    have HSM : Hid (∀ t ∈ im[k].2, 0 ≤ t.2.1 ∧ t.2.1 ≤ 1000000) := hsym _ (List.getElem_mem hk1)
    have hsl : im[k].2.length ≤ 1048576 := by have := imTot_mem im _ (List.getElem_mem hk1); have h2 := HT.out; unfold spTot at h2; simp only at h2; omega
    have hkI : (k : Int) < (im.length : Int) := by omega
    have hkB : (k : Int) < (bs.length : Int) := by omega
    have hk0 : ¬ ((k : Int) < 0) := by omega
    clear hl hnum hsym
    rcases sym_cases im[k].2 (addr - bs[k]) with hy | ⟨n, hnl, hy⟩
    all_goals
      have HY := hide hy
      clear hy
      go_enter Try.func43, Try.ntmps43
      go_wp2_with fail
      refine (s_Loc (im, bs, en) A B C a b c addr _ HT.out H.out HS.out).mono ?_
      rintro e w2 ⟨rfl, hb⟩
      rw [HL.out]
      have B2 := hide (BA.out.trans (hb.mono BA.out.size))
      have K2 := hide (K.out.below hb (by simp))
      have H2 := hide (H.out.below hb)
      have hz2 := hb.size
      simp at hz2
      have k0 := K2.out.cell 0
      simp at k0
      obtain ⟨p, o, A1, c1, rfl, hpl, q0, q1, hin⟩ := H2.out.1.at_ k hk1
      simp only at q0 q1
      have HIN := hide hin
      clear hb hin
      go_wp2_with fail
      refine (s_symbolAt im[k] A1 c1 _ _ hsl HIN.out).mono ?_
      rintro e w3 ⟨rfl, hb⟩
      rw [HY.out]
      have B3 := hide (B2.out.trans (hb.mono B2.out.size))
      have K3 := hide (K2.out.below hb (by omega))
      have H3 := hide (H2.out.below hb)
      have hz3 := hb.size
      clear hb k0 q0 q1
      have k0 := K3.out.cell 0
      have k1 := K3.out.cell 1
      have k2 := K3.out.cell 2
      simp at k0 k1 k2
    · have HD := hide (HF.out.trans (fnAt2_neg en HY.out))
      go_wp2_with fail
      go_ret
      exact ⟨ret_int HD.out.symm, B3.out⟩
    · have HD := hide (HF.out.trans (fnAt2_in en hnl HY.out))
      have hyr := HSM.out _ (List.getElem_mem hnl)
      have hnI : (n : Int) < (im[k].2.length : Int) := by omega
      have hn0 : ¬ ((n : Int) < 0) := by omega
      have w1 : IntKind.i64.wrap (bs[k] + im[k].2[n].2.1) = bs[k] + im[k].2[n].2.1 := IntWalk.i64_in _ (by omega)
      obtain ⟨p_, o_, A1, c1, e_, hpl, q0, q1, hin⟩ := H3.out.1.at_ k hk1
      cases e_
      obtain ⟨p1, o1, rfl, hp1, q2⟩ := H3.out.2.1.int k hk2
      obtain ⟨ps, os, rfl, hps, s0, s1, s2⟩ := hin.1.sym n hnl
      simp only at q0 q1 q2
      clear hin
      go_wp2_with fail
      go_quiet (fail)
      clear q0 q1 q2 s0 s1 s2 k0 k1 k2
      have B3d := hide (below_drewN (Below.refl w3.heap.size w3) nq)
      go_wp2_with fail
      go_loopw [9] (fun i wr => ∃ m : Nat, m ≤ en.length ∧ i = .int .i64 m ∧ posF (bs[k] + im[k].2[n].2.1) en 0 = posF (bs[k] + im[k].2[n].2.1) (en.drop m) m ∧ Below w3.heap.size w3 wr) (fun i _ => en.length - (intOf i).toNat)
      case atStart => exact ⟨0, Nat.zero_le _, rfl, rfl, B3d.out⟩
      case round =>
        obtain ⟨m, hm, rfl, he, hb⟩ := hrel
        have HE := hide he
        have HB := hide hb
        have R := hide (H3.out.below hb)
        have KR := hide (K3.out.below hb (by omega))
        have BW := hide (B3.out.trans (hb.mono B3.out.size))
        clear he hb
        have k0 := KR.out.cell 0
        have k1 := KR.out.cell 1
        have k2 := KR.out.cell 2
        simp at k0 k1 k2
        by_cases hlt : m < en.length
        · have hltI : (m : Int) < (en.length : Int) := by omega
          have HS2 := hide (posF_at (bs[k] + im[k].2[n].2.1) en m hlt)
          obtain ⟨pe, oe, rfl, hpe, e0⟩ := R.out.2.2.1.int m hlt
          simp only at e0
          by_cases heq : en[m] = bs[k] + im[k].2[n].2.1
          · have d1 : (en[m] == bs[k] + im[k].2[n].2.1) = true := by simpa using heq
            have HN : Hid (fnAtF (im, bs, en) addr = (m : Int)) := by show _ = _; rw [HD.out, HE.out, HS2.out, if_pos heq]
            clear heq
            go_wp2_with fail
            go_ret
            exact ⟨ret_int HN.out.symm, BW.out⟩
          · have d1 : (en[m] == bs[k] + im[k].2[n].2.1) = false := by simpa using heq
            have HN : Hid (posF (bs[k] + im[k].2[n].2.1) en 0 = posF (bs[k] + im[k].2[n].2.1) (en.drop (m + 1)) (m + 1)) := by show _ = _; rw [HE.out, HS2.out, if_neg heq]
            clear heq
            go_wp2_with fail
            have HBN := hide HB.out
            go_roundw
            case rel => exact ⟨m + 1, by omega, by go_num, HN.out, HBN.out⟩
            case measure => simp [intOf]; omega
        · have HN : Hid (fnAtF (im, bs, en) addr = -1) := by show _ = _; rw [HD.out, HE.out, posF_out _ _ _ (by omega)]
          go_wp2_with fail
          go_ret
          exact ⟨ret_int HN.out.symm, BW.out⟩
end Go.Proofs.Ythhlimbaoenkkaa
