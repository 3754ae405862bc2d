import Derived.Test.YthhlimbaoenkkaaSpcB
import Derived.Deep.RegionHeld3
import Derived.Deep.CutRange
import Derived.Deep.CutBlock
namespace Go.Proofs.Ythhlimbaoenkkaa
open Go Go.RowKit
set_option maxRecDepth 100000
set_option linter.unusedVariables false
set_option maxHeartbeats 4000000 in
theorem s_spaceOk (x : Sp) (A B C : Option Addr) (a b c : Nat) (w : World) (hn : spTot x ≤ 1048576) (h : SpIn w x A B C a b c) (hs : SpSz x) :
    Calls Try.prog 34 #[.agg #[.slice A x.1.length a, .slice B x.2.1.length b, .slice C x.2.2.length c]] w fun e w' =>
      e = .returned (.bool (spOkF x)) ∧ Below w.heap.size w w' := by
  obtain ⟨im, bs, en⟩ := x
  have hnT := hn
  have hsp := h
  unfold spTot at hn
  unfold SpSz at hs
  simp only at hn h hs ⊢
  have H := hide (h.below ((Below.refl _ _).alloc (Nat.le_refl _) (.cells #[.slice A im.length a, .slice B bs.length b, .slice C en.length c] 58)))
  have K := hide (Blk.new w 58 #[.slice A im.length a, .slice B bs.length b, .slice C en.length c])
  have B0 := hide ((Below.refl w.heap.size w).alloc (Nat.le_refl _) (.cells #[.slice A im.length a, .slice B bs.length b, .slice C en.length c] 58))
  have HS := hide hs
  have HT := hide hnT
  have hlen : (im.length : Int) ≤ 1048576 ∧ (bs.length : Int) ≤ 1048576 ∧ (en.length : Int) ≤ 1048576 := by omega
  obtain ⟨hl1, hl2, hl3⟩ := hlen
  have htot : Hid (∀ y ∈ im, y.1.size + y.2.length ≤ 1048576) := fun y hy => by have := imTot_mem im y hy; omega
  clear h hs hsp hnT hn
  by_cases g1 : im.length = 2
  · by_cases g2 : bs.length = 2
    · by_cases g3 : 1 ≤ en.length ∧ en.length ≤ 6
      · have hbt : btw (en.length : Int) 1 6 = true := decide_eq_true (by omega)
        have z1 : ((im.length : Int) != 2) = false := by rw [g1]; rfl
        have z2 : ((bs.length : Int) != 2) = false := by rw [g2]; rfl
        have G1 := hide g1
        have G2 := hide g2
        have G3 := hide g3
        clear g1 g2 g3
        go_enter Try.func34, Try.ntmps34
        go_wp2_with (go_at_call 81; refine (s_l01In _ _ _ _).mono ?_; rintro e w' ⟨rfl, rfl⟩)
        go_loopw [3] (fun i wr => ∃ k : Nat, k ≤ 2 ∧ i = .int .i64 k ∧ spGood im bs k ∧ Below (w.heap.size + 1) (w.alloc (.cells #[.slice A im.length a, .slice B bs.length b, .slice C en.length c] 58)) wr) (fun i _ => 2 - (intOf i).toNat)
        case atStart => exact ⟨0, Nat.zero_le _, rfl, spGood_zero _ _, Below.refl _ _⟩
        case round =>
          obtain ⟨k, hk, rfl, hgd, hb⟩ := hrel
          have HG := hide hgd
          have HB := hide hb
          have hz : w.heap.size + 1 ≤ wr.heap.size := by have := hb.size; simpa using this
          have hb' : Below (w.alloc (.cells #[.slice A im.length a, .slice B bs.length b, .slice C en.length c] 58)).heap.size (w.alloc (.cells #[.slice A im.length a, .slice B bs.length b, .slice C en.length c] 58)) wr := by simpa using hb
          have R := hide (H.out.below hb')
          have KR := hide (K.out.below hb (by omega))
          have BW := hide (show Below w.heap.size w wr from ((Below.refl _ _).alloc (Nat.le_refl _) _).trans (hb.mono (by omega)))
          clear hb hb'
          clear hgd
          have k0 := KR.out.cell 0
          have k1 := KR.out.cell 1
          have k2 := KR.out.cell 2
          simp at k0 k1 k2
          by_cases hlt : k < 2
          · have hki : k < im.length := by rw [G1.out]; exact hlt
            have hkb : k < bs.length := by rw [G2.out]; exact hlt
            obtain ⟨p, o, A1, c1, rfl, hpl, q0, q1, hin⟩ := R.out.1.at_ k hki
            obtain ⟨p', o', rfl, hpl', q2⟩ := R.out.2.1.int k hkb
            have HIN := hide hin
            have hsz := hide (HS.out _ (List.getElem_mem hki))
            have hto := htot.out _ (List.getElem_mem hki)
            clear hin
            cases hok : imgOkF im[k]
            · have HN := hide (spOk_not_good (x := (im, bs, en)) hlt hki hkb (fun hq => by have := hq.1; simp only at this; rw [hok] at this; cases this))
              have HOK := hide hok
              clear hok
              go_wp2_with fail
              refine (s_imageOk im[k] A1 c1 _ hto HIN.out hsz.out).mono ?_
              rintro e w2 ⟨rfl, hb2⟩
              rw [HOK.out]
              go_wp2_with fail
              go_ret
              exact ⟨ret_bool HN.out.symm, BW.out.trans (hb2.mono BW.out.size)⟩
            · have HOK := hide hok
              clear hok
              cases hbt2 : btw bs[k] 1 1000000
              all_goals
                go_wp2_with fail
                refine (s_imageOk im[k] A1 c1 _ hto HIN.out hsz.out).mono ?_
                rintro e w2 ⟨rfl, hb2⟩
                rw [HOK.out]
                have B2 := hide (BW.out.trans (hb2.mono BW.out.size))
                have HB2 := hide (HB.out.trans (hb2.mono hz))
                have K2 := hide (KR.out.below hb2 (by omega))
                have e1 := K2.out.cell 1
                simp at e1
                have q3 := (hb2.cell (p := ⟨p', o' + k, none⟩) hpl').trans q2
                clear hb2 q0 q1 q2 k0 k1 k2
                go_wp2_with (go_at_call 81; refine (s_l01In _ _ _ _).mono ?_; rintro e w' ⟨rfl, rfl⟩)
              · have HN := hide (spOk_not_good (x := (im, bs, en)) hlt hki hkb (fun hq => by have := hq.2; simp only at this; rw [hbt2] at this; cases this))
                go_ret
                exact ⟨ret_bool HN.out.symm, B2.out⟩
              · have HGN := hide (spGood_succ hki hkb HG.out HOK.out hbt2)
                go_roundw
                case rel => exact ⟨k + 1, by omega, by go_num, HGN.out, HB2.out⟩
                case measure => simp [intOf]; omega
          · have hk2 : k = 2 := by omega
            subst hk2
            have hzi : 0 < im.length := by rw [G1.out]; omega
            have hoi : 1 < im.length := by rw [G1.out]; omega
            have hzb : 0 < bs.length := by rw [G2.out]; omega
            have hob : 1 < bs.length := by rw [G2.out]; omega
            obtain ⟨HNUM, HSYM⟩ : Hid (SpNum (im, bs, en)) ∧ Hid (SymNum (im, bs, en)) := spGood_num G1.out G2.out HG.out
            obtain ⟨p, o, A1, c1, rfl, hpl, q0, _, _⟩ := R.out.1.at_ 0 hzi
            obtain ⟨p2, o2, A2, c2, e2, hpl2, q1, _, _⟩ := R.out.1.at_ 1 hoi
            cases e2
            obtain ⟨p', o', rfl, hpl', r0⟩ := R.out.2.1.int 0 hzb
            obtain ⟨p3, o3, e3, _, r1⟩ := R.out.2.1.int 1 hob
            cases e3
            simp only [Nat.zero_mul, Nat.add_zero, Nat.one_mul] at q0 q1 r0 r1
            have b0 := HNUM.out.2.1 _ (List.getElem_mem hzb)
            have b1 := HNUM.out.2.1 _ (List.getElem_mem hob)
            have s0 := HNUM.out.2.2 _ (List.getElem_mem hzi)
            have s1 := HNUM.out.2.2 _ (List.getElem_mem hoi)
            try simp only at b0 b1 s0 s1
            have HOV := hide (fun hq => spOk_not_ovl (x := (im, bs, en)) G1.out G2.out hq)
            unfold ovl at HOV
            simp only at HOV
            have HNO : Hid (¬ (0 < im[0].1.size ∧ 0 < im[1].1.size ∧ bs[0] < bs[1] + (im[1].1.size : Int) ∧ bs[1] < bs[0] + (im[0].1.size : Int)) → (∀ e ∈ en, isEnt (im, bs, en) e) → spOkF (im, bs, en) = true) := fun h1 h2 => yes_of ⟨G1.out, G2.out, G3.out, HG.out, h1, h2⟩
            have HENT : Hid (¬ (0 < im[0].1.size ∧ 0 < im[1].1.size ∧ bs[0] < bs[1] + (im[1].1.size : Int) ∧ bs[1] < bs[0] + (im[0].1.size : Int)) → ∀ e, isEnt (im, bs, en) e → ∃ (k : Nat) (g1 : k < im.length) (g2 : k < bs.length) (n : Nat) (hn : n < im[k].2.length), lct e im bs 0 = ((k : Int), e - bs[k]) ∧ symF im[k].2 (e - bs[k]) = n ∧ im[k].2[n].2.1 = e - bs[k]) := fun h1 e he => ent_lct G1.out G2.out HG.out h1 he
            generalize im[0].1 = code0 at *
            generalize im[1].1 = code1 at *
            generalize bs[0] = base0 at *
            generalize bs[1] = base1 at *
            have k0 := KR.out.cell 0
            have k1 := KR.out.cell 1
            have k2 := KR.out.cell 2
            simp at k0 k1 k2
            have hzI : (0 : Int) < (im.length : Int) := by omega
            have hoI : (1 : Int) < (im.length : Int) := by omega
            have hzbI : (0 : Int) < (bs.length : Int) := by omega
            have hobI : (1 : Int) < (bs.length : Int) := by omega
            have w1 : IntKind.i64.wrap (base1 + (code1.size : Int)) = base1 + (code1.size : Int) := IntWalk.i64_in _ (by omega)
            have w2 : IntKind.i64.wrap (base0 + (code0.size : Int)) = base0 + (code0.size : Int) := IntWalk.i64_in _ (by omega)
            go_wp2_with fail
            by_cases hov : 0 < code0.size ∧ 0 < code1.size ∧ base0 < base1 + (code1.size : Int) ∧ base1 < base0 + (code0.size : Int)
            · obtain ⟨h1, h2, h3, h4⟩ := hov
              have HN := hide (HOV.out ⟨h1, h2, h3, h4⟩)
              have d1 : decide (0 < code0.size) = true := decide_eq_true h1
              have d2 : decide (0 < code1.size) = true := decide_eq_true h2
              have d3 : decide (base0 < base1 + (code1.size : Int)) = true := decide_eq_true h3
              have d4 : decide (base1 < base0 + (code0.size : Int)) = true := decide_eq_true h4
              go_wp2_with fail
              go_quiet (fail)
              go_wp2_with fail
              go_ret
              exact ⟨ret_bool HN.out.symm, below_drewN BW.out _⟩
            · have HNF := hide (HNO.out hov)
              have HENT2 := hide (HENT.out hov)
              go_upto_region 10 with fail
              go_cut [90] from 59 to 90 (fun s90 wx => s90 = .bool false ∧ ∃ n, wx = wr.drewN n)
              case first =>
                by_cases h1 : 0 < code0.size
                · have d1 : decide (0 < code0.size) = true := decide_eq_true h1
                  by_cases h2 : 0 < code1.size
                  · have d2 : decide (0 < code1.size) = true := decide_eq_true h2
                    by_cases h3 : base0 < base1 + (code1.size : Int)
                    · have d3 : decide (base0 < base1 + (code1.size : Int)) = true := decide_eq_true h3
                      have d4 : decide (base1 < base0 + (code0.size : Int)) = false := decide_eq_false (fun h4 => hov ⟨h1, h2, h3, h4⟩)
                      go_quiet (fail)
                      go_wp2_with fail
                      go_meet
                      exact ⟨rfl, _, rfl⟩
                    · have d3 : decide (base0 < base1 + (code1.size : Int)) = false := decide_eq_false h3
                      go_quiet (fail)
                      go_wp2_with fail
                      go_meet
                      exact ⟨rfl, _, rfl⟩
                  · have d2 : decide (0 < code1.size) = false := decide_eq_false h2
                    go_quiet (fail)
                    go_wp2_with fail
                    go_meet
                    exact ⟨rfl, _, rfl⟩
                · have d1 : decide (0 < code0.size) = false := decide_eq_false h1
                  go_quiet (fail)
                  go_wp2_with fail
                  go_meet
                  exact ⟨rfl, _, rfl⟩
              case rest =>
                obtain ⟨rfl, n, rfl⟩ := hcut
                have HB1 := hide (below_drewN HB.out n)
                clear q0 q1 r0 r1 k0 k1 k2 w1 w2 HB R KR BW hov
                go_wp2_with fail
                go_loopw [6] (fun i wi => ∃ j : Nat, j ≤ en.length ∧ i = .int .i64 j ∧ (∀ e ∈ en.take j, isEnt (im, bs, en) e) ∧ Below (w.heap.size + 1) (w.alloc (.cells #[.slice (some ⟨p, o, none⟩) im.length a, .slice (some ⟨p', o', none⟩) bs.length b, .slice C en.length c] 58)) wi) (fun i _ => en.length - (intOf i).toNat)
                case atStart => exact ⟨0, Nat.zero_le _, rfl, (fun e he => by simp at he), HB1.out⟩
                case round =>
                  obtain ⟨j, hj, rfl, hen, hb⟩ := hrel
                  have HEN := hide hen
                  clear hen HB1
                  have HB := hide hb
                  have hz : w.heap.size + 1 ≤ wr.heap.size := by have := hb.size; simpa using this
                  have hb' : Below (w.alloc (.cells #[.slice (some ⟨p, o, none⟩) im.length a, .slice (some ⟨p', o', none⟩) bs.length b, .slice C en.length c] 58)).heap.size (w.alloc (.cells #[.slice (some ⟨p, o, none⟩) im.length a, .slice (some ⟨p', o', none⟩) bs.length b, .slice C en.length c] 58)) wr := by simpa using hb
                  have R := hide (H.out.below hb')
                  have KR := hide (K.out.below hb (by omega))
                  have BW := hide (show Below w.heap.size w wr from ((Below.refl _ _).alloc (Nat.le_refl _) _).trans (hb.mono (by omega)))
                  clear hb hb'
                  have k0 := KR.out.cell 0
                  have k1 := KR.out.cell 1
                  have k2 := KR.out.cell 2
                  simp at k0 k1 k2
                  by_cases hjt : j < en.length
                  · obtain ⟨pe, oe, rfl, hpe, v0⟩ := R.out.2.2.1.int j hjt
                    have hmem := List.getElem_mem hjt
                    have HIFF := hide (HENT2.out en[j])
                    have HNE := hide (fun h => spOk_not_ent (x := (im, bs, en)) hmem h)
                    have HTK := hide (List.take_succ_eq_append_getElem hjt)
                    have HM := hide hmem
                    clear hmem
                    generalize en[j] = ev at *
                    have hjI : (j : Int) < (en.length : Int) := by omega
                    have hwl : w.heap.size < wr.heap.size := by omega
                    rcases lct_in ev im bs 0 with hl | ⟨kk, hk1, hk2, hl, hr1, hr2⟩
                    · have HN := hide (HNE.out (fun hq => by obtain ⟨k, _, _, _, _, e, _⟩ := HIFF.out hq; rw [hl] at e; injection e with e _; omega))
                      have HCALL : Hid (∀ w', SpIn w' (im, bs, en) (some ⟨p, o, none⟩) (some ⟨p', o', none⟩) (some ⟨pe, oe, none⟩) a b c → Calls Try.prog 83 #[.agg #[.slice (some ⟨p, o, none⟩) im.length a, .slice (some ⟨p', o', none⟩) bs.length b, .slice (some ⟨pe, oe, none⟩) en.length c], .int .i64 ev] w' fun e w'' => e = .returned (.tuple #[.int .i64 (-1), .int .i64 (-1)]) ∧ Below w'.heap.size w' w'') := fun w' h' => by
                        have := s_locate (im, bs, en) _ _ _ a b c ev w' HT.out h' HNUM.out
                        simp only at this
                        rw [hl] at this
                        exact this
                      clear hl
                      go_wp2_with fail
                      go_region_held3 (fun w' => w'.cell? ⟨w.heap.size, 0, none⟩ = some (.slice (some ⟨p, o, none⟩) im.length a) ∧ w'.cell? ⟨w.heap.size, 1, none⟩ = some (.slice (some ⟨p', o', none⟩) bs.length b) ∧ w'.cell? ⟨w.heap.size, 2, none⟩ = some (.slice (some ⟨pe, oe, none⟩) en.length c) ∧ w'.cell? ⟨pe, oe + j, none⟩ = some (.int .i64 ev)) (first | exact ⟨k0, k1, k2, v0⟩ | exact ⟨(Below.cell (B := wr.drew.heap.size) (w := wr.drew) (p := ⟨w.heap.size, 0, none⟩) ‹Below _ _ _› hwl).trans k0, (Below.cell (B := wr.drew.heap.size) (w := wr.drew) (p := ⟨w.heap.size, 1, none⟩) ‹Below _ _ _› hwl).trans k1, (Below.cell (B := wr.drew.heap.size) (w := wr.drew) (p := ⟨w.heap.size, 2, none⟩) ‹Below _ _ _› hwl).trans k2, (Below.cell (B := wr.drew.heap.size) (w := wr.drew) (p := ⟨pe, oe + j, none⟩) ‹Below _ _ _› hpe).trans v0⟩) ((go_at_call 83; refine (HCALL.out _ R.out.drew).mono ?_; rintro e w2 ⟨rfl, hb2⟩))
                      have B2 := hide (BW.out.drew.trans (hb2.mono BW.out.size))
                      clear hb2
                      go_wp2_with fail
                      go_ret
                      exact ⟨ret_bool HN.out.symm, B2.out⟩
                    · rw [Nat.zero_add] at hl
                      have HL := hide hl
                      have hkI : (kk : Int) < (im.length : Int) := by omega
                      have hto := htot.out _ (List.getElem_mem hk1)
                      have hge := symFrom_ge (ev - bs[kk]) im[kk].2 0
                      have HSAME : Hid (isEnt (im, bs, en) ev → ∃ (n : Nat) (hn : n < im[kk].2.length), symF im[kk].2 (ev - bs[kk]) = n ∧ im[kk].2[n].2.1 = ev - bs[kk]) := by
                        show isEnt (im, bs, en) ev → _
                        intro hq
                        obtain ⟨k, g1, g2, n, hn, e1, e2, e3⟩ := HIFF.out hq
                        rw [HL.out] at e1
                        injection e1 with e1 _
                        obtain rfl : kk = k := by omega
                        exact ⟨n, hn, e2, e3⟩
                      have HYES : Hid (∀ (n : Nat) (hn : n < im[kk].2.length), im[kk].2[n].2.1 = ev - bs[kk] → isEnt (im, bs, en) ev) := fun n hn e => ⟨kk, hk1, hk2, _, List.getElem_mem hn, by simp only; omega⟩
                      have HCALL : Hid (∀ w', SpIn w' (im, bs, en) (some ⟨p, o, none⟩) (some ⟨p', o', none⟩) (some ⟨pe, oe, none⟩) a b c → Calls Try.prog 83 #[.agg #[.slice (some ⟨p, o, none⟩) im.length a, .slice (some ⟨p', o', none⟩) bs.length b, .slice (some ⟨pe, oe, none⟩) en.length c], .int .i64 ev] w' fun e w'' => e = .returned (.tuple #[.int .i64 (kk : Int), .int .i64 (ev - bs[kk])]) ∧ Below w'.heap.size w' w'') := fun w' h' => by
                        have := s_locate (im, bs, en) _ _ _ a b c ev w' HT.out h' HNUM.out
                        simp only at this
                        rw [hl] at this
                        exact this
                      clear hl hr1 hr2
                      go_wp2_with fail
                      go_region_held3 (fun w' => w'.cell? ⟨w.heap.size, 0, none⟩ = some (.slice (some ⟨p, o, none⟩) im.length a) ∧ w'.cell? ⟨w.heap.size, 1, none⟩ = some (.slice (some ⟨p', o', none⟩) bs.length b) ∧ w'.cell? ⟨w.heap.size, 2, none⟩ = some (.slice (some ⟨pe, oe, none⟩) en.length c) ∧ w'.cell? ⟨pe, oe + j, none⟩ = some (.int .i64 ev)) (first | exact ⟨k0, k1, k2, v0⟩ | exact ⟨(Below.cell (B := wr.drew.heap.size) (w := wr.drew) (p := ⟨w.heap.size, 0, none⟩) ‹Below _ _ _› hwl).trans k0, (Below.cell (B := wr.drew.heap.size) (w := wr.drew) (p := ⟨w.heap.size, 1, none⟩) ‹Below _ _ _› hwl).trans k1, (Below.cell (B := wr.drew.heap.size) (w := wr.drew) (p := ⟨w.heap.size, 2, none⟩) ‹Below _ _ _› hwl).trans k2, (Below.cell (B := wr.drew.heap.size) (w := wr.drew) (p := ⟨pe, oe + j, none⟩) ‹Below _ _ _› hpe).trans v0⟩) ((go_at_call 83; refine (HCALL.out _ R.out.drew).mono ?_; rintro e w2 ⟨rfl, hb2⟩))
                      have B2 := hide (BW.out.drew.trans (hb2.mono BW.out.size))
                      have HB2 := hide (HB.out.drew.trans (hb2.mono hz))
                      have R2 := hide (R.out.drew.below hb2)
                      have K2 := hide (KR.out.drew.below hb2 (Blk.lt KR.out))
                      have hz2 : w.heap.size + 1 ≤ w2.heap.size := Nat.le_trans hz hb2.size
                      clear hb2 k0 k1 k2 v0
                      obtain ⟨pk, ok, Ak, ck, ek, hpk, t0, t1, hin⟩ := R2.out.1.at_ kk hk1
                      cases ek
                      have f0 := K2.out.cell 0
                      simp at f0
                      have HIN := hide hin
                      clear hin
                      go_wp2_with fail
                      refine (s_symbolAt im[kk] Ak ck (ev - bs[kk]) _ (by omega) HIN.out).mono ?_
                      rintro e w3 ⟨rfl, hb3⟩
                      have B3 := hide (B2.out.trans (hb3.mono B2.out.size))
                      have HB3 := hide (HB2.out.trans (hb3.mono hz2))
                      have K3 := hide (K2.out.below hb3 (Blk.lt K2.out))
                      have IN3 := hide (HIN.out.below hb3)
                      have u0 := (hb3.cell (p := ⟨_, _, none⟩) hpk).trans t0
                      have u1 := (hb3.cell (p := ⟨_, _, none⟩) hpk).trans t1
                      clear hb3 t0 t1 f0 HIN K2 R2
                      have g0 := K3.out.cell 0
                      simp at g0
                      rcases hge with hs | ⟨hs1, hs2⟩
                      · have HN := hide (HNE.out (fun hq => by obtain ⟨n, _, e, _⟩ := HSAME.out hq; unfold symF at e; rw [hs] at e; omega))
                        have HS2 : Hid (symF im[kk].2 (ev - bs[kk]) = -1) := hs
                        rw [HS2.out]
                        clear hs
                        go_wp2_with fail
                        go_ret
                        exact ⟨ret_bool HN.out.symm, B3.out⟩
                      · obtain ⟨m, hm⟩ := Int.eq_ofNat_of_zero_le (show 0 ≤ symF im[kk].2 (ev - bs[kk]) by unfold symF; omega)
                        have hml : m < im[kk].2.length := by unfold symF at hm; omega
                        have HM2 := hide hm
                        rw [HM2.out]
                        clear hs1 hs2 hm
                        obtain ⟨b3, o3', es, _, s0', s1', s2'⟩ := IN3.out.1.sym m hml
                        cases es
                        have hmI : (m : Int) < (im[kk].2.length : Int) := by omega
                        have HSA2 : Hid (isEnt (im, bs, en) ev → im[kk].2[m].2.1 = ev - bs[kk]) := by
                          show isEnt (im, bs, en) ev → _
                          intro hq
                          obtain ⟨n, hn, e, e'⟩ := HSAME.out hq
                          rw [HM2.out] at e
                          obtain rfl : m = n := by omega
                          exact e'
                        have HYE2 := hide (HYES.out m hml)
                        generalize im[kk].2[m].2.1 = sst at *
                        by_cases hst : sst = ev - bs[kk]
                        · have HENS : Hid (∀ e ∈ en.take (j + 1), isEnt (im, bs, en) e) := by
                            show ∀ e ∈ en.take (j + 1), isEnt (im, bs, en) e
                            intro e he
                            rw [HTK.out] at he
                            rcases List.mem_append.1 he with he | he
                            · exact HEN.out e he
                            · rw [List.mem_singleton.1 he]; exact HYE2.out hst
                          have zq : (sst != ev - bs[kk]) = false := by rw [hst]; simp
                          clear hst
                          go_wp2_with fail
                          go_roundw
                          case rel => exact ⟨j + 1, by omega, by go_num, HENS.out, HB3.out⟩
                          case measure => simp [intOf]; omega
                        · have HN := hide (HNE.out (fun hq => hst (HSA2.out hq)))
                          have zq : (sst != ev - bs[kk]) = true := by simpa using hst
                          clear hst
                          go_wp2_with fail
                          go_ret
                          exact ⟨ret_bool HN.out.symm, B3.out⟩
                  · have HN := hide (HNF.out (fun e he => HEN.out e (by rw [List.take_of_length_le (by omega)]; exact he)))
                    go_wp2_with fail
                    go_ret
                    exact ⟨ret_bool HN.out.symm, BW.out⟩
      · have hbt : btw (en.length : Int) 1 6 = false := decide_eq_false (by omega)
        have z1 : ((im.length : Int) != 2) = false := by rw [g1]; rfl
        have z2 : ((bs.length : Int) != 2) = false := by rw [g2]; rfl
        have HN := hide (spOk_not_head (x := (im, bs, en)) (fun hq => g3 hq.2.2))
        clear g1 g2 g3
        go_enter Try.func34, Try.ntmps34
        go_wp2_with (go_at_call 81; refine (s_l01In _ _ _ _).mono ?_; rintro e w' ⟨rfl, rfl⟩)
        go_ret
        exact ⟨ret_bool HN.out.symm, B0.out⟩
    · have z1 : ((im.length : Int) != 2) = false := by rw [g1]; rfl
      have z2 : ((bs.length : Int) != 2) = true := by rw [bne_iff_ne]; omega
      have HN := hide (spOk_not_head (x := (im, bs, en)) (fun hq => g2 hq.2.1))
      clear g1 g2
      go_enter Try.func34, Try.ntmps34
      go_wp2_with fail
      go_ret
      exact ⟨ret_bool HN.out.symm, B0.out⟩
  · have z1 : ((im.length : Int) != 2) = true := by rw [bne_iff_ne]; omega
    have HN := hide (spOk_not_head (x := (im, bs, en)) (fun hq => g1 hq.1))
    clear g1
    go_enter Try.func34, Try.ntmps34
    go_wp2_with fail
    go_ret
    exact ⟨ret_bool HN.out.symm, B0.out⟩
end Go.Proofs.Ythhlimbaoenkkaa
