import Derived.Test.YthhlimbaoenkkaaLinS2
namespace Go.Proofs.Ythhlimbaoenkkaa
open Go.RowKit
set_option maxRecDepth 100000
/-! Rows turned by a callee. -/
def rlo (A : Option Addr) (n : Nat) : Nat := if 0 < n then blkOf A else 0
def rhi (A : Option Addr) (n : Nat) : Nat := if 0 < n then blkOf A + 1 else 0
section
variable {w w' : World} {lo hi : Nat} {rs : List Rw}
theorem Within.any {a b : Nat} (h : Within 0 0 w w') : Within a b w w' := ⟨h.os, h.tape, h.output, h.size, fun x hx _ => h.block x hx (.inr (Nat.zero_le _))⟩
theorem Own.row {pre post : List Rw} {A : Option Addr} {n size : Nat} {xs : List Value} (h : Own w lo hi (pre ++ (A, n, size, xs) :: post)) : Arr w (rlo A n) (rhi A n) A n size xs := by
  rcases Nat.eq_zero_or_pos n with hn | hn
  · subst hn
    exact ⟨(h.at_).1, fun hn => by omega⟩
  · unfold rlo rhi
    rw [if_pos hn, if_pos hn]
    exact (h.at_.focus hn).1
theorem Own.rowIn {pre post : List Rw} {A : Option Addr} {n size : Nat} {xs : List Value} (h : Own w lo hi (pre ++ (A, n, size, xs) :: post)) (hb : Within (rlo A n) (rhi A n) w w') : Within lo hi w w' := by
  rcases Nat.eq_zero_or_pos n with hn | hn
  · subst hn
    exact Within.any hb
  · unfold rlo rhi at hb
    rw [if_pos hn, if_pos hn] at hb
    obtain ⟨_, f1, f2, _⟩ := h.at_.focus hn
    exact hb.mono f1 f2
theorem Own.rowTurn {pre post : List Rw} {A : Option Addr} {n size : Nat} {xs xs' : List Value} (h : Own w lo hi (pre ++ (A, n, size, xs) :: post))
    (hx : Arr w' (rlo A n) (rhi A n) A n size xs') (hb : Within (rlo A n) (rhi A n) w w') : Own w' lo hi (pre ++ (A, n, size, xs') :: post) := by
  refine h.turn (fun hn => ?_) (fun hn => ?_)
  · unfold rlo rhi at hx hb
    rw [if_pos hn, if_pos hn] at hx hb
    exact ⟨hx, hb⟩
  · subst hn
    exact ⟨List.eq_nil_of_length_eq_zero (by rw [hx.1]; omega), hb⟩
theorem Own.cellHead {g n size : Nat} {xs : List Value} (h : Own w lo hi ((some ⟨g, 0, none⟩, n, size, xs) :: rs)) {j : Nat} (hj : j < n * size) :
    w.cell? ⟨g, j, none⟩ = xs[j]? ∧ w.frozen? ⟨g, j, none⟩ = false ∧ lo ≤ g ∧ g < hi ∧ hi ≤ w.heap.size := by
  have hn : 0 < n := by rcases Nat.eq_zero_or_pos n with hn | hn; · subst hn; omega
                        · exact hn
  obtain ⟨g', e, g1, g2, g3, hc⟩ := (h.rows _ List.mem_cons_self).2 hn
  obtain rfl : g = g' := by injection e with e; injection e
  exact ⟨(hc j hj).1, (hc j hj).2, g1, g2, g3⟩
theorem Own.headAt {A : Option Addr} {n size : Nat} {xs : List Value} (h : Own w lo hi ((A, n, size, xs) :: rs)) (hn : 0 < n) : ∃ g, A = some ⟨g, 0, none⟩ := by
  obtain ⟨g', e, _⟩ := (h.rows _ List.mem_cons_self).2 hn
  exact ⟨g', e⟩
theorem Own.setHead {g n size : Nat} {xs : List Value} (h : Own w lo hi ((some ⟨g, 0, none⟩, n, size, xs) :: rs)) {j : Nat} (hj : j < n * size) (u : Value) :
    Own (w.setCell ⟨g, j, none⟩ u) lo hi ((some ⟨g, 0, none⟩, n, size, xs.set j u) :: rs) := by
  refine h.turnHead (fun hn => ?_) (fun hn => by subst hn; omega)
  have hf := ((h.rows _ List.mem_cons_self).focus hn).1
  exact ⟨hf.set_ hj u, Within.setCell w (p := ⟨g, j, none⟩) (Nat.le_refl _) (Nat.lt_succ_self _) u⟩
end
theorem mid_at {α : Type} (a b c : List α) (k j : Nat) (ha : a.length = k) (hj : j < b.length) : (a ++ (b ++ c))[k + j]? = b[j]? := by
  subst ha
  rw [List.getElem?_append_right (by omega), Nat.add_sub_cancel_left, List.getElem?_append_left hj]
theorem mid_set {α : Type} (a b c : List α) (k j : Nat) (u : α) (ha : a.length = k) (hj : j < b.length) : (a ++ (b ++ c)).set (k + j) u = a ++ (b.set j u ++ c) := by
  subst ha; exact set_mid a b c j u hj
theorem drop_step' {α : Type} (l : List α) (k : Nat) (h : k < l.length) : l.drop k = l[k] :: l.drop (k + 1) := List.drop_eq_getElem_cons h
theorem lnsCnt_le (L : List Ln) : lnsCnt L ≤ 3 * lnTot L + 2 * L.length := sumLn L
theorem mkLn_cells (q : Int) (p : LP) : lnC (mkLn q p.1, p.2) = [.int .i64 q, .string (markT (q + 1)), .slice p.2.1 p.1.2.2.1.length p.2.2.1, .slice p.2.2.2.1 p.1.2.2.2.length p.2.2.2.2] := by
  unfold lnC mkLn
  simp only [mkStrL_length, mkTokL_length]
theorem mkLn_rows (q : Int) (p : LP) : lnRows (mkLn q p.1, p.2) = [(p.2.1, p.1.2.2.1.length, 1, markStrs (q + 2) p.1.2.2.1.length), (p.2.2.2.1, p.1.2.2.2.length, 3, markToks (q + 2 + p.1.2.2.1.length) p.1.2.2.2.length)] := by
  unfold lnRows mkLn
  simp only [mkStrL_length, mkTokL_length, ← markStrs_cells, ← markToks_cells]
theorem mkP_cap (P : List LP) (h : ∀ p ∈ P, lnCap p) : ∀ k0, ∀ p ∈ mkP k0 P, lnCap p := by
  induction P with
  | nil => intro k0 p hp; simp [mkP] at hp
  | cons p P ih =>
    intro k0 q hq
    rw [mkP] at hq
    rcases List.mem_cons.1 hq with rfl | hq
    · have := h p List.mem_cons_self
      unfold lnCap mkLn
      simp only [mkStrL_length, mkTokL_length]
      exact this
    · exact ih (fun x hx => h x (List.mem_cons_of_mem _ hx)) _ q hq
set_option maxHeartbeats 1000000 in
theorem l_markLineP (A : Option Addr) (n c lo hi : Nat) (P : List LP) (k0 : Int) (w : World) (hP : P.length = n) (hn : n + lnTot (P.map Prod.fst) ≤ 100000000000) (hk0 : 0 ≤ k0 ∧ k0 ≤ 100000000000)
    (h : Own w lo hi ((A, n, 4, P.flatMap lnC) :: P.flatMap lnRows)) :
    Calls Try.prog 61 #[.slice A n c, .int .i64 k0] w fun e w' => e = .returned (.int .i64 (k0 + (lnsCnt (P.map Prod.fst) : Int))) ∧ Own w' lo hi ((A, n, 4, (mkP k0 P).flatMap lnC) :: (mkP k0 P).flatMap lnRows) ∧ Within lo hi w w' := by
  have HP := hide hP
  clear hP
  go_enter Try.func61, Try.ntmps61
  go_wp2
  go_loopw [1, 5] (fun m i wr => ∃ (k : Nat) (q : Int), k ≤ n ∧ i = .int .i64 k ∧ m = .int .i64 q ∧ q = k0 + (lnsCnt ((P.take k).map Prod.fst) : Int) ∧ Own wr lo hi ((A, n, 4, (mkP k0 (P.take k) ++ P.drop k).flatMap lnC) :: (mkP k0 (P.take k) ++ P.drop k).flatMap lnRows) ∧ Within lo hi w wr) (fun _ i _ => n - (intOf i).toNat)
  case atStart => exact ⟨0, k0, Nat.zero_le _, rfl, rfl, by simp [lnsCnt], by simpa [mkP] using h, Within.refl _ _ _⟩
  case round =>
    obtain ⟨k, q, hk, rfl, rfl, hq, hO, hW⟩ := hrel
    clear h
    have HQ := hide hq
    have W := hide hW
    have O := hide hO
    clear hq hO hW
    by_cases hlt : k < n
    · have hkl : k < P.length := by rw [HP.out]; exact hlt
      have hq0 : 0 ≤ q ∧ q ≤ 600000000000 := by
        have := HQ.out
        have h2 := lnsCnt_take_le (P.map Prod.fst) k
        rw [← List.map_take] at h2
        have h3 := lnsCnt_le (P.map Prod.fst)
        have h4 := HP.out
        rw [List.length_map] at h3
        omega
      have hb1 : P[k].1.2.2.1.length ≤ 100000000000 ∧ P[k].1.2.2.2.length ≤ 100000000000 := by
        have := lnTot_mem (P.map Prod.fst) P[k].1 (List.mem_map.2 ⟨P[k], List.getElem_mem hkl, rfl⟩)
        omega
      have HT : Hid (mkP k0 (P.take (k + 1)) ++ P.drop (k + 1) = mkP k0 (P.take k) ++ (mkLn q P[k].1, P[k].2) :: P.drop (k + 1)) := by
        show _ = _
        rw [List.take_succ_eq_append_getElem hkl, mkP_snoc, ← HQ.out]; simp
      have HQ2 : Hid (q + 1 + 1 + (P[k].1.2.2.1.length : Int) + ((P[k].1.2.2.2.length * 3 : Nat) : Int) = k0 + (lnsCnt ((P.take (k + 1)).map Prod.fst) : Int)) := by
        show _ = _
        rw [List.take_succ_eq_append_getElem hkl, List.map_append, List.map_singleton, lnsCnt_snoc, HQ.out]
        unfold lnCnt; push_cast; omega
      have hpre : ((mkP k0 (P.take k)).flatMap lnC).length = k * 4 := by rw [lnC_flat_length, mkP_length, List.length_take, Nat.min_eq_left (by omega)]
      have O0 := O.out
      rw [drop_step' P k hkl, List.flatMap_append, List.flatMap_cons, List.flatMap_append, List.flatMap_cons] at O0
      have HT2 := HT.out
      obtain ⟨nxt, hN⟩ : ∃ x, x = mkP k0 (P.take (k + 1)) ++ P.drop (k + 1) := ⟨_, rfl⟩
      rw [← hN] at HT2
      have HNX := hide hN
      clear hN
      generalize mkP k0 (P.take k) = pre at *
      obtain ⟨post, hps⟩ : ∃ x, x = P.drop (k + 1) := ⟨_, rfl⟩
      rw [← hps] at O0 HT2
      clear hps
      generalize P[k] = p at *
      obtain ⟨⟨kd, nm, ar, ex⟩, A1, c1, A2, c2⟩ := p
      simp only at HQ2 hb1 HT2
      have HR := hide hpre
      have O1 := hide O0
      clear O O0 HT hpre
      obtain ⟨g, rfl⟩ := O1.out.headAt (by omega)
      have hc0 := O1.out.cellHead (j := k * 4 + 0) (by omega)
      rw [mid_at _ _ _ (k * 4) 0 HR.out (by simp [lnC])] at hc0
      obtain ⟨c0, f0, g1, g2, g3⟩ := hc0
      have O2 := O1.out.setHead (j := k * 4 + 0) (by omega) (.int .i64 q)
      rw [mid_set _ _ _ (k * 4) 0 _ HR.out (by simp [lnC])] at O2
      have HO2 := hide O2
      have W2 := hide (W.out.trans (Within.setCell wr (p := ⟨g, k * 4 + 0, none⟩) g1 g2 (.int .i64 q)))
      simp only [Nat.add_zero] at c0 f0 HO2 W2
      simp [lnC] at c0
      clear O2 O1
      go_wp2_with fail
      refine (l_markText _ (by omega) _).mono ?_
      rintro e w2 ⟨rfl, hb2⟩
      have O3 := hide (HO2.out.belowZ hb2)
      have W3 := hide (W2.out.trans (Within.of_below hb2 lo hi))
      clear hb2 HO2 W2 c0 f0
      have hc1 := O3.out.cellHead (j := k * 4 + 1) (by omega)
      rw [mid_at _ _ _ (k * 4) 1 HR.out (by simp [lnC])] at hc1
      have hc2 := O3.out.cellHead (j := k * 4 + 2) (by omega)
      rw [mid_at _ _ _ (k * 4) 2 HR.out (by simp [lnC])] at hc2
      have d1 := hc1.1
      have f1 := hc1.2.1
      have d2 := hc2.1
      simp [lnC] at d1 d2
      have O4 := O3.out.setHead (j := k * 4 + 1) (by omega) (.string (markT (q + 1)))
      rw [mid_set _ _ _ (k * 4) 1 _ HR.out (by simp [lnC])] at O4
      have W4 := hide (W3.out.trans (Within.setCell w2 (p := ⟨g, k * 4 + 1, none⟩) g1 g2 (.string (markT (q + 1)))))
      have O5 : Hid (Own (w2.setCell ⟨g, k * 4 + 1, none⟩ (.string (markT (q + 1)))) lo hi (((some ⟨g, 0, none⟩, n, 4, pre.flatMap lnC ++ ([.int .i64 q, .string (markT (q + 1)), .slice A1 ar.length c1, .slice A2 ex.length c2] ++ post.flatMap lnC)) :: pre.flatMap lnRows) ++ (A1, ar.length, 1, strCells ar) :: (A2, ex.length, 3, tokCells ex) :: post.flatMap lnRows)) := by
        show Own _ _ _ _
        simpa [lnC, lnRows] using O4
      clear O4 O3 hc1 hc2 W3
      go_wp2_with fail
      refine (l_markStringS A1 _ c1 _ _ _ _ _ (by omega) (by omega) O5.out.row).mono ?_
      rintro e w3 ⟨rfl, a3, wi3⟩
      have O6 := hide (O5.out.rowTurn a3 wi3)
      have W6 := hide (W4.out.trans (O5.out.rowIn wi3))
      clear a3 wi3 d1 f1 d2 O5 W4
      have hc3 := Own.cellHead (j := k * 4 + 3) O6.out (by clear W6 HR HQ HQ2 HT2; omega)
      rw [mid_at _ _ _ (k * 4) 3 HR.out (by simp)] at hc3
      have d3 := hc3.1
      simp at d3
      clear hc3
      have O7 : Hid (Own w3 lo hi (((some ⟨g, 0, none⟩, n, 4, pre.flatMap lnC ++ ([.int .i64 q, .string (markT (q + 1)), .slice A1 ar.length c1, .slice A2 ex.length c2] ++ post.flatMap lnC)) :: (pre.flatMap lnRows ++ [(A1, ar.length, 1, markStrs (q + 1 + 1) ar.length)])) ++ (A2, ex.length, 3, tokCells ex) :: post.flatMap lnRows)) := by
        show Own _ _ _ _
        simpa using O6.out
      clear O6
      go_wp2_with fail
      refine (l_markTokS A2 _ c2 _ _ _ _ _ (by omega) (by omega) O7.out.row).mono ?_
      rintro e w4 ⟨rfl, a4, wi4⟩
      have O8 := hide (O7.out.rowTurn a4 wi4)
      have W8 := hide (W6.out.trans (O7.out.rowIn wi4))
      clear a4 wi4 d3 O7 W6
      have HZ : Hid (Own w4 lo hi ((some ⟨g, 0, none⟩, n, 4, nxt.flatMap lnC) :: nxt.flatMap lnRows)) := by
        show Own _ _ _ _
        have mc := mkLn_cells q ((kd, nm, ar, ex), (A1, c1, A2, c2))
        have mr := mkLn_rows q ((kd, nm, ar, ex), (A1, c1, A2, c2))
        simp only at mc mr
        rw [HT2, List.flatMap_append, List.flatMap_cons, List.flatMap_append, List.flatMap_cons, mc, mr]
        have := O8.out
        rw [show q + 1 + 1 = q + 2 by omega] at this
        simpa using this
      clear O8 HT2
      go_wp2
      go_roundw
      case rel => exact ⟨k + 1, _, by omega, by go_num, rfl, HQ2.out, by rw [← HNX.out]; exact HZ.out, W8.out⟩
      case measure => simp [intOf]; omega
    · have HK : Hid (k = n) := by show k = n; omega
      have h1 := O.out
      rw [List.take_of_length_le (by rw [HP.out]; omega), List.drop_of_length_le (by rw [HP.out]; omega), List.append_nil] at h1
      have h2 := HQ.out
      rw [List.take_of_length_le (by rw [HP.out]; omega)] at h2
      have H1 := hide h1
      have H2 := hide h2
      clear h1 h2
      go_wp2
      go_ret
      exact ⟨by rw [H2.out]; rfl, H1.out, W.out⟩
theorem l_markLineS (A : Option Addr) (n c lo hi : Nat) (L : List Ln) (k0 : Int) (w : World) (hL : L.length = n) (hn : n + lnTot L ≤ 100000000000) (hk0 : 0 ≤ k0 ∧ k0 ≤ 100000000000) (h : OwnLines w lo hi A L) :
    Calls Try.prog 61 #[.slice A n c, .int .i64 k0] w fun e w' => e = .returned (.int .i64 (k0 + (lnsCnt L : Int))) ∧ OwnLines w' lo hi A (mkLns k0 L) ∧ Within lo hi w w' := by
  obtain ⟨P, rfl, hO, hC⟩ := h
  rw [List.length_map] at hL
  refine (l_markLineP A n c lo hi P k0 w hL hn hk0 (by rw [← hL]; exact hO)).mono ?_
  rintro e w' ⟨rfl, o, wi⟩
  exact ⟨rfl, ⟨mkP k0 P, mkP_map P k0, by rw [OwnP, mkP_length, hL]; exact ⟨o, mkP_cap P hC k0⟩⟩, wi⟩
end Go.Proofs.Ythhlimbaoenkkaa
