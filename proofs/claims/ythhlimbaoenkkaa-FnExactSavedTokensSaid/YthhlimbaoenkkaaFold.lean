import Derived.Test.YthhlimbaoenkkaaFold0
import Derived.Test.YthhlimbaoenkkaaApp
namespace Go.Proofs.Ythhlimbaoenkkaa
open Go Go.RowKit
set_option maxRecDepth 100000
theorem tokCells_append (a b : List Tk) : tokCells (a ++ b) = tokCells a ++ tokCells b := by simp [tokCells]
theorem tokCells_one (l : List Tk) : ∀ u ∈ tokCells l, u.oneCell' = true := by
  intro u hu
  obtain ⟨t, _, h⟩ := List.mem_flatMap.1 hu
  simp only [tokC, List.mem_cons, List.not_mem_nil, or_false] at h
  rcases h with rfl | rfl | rfl <;> rfl
def outL (t : Tk) (F : Int → List Tk) (ops : List Int) (k : Nat) : List Tk := t :: (ops.take k).flatMap F
theorem outL_zero (t : Tk) (F : Int → List Tk) (ops : List Int) : outL t F ops 0 = [t] := rfl
theorem outL_succ (t : Tk) (F : Int → List Tk) (ops : List Int) (k : Nat) (h : k < ops.length) : outL t F ops (k + 1) = outL t F ops k ++ F ops[k] := by
  unfold outL
  rw [List.take_succ_eq_append_getElem h, List.flatMap_append]
  simp
theorem outL_end (t : Tk) (F : Int → List Tk) (ops : List Int) (k : Nat) (h : ops.length ≤ k) : outL t F ops k = t :: ops.flatMap F := by
  unfold outL; rw [List.take_of_length_le h]
theorem foldC_not {t : Tk} {r : List Tk} (h : btw t.1 2 6 = false) : foldC (t :: r) = t :: r := by
  have h' : ¬ (2 ≤ t.1 ∧ t.1 ≤ 6) := by simpa [btw] using h
  unfold foldC
  split
  · rename_i t' a b e
    injection e with e1 e2
    subst e1
    rw [if_neg (fun hq => h' hq.1)]
  · rfl
theorem foldC_len3 {l : List Tk} (h : l.length ≠ 3) : foldC l = l := by
  unfold foldC
  split
  · simp at h
  · rfl
theorem foldC_three {t a b : Tk} (h : btw t.1 2 6 = true) : foldC [t, a, b] = if a.1 = 0 ∧ b.1 = 0 ∧ btw (applyF t.1 a.2.1 b.2.1) 0 999 = true then [(0, applyF t.1 a.2.1 b.2.1, ByteArray.empty)] else [t, a, b] := by
  have h' : 2 ≤ t.1 ∧ t.1 ≤ 6 := by simpa [btw] using h
  show (if (2 ≤ t.1 ∧ t.1 ≤ 6) ∧ a.1 = 0 ∧ b.1 = 0 ∧ 0 ≤ applyF t.1 a.2.1 b.2.1 ∧ applyF t.1 a.2.1 b.2.1 ≤ 999 then [(0, applyF t.1 a.2.1 b.2.1, ByteArray.empty)] else [t, a, b]) = _
  by_cases ha : a.1 = 0
  · by_cases hb : b.1 = 0
    · by_cases hc : 0 ≤ applyF t.1 a.2.1 b.2.1 ∧ applyF t.1 a.2.1 b.2.1 ≤ 999
      · rw [if_pos ⟨h', ha, hb, hc⟩, if_pos ⟨ha, hb, decide_eq_true hc⟩]
      · rw [if_neg (fun hq => hc hq.2.2.2), if_neg (fun hq => hc (of_decide_eq_true hq.2.2))]
    · rw [if_neg (fun hq => hb hq.2.2.1), if_neg (fun hq => hb hq.2.1)]
  · rw [if_neg (fun hq => ha hq.2.1), if_neg (fun hq => ha hq.1)]
set_option maxHeartbeats 4000000 in
theorem s_fold (n c : Nat) (l : List Tk) (hn : n ≤ 1048576) (hl : l.length = n) (hs : ∀ t ∈ l, t.2.2.size ≤ maxLen) (f : Nat) : ∀ (p : Nat) (A : Option Addr) (w : World), l.length - p ≤ f → 0 ≤ endL l p 1 → InRow w A n 3 (tokCells l) →
    Calls Try.prog 73 #[.slice A n c, .int .i64 p] w fun e w' => (∃ v, e = .returned v ∧ w'.ownsRow w.heap.size 105 3 v (foldF l f p).length (tokCells (foldF l f p))) ∧ Below w.heap.size w w' := by
  obtain ⟨i0, hi, hz0, hz1, hz2⟩ := info_parts Try.infoTok
  have HL := hide hl
  have HS := hide hs
  have HI := hide hi
  clear hl hs hi
  induction f with
  | zero =>
    intro p A w hf h _
    have := (good_at l p h).1
    omega
  | succ f ih =>
    intro p A w hf h hR
    have HIH := hide ih
    have H := hide hR
    have HG := hide h
    have HFU := hide hf
    obtain ⟨hpl, _, _⟩ := good_at l p h
    have hpn : p < n := by rw [← HL.out]; exact hpl
    have ht : tkAt l p = l[p] := by unfold tkAt; rw [List.getD_eq_getElem?_getD, List.getElem?_eq_getElem hpl]; rfl
    have hFD : Hid (foldF l (f + 1) p = foldC (l[p] :: (operandsF l (p : Int)).flatMap fun o => foldF l f o.toNat)) := by show _ = _; rw [foldF, ht]
    have hgood : Hid (∀ o ∈ operandsF l (p : Int), ∃ j : Nat, o = j ∧ p + 1 ≤ j ∧ j < l.length ∧ 0 ≤ endL l j 1) := by
      show ∀ o ∈ operandsF l (p : Int), ∃ j : Nat, o = j ∧ p + 1 ≤ j ∧ j < l.length ∧ 0 ≤ endL l j 1
      rw [operandsF_nat l p h]
      obtain ⟨_, _, he⟩ := good_at l p h
      exact opsL_good l _ (p + 1) (by omega) (by rw [← he]; exact h)
    have hlen4 := operandsF_length l (p : Int)
    have hflat : Hid (∀ k, (((operandsF l (p : Int)).take k).flatMap fun o => foldF l f o.toNat).length ≤ l.length) := fun k => operandsF_flat_len l f p hf h k
    obtain ⟨b, o, rfl, _, c0, c1, c2⟩ := hR.tok p hpl
    clear h hR ih ht hf
    go_enter Try.func73, Try.ntmps73
    go_wp2_with fail
    have B0 := hide ((Below.refl w.heap.size w).alloc (Nat.le_refl _) (.cells #[.int .i64 l[p].1, .int .i64 l[p].2.1, .string l[p].2.2] 105))
    refine (s_operands _ n c l (p : Int) _ hn HL.out (H.out.below B0.out) HS.out).mono ?_
    rintro e w2 ⟨⟨vo, rfl, ho⟩, hb2⟩
    generalize hops : operandsF l (p : Int) = ops at *
    have O2 : Hid (w2.ownsRow w.heap.size 105 3 (.slice (some ⟨w.heap.size, 0, none⟩) 1 1) 1 (tokCells [l[p]])) := own_belowZ (World.ownsRow_lit w #[.int .i64 l[p].1, .int .i64 l[p].2.1, .string l[p].2.2] 1 (Nat.le_refl _) (by unfold maxLen; omega) rfl) hb2
    have B2 := hide (B0.out.trans (hb2.mono B0.out.size))
    obtain ⟨Ao, co, rfl, hoc, ro⟩ := Arr.of_own ho
    have RO : Hid (Arr w2 (w.heap.size + 1) w2.heap.size Ao ops.length 1 (intCells ops)) := by show Arr w2 (w.heap.size + 1) w2.heap.size Ao ops.length 1 (intCells ops); simpa using ro
    have hz2 : w.heap.size + 1 ≤ w2.heap.size := by have := hb2.size; simpa using this
    clear ho hb2 ro c0 c1 c2 hops B0
    obtain ⟨w2s, hw2s⟩ : ∃ q, q = w2.heap.size := ⟨_, rfl⟩
    rw [← hw2s] at RO
    have hw2z : w2s ≤ w2.heap.size := by omega
    have hw2y : w.heap.size + 1 ≤ w2s := by omega
    clear hw2s hz2
    go_wp2_with fail
    go_loopw [5, 7] (fun v i wr => ∃ (k g cap : Nat), k ≤ ops.length ∧ i = .int .i64 k ∧ v = .slice (some ⟨g, 0, none⟩) (outL l[p] (fun o => foldF l f o.toNat) ops k).length cap ∧ (g < w.heap.size + 1 ∨ w2s ≤ g) ∧ wr.ownsRow w.heap.size 105 3 v (outL l[p] (fun o => foldF l f o.toNat) ops k).length (tokCells (outL l[p] (fun o => foldF l f o.toNat) ops k)) ∧ Arr wr (w.heap.size + 1) w2s Ao ops.length 1 (intCells ops) ∧ Below w.heap.size w wr) (fun _ i _ => ops.length - (intOf i).toNat)
    case atStart => exact ⟨0, w.heap.size, 1, Nat.zero_le _, rfl, rfl, .inl (by omega), O2.out, RO.out, B2.out⟩
    case round =>
      obtain ⟨k, g, cap, hk, rfl, rfl, hg, hown, hro, hb⟩ := hrel
      have HO := hide hown
      have HRO := hide hro
      have HB := hide hb
      have R := hide (H.out.below hb)
      clear hown hro hb O2 RO B2
      by_cases hlt : k < ops.length
      · obtain ⟨bo, oo, rfl, _, d0⟩ := (InRow.of_arr HRO.out).int k hlt
        obtain ⟨j, hj, hpj, hjl, hjg⟩ := hgood.out _ (List.getElem_mem hlt)
        rw [hj] at d0
        have HX : Hid (outL l[p] (fun o => foldF l f o.toNat) ops (k + 1) = outL l[p] (fun o => foldF l f o.toNat) ops k ++ foldF l f j) := by
          show _ = _; rw [outL_succ _ _ _ k hlt, hj, Int.toNat_natCast]
        have hbnd : (outL l[p] (fun o => foldF l f o.toNat) ops k).length + (foldF l f j).length ≤ 1048577 := by
          rw [← List.length_append, ← HX.out]
          have := hflat.out (k + 1)
          have hln := HL.out
          unfold outL
          simp only [List.length_cons]
          omega
        have HJ := hide hjg
        have hfj : l.length - j ≤ f := by have := HFU.out; omega
        have hpos : 1 ≤ (outL l[p] (fun o => foldF l f o.toNat) ops k).length := by unfold outL; simp
        clear hj hjg
        generalize hOK : outL l[p] (fun o => foldF l f o.toNat) ops k = OK at *
        have HOK := hide hOK
        clear hOK
        go_wp2_with fail
        refine (HIH.out j _ _ hfj HJ.out R.out).mono ?_
        rintro e w3 ⟨⟨vp, rfl, hop⟩, hb3⟩
        obtain ⟨Ap, cp, rfl, _, rp⟩ := Arr.of_own hop
        have RP := hide (InRow.of_arr rp)
        have HO3 := hide (own_belowZ HO.out hb3)
        have HRO3 := hide (HRO.out.belowZ hb3)
        have HB3 := hide (HB.out.trans (hb3.mono HB.out.size))
        have hz3 := hb3.size
        clear hop rp hb3 d0
        go_wp2_with (first | (at_builtin; refine wpList_apps _ rfl (.tmp 24) (.tmp 30) _ rfl w.heap.size 105 i0 _ 3 32 Try.underlying44 HI.out hz0 hz1 hz2 rfl (by decide) _ _ _ rfl HO3.out Ap _ cp (tokCells (foldF l f j)) rfl RP.out ?d1 ?d2 ?d3 ?d4 ?_) | fail)
        case d1 => exact tokCells_one _
        case d2 => omega
        try case d3 => decide
        case d4 => exact HB3.out.size
        intro v5 w5 hown5 hb5 hgr5 hwh5
        rw [← tokCells_append] at hown5
        obtain ⟨A5, c5, rfl, _, ra5⟩ := Arr.of_own hown5
        obtain ⟨g5, rfl, _⟩ := ra5.2 (by omega)
        have hg5 : g5 < w.heap.size + 1 ∨ w2s ≤ g5 := by
          rcases hwh5 with h5 | h5
          · have : g5 = g := by simpa [Value.ownBlock] using h5
            omega
          · have : g5 = w3.heap.size := by simpa [Value.ownBlock] using h5
            have := HB3.out.size
            rcases Nat.eq_zero_or_pos ops.length with h0 | h0
            · omega
            · obtain ⟨_, _, _, _, h3, _⟩ := HRO3.out.2 h0
              omega
        have HRO5 := hide (HRO3.out.grown hgr5 (by omega))
        have HO5 := hide hown5
        have HB5 := hide (HB3.out.trans hb5)
        have HLX : Hid ((outL l[p] (fun o => foldF l f o.toNat) ops (k + 1)).length = OK.length + (foldF l f j).length) := by show _ = _; rw [HX.out, List.length_append]
        clear hown5 hb5 hgr5 hwh5 ra5
        go_wp2_with fail
        go_roundw
        case rel => exact ⟨k + 1, g5, c5, hlt, by go_num, by rw [HLX.out], hg5, by rw [HLX.out, HX.out]; exact HO5.out, HRO5.out, HB5.out⟩
        case measure => simp [intOf]; omega
      · have hX := outL_end l[p] (fun o => foldF l f o.toNat) ops k (by omega)
        have hFD2 : Hid (foldF l (f + 1) p = foldC (outL l[p] (fun o => foldF l f o.toNat) ops k)) := by show _ = _; rw [hX]; exact hFD.out
        obtain ⟨r, hr⟩ : ∃ r, outL l[p] (fun o => foldF l f o.toNat) ops k = l[p] :: r := ⟨_, rfl⟩
        rw [hr] at HO hFD2
        rw [hr]
        clear hX hr hFD
        obtain ⟨m, hm⟩ : ∃ m, (l[p] :: r).length = m := ⟨_, rfl⟩
        rw [hm] at HO
        rw [hm]
        obtain ⟨b2, o2, e2, _, d0, d1, d2⟩ := R.out.tok p hpl
        cases e2
        have HOa := hide (HO.out.alloc (.cells #[.int .i64 l[p].1, .int .i64 l[p].2.1, .string l[p].2.2] 105))
        have HBa := hide (HB.out.alloc HB.out.size (.cells #[.int .i64 l[p].1, .int .i64 l[p].2.1, .string l[p].2.2] 105))
        have HM := hide hm
        cases hbw : btw l[p].1 2 6
        · have hFF : Hid (foldF l (f + 1) p = l[p] :: r) := by show _ = _; rw [hFD2.out, foldC_not hbw]
          clear hm
          go_wp2_with (go_at_call 81; refine (s_l01In _ _ _ _).mono ?_; rintro e w' ⟨rfl, rfl⟩)
          go_ret
          exact ⟨⟨_, rfl, by rw [hFF.out, HM.out]; exact HOa.out⟩, HBa.out⟩
        · by_cases h3 : m = 3
          · obtain ⟨x, y, rfl⟩ : ∃ x y, r = [x, y] := by
              match r, hm with
              | [x, y], _ => exact ⟨x, y, rfl⟩
              | [], hm => simp at hm; omega
              | [x], hm => simp at hm; omega
              | x :: y :: z :: q, hm => simp at hm; omega
            subst h3
            obtain ⟨Aq, cq, e3, _, ra⟩ := Arr.of_own HOa.out
            cases e3
            obtain ⟨gq, e4, _, _, _, hc⟩ := ra.2 (by omega)
            cases e4
            have f3 := (hc 3 (by omega)).1
            have f4 := (hc 4 (by omega)).1
            have f6 := (hc 6 (by omega)).1
            have f7 := (hc 7 (by omega)).1
            simp [tokCells, tokC] at f3 f4 f6 f7
            have hF3 := foldC_three (a := x) (b := y) hbw
            clear hm ra hc
            by_cases hx : x.1 = 0
            · by_cases hy : y.1 = 0
              · have zx : (x.1 == 0) = true := by simp [hx]
                have zy : (y.1 == 0) = true := by simp [hy]
                cases hap : btw (applyF l[p].1 x.2.1 y.2.1) 0 999
                · have hFF : Hid (foldF l (f + 1) p = [l[p], x, y]) := by show _ = _; rw [hFD2.out, hF3, if_neg (fun h => by rw [hap] at h; exact absurd h.2.2 (by simp))]
                  clear hF3 hx hy
                  go_wp2_with (go_at_call 81; refine (s_l01In _ _ _ _).mono ?_; rintro e w' ⟨rfl, rfl⟩)
                  go_quiet ((go_at_call 117; exact quiet_left (s_apply _ _ _ _)))
                  go_wp2_with (go_at_call 81; refine (s_l01In _ _ _ _).mono ?_; rintro e w' ⟨rfl, rfl⟩)
                  go_ret
                  exact ⟨⟨_, rfl, by rw [hFF.out]; exact HOa.out⟩, below_drewN HBa.out nq⟩
                · have hFF : Hid (foldF l (f + 1) p = [(0, applyF l[p].1 x.2.1 y.2.1, ByteArray.empty)]) := by show _ = _; rw [hFD2.out, hF3, if_pos ⟨hx, hy, hap⟩]
                  clear hF3 hx hy
                  go_wp2_with (go_at_call 81; refine (s_l01In _ _ _ _).mono ?_; rintro e w' ⟨rfl, rfl⟩)
                  go_quiet ((go_at_call 117; exact quiet_left (s_apply _ _ _ _)))
                  go_wp2_with (go_at_call 81; refine (s_l01In _ _ _ _).mono ?_; rintro e w' ⟨rfl, rfl⟩)
                  go_ret
                  have hsz : ((wr.alloc (.cells #[.int .i64 l[p].1, .int .i64 l[p].2.1, .string l[p].2.2] 105)).drewN nq).heap.size = wr.heap.size + 1 := by simp
                  have hBq := below_drewN HBa.out nq
                  have hO := World.ownsRow_lit (base := w.heap.size) (size := 3) (e := 105) ((wr.alloc (.cells #[.int .i64 l[p].1, .int .i64 l[p].2.1, .string l[p].2.2] 105)).drewN nq) #[.int .i64 0, .int .i64 (applyF l[p].1 x.2.1 y.2.1), .string ⟨#[]⟩] 1 hBq.size (by unfold maxLen; omega) rfl
                  rw [hsz] at hO
                  exact ⟨⟨_, rfl, by rw [hFF.out]; exact hO⟩, hBq.alloc hBq.size _⟩
              · have hFF : Hid (foldF l (f + 1) p = [l[p], x, y]) := by show _ = _; rw [hFD2.out, hF3, if_neg (fun h => hy h.2.1)]
                have zx : (x.1 == 0) = true := by simp [hx]
                have zy : (y.1 == 0) = false := by simp [hy]
                clear hF3 hx hy
                go_wp2_with (go_at_call 81; refine (s_l01In _ _ _ _).mono ?_; rintro e w' ⟨rfl, rfl⟩)
                go_ret
                exact ⟨⟨_, rfl, by rw [hFF.out]; exact HOa.out⟩, HBa.out⟩
            · have hFF : Hid (foldF l (f + 1) p = [l[p], x, y]) := by show _ = _; rw [hFD2.out, hF3, if_neg (fun h => hx h.1)]
              have zx : (x.1 == 0) = false := by simp [hx]
              clear hF3 hx
              go_wp2_with (go_at_call 81; refine (s_l01In _ _ _ _).mono ?_; rintro e w' ⟨rfl, rfl⟩)
              go_ret
              exact ⟨⟨_, rfl, by rw [hFF.out]; exact HOa.out⟩, HBa.out⟩
          · have hFF : Hid (foldF l (f + 1) p = l[p] :: r) := by show _ = _; rw [hFD2.out, foldC_len3 (by omega)]
            have z3 : ((m : Int) == 3) = false := by rw [beq_eq_false_iff_ne]; omega
            clear hm
            go_wp2_with (go_at_call 81; refine (s_l01In _ _ _ _).mono ?_; rintro e w' ⟨rfl, rfl⟩)
            go_ret
            exact ⟨⟨_, rfl, by rw [hFF.out, HM.out]; exact HOa.out⟩, HBa.out⟩
end Go.Proofs.Ythhlimbaoenkkaa
