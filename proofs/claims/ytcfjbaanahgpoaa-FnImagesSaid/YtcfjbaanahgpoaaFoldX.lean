import Derived.Test.YtcfjbaanahgpoaaFold0
import Derived.Test.YtcfjbaanahgpoaaApp
namespace Go.Proofs.Ytcfjbaanahgpoaa
open Go Go.RowKit
set_option maxRecDepth 100000
theorem tokCells_append (a b : List Tk) : tokCells (a ++ b) = tokCells a ++ tokCells b := by simp [tokCells]
theorem tokCells_one (l : List Tk) : ∀ u ∈ tokCells l, u.oneCell' = true := by
  intro u hu
  obtain ⟨t, _, h⟩ := List.mem_flatMap.1 hu
  simp only [tokC, List.mem_cons, List.not_mem_nil, or_false] at h
  rcases h with rfl | rfl | rfl <;> rfl
def outL (t : Tk) (F : Int → List Tk) (ops : List Int) (k : Nat) : List Tk := t :: (ops.take k).flatMap F
theorem outL_zero (t : Tk) (F : Int → List Tk) (ops : List Int) : outL t F ops 0 = [t] := rfl
theorem outL_succ (t : Tk) (F : Int → List Tk) (ops : List Int) (k : Nat) (h : k < ops.length) : outL t F ops (k + 1) = outL t F ops k ++ F ops[k] := by
  unfold outL
  rw [List.take_succ_eq_append_getElem h, List.flatMap_append]
  simp
theorem outL_end (t : Tk) (F : Int → List Tk) (ops : List Int) (k : Nat) (h : ops.length ≤ k) : outL t F ops k = t :: ops.flatMap F := by
  unfold outL; rw [List.take_of_length_le h]
theorem foldC_not {t : Tk} {r : List Tk} (h : btw t.1 2 6 = false) : foldC (t :: r) = t :: r := by
  have h' : ¬ (2 ≤ t.1 ∧ t.1 ≤ 6) := by simpa [btw] using h
  unfold foldC
  split
  · rename_i t' a b e
    injection e with e1 e2
    subst e1
    rw [if_neg (fun hq => h' hq.1)]
  · rfl
theorem foldC_len3 {l : List Tk} (h : l.length ≠ 3) : foldC l = l := by
  unfold foldC
  split
  · simp at h
  · rfl
theorem foldC_three {t a b : Tk} (h : btw t.1 2 6 = true) : foldC [t, a, b] = if a.1 = 0 ∧ b.1 = 0 ∧ btw (applyF t.1 a.2.1 b.2.1) 0 999 = true then [(0, applyF t.1 a.2.1 b.2.1, ByteArray.empty)] else [t, a, b] := by
  have h' : 2 ≤ t.1 ∧ t.1 ≤ 6 := by simpa [btw] using h
  show (if (2 ≤ t.1 ∧ t.1 ≤ 6) ∧ a.1 = 0 ∧ b.1 = 0 ∧ 0 ≤ applyF t.1 a.2.1 b.2.1 ∧ applyF t.1 a.2.1 b.2.1 ≤ 999 then [(0, applyF t.1 a.2.1 b.2.1, ByteArray.empty)] else [t, a, b]) = _
  by_cases ha : a.1 = 0
  · by_cases hb : b.1 = 0
    · by_cases hc : 0 ≤ applyF t.1 a.2.1 b.2.1 ∧ applyF t.1 a.2.1 b.2.1 ≤ 999
      · rw [if_pos ⟨h', ha, hb, hc⟩, if_pos ⟨ha, hb, decide_eq_true hc⟩]
      · rw [if_neg (fun hq => hc hq.2.2.2), if_neg (fun hq => hc (of_decide_eq_true hq.2.2))]
    · rw [if_neg (fun hq => hb hq.2.2.1), if_neg (fun hq => hb hq.2.1)]
  · rw [if_neg (fun hq => ha hq.2.1), if_neg (fun hq => ha hq.1)]
set_option maxHeartbeats 4000000 in
theorem s_fold (n c : Nat) (l : List Tk) (hn : n ≤ 1048576) (hl : l.length = n) (hs : ∀ t ∈ l, t.2.2.size ≤ maxLen) (f : Nat) : ∀ (p : Nat) (A : Option Addr) (w : World), l.length - p ≤ f → 0 ≤ endL l p 1 → InRow w A n 3 (tokCells l) →
    Calls Try.prog 83 #[.slice A n c, .int .i64 p] w fun e w' => (∃ v, e = .returned v ∧ w'.ownsRow w.heap.size 64 3 v (foldF l f p).length (tokCells (foldF l f p))) ∧ Below w.heap.size w w' := by
  obtain ⟨i0, hi, hz0, hz1, hz2⟩ := info_parts Try.infoTok
  have HL := hide hl
  have HS := hide hs
  have HI := hide hi
  clear hl hs hi
  induction f with
  | zero =>
    intro p A w hf h _
    have := (good_at l p h).1
    omega
  | succ f ih =>
    intro p A w hf h hR
    have HIH := hide ih
    have H := hide hR
    have HG := hide h
    have HFU := hide hf
    obtain ⟨hpl, _, _⟩ := good_at l p h
    have hpn : p < n := by rw [← HL.out]; exact hpl
    have ht : tkAt l p = l[p] := by unfold tkAt; rw [List.getD_eq_getElem?_getD, List.getElem?_eq_getElem hpl]; rfl
    have hFD : Hid (foldF l (f + 1) p = foldC (l[p] :: (operandsF l (p : Int)).flatMap fun o => foldF l f o.toNat)) := by show _ = _; rw [foldF, ht]
    have hgood : Hid (∀ o ∈ operandsF l (p : Int), ∃ j : Nat, o = j ∧ p + 1 ≤ j ∧ j < l.length ∧ 0 ≤ endL l j 1) := by
      show ∀ o ∈ operandsF l (p : Int), ∃ j : Nat, o = j ∧ p + 1 ≤ j ∧ j < l.length ∧ 0 ≤ endL l j 1
      rw [operandsF_nat l p h]
      obtain ⟨_, _, he⟩ := good_at l p h
      exact opsL_good l _ (p + 1) (by omega) (by rw [← he]; exact h)
    have hlen4 := operandsF_length l (p : Int)
    have hflat : Hid (∀ k, (((operandsF l (p : Int)).take k).flatMap fun o => foldF l f o.toNat).length ≤ l.length) := fun k => operandsF_flat_len l f p hf h k
    obtain ⟨b, o, rfl, _, c0, c1, c2⟩ := hR.tok p hpl
    clear h hR ih ht hf
    go_enter Try.func83, Try.ntmps83
    go_wp2_with fail
    have B0 := hide ((Below.refl w.heap.size w).alloc (Nat.le_refl _) (.cells #[.int .i64 l[p].1, .int .i64 l[p].2.1, .string l[p].2.2] 64))
    refine (s_operands _ n c l (p : Int) _ hn HL.out (H.out.below B0.out) HS.out).mono ?_
    rintro e w2 ⟨⟨vo, rfl, ho⟩, hb2⟩
    generalize hops : operandsF l (p : Int) = ops at *
    have O2 : Hid (w2.ownsRow w.heap.size 64 3 (.slice (some ⟨w.heap.size, 0, none⟩) 1 1) 1 (tokCells [l[p]])) := own_belowZ (World.ownsRow_lit w #[.int .i64 l[p].1, .int .i64 l[p].2.1, .string l[p].2.2] 1 (Nat.le_refl _) (by unfold maxLen; omega) rfl) hb2
    have B2 := hide (B0.out.trans (hb2.mono B0.out.size))
    obtain ⟨Ao, co, rfl, hoc, ro⟩ := Arr.of_own ho
    have RO : Hid (Arr w2 (w.heap.size + 1) w2.heap.size Ao ops.length 1 (intCells ops)) := by show Arr w2 (w.heap.size + 1) w2.heap.size Ao ops.length 1 (intCells ops); simpa using ro
    have hz2 : w.heap.size + 1 ≤ w2.heap.size := by have := hb2.size; simpa using this
    clear ho hb2 ro c0 c1 c2 hops B0
    obtain ⟨w2s, hw2s⟩ : ∃ q, q = w2.heap.size := ⟨_, rfl⟩
    rw [← hw2s] at RO
    have hw2z : w2s ≤ w2.heap.size := by omega
    have hw2y : w.heap.size + 1 ≤ w2s := by omega
    clear hw2s hz2
    go_wp2_with fail
    go_loopw [5, 7] (fun v i wr => ∃ (k g cap : Nat), k ≤ ops.length ∧ i = .int .i64 k ∧ v = .slice (some ⟨g, 0, none⟩) (outL l[p] (fun o => foldF l f o.toNat) ops k).length cap ∧ (g < w.heap.size + 1 ∨ w2s ≤ g) ∧ wr.ownsRow w.heap.size 64 3 v (outL l[p] (fun o => foldF l f o.toNat) ops k).length (tokCells (outL l[p] (fun o => foldF l f o.toNat) ops k)) ∧ Arr wr (w.heap.size + 1) w2s Ao ops.length 1 (intCells ops) ∧ Below w.heap.size w wr) (fun _ i _ => ops.length - (intOf i).toNat)
    case atStart => exact ⟨0, w.heap.size, 1, Nat.zero_le _, rfl, rfl, .inl (by omega), O2.out, RO.out, B2.out⟩
    case round =>
      obtain ⟨k, g, cap, hk, rfl, rfl, hg, hown, hro, hb⟩ := hrel
      have HO := hide hown
      have HRO := hide hro
      have HB := hide hb
      have R := hide (H.out.below hb)
      clear hown hro hb O2 RO B2
      by_cases hlt : k < ops.length
      · obtain ⟨bo, oo, rfl, _, d0⟩ := (InRow.of_arr HRO.out).int k hlt
        obtain ⟨j, hj, hpj, hjl, hjg⟩ := hgood.out _ (List.getElem_mem hlt)
        rw [hj] at d0
        have HX : Hid (outL l[p] (fun o => foldF l f o.toNat) ops (k + 1) = outL l[p] (fun o => foldF l f o.toNat) ops k ++ foldF l f j) := by
          show _ = _; rw [outL_succ _ _ _ k hlt, hj, Int.toNat_natCast]
        have hbnd : (outL l[p] (fun o => foldF l f o.toNat) ops k).length + (foldF l f j).length ≤ 1048577 := by
          rw [← List.length_append, ← HX.out]
          have := hflat.out (k + 1)
          have hln := HL.out
          unfold outL
          simp only [List.length_cons]
          omega
        have HJ := hide hjg
        have hfj : l.length - j ≤ f := by have := HFU.out; omega
        have hpos : 1 ≤ (outL l[p] (fun o => foldF l f o.toNat) ops k).length := by unfold outL; simp
        clear hj hjg
        generalize hOK : outL l[p] (fun o => foldF l f o.toNat) ops k = OK at *
        have HOK := hide hOK
        clear hOK
        go_wp2_with fail
        refine (HIH.out j _ _ hfj HJ.out R.out).mono ?_
        rintro e w3 ⟨⟨vp, rfl, hop⟩, hb3⟩
        obtain ⟨Ap, cp, rfl, _, rp⟩ := Arr.of_own hop
        have RP := hide (InRow.of_arr rp)
        have HO3 := hide (own_belowZ HO.out hb3)
        have HRO3 := hide (HRO.out.belowZ hb3)
        have HB3 := hide (HB.out.trans (hb3.mono HB.out.size))
        have hz3 := hb3.size
        clear hop rp hb3 d0
        go_wp2_with (first | (at_builtin; refine wpList_apps _ rfl (.tmp 24) (.tmp 30) _ rfl w.heap.size 64 i0 _ 3 32 Try.underlying32 HI.out hz0 hz1 hz2 rfl (by decide) _ _ _ rfl HO3.out Ap _ cp (tokCells (foldF l f j)) rfl RP.out ?d1 ?d2 ?d3 ?d4 ?_) | fail)
        case d1 => exact tokCells_one _
        case d2 => omega
        try case d3 => decide
        case d4 => exact HB3.out.size
        intro v5 w5 hown5 hb5 hgr5 hwh5
        rw [← tokCells_append] at hown5
        obtain ⟨A5, c5, rfl, _, ra5⟩ := Arr.of_own hown5
        obtain ⟨g5, rfl, _⟩ := ra5.2 (by omega)
        have hg5 : g5 < w.heap.size + 1 ∨ w2s ≤ g5 := by
          rcases hwh5 with h5 | h5
          · have : g5 = g := by simpa [Value.ownBlock] using h5
            omega
          · have : g5 = w3.heap.size := by simpa [Value.ownBlock] using h5
            have := HB3.out.size
            rcases Nat.eq_zero_or_pos ops.length with h0 | h0
            · omega
            · obtain ⟨_, _, _, _, h3, _⟩ := HRO3.out.2 h0
              omega
        have HRO5 := hide (HRO3.out.grown hgr5 (by omega))
        have HO5 := hide hown5
        have HB5 := hide (HB3.out.trans hb5)
        have HLX : Hid ((outL l[p] (fun o => foldF l f o.toNat) ops (k + 1)).length = OK.length + (foldF l f j).length) := by show _ = _; rw [HX.out, List.length_append]
        clear hown5 hb5 hgr5 hwh5 ra5
        go_wp2_with fail
        go_roundw
        case rel => exact ⟨k + 1, g5, c5, hlt, by go_num, by rw [HLX.out], hg5, by rw [HLX.out, HX.out]; exact HO5.out, HRO5.out, HB5.out⟩
        case measure => simp [intOf]; omega
      · have hX := outL_end l[p] (fun o => foldF l f o.toNat) ops k (by omega)
        have hFD2 : Hid (foldF l (f + 1) p = foldC (outL l[p] (fun o => foldF l f o.toNat) ops k)) := by show _ = _; rw [hX]; exact hFD.out
        obtain ⟨r, hr⟩ : ∃ r, outL l[p] (fun o => foldF l f o.toNat) ops k = l[p] :: r := ⟨_, rfl⟩
        rw [hr] at HO hFD2
        rw [hr]
        clear hX hr hFD
        obtain ⟨m, hm⟩ : ∃ m, (l[p] :: r).length = m := ⟨_, rfl⟩
        rw [hm] at HO
        rw [hm]
        obtain ⟨b2, o2, e2, _, d0, d1, d2⟩ := R.out.tok p hpl
        cases e2
        have HOa := hide (HO.out.alloc (.cells #[.int .i64 l[p].1, .int .i64 l[p].2.1, .string l[p].2.2] 64))
        have HBa := hide (HB.out.alloc HB.out.size (.cells #[.int .i64 l[p].1, .int .i64 l[p].2.1, .string l[p].2.2] 64))
        have HM := hide hm
        cases hbw : btw l[p].1 2 6
        · have hFF : Hid (foldF l (f + 1) p = l[p] :: r) := by show _ = _; rw [hFD2.out, foldC_not hbw]
          clear hm
          go_wp2_with (go_at_call 63; refine (s_l01In _ _ _ _).mono ?_; rintro e w' ⟨rfl, rfl⟩)
          go_ret
          exact ⟨⟨_, rfl, by rw [hFF.out, HM.out]; exact HOa.out⟩, HBa.out⟩
        · by_cases h3 : m = 3
          · obtain ⟨x, y, rfl⟩ : ∃ x y, r = [x, y] := by
              match r, hm with
              | [x, y], _ => exact ⟨x, y, rfl⟩
              | [], hm => simp at hm; omega
              | [x], hm => simp at hm; omega
              | x :: y :: z :: q, hm => simp at hm; omega
            subst h3
            obtain ⟨Aq, cq, e3, _, ra⟩ := Arr.of_own HOa.out
            cases e3
            obtain ⟨gq, e4, _, _, _, hc⟩ := ra.2 (by omega)
            cases e4
            have f3 := (hc 3 (by omega)).1
            have f4 := (hc 4 (by omega)).1
            have f6 := (hc 6 (by omega)).1
            have f7 := (hc 7 (by omega)).1
            simp [tokCells, tokC] at f3 f4 f6 f7
            have hF3 := foldC_three (a := x) (b := y) hbw
            clear hm ra hc
            by_cases hx : x.1 = 0
            · by_cases hy : y.1 = 0
              · have zx : (x.1 == 0) = true := by simp [hx]
                have zy : (y.1 == 0) = true := by simp [hy]
                cases hap : btw (applyF l[p].1 x.2.1 y.2.1) 0 999
                · have hFF : Hid (foldF l (f + 1) p = [l[p], x, y]) := by show _ = _; rw [hFD2.out, hF3, if_neg (fun h => by rw [hap] at h; exact absurd h.2.2 (by simp))]
                  clear hF3 hx hy
                  go_wp2_with (go_at_call 63; refine (s_l01In _ _ _ _).mono ?_; rintro e w' ⟨rfl, rfl⟩)
                  go_quiet ((go_at_call 96; exact quiet_left (s_apply _ _ _ _)))
                  go_wp2_with (go_at_call 63; refine (s_l01In _ _ _ _).mono ?_; rintro e w' ⟨rfl, rfl⟩)
                  go_ret
                  exact ⟨⟨_, rfl, by rw [hFF.out]; exact HOa.out⟩, below_drewN HBa.out nq⟩
                · have hFF : Hid (foldF l (f + 1) p = [(0, applyF l[p].1 x.2.1 y.2.1, ByteArray.empty)]) := by show _ = _; rw [hFD2.out, hF3, if_pos ⟨hx, hy, hap⟩]
                  clear hF3 hx hy
                  go_wp2_with (go_at_call 63; refine (s_l01In _ _ _ _).mono ?_; rintro e w' ⟨rfl, rfl⟩)
                  go_quiet ((go_at_call 96; exact quiet_left (s_apply _ _ _ _)))
                  go_wp2_with (go_at_call 63; refine (s_l01In _ _ _ _).mono ?_; rintro e w' ⟨rfl, rfl⟩)
                  go_ret
                  have hsz : ((wr.alloc (.cells #[.int .i64 l[p].1, .int .i64 l[p].2.1, .string l[p].2.2] 64)).drewN nq).heap.size = wr.heap.size + 1 := by simp
                  have hBq := below_drewN HBa.out nq
                  have hO := World.ownsRow_lit (base := w.heap.size) (size := 3) (e := 64) ((wr.alloc (.cells #[.int .i64 l[p].1, .int .i64 l[p].2.1, .string l[p].2.2] 64)).drewN nq) #[.int .i64 0, .int .i64 (applyF l[p].1 x.2.1 y.2.1), .string ⟨#[]⟩] 1 hBq.size (by unfold maxLen; omega) rfl
                  rw [hsz] at hO
                  exact ⟨⟨_, rfl, by rw [hFF.out]; exact hO⟩, hBq.alloc hBq.size _⟩
              · have hFF : Hid (foldF l (f + 1) p = [l[p], x, y]) := by show _ = _; rw [hFD2.out, hF3, if_neg (fun h => hy h.2.1)]
                have zx : (x.1 == 0) = true := by simp [hx]
                have zy : (y.1 == 0) = false := by simp [hy]
                clear hF3 hx hy
                go_wp2_with (go_at_call 63; refine (s_l01In _ _ _ _).mono ?_; rintro e w' ⟨rfl, rfl⟩)
                go_ret
                exact ⟨⟨_, rfl, by rw [hFF.out]; exact HOa.out⟩, HBa.out⟩
            · have hFF : Hid (foldF l (f + 1) p = [l[p], x, y]) := by show _ = _; rw [hFD2.out, hF3, if_neg (fun h => hx h.1)]
              have zx : (x.1 == 0) = false := by simp [hx]
              clear hF3 hx
              go_wp2_with (go_at_call 63; refine (s_l01In _ _ _ _).mono ?_; rintro e w' ⟨rfl, rfl⟩)
              go_ret
              exact ⟨⟨_, rfl, by rw [hFF.out]; exact HOa.out⟩, HBa.out⟩
          · have hFF : Hid (foldF l (f + 1) p = l[p] :: r) := by show _ = _; rw [hFD2.out, foldC_len3 (by omega)]
            have z3 : ((m : Int) == 3) = false := by rw [beq_eq_false_iff_ne]; omega
            clear hm
            go_wp2_with (go_at_call 63; refine (s_l01In _ _ _ _).mono ?_; rintro e w' ⟨rfl, rfl⟩)
            go_ret
            exact ⟨⟨_, rfl, by rw [hFF.out, HM.out]; exact HOa.out⟩, HBa.out⟩
end Go.Proofs.Ytcfjbaanahgpoaa
namespace Go.Proofs.Ytcfjbaanahgpoaa
open Go Go.RowKit
set_option maxRecDepth 100000
theorem tkAr_two {t : Tk} (h : tkOk t = true) (hk : btw t.1 2 6 = true) : (tkAr t).toNat = 2 := by
  have h' : 2 ≤ t.1 ∧ t.1 ≤ 6 := by simpa [btw] using hk
  unfold tkAr arityF
  unfold tkOk at h
  rw [h, if_neg (by simp), if_neg (by omega), if_neg (by omega)]
  rfl
theorem Try.infoTokS : (Try.prog.info? 32).map (fun i => (i.zero, i.size, i.bytes)) = some (some (.slice none 0 0), 1, 24) := by kernel_rfl
set_option maxHeartbeats 4000000 in
theorem i_fold (n c : Nat) (l : List Tk) (hn : n ≤ 1048576) (hl : l.length = n) (hs : ∀ t ∈ l, t.2.2.size ≤ maxLen) (f : Nat) : ∀ (p : Nat) (A : Option Addr) (w : World), l.length - p ≤ f → 0 ≤ endL l p 1 → InRow w A n 3 (tokCells l) →
    Calls Try.prog 88 #[.slice A n c, .int .i64 p] w fun e w' => (∃ v, e = .returned v ∧ w'.ownsRow w.heap.size 64 3 v (foldF l f p).length (tokCells (foldF l f p))) ∧ Below w.heap.size w w' := by
  obtain ⟨i0, hi, hz0, hz1, hz2⟩ := info_parts Try.infoTok
  obtain ⟨j0, hj0, jz0, jz1, jz2⟩ := info_parts Try.infoTokS
  have HJI := hide hj0
  clear hj0
  have HL := hide hl
  have HS := hide hs
  have HI := hide hi
  clear hl hs hi
  induction f with
  | zero =>
    intro p A w hf h _
    have := (good_at l p h).1
    omega
  | succ f ih =>
    intro p A w hf h hR
    have HIH := hide ih
    have H := hide hR
    have HG := hide h
    have HFU := hide hf
    obtain ⟨hpl, _, _⟩ := good_at l p h
    have hpn : p < n := by rw [← HL.out]; exact hpl
    have ht : tkAt l p = l[p] := by unfold tkAt; rw [List.getD_eq_getElem?_getD, List.getElem?_eq_getElem hpl]; rfl
    have hFD : Hid (foldF l (f + 1) p = foldC (l[p] :: (operandsF l (p : Int)).flatMap fun o => foldF l f o.toNat)) := by show _ = _; rw [foldF, ht]
    have hgood : Hid (∀ o ∈ operandsF l (p : Int), ∃ j : Nat, o = j ∧ p + 1 ≤ j ∧ j < l.length ∧ 0 ≤ endL l j 1) := by
      show ∀ o ∈ operandsF l (p : Int), ∃ j : Nat, o = j ∧ p + 1 ≤ j ∧ j < l.length ∧ 0 ≤ endL l j 1
      rw [operandsF_nat l p h]
      obtain ⟨_, _, he⟩ := good_at l p h
      exact opsL_good l _ (p + 1) (by omega) (by rw [← he]; exact h)
    have hlen4 := operandsF_length l (p : Int)
    have hflat : Hid (∀ k, (((operandsF l (p : Int)).take k).flatMap fun o => foldF l f o.toNat).length ≤ l.length) := fun k => operandsF_flat_len l f p hf h k
    obtain ⟨b, o, rfl, _, c0, c1, c2⟩ := hR.tok p hpl
    have ht0 := hide ht
    clear h hR ih ht hf
    go_enter Try.func88, Try.ntmps88
    go_wp2_with fail
    have B0 := hide ((((Below.refl w.heap.size w).alloc (Nat.le_refl _) (.cells #[.int .i64 l[p].1, .int .i64 l[p].2.1, .string l[p].2.2] 64)).alloc (by simp) (.cells #[.int .i64 l[p].1, .int .i64 l[p].2.1, .string l[p].2.2] 64)).alloc (by first | (simp; done) | (simp; omega)) (.cells #[] 32))
    refine (i_operands _ n c l (p : Int) _ hn HL.out (H.out.below B0.out) HS.out).mono ?_
    rintro e w2 ⟨⟨vo, rfl, ho⟩, hb2⟩
    have hops2 : btw l[p].1 2 6 = true → (operandsF l (p : Int)).length = 2 := by
      intro hq
      obtain ⟨_, hok, _⟩ := good_at l p HG.out
      rw [operandsF_nat l p HG.out, opsL_length, ht0.out]
      rw [ht0.out] at hok
      exact tkAr_two hok hq
    generalize hops : operandsF l (p : Int) = ops at *
    have hlt1 : w.heap.size + 1 < (((w.alloc (.cells #[.int .i64 l[p].1, .int .i64 l[p].2.1, .string l[p].2.2] 64)).alloc (.cells #[.int .i64 l[p].1, .int .i64 l[p].2.1, .string l[p].2.2] 64)).alloc (.cells #[] 32)).heap.size := by first | (simp; done) | (simp; omega)
    have K2 : Hid (Blk w2 w.heap.size 64 #[.int .i64 l[p].1, .int .i64 l[p].2.1, .string l[p].2.2]) := (((Blk.new w 64 #[.int .i64 l[p].1, .int .i64 l[p].2.1, .string l[p].2.2]).alloc _).alloc _).below hb2 (by omega)
    have O2 : Hid (w2.ownsRow w.heap.size 64 3 (.slice (some ⟨w.heap.size + 1, 0, none⟩) 1 1) 1 (tokCells [l[p]])) := by
      have := World.ownsRow_lit (base := w.heap.size) (size := 3) (e := 64) (w.alloc (.cells #[.int .i64 l[p].1, .int .i64 l[p].2.1, .string l[p].2.2] 64)) #[.int .i64 l[p].1, .int .i64 l[p].2.1, .string l[p].2.2] 1 (by simp) (by unfold maxLen; omega) rfl
      rw [show (w.alloc (.cells #[.int .i64 l[p].1, .int .i64 l[p].2.1, .string l[p].2.2] 64)).heap.size = w.heap.size + 1 by simp] at this
      exact own_belowZ (this.alloc _) hb2
    have P2 : Hid (w2.ownsRow w.heap.size 32 1 (.slice (some ⟨w.heap.size + 2, 0, none⟩) 0 0) 0 []) := by
      have := World.ownsRow_lit (base := w.heap.size) (size := 1) (e := 32) ((w.alloc (.cells #[.int .i64 l[p].1, .int .i64 l[p].2.1, .string l[p].2.2] 64)).alloc (.cells #[.int .i64 l[p].1, .int .i64 l[p].2.1, .string l[p].2.2] 64)) #[] 0 (by first | (simp; done) | (simp; omega)) (Nat.zero_le _) rfl
      rw [show ((w.alloc (.cells #[.int .i64 l[p].1, .int .i64 l[p].2.1, .string l[p].2.2] 64)).alloc (.cells #[.int .i64 l[p].1, .int .i64 l[p].2.1, .string l[p].2.2] 64)).heap.size = w.heap.size + 2 by simp] at this
      exact own_belowZ this hb2
    have B2 := hide (B0.out.trans (hb2.mono B0.out.size))
    obtain ⟨Ao, co, rfl, hoc, ro⟩ := Arr.of_own ho
    have RO : Hid (Arr w2 (w.heap.size + 3) w2.heap.size Ao ops.length 1 (intCells ops)) := by show Arr w2 (w.heap.size + 3) w2.heap.size Ao ops.length 1 (intCells ops); simpa using ro
    have hz2 : w.heap.size + 3 ≤ w2.heap.size := by have := hb2.size; simpa using this
    clear ho hb2 ro c0 c1 c2 hops B0 hlt1
    obtain ⟨w2s, hw2s⟩ : ∃ q, q = w2.heap.size := ⟨_, rfl⟩
    rw [← hw2s] at RO
    have hw2z : w2s ≤ w2.heap.size := by omega
    have hw2y : w.heap.size + 3 ≤ w2s := by omega
    clear hw2s hz2
    go_wp2_with fail
    go_loopw [6, 7, 23] (fun v v7 i wr => ∃ (k g cap gp capp : Nat) (PS : List Value), k ≤ ops.length ∧ i = .int .i64 k ∧ v = .slice (some ⟨g, 0, none⟩) (outL l[p] (fun o => foldF l f o.toNat) ops k).length cap ∧ v7 = .slice (some ⟨gp, 0, none⟩) k capp ∧ (0 < k → ∃ A0 c0, PS[0]? = some (.slice A0 (foldF l f (ops.getD 0 0).toNat).length c0)) ∧ (w.heap.size < g ∧ (g < w.heap.size + 3 ∨ w2s ≤ g)) ∧ (w.heap.size < gp ∧ (gp < w.heap.size + 3 ∨ w2s ≤ gp)) ∧ g ≠ gp ∧ wr.ownsRow w.heap.size 64 3 v (outL l[p] (fun o => foldF l f o.toNat) ops k).length (tokCells (outL l[p] (fun o => foldF l f o.toNat) ops k)) ∧ wr.ownsRow w.heap.size 32 1 v7 k PS ∧ Arr wr (w.heap.size + 3) w2s Ao ops.length 1 (intCells ops) ∧ Blk wr w.heap.size 64 #[.int .i64 l[p].1, .int .i64 l[p].2.1, .string l[p].2.2] ∧ Below w.heap.size w wr) (fun _ _ i _ => ops.length - (intOf i).toNat)
    case atStart => exact ⟨0, w.heap.size + 1, 1, w.heap.size + 2, 0, [], Nat.zero_le _, rfl, rfl, rfl, fun h => by omega, by omega, by omega, by omega, O2.out, P2.out, RO.out, K2.out, B2.out⟩
    case round =>
      obtain ⟨k, g, cap, gp, capp, PS, hk, rfl, rfl, rfl, hps0, hg, hgp, hggp, hown, hpar, hro, hblk, hb⟩ := hrel
      have HO := hide hown
      have HPA := hide hpar
      have HP0 := hide hps0
      have HRO := hide hro
      have HK := hide hblk
      have HB := hide hb
      have R := hide (H.out.below hb)
      have hgl : g < wr.heap.size := (hown.lt g rfl).2
      have hgpl : gp < wr.heap.size := (hpar.lt gp rfl).2
      clear hown hro hb hpar hps0 hblk O2 RO B2 K2 P2
      by_cases hlt : k < ops.length
      · obtain ⟨bo, oo, rfl, _, d0⟩ := (InRow.of_arr HRO.out).int k hlt
        obtain ⟨j, hj, hpj, hjl, hjg⟩ := hgood.out _ (List.getElem_mem hlt)
        rw [hj] at d0
        have HX : Hid (outL l[p] (fun o => foldF l f o.toNat) ops (k + 1) = outL l[p] (fun o => foldF l f o.toNat) ops k ++ foldF l f j) := by
          show _ = _; rw [outL_succ _ _ _ k hlt, hj, Int.toNat_natCast]
        have hbnd : (outL l[p] (fun o => foldF l f o.toNat) ops k).length + (foldF l f j).length ≤ 1048577 := by
          rw [← List.length_append, ← HX.out]
          have := hflat.out (k + 1)
          have hln := HL.out
          unfold outL
          simp only [List.length_cons]
          omega
        have hk0 : Hid (k = 0 → (ops.getD 0 0).toNat = j) := by
          show k = 0 → _
          rintro rfl
          rw [List.getD_eq_getElem?_getD, List.getElem?_eq_getElem hlt, Option.getD_some, hj, Int.toNat_natCast]
        have HJ := hide hjg
        have hfj : l.length - j ≤ f := by have := HFU.out; omega
        have hpos : 1 ≤ (outL l[p] (fun o => foldF l f o.toNat) ops k).length := by unfold outL; simp
        clear hj hjg
        generalize hOK : outL l[p] (fun o => foldF l f o.toNat) ops k = OK at *
        clear hOK
        go_wp2_with fail
        refine (HIH.out j _ _ hfj HJ.out R.out).mono ?_
        rintro e w3 ⟨⟨vp, rfl, hop⟩, hb3⟩
        obtain ⟨Ap, cp, rfl, _, rp⟩ := Arr.of_own hop
        have RP := hide rp
        have HO3 := hide (own_belowZ HO.out hb3)
        have HPA3 := hide (own_belowZ HPA.out hb3)
        have HRO3 := hide (HRO.out.belowZ hb3)
        have HK3 := hide (HK.out.below hb3 (Blk.lt HK.out))
        have HB3 := hide (HB.out.trans (hb3.mono HB.out.size))
        have hz3 := hb3.size
        clear hop rp hb3 d0
        go_wp2_with (first | (at_builtin; refine wpList_app _ rfl (.tmp 30) (.tmp 32) _ rfl w.heap.size 32 j0 _ 1 24 Try.underlying131 HJI.out jz0 jz1 jz2 rfl (by decide) _ _ _ rfl HPA3.out 1 [.slice Ap (foldF l f j).length cp] rfl ?e1 ?e2 ?e3 ?e4 ?e5 ?_) | fail)
        try case e1 => rfl
        try case e2 => intro u hu; obtain rfl := List.mem_singleton.1 hu; rfl
        try case e3 => omega
        try case e4 => decide
        case e5 => exact HB3.out.size
        intro v4 w4 hown4 hb4 hgr4' hwh4
        have hgr4 : w3.grownBy w4 (some gp) := hgr4'
        clear hgr4'
        obtain ⟨A4, c4, rfl, _, ra4⟩ := Arr.of_own hown4
        obtain ⟨g4, rfl, _⟩ := ra4.2 (by omega)
        have hg4 : g4 = gp ∨ g4 = w3.heap.size + 1 := by
          rcases hwh4 with h5 | h5
          · exact .inl (by simpa [Value.ownBlock] using h5)
          · exact .inr (by simpa [Value.ownBlock] using h5)
        have hr3 : w2s ≤ w3.heap.size ∨ ops.length = 0 := by
          rcases Nat.eq_zero_or_pos ops.length with h0 | h0
          · exact .inr h0
          · obtain ⟨_, _, _, _, h3, _⟩ := HRO3.out.2 h0
            exact .inl h3
        have HO4 := hide (HO3.out.kept hgr4 (.inr (by simp [Value.ownBlock]; exact hggp)))
        have HRO4 := hide (HRO3.out.grown hgr4 (by omega))
        have RP4 := hide (InRow.of_arr (RP.out.grown hgr4 (by omega)))
        have HK4 := hide (HK3.out.grown hgr4 (by show some w.heap.size ≠ some gp; simp; omega))
        have HB4 := hide (HB3.out.trans hb4)
        have HPA4 := hide hown4
        have hgl4 : g4 < w4.heap.size := (hown4.lt g4 rfl).2
        have hz4 := hgr4.size
        have hpl4 : (PS ++ [Value.slice Ap (foldF l f j).length cp]).length = k + 1 := by have := hown4.1; simpa using this
        clear hown4 hb4 hgr4 hwh4 ra4 HO3 HRO3 RP HK3 HB3 HPA3
        go_wp2_with (first | (at_builtin; refine wpList_apps _ rfl (.tmp 34) (.tmp 35) _ rfl w.heap.size 64 i0 _ 3 32 Try.underlying32 HI.out hz0 hz1 hz2 rfl (by decide) _ _ _ rfl HO4.out Ap _ cp (tokCells (foldF l f j)) rfl RP4.out ?d1 ?d2 ?d3 ?d4 ?_) | fail)
        case d1 => exact tokCells_one _
        case d2 => omega
        try case d3 => decide
        case d4 => exact HB4.out.size
        intro v5 w5 hown5 hb5 hgr5' hwh5
        have hgr5 : w4.grownBy w5 (some g) := hgr5'
        clear hgr5'
        rw [← tokCells_append] at hown5
        obtain ⟨A5, c5, rfl, _, ra5⟩ := Arr.of_own hown5
        obtain ⟨g5, rfl, _⟩ := ra5.2 (by omega)
        have hg5 : g5 = g ∨ g5 = w4.heap.size := by
          rcases hwh5 with h5 | h5
          · exact .inl (by simpa [Value.ownBlock] using h5)
          · exact .inr (by simpa [Value.ownBlock] using h5)
        have HRO5 := hide (HRO4.out.grown hgr5 (by omega))
        have HK5 := hide (HK4.out.grown hgr5 (by show some w.heap.size ≠ some g; simp; omega))
        have HP5 := hide (HPA4.out.kept hgr5 (.inr (by simp [Value.ownBlock]; omega)))
        have HO5 := hide hown5
        have HB5 := hide (HB4.out.trans hb5)
        have HLX : Hid ((outL l[p] (fun o => foldF l f o.toNat) ops (k + 1)).length = OK.length + (foldF l f j).length) := by show _ = _; rw [HX.out, List.length_append]
        have HPN : Hid (0 < k + 1 → ∃ A0 c0, (PS ++ [Value.slice Ap (foldF l f j).length cp])[0]? = some (.slice A0 (foldF l f (ops.getD 0 0).toNat).length c0)) := by
          show 0 < k + 1 → _
          intro _
          rcases Nat.eq_zero_or_pos k with h0 | h0
          · refine ⟨Ap, cp, ?_⟩
            rw [hk0.out h0]
            have hps : PS = [] := by
              have : PS.length = 0 := by simp at hpl4; omega
              exact List.eq_nil_of_length_eq_zero this
            rw [hps]; rfl
          · obtain ⟨A0, c0, e0⟩ := HP0.out h0
            exact ⟨A0, c0, by rw [List.getElem?_append_left (by simp at hpl4; omega)]; exact e0⟩
        clear hown5 hb5 hgr5 hwh5 ra5 hpl4
        go_wp2_with fail
        go_roundw
        case rel => exact ⟨k + 1, g5, c5, g4, c4, _, hlt, by go_num, by rw [HLX.out], rfl, HPN.out, by omega, by omega, by omega, by rw [HLX.out, HX.out]; exact HO5.out, HP5.out, HRO5.out, HK5.out, HB5.out⟩
        case measure => simp [intOf]; omega
      · have hX := outL_end l[p] (fun o => foldF l f o.toNat) ops k (by omega)
        have hke : k = ops.length := by omega
        have hFD2 : Hid (foldF l (f + 1) p = foldC (outL l[p] (fun o => foldF l f o.toNat) ops k)) := by show _ = _; rw [hX]; exact hFD.out
        have hone : Hid (btw l[p].1 2 6 = true → (outL l[p] (fun o => foldF l f o.toNat) ops k).length = 3 → (foldF l f (ops.getD 0 0).toNat).length = 1) := by
          show btw l[p].1 2 6 = true → _
          intro hq h3
          have h2 := hops2 hq
          rw [hX] at h3
          match ops, h2 with
          | [a, b'], _ =>
            have p1 := foldF_pos l f a.toNat
            have p2 := foldF_pos l f b'.toNat
            simp at h3
            simp
            omega
        obtain ⟨r, hr⟩ : ∃ r, outL l[p] (fun o => foldF l f o.toNat) ops k = l[p] :: r := ⟨_, rfl⟩
        rw [hr] at HO hFD2 hone
        rw [hr]
        clear hX hr hFD
        obtain ⟨m, hm⟩ : ∃ m, (l[p] :: r).length = m := ⟨_, rfl⟩
        rw [hm] at HO hone
        rw [hm]
        have d0 := HK.out.cell 0
        have d1 := HK.out.cell 1
        have d2 := HK.out.cell 2
        simp at d0 d1 d2
        have HM := hide hm
        cases hbw : btw l[p].1 2 6
        · have hFF : Hid (foldF l (f + 1) p = l[p] :: r) := by show _ = _; rw [hFD2.out, foldC_not hbw]
          clear hm
          go_wp2_with (go_at_call 32; refine (i_between _ _ _ _).mono ?_; rintro e w' ⟨rfl, rfl⟩)
          go_ret
          exact ⟨⟨_, rfl, by rw [hFF.out, HM.out]; exact HO.out⟩, HB.out⟩
        · by_cases h3 : m = 3
          · obtain ⟨x, y, rfl⟩ : ∃ x y, r = [x, y] := by
              match r, hm with
              | [x, y], _ => exact ⟨x, y, rfl⟩
              | [], hm => simp at hm; omega
              | [x], hm => simp at hm; omega
              | x :: y :: z :: q, hm => simp at hm; omega
            subst h3
            have hlen1 := hone.out hbw rfl
            obtain ⟨A0, c00, e0⟩ := HP0.out (by have := hops2 hbw; omega)
            rw [hlen1] at e0
            have hpc := HPA.out.cellAt 0 (by have := hops2 hbw; omega)
            rw [e0] at hpc
            clear hlen1 e0
            obtain ⟨Aq, cq, e3, _, ra⟩ := Arr.of_own HO.out
            cases e3
            obtain ⟨gq, e4, _, _, _, hc⟩ := ra.2 (by omega)
            cases e4
            have f3 := (hc 3 (by omega)).1
            have f4 := (hc 4 (by omega)).1
            have f6 := (hc 6 (by omega)).1
            have f7 := (hc 7 (by omega)).1
            simp [tokCells, tokC] at f3 f4 f6 f7
            have hF3 := foldC_three (a := x) (b := y) hbw
            clear hm ra hc
            by_cases hx : x.1 = 0
            · by_cases hy : y.1 = 0
              · have zx : (x.1 == 0) = true := by simp [hx]
                have zy : (y.1 == 0) = true := by simp [hy]
                cases hap : btw (applyF l[p].1 x.2.1 y.2.1) 0 999
                · have hFF : Hid (foldF l (f + 1) p = [l[p], x, y]) := by show _ = _; rw [hFD2.out, hF3, if_neg (fun h => by rw [hap] at h; exact absurd h.2.2 (by simp))]
                  clear hF3 hx hy
                  go_wp2_with (go_at_call 32; refine (i_between _ _ _ _).mono ?_; rintro e w' ⟨rfl, rfl⟩)
                  go_quiet ((go_at_call 102; exact quiet_left (i_apply _ _ _ _)))
                  go_wp2_with (go_at_call 32; refine (i_between _ _ _ _).mono ?_; rintro e w' ⟨rfl, rfl⟩)
                  go_ret
                  exact ⟨⟨_, rfl, by rw [hFF.out]; exact HO.out⟩, below_drewN HB.out nq⟩
                · have hFF : Hid (foldF l (f + 1) p = [(0, applyF l[p].1 x.2.1 y.2.1, ByteArray.empty)]) := by show _ = _; rw [hFD2.out, hF3, if_pos ⟨hx, hy, hap⟩]
                  clear hF3 hx hy
                  go_wp2_with (go_at_call 32; refine (i_between _ _ _ _).mono ?_; rintro e w' ⟨rfl, rfl⟩)
                  go_quiet ((go_at_call 102; exact quiet_left (i_apply _ _ _ _)))
                  go_wp2_with (go_at_call 32; refine (i_between _ _ _ _).mono ?_; rintro e w' ⟨rfl, rfl⟩)
                  go_ret
                  have hsz : (wr.drewN nq).heap.size = wr.heap.size := by simp
                  have hBq := below_drewN HB.out nq
                  have hO := World.ownsRow_lit (base := w.heap.size) (size := 3) (e := 64) (wr.drewN nq) #[.int .i64 0, .int .i64 (applyF l[p].1 x.2.1 y.2.1), .string ⟨#[]⟩] 1 hBq.size (by unfold maxLen; omega) rfl
                  rw [hsz] at hO
                  exact ⟨⟨_, rfl, by rw [hFF.out]; exact hO⟩, hBq.alloc hBq.size _⟩
              · have hFF : Hid (foldF l (f + 1) p = [l[p], x, y]) := by show _ = _; rw [hFD2.out, hF3, if_neg (fun h => hy h.2.1)]
                have zx : (x.1 == 0) = true := by simp [hx]
                have zy : (y.1 == 0) = false := by simp [hy]
                clear hF3 hx hy
                go_wp2_with (go_at_call 32; refine (i_between _ _ _ _).mono ?_; rintro e w' ⟨rfl, rfl⟩)
                go_ret
                exact ⟨⟨_, rfl, by rw [hFF.out]; exact HO.out⟩, HB.out⟩
            · have hFF : Hid (foldF l (f + 1) p = [l[p], x, y]) := by show _ = _; rw [hFD2.out, hF3, if_neg (fun h => hx h.1)]
              have zx : (x.1 == 0) = false := by simp [hx]
              clear hF3 hx
              go_wp2_with (go_at_call 32; refine (i_between _ _ _ _).mono ?_; rintro e w' ⟨rfl, rfl⟩)
              go_ret
              exact ⟨⟨_, rfl, by rw [hFF.out]; exact HO.out⟩, HB.out⟩
          · have hFF : Hid (foldF l (f + 1) p = l[p] :: r) := by show _ = _; rw [hFD2.out, foldC_len3 (by omega)]
            have z3 : ((m : Int) == 3) = false := by rw [beq_eq_false_iff_ne]; omega
            clear hm
            go_wp2_with (go_at_call 32; refine (i_between _ _ _ _).mono ?_; rintro e w' ⟨rfl, rfl⟩)
            go_ret
            exact ⟨⟨_, rfl, by rw [hFF.out, HM.out]; exact HO.out⟩, HB.out⟩
end Go.Proofs.Ytcfjbaanahgpoaa
namespace Go.Proofs.Ytcfjbaanahgpoaa
open Go Go.RowKit
set_option maxRecDepth 100000
theorem own_base {w : World} {b b' e size n : Nat} {v : Value} {xs : List Value} (h : w.ownsRow b e size v n xs) (hb : b' ≤ b) : w.ownsRow b' e size v n xs := by
  refine ⟨h.1, ?_⟩
  rcases h.2 with hn | ⟨g, cap, cur, rfl, hg, rest⟩
  · exact .inl hn
  · exact .inr ⟨g, cap, cur, rfl, Nat.le_trans hb hg, rest⟩
def foldEx (l : List Tk) : List Tk := if exprOkF l = true then foldF l l.length 0 else []
theorem exprOk_end {l : List Tk} (h : exprOkF l = true) : endL l 0 1 = l.length := by
  unfold exprOkF at h
  simp only [Bool.and_eq_true, decide_eq_true_eq] at h
  obtain ⟨⟨_, h1⟩, h2⟩ := h
  unfold exprEndF at h2
  rw [if_pos (by omega)] at h2
  exact h2
theorem foldEx_len (l : List Tk) : (foldEx l).length ≤ l.length := by
  unfold foldEx
  split
  · rename_i h
    have := foldF_len l l.length 0 (by omega) (by rw [exprOk_end h]; omega)
    rw [exprOk_end h] at this
    omega
  · exact Nat.zero_le _
theorem foldEx_20 (l : List Tk) : (foldEx l).length ≤ 20 := by
  unfold foldEx
  split
  · rename_i h
    have := foldF_len l l.length 0 (by omega) (by rw [exprOk_end h]; omega)
    rw [exprOk_end h] at this
    unfold exprOkF at h
    simp at h
    omega
  · exact Nat.zero_le _
set_option maxHeartbeats 1000000 in
theorem i_foldExpr (A : Option Addr) (n c : Nat) (l : List Tk) (w : World) (hn : n ≤ 1048576) (hl : l.length = n) (h : InRow w A n 3 (tokCells l)) (hs : ∀ t ∈ l, t.2.2.size ≤ maxLen) :
    Calls Try.prog 79 #[.slice A n c] w fun e w' => (∃ v, e = .returned v ∧ w'.ownsRow w.heap.size 64 3 v (foldEx l).length (tokCells (foldEx l))) ∧ Below w.heap.size w w' := by
  have H := hide h
  have HL := hide hl
  have HS := hide hs
  clear h hl hs
  cases hok : exprOkF l
  · have HF : Hid (foldEx l = []) := by show _ = _; unfold foldEx; rw [hok]; rfl
    have HK := hide hok
    clear hok
    go_enter Try.func79, Try.ntmps79
    go_wp2_with fail
    refine (i_exprOk A n c l _ hn HL.out H.out HS.out).mono ?_
    rintro e w1 ⟨rfl, hb1⟩
    rw [HK.out]
    go_wp2_with fail
    go_ret
    exact ⟨⟨_, rfl, by rw [HF.out]; exact World.ownsRow_nil _ _ _ _⟩, hb1⟩
  · have HF : Hid (foldEx l = foldF l l.length 0) := by show _ = _; unfold foldEx; rw [hok]; rfl
    have HE : Hid (0 ≤ endL l 0 1) := by show 0 ≤ _; rw [exprOk_end hok]; omega
    have HK := hide hok
    clear hok
    go_enter Try.func79, Try.ntmps79
    go_wp2_with fail
    refine (i_exprOk A n c l _ hn HL.out H.out HS.out).mono ?_
    rintro e w1 ⟨rfl, hb1⟩
    rw [HK.out]
    have B1 := hide hb1
    have R1 := hide (H.out.below hb1)
    have hc := i_fold n c l hn HL.out HS.out l.length 0 A w1 (by omega) HE.out R1.out
    have HC := hide hc
    clear hb1 hc
    go_wp2_with fail
    refine HC.out.mono ?_
    rintro e w2 ⟨⟨v, rfl, ho⟩, hb2⟩
    have HO := hide ho
    have B2 := hide (B1.out.trans (hb2.mono B1.out.size))
    clear ho hb2
    go_wp2_with fail
    go_ret
    exact ⟨⟨_, rfl, by rw [HF.out]; exact own_base HO.out B1.out.size⟩, B2.out⟩
set_option maxHeartbeats 1000000 in
theorem s_foldExpr (A : Option Addr) (n c : Nat) (l : List Tk) (w : World) (hn : n ≤ 1048576) (hl : l.length = n) (h : InRow w A n 3 (tokCells l)) (hs : ∀ t ∈ l, t.2.2.size ≤ maxLen) :
    Calls Try.prog 53 #[.slice A n c] w fun e w' => (∃ v, e = .returned v ∧ w'.ownsRow w.heap.size 64 3 v (foldEx l).length (tokCells (foldEx l))) ∧ Below w.heap.size w w' := by
  have H := hide h
  have HL := hide hl
  have HS := hide hs
  clear h hl hs
  cases hok : exprOkF l
  · have HF : Hid (foldEx l = []) := by show _ = _; unfold foldEx; rw [hok]; rfl
    have HK := hide hok
    clear hok
    go_enter Try.func53, Try.ntmps53
    go_wp2_with fail
    refine (s_exprOk A n c l _ hn HL.out H.out HS.out).mono ?_
    rintro e w1 ⟨rfl, hb1⟩
    rw [HK.out]
    go_wp2_with fail
    go_ret
    exact ⟨⟨_, rfl, by rw [HF.out]; exact World.ownsRow_lit w1 #[] 0 hb1.size (Nat.zero_le _) rfl⟩, hb1.alloc hb1.size _⟩
  · have HF : Hid (foldEx l = foldF l l.length 0) := by show _ = _; unfold foldEx; rw [hok]; rfl
    have HE : Hid (0 ≤ endL l 0 1) := by show 0 ≤ _; rw [exprOk_end hok]; omega
    have HK := hide hok
    clear hok
    go_enter Try.func53, Try.ntmps53
    go_wp2_with fail
    refine (s_exprOk A n c l _ hn HL.out H.out HS.out).mono ?_
    rintro e w1 ⟨rfl, hb1⟩
    rw [HK.out]
    have B1 := hide hb1
    have R1 := hide (H.out.below hb1)
    have hc := s_fold n c l hn HL.out HS.out l.length 0 A w1 (by omega) HE.out R1.out
    have HC := hide hc
    clear hb1 hc
    go_wp2_with fail
    refine HC.out.mono ?_
    rintro e w2 ⟨⟨v, rfl, ho⟩, hb2⟩
    have HO := hide ho
    have B2 := hide (B1.out.trans (hb2.mono B1.out.size))
    clear ho hb2
    go_wp2_with fail
    go_ret
    exact ⟨⟨_, rfl, by rw [HF.out]; exact own_base HO.out B1.out.size⟩, B2.out⟩
end Go.Proofs.Ytcfjbaanahgpoaa
