import Derived.Test.YtclldakoinnhhaaDoorDrP0
namespace Go.Proofs.YtclldakoinnhhaaDoor
open Go Go.RowKit
set_option maxRecDepth 100000
set_option linter.unusedVariables false
set_option linter.unusedSimpArgs false
theorem arL_at (k : Nat) (hk : k < 4) : ∃ a : Nat, a ≤ 2 ∧ (intCells arL)[k]? = some (.int .i64 a) ∧ arL[k]? = some (a : Int) := by
  have : k = 0 ∨ k = 1 ∨ k = 2 ∨ k = 3 := by omega
  rcases this with rfl | rfl | rfl | rfl
  · exact ⟨0, by omega, rfl, rfl⟩
  · exact ⟨1, by omega, rfl, rfl⟩
  · exact ⟨2, by omega, rfl, rfl⟩
  · exact ⟨1, by omega, rfl, rfl⟩
set_option maxHeartbeats 4000000 in
theorem s_l03Program (B g : Nat) (w : World) (hc : Cur B w g) :
    Calls Tryd.prog 21 #[.pointer (some ⟨g, 0, none⟩)] w fun e w' => ∃ v, e = .returned v ∧ BSt w w' B g v 400 ∧ 1 ≤ vLen v := by
  obtain ⟨i0, hi, hz0, hz1, hz2⟩ := info_parts Tryd.infoStr
  have HI := hide hi
  clear hi
  have hgl0 := hc.lt
  have N0 := hide (RowX.new (t := 9) (l := strCells nmL) (n := 4) rfl hgl0)
  have A0 := hide (RowX.new (w := w.alloc (.cells (strCells nmL).toArray 9)) (t := 3) (l := intCells arL) (n := 4) rfl (Nat.lt_of_lt_of_le hgl0 (by simp)))
  have N1 := hide (N0.out.alloc (.cells (intCells arL).toArray 3))
  have C1 := hide ((hc.alloc (.cells (strCells nmL).toArray 9)).alloc (.cells (intCells arL).toArray 3))
  have G1 := hide (only_alloc (only_alloc (World.grownBy.refl w (some g)) (.cells (strCells nmL).toArray 9)) (.cells (intCells arL).toArray 3))
  have hbz : w.heap.size + 2 = ((w.alloc (.cells (strCells nmL).toArray 9)).alloc (.cells (intCells arL).toArray 3)).heap.size := by simp
  have hab : (w.alloc (.cells (strCells nmL).toArray 9)).heap.size = w.heap.size + 1 := by simp
  rw [hab] at A0
  clear hc N0 hab
  go_enter Tryd.func21, Tryd.ntmps21
  go_upto_region 3 with fail
  have hWB : ∃ WB, WB = ((w.alloc (.cells (strCells nmL).toArray 9)).alloc (.cells (intCells arL).toArray 3)) := ⟨_, rfl⟩
  obtain ⟨WB, hWB⟩ := hWB
  rw [← hWB] at N1 A0 C1 G1 hbz
  change Code.wp _ _ _ _ ((w.alloc (.cells (strCells nmL).toArray 9)).alloc (.cells (intCells arL).toArray 3))
  rw [← hWB]
  clear hWB
  have hgl : g < WB.heap.size := by omega
  have HBZ := hide hbz
  clear hbz
  go_wp2_with fail
  refine (s_l01Below B g _ _ C1.out).mono ?_
  rintro e w1 ⟨⟨x, rfl, hx0, hx1, _⟩, hc1, hg1⟩
  have hx1 := hx1 (by omega)
  obtain ⟨n, rfl⟩ := Int.eq_ofNat_of_zero_le hx0
  have hn3 : n < 4 := by omega
  have S0 := hide (BSt.nil_ (w0 := WB) (hc1.alloc (.cells #[] 29)) (World.ownsRow_lit w1 #[] 0 hg1.size (Nat.zero_le _) rfl) (only_alloc hg1 _))
  clear hc1 hg1 C1 hx0 hx1
  obtain ⟨q, hq⟩ : ∃ q : Nat, q = 1 + n := ⟨_, rfl⟩
  have HQ : Hid ((1 : Int) + (n : Int) = (q : Int)) := by show _ = _; omega
  have hq4 : 1 ≤ q ∧ q ≤ 4 := by omega
  clear hq
  go_wp2_with fail
  rw [HQ.out]
  go_loopw [6, 7] (fun ov kv wr => ∃ k : Nat, k ≤ q ∧ kv = .int .i64 k ∧ BSt WB wr B g ov (90 * k) ∧ (0 < k → 1 ≤ vLen ov)) (fun _ kv _ => q - (intOf kv).toNat)
  case atStart => exact ⟨0, Nat.zero_le _, rfl, S0.out, fun h => by omega⟩
  case round =>
    obtain ⟨k, hk, rfl, hst, hvl⟩ := hrel
    have ST := hide hst
    clear hst S0
    by_cases hlt : k < q
    · have hk4 : k < 4 := by omega
      obtain ⟨a, ha2, hac, hal⟩ := arL_at k hk4
      have AR := hide (A0.out.grown ST.out.ev)
      have ca : ∀ w', Below wr.heap.size wr w' → w'.cell? ⟨w.heap.size + 1, 0 + k, none⟩ = some (.int .i64 a) := fun w' hb => by
        have hb2 : Below wr.heap.size wr w' := hb
        obtain ⟨b', o', e', _, hc'⟩ := (AR.out.below hb2).1.2 (by omega)
        cases e'
        rw [hc' k (by omega), hac]
      have ca1 := ca _ ((Below.refl _ _).alloc (Nat.le_refl _) (.cells #[.string ⟨#[120]⟩, .string ⟨#[121]⟩] 9))
      simp only [Nat.zero_add] at ca1
      clear ca hac
      go_upto_region 9 with fail
      obtain ⟨W8, hW8⟩ : ∃ W8, W8 = wr.alloc (.cells #[.string ⟨#[120]⟩, .string ⟨#[121]⟩] 9) := ⟨_, rfl⟩
      have hz8 : Hid (W8.heap.size = wr.heap.size + 1) := by show _ = _; rw [hW8]; simp
      have hrl : g < wr.heap.size := by have := ST.out.ev.size; omega
      have XY : Hid (RowX W8 g (some ⟨wr.heap.size, 0, none⟩) a 1 (strCells (xyL.take a))) := by
        show RowX _ _ _ _ _ _
        have := RowX.sub (i := 0) (m := a) (l := xyL) (f := Value.string) (RowX.new (w := wr) (g := g) (t := 9) (l := strCells xyL) (n := 2) rfl hrl) (by omega)
        rw [hW8]
        rw [show strCells (xyL.take a) = List.take a (List.drop 0 (xyL.map Value.string)) by simp [strCells, List.map_take]]
        exact (show RowX _ _ _ _ _ _ from by simpa [strCells] using this : RowX (wr.alloc (Obj.cells (List.map Value.string xyL).toArray 9)) g (some ⟨wr.heap.size, 0, none⟩) a 1 (List.take a (List.drop 0 (xyL.map Value.string))))
      have S8 : Hid (BSt WB W8 B g u6 (90 * k)) := by
        show BSt _ _ _ _ _ _
        rw [hW8]
        exact ST.out.drew (ST.out.cur.alloc _) (only_alloc (World.grownBy.refl wr _) _) hgl
      rw [← hW8]
      clear hW8 ca1
      have NK : Hid (∀ i m : Nat, i + m ≤ 4 → RowX WB g (some ⟨w.heap.size, i, none⟩) m 1 (strCells ((nmL.drop i).take m)) ∧ ((nmL.drop i).take m).length = m) := fun i m h => by
        have := RowX.sub (i := i) (m := m) (l := nmL) (f := Value.string) N1.out h
        rw [Nat.zero_add] at this
        exact ⟨this, by simp [nmL]; omega⟩
      have AK : Hid (∀ i m : Nat, i + m ≤ 4 → RowX WB g (some ⟨w.heap.size + 1, i, none⟩) m 1 (intCells ((arL.drop i).take m)) ∧ ((arL.drop i).take m).length = m) := fun i m h => by
        have := RowX.sub (i := i) (m := m) (l := arL) (f := Value.int .i64) A0.out h
        rw [Nat.zero_add] at this
        exact ⟨this, by simp [arL]; omega⟩
      go_cut [9] from 27 to 44 (fun s9 wx => ∃ (gb H : Nat) (nms : List ByteArray) (ars : List Int), s9 = .pointer (some ⟨gb, 0, none⟩) ∧ Below W8.heap.size W8 wx ∧ H ≤ wx.heap.size ∧ W8.heap.size ≤ gb ∧ gb < H ∧ GenP (fun b => b < WB.heap.size ∨ (W8.heap.size ≤ b ∧ b < H)) wx gb g (xyL.take a ++ izL) nms ars)
      case first =>
        have hk1 : (k : Int) + 1 ≤ q := by omega
        have hk2 : (0 : Int) ≤ (k : Int) + 1 := by omega
        have hk3 : IntKind.i64.wrap ((k : Int) + 1) = (k : Int) + 1 := IntWalk.i64_in _ (by omega)
        have hk4' : (q : Int) ≤ 4 := by omega
        have hk5 : (k : Int) + 1 ≤ 4 := by omega
        have AX : (9 : TypeId) = 9 := rfl
        go_region_held3 (fun _ => True) (trivial) (first
          | (refine step_appsD _ rfl (.tmp 28) (.tmp 29) _ rfl W8.heap.size 9 i0 _ 1 16 Tryd.underlying26 HI.out hz0 hz1 hz2 rfl (by decide) (.slice (some ⟨_, 0, none⟩) 0 0) 0 [] rfl (ownsRow_blk (by first | with_reducible exact (blk_new' (by first | rfl | (simp; done))).drew | with_reducible exact ((Blk.new W8 _ _).alloc _).drew) (by simp)) (some ⟨wr.heap.size, 0, none⟩) a 2 (strCells (xyL.take a)) rfl (XY.out.1.below (by first | with_reducible exact ((Below.refl W8.heap.size W8).alloc (Nat.le_refl _) _).drew | with_reducible exact (((Below.refl W8.heap.size W8).alloc (Nat.le_refl _) _).alloc (le_a1 _ _) _).drew | with_reducible exact (Below.refl W8.heap.size W8).alloc (Nat.le_refl _) _ | with_reducible exact ((Below.refl W8.heap.size W8).alloc (Nat.le_refl _) _).alloc (le_a1 _ _) _)) (strCells_oneD _) (by omega) (by decide) (below_sizeD (B := W8.heap.size) (a := W8) (by first | with_reducible exact ((Below.refl W8.heap.size W8).alloc (Nat.le_refl _) _).drew | with_reducible exact (((Below.refl W8.heap.size W8).alloc (Nat.le_refl _) _).alloc (le_a1 _ _) _).drew | with_reducible exact (Below.refl W8.heap.size W8).alloc (Nat.le_refl _) _ | with_reducible exact ((Below.refl W8.heap.size W8).alloc (Nat.le_refl _) _).alloc (le_a1 _ _) _) (Nat.le_refl _)) ?_; intro v5 w5 hown5 hb5 hg5 hv5; have hown5 : w5.ownsRow W8.heap.size 9 1 v5 a (strCells (xyL.take a)) := (by simpa only [Nat.zero_add, List.nil_append] using hown5); obtain ⟨D1, d1, rfl, _⟩ := Arr.own2 hown5; have HO5 := hide hown5; have HB5 := hide (below_transD (B := W8.heap.size) (a := W8) hb5 (by first | with_reducible exact ((Below.refl W8.heap.size W8).alloc (Nat.le_refl _) _).drew | with_reducible exact (((Below.refl W8.heap.size W8).alloc (Nat.le_refl _) _).alloc (le_a1 _ _) _).drew | with_reducible exact (Below.refl W8.heap.size W8).alloc (Nat.le_refl _) _ | with_reducible exact ((Below.refl W8.heap.size W8).alloc (Nat.le_refl _) _).alloc (le_a1 _ _) _)); first | (have IZ := hide (Blk.grown (g := W8.heap.size + 1) (t := 9) (cs := #[.string ⟨#[105]⟩, .string ⟨#[122]⟩]) (by with_reducible exact (blk_new' (by simp)).drew) hg5 (ne_some (a := W8.heap.size + 1) (b := W8.heap.size) rfl (by omega)))) | (have IZQ : (W8.alloc (.cells #[] 9)).drew.grownBy w5 _ := hg5) | (have IZ := hide (Blk.grown (g := W8.heap.size) (((Blk.new W8 9 #[.string ⟨#[105]⟩, .string ⟨#[122]⟩]).alloc (.cells #[] 9)).drew) hg5 (ne_some (a := W8.heap.size) rfl (by first | omega | (simp; done) | (simp; omega))))))
          | (refine step_appsD _ rfl (.tmp 30) (.tmp 31) _ rfl W8.heap.size 9 i0 _ 1 16 Tryd.underlying26 HI.out hz0 hz1 hz2 rfl (by decide) _ a (strCells (xyL.take a)) rfl (own_belowZ HO5.out (by first | with_reducible exact ((Below.refl w5.heap.size w5).alloc (Nat.le_refl _) _).drew | with_reducible exact (Below.refl w5.heap.size w5).drew | with_reducible exact Below.refl _ _ | with_reducible exact (Below.refl w5.heap.size w5).alloc (Nat.le_refl _) _)) _ 2 2 [.string ⟨#[105]⟩, .string ⟨#[122]⟩] rfl (inRow_blk (t := 9) (by first | with_reducible exact IZ.out | with_reducible exact IZ.out.drew | with_reducible exact (blk_new' (by first | rfl | (simp; done))).drew | with_reducible exact blk_new' (by first | rfl | (simp; done)))) (by simp [Value.oneCell']) (by omega) (by decide) (below_sizeD (B := W8.heap.size) (a := W8) (by first | with_reducible exact HB5.out | with_reducible exact HB5.out.drew | with_reducible exact (HB5.out.alloc HB5.out.size _).drew | with_reducible exact HB5.out.alloc HB5.out.size _) (Nat.le_refl _)) ?_; intro v6 w6 hown6 hb6 hg6 hv6; obtain ⟨D2, d2, rfl, _⟩ := Arr.own2 hown6; have HB6 := hide (below_transD (B := W8.heap.size) (a := W8) hb6 (by first | with_reducible exact HB5.out | with_reducible exact HB5.out.drew | with_reducible exact (HB5.out.alloc HB5.out.size _).drew | with_reducible exact HB5.out.alloc HB5.out.size _))))
        all_goals
          go_wp2_with fail
        all_goals (try subst_vars)
        all_goals
          go_meet
          first
            | exact genP_mk (nms := []) (ars := []) hgl S8.out.ev HB6.out hown6 (iz_cells a) (by rw [List.length_append, xy_len a ha2]; rfl) (by omega) (vars_ok a) RowX.zero (fun h => by omega) RowX.zero (fun h => by omega) rfl rfl (by omega) (fun _ h => by cases h) (fun _ h => by cases h)
            | exact genP_mk hgl S8.out.ev HB6.out hown6 (iz_cells a) (by rw [List.length_append, xy_len a ha2]; rfl) (by omega) (vars_ok a) (NK.out _ _ (by omega)).1 (fun _ ad e => by cases e; have := HBZ.out; show w.heap.size < _; omega) (AK.out _ _ (by omega)).1 (fun _ ad e => by cases e; have := HBZ.out; show w.heap.size + 1 < _; omega) (NK.out _ _ (by omega)).2 (AK.out _ _ (by omega)).2 (by omega) (sub_ok nmL_ok _ _) (sub_ok arL_ok _ _)
      case rest =>
        obtain ⟨gb, H, nms, ars, rfl, hbel, hH, hgb1, hgb2, hgen⟩ := hcut
        have GP := hide hgen
        have GW := hide (only_of_below hbel (some g))
        have CW := hide (S8.out.cur.below hbel)
        clear hbel hgen
        go_upto_region 10 with fail
        go_cut [50] from 45 to 49 (fun s50 wx => ∃ bo : Bool, s50 = .bool bo ∧ Cur B wx g ∧ wc.grownBy wx (some g))
        case first =>
          by_cases h0 : 0 < k
          · have z0 : decide (0 < k) = true := decide_eq_true h0
            go_wp2_with fail
            refine (s_l01Once B g _ _ CW.out).mono ?_
            rintro e w2 ⟨⟨bo, rfl⟩, hc2, hg2⟩
            go_wp2_with fail
            go_meet
            exact ⟨bo, rfl, hc2, hg2⟩
          · have z0 : decide (0 < k) = false := decide_eq_false h0
            go_wp2_with fail
            go_meet
            exact ⟨false, rfl, CW.out, World.grownBy.refl _ _⟩
        case rest =>
          obtain ⟨bo, rfl, hc2, hg2⟩ := hcut
          have GP2 := hide (GP.out.own hg2 (fun b e => .inl (by injection e with e; exact e.symm)))
          have GW2 := hide (only_trans GW.out hg2)
          have C2 := hide hc2
          have hH2 := Nat.le_trans hH hg2.size
          clear hc2 hg2 GP GW CW hH
          go_upto_if 50 with fail
          go_cut [51] from 52 to 64 (fun s51 wx => ∃ (nms : List ByteArray) (ars : List Int), Cur B wx g ∧ W8.grownBy wx (some g) ∧ H ≤ wx.heap.size ∧ GenP (fun b => b < WB.heap.size ∨ (W8.heap.size ≤ b ∧ b < H)) wx gb g (xyL.take a ++ izL) nms ars)
          case first =>
            cases bo
            · go_wp2_with fail
              go_meet
              exact ⟨nms, ars, C2.out, GW2.out, hH2, GP2.out⟩
            · obtain ⟨x, y, z, u, hblk⟩ := GP2.out.blk
              have k2 := hblk.cell 2
              have f2 := hblk.frozen 2
              have k3 := hblk.cell 3
              have f3 := hblk.frozen 3
              simp at k2 k3
              have hkq1 : (k : Int) ≤ q := by omega
              have hkq2 : (0 : Int) ≤ (k : Int) := by omega
              have hkq3 : (q : Int) ≤ 4 := by omega
              have hkq4 : (k : Int) ≤ 4 := by omega
              have hkne : k ≠ 4 := by omega
              clear hblk
              go_wp2_with fail
              go_meet
              have hbz := HBZ.out
              have hes := S8.out.ev.size
              have hgW : g < W8.heap.size := S8.out.cur.lt
              refine ⟨_, _, (C2.out.setCell (show gb ≠ g by omega) (show B ≤ gb by have := C2.out.1; omega) _).setCell (show gb ≠ g by omega) (show B ≤ gb by have := C2.out.1; omega) _, only_setCell (p := ⟨gb, 3, none⟩) (only_setCell (p := ⟨gb, 2, none⟩) GW2.out (Or.inr hgb1) _) (Or.inr hgb1) _, by simpa [World.setCell] using hH2, GP2.out.store (two_grown _ _ _ _) blk_two ((NK.out k (q - k) (by omega)).1.grown (only_trans S8.out.ev GW2.out)) ?_ ((AK.out k (q - k) (by omega)).1.grown (only_trans S8.out.ev GW2.out)) ?_ (NK.out k (q - k) (by omega)).2 (AK.out k (q - k) (by omega)).2 (by omega) (sub_ok nmL_ok _ _) (sub_ok arL_ok _ _)⟩
              · intro _ ad e
                cases e
                exact ⟨.inl (by show w.heap.size < _; omega), by show w.heap.size ≠ _; omega⟩
              · intro _ ad e
                cases e
                exact ⟨.inl (by show w.heap.size + 1 < _; omega), by show w.heap.size + 1 ≠ _; omega⟩
          case rest =>
            obtain ⟨nms', ars', hc3, hg3, hH3, hgen3⟩ := hcut
            have GP3 := hide hgen3
            have S3 := hide (S8.out.drew hc3 hg3 hgl)
            have XY3 := hide (XY.out.grown hg3)
            have NB3 : Hid (NB WB.heap.size W8.heap.size H u6) := fun b e => by have := S8.out.lt b e; omega
            have hnk : k < nmL.length := hk4
            have CN : Hid (∀ w', WB.grownBy w' (some g) → w'.cell? ⟨w.heap.size, k, none⟩ = some (.string nmL[k])) := fun w' hb => by
              obtain ⟨b', o', e', _, cn⟩ := (N1.out.grown hb).1.strAt k hnk
              cases e'
              rw [Nat.zero_add] at cn
              exact cn
            have cn := CN.out _ S3.out.ev
            have HNM := hide (nmL_ok _ (List.getElem_mem hnk))
            generalize nmL[k] = nm at *
            clear hc3 hg3 hgen3 GP2 GW2 C2 hH2 XY S8
            have hkq2 : (0 : Int) ≤ (k : Int) := by omega
            have hkq3 : (k : Int) < 4 := by omega
            go_upto_region 13 with fail
            go_cut [6] from 65 to 75 (fun s6 wx => BSt WB wx B g s6 (90 * k + 1) ∧ NB WB.heap.size W8.heap.size H s6 ∧ H ≤ wx.heap.size ∧ 1 ≤ vLen s6 ∧ GenP (fun b => b < WB.heap.size ∨ (W8.heap.size ≤ b ∧ b < H)) wx gb g (xyL.take a ++ izL) nms' ars')
            case first =>
              go_region_held3 (fun w' => w'.cell? ⟨w.heap.size, k, none⟩ = some (.string nm)) (first | exact CN.out _ (by with_reducible exact only_drew S3.out.ev) | exact CN.out _ (by with_reducible exact only_drew (only_alloc S3.out.ev _)) | exact CN.out _ (by with_reducible exact only_alloc S3.out.ev _) | exact CN.out _ (by with_reducible exact S3.out.ev) | exact CN.out _ (by with_reducible exact G5.out) | exact CN.out _ (by with_reducible exact only_alloc G5.out _) | exact CN.out _ (by with_reducible exact G8.out)) (first
                | (refine step_appsD _ rfl (.tmp 70) (.tmp 71) _ rfl wc.heap.size 9 i0 _ 1 16 Tryd.underlying26 HI.out hz0 hz1 hz2 rfl (by decide) (.slice (some ⟨_, 0, none⟩) 0 0) 0 [] rfl (ownsRow_blk (by first | with_reducible exact (blk_new' (by first | rfl | (simp; done))).drew | with_reducible exact blk_new' (by first | rfl | (simp; done))) (by simp)) (some ⟨wr.heap.size, 0, none⟩) a 2 (strCells (xyL.take a)) rfl (XY3.out.1.below (by first | with_reducible exact (Below.refl _ _).drew | with_reducible exact ((Below.refl _ _).alloc (Nat.le_refl _) _).drew | with_reducible exact (Below.refl _ _).alloc (Nat.le_refl _) _ | with_reducible exact Below.refl _ _)) (strCells_oneD _) (by omega) (by decide) (below_sizeD (B := wc.heap.size) (a := wc) (by first | with_reducible exact (Below.refl _ _).drew | with_reducible exact ((Below.refl _ _).alloc (Nat.le_refl _) _).drew | with_reducible exact (Below.refl _ _).alloc (Nat.le_refl _) _ | with_reducible exact Below.refl _ _) (Nat.le_refl _)) ?_; intro v5 w5 hown5 hb5 hg5 hv5; have hown5 : w5.ownsRow wc.heap.size 9 1 v5 a (strCells (xyL.take a)) := (by simpa only [Nat.zero_add, List.nil_append] using hown5); obtain ⟨D1, d1, rfl, _⟩ := Arr.own2 hown5; have HO5 := hide hown5; have HB5 := hide (below_transD (B := wc.heap.size) (a := wc) hb5 (by first | with_reducible exact (Below.refl _ _).drew | with_reducible exact ((Below.refl _ _).alloc (Nat.le_refl _) _).drew | with_reducible exact (Below.refl _ _).alloc (Nat.le_refl _) _ | with_reducible exact Below.refl _ _)); have G5 := hide (only_trans S3.out.ev (only_of_below HB5.out (some g))); have X5 := hide (S3.out.args hgl HB5.out (xy_len a ha2) HO5.out (line_fun HNM.out (xy_args a ha2))))
                | (refine step_line2 (cs := [.int .i64 0, .string nm, .slice D1 a d1, .slice none 0 0]) (by simp [lnC, xy_len a ha2]) rfl (.tmp 65) (.tmp 74) rfl X5.out rfl rfl (by first | rfl | (simp; done)) (by omega) hgl ?_; intro v7 w7 hst7 hg7 hv7 hl7; have S7 := hide hst7; have G8 := hide hst7.ev; have G7 := hide hg7; have V7 := hide hv7; have L7 := hide hl7))
              all_goals
                go_wp2_with fail
              all_goals
                go_meet
                have h5 := HB5.out.size
                have h7 := G7.out.size
                have hes := S3.out.ev.size
                exact ⟨S7.out, NB3.out.step V7.out (by omega) (by omega), by omega, L7.out, (GP3.out.own (only_of_below HB5.out (some g)) (fun b e => .inl (by injection e with e; exact e.symm))).own G7.out (NB3.out.not g)⟩
            case rest =>
              obtain ⟨hst7, hnb7, hH7, hvl7, hgen7⟩ := hcut
              have S7 := hide hst7
              have NB7 := hide hnb7
              have GP7 := hide hgen7
              clear hst7 hnb7 hgen7 CN cn XY3 S3 GP3 NB3 hH3
              go_wp2_with fail
              refine (s_l01Below B g _ _ S7.out.cur).mono ?_
              rintro e w8 ⟨⟨x, rfl, hx0, hx1, _⟩, hc8, hg8⟩
              have hx1 := hx1 (by omega)
              obtain ⟨x, rfl⟩ := Int.eq_ofNat_of_zero_le hx0
              have hx4 : x < 4 := by omega
              have S8 := hide (S7.out.drew hc8 hg8 hgl)
              have GP8 := hide (GP7.out.own hg8 (fun b e => .inl (by injection e with e; exact e.symm)))
              have hH8 := Nat.le_trans hH7 hg8.size
              obtain ⟨N, hN⟩ : ∃ N : Nat, N = 1 + x := ⟨_, rfl⟩
              have HN : Hid ((1 : Int) + (x : Int) = (N : Int)) := by show _ = _; omega
              have hN4 : N ≤ 4 := by omega
              clear hc8 hg8 hx0 hx1 S7 GP7 hH7 hN
              go_wp2_with fail
              refine (s_l01Below B g _ _ S8.out.cur).mono ?_
              rintro e w9 ⟨⟨y, rfl, hy0, hy1, _⟩, hc9, hg9⟩
              have hy1 := hy1 (by omega)
              obtain ⟨y, rfl⟩ := Int.eq_ofNat_of_zero_le hy0
              have S9 := hide (S8.out.drew hc9 hg9 hgl)
              have GP9 := hide (GP8.out.own hg9 (fun b e => .inl (by injection e with e; exact e.symm)))
              have hH9 := Nat.le_trans hH8 hg9.size
              obtain ⟨dd, hdd⟩ : ∃ dd : Nat, dd = 1 + y := ⟨_, rfl⟩
              have HD : Hid ((1 : Int) + (y : Int) = (dd : Int)) := by show _ = _; omega
              have hd2 : dd ≤ 2 := by omega
              have hKN := kd_le dd N hd2 hN4
              clear hc9 hg9 hy0 hy1 S8 GP8 hH8 hdd hx4
              go_wp2_with fail
              rw [HN.out, HD.out]
              refine (s_gbody B g gb _ nms' ars' (by simp [izL]) dd hd2 N _ hN4 S9.out.cur GP9.out.gen).mono ?_
              rintro e w10 ⟨v10, rfl, hst10⟩
              generalize KD dd * N = M at *
              have U := hide hst10
              clear hst10
              go_wp2_with (first | (at_builtin; refine wpList_lines2 rfl (.tmp 76) (.tmp 84) rfl S9.out U.out rfl rfl ?hm (show g < WB.heap.size from hgl) ?_) | fail)
              try case hm => omega
              intro v11 w11 hst11 hg11 hv11 hl11
              have S11 := hide hst11
              have GP11 := hide ((GP9.out.own U.out.ev (fun b e => .inl (by injection e with e; exact e.symm))).own hg11 (NB7.out.not g))
              have hl11' : 1 ≤ vLen v11 := Nat.le_trans hvl7 hl11
              clear hst11 hg11 hv11 hl11 U GP9 S9 NB7 hvl7 hH9
              go_wp2_with fail
              refine (s_gexpr B g gb _ nms' ars' 3 (by omega) (by omega) _ S11.out.cur GP11.out.gen).mono ?_
              rintro e w12 ⟨⟨D, dc, l, rfl, own, full, len⟩, hc12, hg12⟩
              have X12 := hide (S11.out.expr hgl hc12 hg12 own (k := 6) (s := ⟨#[]⟩) (line_ex (.inr (.inr (.inr rfl))) (fullK_ok full (by omega))))
              clear hc12 hg12 own full len S11 GP11
              go_wp2_with (first | (at_builtin; refine wpList_line2 rfl (.tmp 86) (.tmp 90) rfl X12.out rfl rfl ?h13 ?h13b (show g < WB.heap.size from hgl) ?_) | fail)
              try case h13 => first | rfl | (simp; done)
              try case h13b => omega
              intro v13 w13 hst13 hg13 hv13 hl13
              have X14 := hide (hst13.bare hgl (k := 7) (s := ⟨#[]⟩) (line_no (.inr rfl)))
              clear hst13 hg13 hv13 X12
              go_wp2_with (first | (at_builtin; refine wpList_line2 rfl (.tmp 92) (.tmp 94) rfl X14.out rfl rfl ?h15 ?h15b (show g < WB.heap.size from hgl) ?_) | fail)
              try case h15 => first | rfl | (simp; done)
              try case h15b => omega
              intro v15 w15 hst15 hg15 hv15 hl15
              have S15 := hide hst15
              clear hst15 hg15 hv15 X14
              go_wp2_with fail
              go_roundw
              case rel => exact ⟨k + 1, by omega, by go_num, S15.out.mono (by omega), fun _ => hl15⟩
              case measure => simp [intOf]; omega
    · have hkq : k = q := by omega
      go_wp2_with fail
      go_ret
      exact ⟨_, rfl, (ST.out.base (by have := HBZ.out; omega) (only_trans G1.out ST.out.ev)).mono (by omega), hvl (by omega)⟩
end Go.Proofs.YtclldakoinnhhaaDoor
