import Derived.Test.YtclldakoinnhhaaDoorFmtE
import Derived.Test.YtclldakoinnhhaaDoorLnOk3
import Derived.Test.YtclldakoinnhhaaDoorApp
import Derived.Deep.CutRange
import Derived.Deep.CutBlock
namespace Go.Proofs.YtclldakoinnhhaaDoor
open Go Go.RowKit
set_option maxRecDepth 100000
/-! The words of a line, joined by blanks. -/
def jb (l : List ByteArray) : ByteArray := ⟨(jn (l.map (·.data.toList))).toArray⟩
theorem jb_one (a : ByteArray) : jb [a] = a := by
  apply ByteArray.ext
  simp [jb, jn_one]
theorem jb_snoc (l : List ByteArray) (a : ByteArray) (h : l ≠ []) : jb (l ++ [a]) = (jb l ++ ⟨#[32]⟩) ++ a := by
  unfold jb
  rw [List.map_append, List.map_singleton, jn_snoc _ _ (by simpa using h), ← app32]
theorem jb_size (l : List ByteArray) (m : Nat) (h : ∀ x ∈ l, x.size ≤ m) : (jb l).size ≤ (m + 1) * l.length := by
  have := jn_length (l.map (·.data.toList)) m (fun x hx => by
    obtain ⟨a, ha, rfl⟩ := List.mem_map.1 hx
    exact h a ha)
  rwa [List.length_map] at this
def kws : List ByteArray := [⟨#[102, 117, 110]⟩, ⟨#[115, 101, 116]⟩, ⟨#[111, 117, 116]⟩, ⟨#[105, 102]⟩, ⟨#[101, 108, 115, 101]⟩, ⟨#[119, 104, 105, 108, 101]⟩, ⟨#[114, 101, 116, 117, 114, 110]⟩, ⟨#[101, 110, 100]⟩]
def kw (m : Nat) : ByteArray := kws[m]?.getD ⟨#[]⟩
theorem kw_size (m : Nat) : (kw m).size ≤ 8 := by
  have h : ∀ x ∈ kws, x.size ≤ 8 := by decide
  unfold kw
  rcases hm : kws[m]? with _ | y
  · exact Nat.zero_le _
  · exact h y (List.mem_of_getElem? hm)
theorem kws_at (m : Nat) (h : m < 8) : (strCells kws)[m]? = some (.string (kw m)) := by
  rw [strCells_at _ _ (show m < kws.length from h)]
  unfold kw
  rw [List.getElem?_eq_getElem (show m < kws.length from h)]
  rfl
def lnHead (m : Nat) (s : ByteArray) : List ByteArray := kw m :: (if s = ⟨#[]⟩ then [] else [s])
def lnTail (ex : List Tk) : List ByteArray := if ex.length = 0 then [] else [fmtExF ex]
def lnWords (x : Ln) : List ByteArray := lnHead x.1.toNat x.2.1 ++ x.2.2.1 ++ lnTail x.2.2.2
noncomputable def fmtLnF (x : Ln) : ByteArray := if lineOkF x = true then jb (lnWords x) else ByteArray.empty
theorem toList_ne {s : ByteArray} (h : s ≠ ⟨#[]⟩) : s.toList.isEmpty = false := by
  rw [ByteArray.toList_eq]
  cases hs : s.data.toList with
  | nil => exact absurd (ByteArray.ext (Array.ext' (by simpa using hs))) h
  | cons a l => rfl
theorem nameOk_size {s : ByteArray} (h : nameOkF s.data.toList = true) : s.size ≤ 8 := by
  unfold nameOkF at h
  simp [btw] at h
  have : s.data.toList.length = s.size := rfl
  simp at this
  omega
theorem lineOk_facts {k : Int} {s : ByteArray} {ar : List ByteArray} {ex : List Tk} (h : lineOkF (k, s, ar, ex) = true) :
    ∃ m : Nat, k = m ∧ m < 8 ∧ s.size ≤ 8 ∧ ar.length ≤ 4 ∧ ∀ a ∈ ar, a.size ≤ 8 := by
  unfold lineOkF at h
  simp only [Bool.and_eq_true] at h
  obtain ⟨⟨⟨h1, h2⟩, h3⟩, _⟩ := h
  have hk : 0 ≤ k ∧ k ≤ 7 := by simpa [btw] using h1
  refine ⟨k.toNat, by omega, by omega, ?_, ?_⟩
  · split at h2
    · exact nameOk_size h2
    · have : s.data.toList = [] := by simpa using h2
      have h0 : s.data.toList.length = s.size := rfl
      rw [this] at h0
      simp at h0
      omega
  · split at h3
    · have ha : ArgsP ar := by
        rcases Classical.em (ArgsP ar) with h | h
        · exact h
        · rw [argsF, yes_not h] at h3; cases h3
      refine ⟨ha.1, fun a ha' => ?_⟩
      obtain ⟨i, hi, rfl⟩ := List.mem_iff_getElem.1 ha'
      exact nameOk_size (ha.2 i hi hi).1
    · have : ar.length = 0 := of_decide_eq_true h3
      refine ⟨by omega, fun a ha => ?_⟩
      rw [List.eq_nil_of_length_eq_zero this] at ha
      cases ha
theorem lnHead_len (m : Nat) (s : ByteArray) : 1 ≤ (lnHead m s).length ∧ (lnHead m s).length ≤ 2 := by
  unfold lnHead
  split <;> simp
theorem lnHead_size {m : Nat} {s : ByteArray} (hs : s.size ≤ 8) : ∀ a ∈ lnHead m s, a.size ≤ 8 := by
  intro a ha
  unfold lnHead at ha
  rcases List.mem_cons.1 ha with rfl | h
  · exact kw_size m
  · split at h
    · cases h
    · rw [List.mem_singleton.1 h]; exact hs
theorem lnMid_size {m j : Nat} {s : ByteArray} {ar : List ByteArray} (hs : s.size ≤ 8) (ha : ∀ a ∈ ar, a.size ≤ 8) : ∀ a ∈ lnHead m s ++ ar.take j, a.size ≤ 8 := by
  intro a h
  rcases List.mem_append.1 h with h | h
  · exact lnHead_size hs a h
  · exact ha a (List.mem_of_mem_take h)
theorem kw_cells (w : World) (t : TypeId) : ∀ j : Nat, j < 8 → (w.alloc (.cells (strCells kws).toArray t)).cell? ⟨w.heap.size, j, none⟩ = some (.string (kw j)) := by
  intro j hj
  rw [(Blk.new w t _).cell j, ← kws_at j hj]
  simp
set_option maxHeartbeats 400000 in
theorem i_lineWords (w : World) : Calls Tryd.prog 30 #[] w fun e w' => (∃ g, e = .returned (.slice (some ⟨g, 0, none⟩) 8 8) ∧ g < w'.heap.size ∧ ∀ j : Nat, j < 8 → w'.cell? ⟨g, j, none⟩ = some (.string (kw j))) ∧ Below w.heap.size w w' := by
  have hk := kw_cells w 9
  have hb : Below w.heap.size w (w.alloc (.cells (strCells kws).toArray 9)) := (Below.refl _ _).alloc (Nat.le_refl _) _
  have hz : w.heap.size < (w.alloc (.cells (strCells kws).toArray 9)).heap.size := by simp
  simp only [kws, strCells, List.map_cons, List.map_nil] at hk hb hz
  go_enter Tryd.func30, Tryd.ntmps30
  go_wp2
  go_ret
  exact ⟨⟨_, rfl, hz, hk⟩, hb⟩
set_option maxHeartbeats 4000000 in
theorem i_formatLine (x : Ln) (A1 A2 : Option Addr) (c1 c2 : Nat) (w : World) (hn : x.2.2.1.length + x.2.2.2.length ≤ 1048576) (h : LnIn w x A1 c1 A2 c2) (hs : LnSz x) (hp : PowIs w) :
    Calls Tryd.prog 17 #[.agg #[.int .i64 x.1, .string x.2.1, .slice A1 x.2.2.1.length c1, .slice A2 x.2.2.2.length c2]] w fun e w' => e = .returned (.string (fmtLnF x)) ∧ Below w.heap.size w w' := by
  obtain ⟨k, s, ar, ex⟩ := x
  obtain ⟨i0, hi, hz0, hz1, hz2⟩ := info_parts Tryd.infoStr
  have H := hide h
  have HS := hide hs
  have HP := hide hp
  have HI := hide hi
  clear h hs hp hi
  simp only at hn ⊢
  have K0 := hide (Blk.new w 29 #[.int .i64 k, .string s, .slice A1 ar.length c1, .slice A2 ex.length c2])
  have B0 := hide ((Below.refl w.heap.size w).alloc (Nat.le_refl _) (.cells #[.int .i64 k, .string s, .slice A1 ar.length c1, .slice A2 ex.length c2] 29))
  cases hok : lineOkF (k, s, ar, ex)
  · have HN : Hid (fmtLnF (k, s, ar, ex) = ByteArray.empty) := by show _ = _; unfold fmtLnF; rw [hok]; rfl
    have HK := hide hok
    clear hok
    go_enter Tryd.func17, Tryd.ntmps17
    go_wp2_with fail
    refine (i_lineOk (k, s, ar, ex) A1 A2 c1 c2 _ hn (H.out.below B0.out) HS.out).mono ?_
    rintro e w1 ⟨rfl, hb⟩
    rw [HK.out]
    go_wp2_with fail
    go_ret
    exact ⟨by rw [HN.out]; rfl, B0.out.trans (hb.mono (by simp))⟩
  · have HN : Hid (fmtLnF (k, s, ar, ex) = jb (lnHead k.toNat s ++ ar ++ lnTail ex)) := by show _ = _; unfold fmtLnF; rw [hok]; rfl
    have HK := hide hok
    obtain ⟨m, rfl, hm, hs8, ha4, ha8⟩ := lineOk_facts hok
    have HA8 := hide ha8
    clear hok ha8
    go_enter Tryd.func17, Tryd.ntmps17
    go_wp2_with fail
    refine (i_lineOk (↑m, s, ar, ex) A1 A2 c1 c2 _ hn (H.out.below B0.out) HS.out).mono ?_
    rintro e w1 ⟨rfl, hb1⟩
    rw [HK.out]
    have K1 := hide (K0.out.below hb1 (by simp))
    have B1 := hide (B0.out.trans (hb1.mono (by simp)))
    clear hb1 K0 B0
    have c0 := K1.out.cell 0
    have c1' := K1.out.cell 1
    have c2' := K1.out.cell 2
    have c3' := K1.out.cell 3
    simp at c0 c1' c2' c3'
    go_upto_region 3 with fail
    go_cut [3] from 7 to 12 (fun s3 wx => Below w.heap.size w wx ∧ Blk wx w.heap.size 29 #[.int .i64 m, .string s, .slice A1 ar.length c1, .slice A2 ex.length c2] ∧ wx.ownsRow (w.heap.size + 1) 9 1 s3 1 [.string (kw m)])
    case first =>
      go_region_with (go_at_call 30; refine (i_lineWords _).mono ?_; rintro e w2 ⟨⟨g, rfl, hg, hc⟩, hb2⟩; have B2 : Hid (Below w.heap.size w w2) := (by first | exact B1.out.trans (hb2.mono B1.out.size) | exact B1.out.drew.trans (hb2.mono B1.out.size) | exact B1.out.drew.drew.trans (hb2.mono B1.out.size)); have K2 : Hid (Blk w2 w.heap.size 29 #[.int .i64 m, .string s, .slice A1 ar.length c1, .slice A2 ex.length c2]) := (by first | exact K1.out.below hb2 (Blk.lt K1.out) | exact K1.out.drew.below hb2 (Blk.lt K1.out) | exact K1.out.drew.drew.below hb2 (Blk.lt K1.out)); have d0 := K2.out.cell 0; have d1 := hc m hm; simp at d0)
      all_goals
        go_wp2_with fail
        go_meet
        refine ⟨?_, ?_, ?_⟩
        · repeat (first | exact B2.out | refine Below.alloc ?_ (by have := B2.out.size; simp; omega) _ | refine Below.drew ?_)
        · repeat (first | exact K2.out | refine Blk.alloc ?_ _ | refine Blk.drew ?_)
        · exact World.ownsRow_lit _ _ 1 (by have := Blk.lt K2.out; simp; omega) (by decide) rfl
    case rest =>
    obtain ⟨hb2, hk2, ho2⟩ := hcut
    have B2 := hide hb2
    have K2 := hide hk2
    have O2 := hide ho2
    clear hb2 hk2 ho2 c0 c1' c2' c3' B1 K1
    have c0 := K2.out.cell 0
    have c1' := K2.out.cell 1
    have c2' := K2.out.cell 2
    have c3' := K2.out.cell 3
    simp at c0 c1' c2' c3'
    go_upto_if 15 with fail
    go_cut [3] from 13 to 20 (fun s3 wx => Below w.heap.size w wx ∧ Blk wx w.heap.size 29 #[.int .i64 m, .string s, .slice A1 ar.length c1, .slice A2 ex.length c2] ∧ wx.ownsRow (w.heap.size + 1) 9 1 s3 (lnHead m s).length (strCells (lnHead m s)))
    case first =>
      by_cases hs0 : s = ⟨#[]⟩
      · have z : s.toList.isEmpty = true := by rw [hs0, ByteArray.toList_eq]; rfl
        simp only [z, Bool.not_true]
        have hh : lnHead m s = [kw m] := by unfold lnHead; rw [if_pos hs0]
        have HH := hide hh
        clear hs0 hh
        go_wp2_with fail
        go_meet
        rw [HH.out]
        exact ⟨B2.out, K2.out, O2.out⟩
      · have z : s.toList.isEmpty = false := toList_ne hs0
        simp only [z, Bool.not_false]
        have hh : lnHead m s = [kw m] ++ [s] := by unfold lnHead; rw [if_neg hs0]; rfl
        have HH := hide hh
        clear hs0 hh
        go_wp2_with (first | (at_builtin; refine wpList_app _ rfl (.tmp 16) (.tmp 19) _ rfl (w.heap.size + 1) 9 i0 _ 1 16 Tryd.underlying26 HI.out hz0 hz1 hz2 rfl (by decide) u3 _ _ rfl O2.out 1 [.string s] rfl ?c1 ?c2 ?c3 ?c4 ?c5 ?_) | fail)
        try case c1 => rfl
        try case c2 => first | rfl | (intro u hu; obtain rfl := List.mem_singleton.1 hu; rfl)
        try case c3 => omega
        try case c4 => decide
        try case c5 => exact Blk.lt K2.out
        intro v' w3 hown3 hb3 _ _
        have HO3 := hide hown3
        have HB3 := hide (B2.out.trans (hb3.mono (Nat.le_succ _)))
        have K3 := hide (K2.out.below (hb3) (Nat.lt_succ_self _))
        clear hown3 hb3
        go_wp2_with fail
        go_meet
        rw [HH.out]
        exact ⟨HB3.out, K3.out, HO3.out⟩
    case rest =>
    obtain ⟨hb4, hk4, ho4⟩ := hcut
    have B4 := hide hb4
    have K4 := hide hk4
    have O4 := hide ho4
    have R4 := hide ((H.out.below hb4).1)
    clear hb4 hk4 ho4 c0 c1' c2' c3' B2 K2 O2
    have c0 := K4.out.cell 0
    have c1' := K4.out.cell 1
    have c2' := K4.out.cell 2
    have c3' := K4.out.cell 3
    simp at c0 c1' c2' c3'
    have hl := lnHead_len m s
    go_wp2_with (first | (at_builtin; refine wpList_apps _ rfl (.tmp 21) (.tmp 23) _ rfl (w.heap.size + 1) 9 i0 _ 1 16 Tryd.underlying26 HI.out hz0 hz1 hz2 rfl (by decide) u3 _ _ rfl O4.out A1 _ c1 (strCells ar) rfl R4.out ?d1 ?d2 ?d3 ?d4 ?_) | fail)
    case d1 => intro u hu; obtain ⟨b, _, rfl⟩ := List.mem_map.1 hu; rfl
    case d2 => omega
    try case d3 => decide
    case d4 => exact Blk.lt K4.out
    intro v' w5 hown5 hb5 _ _
    have O5 := hide hown5
    have B5 := hide (B4.out.trans (hb5.mono (Nat.le_succ _)))
    have K5 := hide (K4.out.below hb5 (Nat.lt_succ_self _))
    have H5 := hide (H.out.below B5.out)
    clear hown5 hb5 c0 c1' c2' c3' B4 K4 O4 R4
    have c0 := K5.out.cell 0
    have c1' := K5.out.cell 1
    have c2' := K5.out.cell 2
    have c3' := K5.out.cell 3
    simp at c0 c1' c2' c3'
    go_upto_if 28 with fail
    go_cut [3] from 21 to 34 (fun s3 wx => Below w.heap.size w wx ∧ wx.ownsRow (w.heap.size + 1) 9 1 s3 (lnWords (↑m, s, ar, ex)).length (strCells (lnWords (↑m, s, ar, ex))))
    case first =>
      by_cases he0 : ex.length = 0
      · have hh : lnWords (↑m, s, ar, ex) = lnHead m s ++ ar := by unfold lnWords lnTail; rw [if_pos he0]; simp
        have HH := hide hh
        have hgt : decide (0 < ex.length) = false := decide_eq_false (by omega)
        simp only [hgt]
        clear he0 hh
        go_wp2_with fail
        go_meet
        rw [HH.out]
        exact ⟨B5.out, by have := O5.out; simpa [strCells, Nat.add_assoc] using this⟩
      · have hh : lnWords (↑m, s, ar, ex) = (lnHead m s ++ ar) ++ [fmtExF ex] := by unfold lnWords lnTail; rw [if_neg he0]; simp
        have HH := hide hh
        have hgt : decide (0 < ex.length) = true := decide_eq_true (by omega)
        simp only [hgt]
        clear he0 hh
        go_wp2_with fail
        refine (i_formatExpr A2 ex.length c2 ex _ (by omega) rfl H5.out.2.1 HS.out.2.2 (HP.out.below B5.out)).mono ?_
        rintro e w6 ⟨rfl, hb6⟩
        have B6 := hide (B5.out.trans (hb6.mono B5.out.size))
        have O6 := hide (own_belowZ O5.out hb6)
        have hz6 : w.heap.size + 1 ≤ w6.heap.size := Nat.le_trans (Blk.lt K5.out) hb6.size
        clear hb6 c0 c1' c2' c3'
        generalize fmtExF ex = t at *
        go_wp2_with (first | (at_builtin; refine wpList_app _ rfl (.tmp 29) (.tmp 33) _ rfl (w.heap.size + 1) 9 i0 _ 1 16 Tryd.underlying26 HI.out hz0 hz1 hz2 rfl (by decide) v' _ _ rfl O6.out 1 [.string t] rfl ?e1 ?e2 ?e3 ?e4 ?e5 ?_) | fail)
        try case e1 => rfl
        try case e2 => first | rfl | (intro u hu; obtain rfl := List.mem_singleton.1 hu; rfl)
        try case e3 => omega
        try case e4 => decide
        try case e5 => exact hz6
        intro v'' w7 hown7 hb7 _ _
        have HO7 := hide hown7
        have HB7 := hide (B6.out.trans (hb7.mono (Nat.le_succ _)))
        clear hown7 hb7
        go_wp2_with fail
        go_meet
        rw [HH.out]
        exact ⟨HB7.out, by have := HO7.out; simpa [strCells, Nat.add_assoc] using this⟩
    case rest =>
    obtain ⟨hb8, ho8⟩ := hcut
    have B8 := hide hb8
    obtain ⟨A', c', hv, hnc', ha'⟩ := Arr.of_own ho8
    subst hv
    have hwl : 0 < (lnWords (↑m, s, ar, ex)).length ∧ (lnWords (↑m, s, ar, ex)).length ≤ 8 := by
      unfold lnWords lnTail
      simp only [List.length_append, Int.toNat_natCast]
      split <;> simp <;> omega
    have hws : ∀ a ∈ lnWords (↑m, s, ar, ex), a.size ≤ 660 := by
      intro a ha
      unfold lnWords at ha
      rcases List.mem_append.1 ha with ha | ha
      · rcases List.mem_append.1 ha with ha | ha
        · exact Nat.le_trans (lnHead_size hs8 a ha) (by omega)
        · exact Nat.le_trans (HA8.out a ha) (by omega)
      · unfold lnTail at ha
        split at ha
        · cases ha
        · rw [List.mem_singleton.1 ha]; exact fmtEx_size ex
    obtain ⟨g, rfl, g1, g2, g3, hc⟩ := ha'.2 hwl.1
    have hj : Hid (Calls Tryd.prog 32 #[.slice (some ⟨g, 0, none⟩) (lnWords (↑m, s, ar, ex)).length c', .string ⟨#[32]⟩] wc fun e w' => e = .returned (.string (fmtLnF (↑m, s, ar, ex))) ∧ Below wc.heap.size wc w') := by
      have hlen := jb_size (lnWords (↑m, s, ar, ex)) 660 hws
      rw [HN.out]
      exact Tryd.strings_Join g 0 c' (lnWords (↑m, s, ar, ex)) ⟨#[32]⟩ wc (fun j x hj => by
        rw [Nat.zero_add]
        have hjl : j < (lnWords (↑m, s, ar, ex)).length := (List.getElem?_eq_some_iff.1 hj).1
        rw [(hc j (by omega)).1]
        unfold strCells
        rw [List.getElem?_map, hj]; rfl) g2 (by omega) (by omega) (by
          show (jb (lnWords (↑m, s, ar, ex))).size ≤ _
          omega)
    clear hc ha' hb8 ho8 hws
    go_wp2_with fail
    refine hj.out.mono ?_
    rintro e w9 ⟨rfl, hb9⟩
    go_wp2_with fail
    go_ret
    exact ⟨rfl, B8.out.trans (hb9.mono B8.out.size)⟩
end Go.Proofs.YtclldakoinnhhaaDoor
