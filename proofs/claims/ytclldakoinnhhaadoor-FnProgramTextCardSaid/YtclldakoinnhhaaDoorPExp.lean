import Derived.Test.YtclldakoinnhhaaDoorPTokN
import Derived.Test.YtclldakoinnhhaaDoorSplit
namespace Go.Proofs.YtclldakoinnhhaaDoor
open Go Go.RowKit
set_option maxRecDepth 100000
/-! The expression of a list of words. -/
theorem ptTok_size (s : ByteArray) : (ptTok s).2.2.size ≤ s.size := by
  unfold ptTok
  split
  · exact Nat.zero_le _
  · split
    · exact Nat.zero_le _
    · split
      · exact (cut_size s).1
      · exact Nat.le_refl _
theorem ptF_size {s : ByteArray} {t : Tk} (h : ptF s = some t) : t.2.2.size ≤ s.size := by
  unfold ptF at h
  split at h
  · injection h with h; rw [← h]; exact ptTok_size s
  · cases h
noncomputable def toksOf : List ByteArray → Option (List Tk)
  | [] => some []
  | s :: W => match ptF s with
    | none => none
    | some t => (toksOf W).map (t :: ·)
noncomputable def peF (W : List ByteArray) : Option (List Tk) := match toksOf W with
  | none => none
  | some l => if exprOkF l = true then some l else none
noncomputable def peL (W : List ByteArray) : List Tk := (peF W).getD []
noncomputable def peB (W : List ByteArray) : Bool := (peF W).isSome
theorem toks_bad (W : List ByteArray) (k : Nat) (acc : List Tk) (hk : k < W.length) (he : toksOf W = (toksOf (W.drop k)).map (acc ++ ·)) (h : ptF W[k] = none) : toksOf W = none := by
  rw [he, List.drop_eq_getElem_cons hk, toksOf, h]; rfl
theorem toks_step (W : List ByteArray) (k : Nat) (acc : List Tk) (hk : k < W.length) (he : toksOf W = (toksOf (W.drop k)).map (acc ++ ·)) {t : Tk} (h : ptF W[k] = some t) : toksOf W = (toksOf (W.drop (k + 1))).map ((acc ++ [t]) ++ ·) := by
  rw [he, List.drop_eq_getElem_cons hk, toksOf, h]
  simp only [Option.map_map]
  congr 1; funext y; simp
theorem toks_end (W : List ByteArray) (k : Nat) (acc : List Tk) (hk : W.length ≤ k) (he : toksOf W = (toksOf (W.drop k)).map (acc ++ ·)) : toksOf W = some acc := by
  rw [he, List.drop_of_length_le hk]; simp [toksOf]
theorem pe_none {W : List ByteArray} (h : toksOf W = none) : peL W = [] ∧ peB W = false := by unfold peL peB peF; rw [h]; exact ⟨rfl, rfl⟩
theorem pe_bad {W : List ByteArray} {l : List Tk} (h : toksOf W = some l) (hb : exprOkF l = false) : peL W = [] ∧ peB W = false := by
  unfold peL peB peF; rw [h]; simp [hb]
theorem pe_good {W : List ByteArray} {l : List Tk} (h : toksOf W = some l) (hb : exprOkF l = true) : peL W = l ∧ peB W = true := by
  unfold peL peB peF; rw [h]; simp [hb]
theorem peL_length (W : List ByteArray) : (peL W).length ≤ 20 := by
  cases h : toksOf W with
  | none => rw [(pe_none h).1]; exact Nat.zero_le _
  | some l =>
    cases hb : exprOkF l
    · rw [(pe_bad h hb).1]; exact Nat.zero_le _
    · rw [(pe_good h hb).1]; exact (exprOk_len hb).2
theorem tokCells_snoc' (l : List Tk) (t : Tk) : tokCells (l ++ [t]) = tokCells l ++ [.int .i64 t.1, .int .i64 t.2.1, .string t.2.2] := tokCells_snoc l t
set_option maxHeartbeats 2000000 in
theorem i_parseExpr (A : Option Addr) (n c : Nat) (W : List ByteArray) (w : World) (hn : n ≤ 1048576) (hl : W.length = n) (h : InRow w A n 1 (strCells W)) (hs : ∀ s ∈ W, s.size ≤ 1048576) (hp : PowIs w) (hmx : MaxIs w) :
    Calls Tryd.prog 8 #[.slice A n c] w fun e w' => (∃ v, e = .returned (.tuple #[v, .bool (peB W)]) ∧ w'.ownsRow w.heap.size 32 3 v (peL W).length (tokCells (peL W))) ∧ Below w.heap.size w w' := by
  obtain ⟨i0, hi, hz0, hz1, hz2⟩ := info_parts Tryd.infoTok
  have H := hide h
  have HL := hide hl
  have HS := hide hs
  have HP := hide hp
  have HM := hide hmx
  clear h hl hs hp hmx
  go_enter Tryd.func8, Tryd.ntmps8
  go_wp2_with fail
  go_loopw [4, 12] (fun v i wr => ∃ (k : Nat) (acc : List Tk), k ≤ n ∧ i = .int .i64 k ∧ acc.length ≤ k ∧ toksOf W = (toksOf (W.drop k)).map (acc ++ ·) ∧ (∀ t ∈ acc, t.2.2.size ≤ maxLen) ∧ wr.ownsRow w.heap.size 32 3 v acc.length (tokCells acc) ∧ Below w.heap.size w wr) (fun _ i _ => n - (intOf i).toNat)
  case atStart => exact ⟨0, [], Nat.zero_le _, rfl, Nat.le_refl _, by simp, (fun t h => by cases h), World.ownsRow_lit w #[] 0 (Nat.le_refl _) (Nat.zero_le _) rfl, (Below.refl _ _).alloc (Nat.le_refl _) _⟩
  case round =>
    obtain ⟨k, acc, hk, rfl, hacc, he, hsz, hown, hb⟩ := hrel
    have HO := hide hown
    have HB := hide hb
    have HE := hide he
    have HZ := hide hsz
    have HA := hide hacc
    have R := hide (H.out.below hb)
    clear hown hb he hsz hacc
    by_cases hlt : k < n
    · have hkl : k < W.length := by rw [HL.out]; exact hlt
      obtain ⟨b, o, rfl, _, c0⟩ := R.out.str k hkl
      have hsk := HS.out _ (List.getElem_mem hkl)
      cases hpt : ptF W[k] with
      | none =>
        have HN := hide (pe_none (toks_bad W k acc hkl HE.out hpt))
        have hv : Hid (ptV (ptF W[k]) = .tuple #[.agg #[.int .i64 0, .int .i64 0, .string ⟨#[]⟩], .bool false]) := by show _ = _; rw [hpt]; rfl
        clear hpt
        go_wp2_with fail
        refine (i_parseTok W[k] hsk _ (HP.out.below HB.out) (HM.out.below HB.out)).mono ?_
        rintro e w1 ⟨rfl, hb1⟩
        rw [hv.out]
        have B1 := hide (HB.out.trans (hb1.mono HB.out.size))
        clear hb1 c0
        go_wp2_with fail
        go_ret2
        refine ⟨⟨.slice none 0 0, ret_tup2 HN.out.2.symm, ?_⟩, B1.out.alloc B1.out.size _⟩
        rw [HN.out.1]; exact World.ownsRow_nil _ _ _ _
      | some t =>
        have HT := hide (toks_step W k acc hkl HE.out hpt)
        have hts := ptF_size hpt
        have hv : Hid (ptV (ptF W[k]) = .tuple #[.agg #[.int .i64 t.1, .int .i64 t.2.1, .string t.2.2], .bool true]) := by show _ = _; rw [hpt]; rfl
        have hsn := hide (tokCells_snoc' acc t)
        have hal := HA.out
        clear hpt
        go_wp2_with fail
        refine (i_parseTok W[k] hsk _ (HP.out.below HB.out) (HM.out.below HB.out)).mono ?_
        rintro e w1 ⟨rfl, hb1⟩
        rw [hv.out]
        have B1 := hide (HB.out.trans (hb1.mono HB.out.size))
        have HO1 := hide (own_belowZ HO.out hb1)
        clear hb1 c0
        go_wp2_with (first | (at_builtin; refine wpList_appN _ rfl (.tmp 23) (.tmp 25) _ rfl w.heap.size 32 i0 _ 3 32 Tryd.underlying27 hi hz0 hz1 hz2 rfl (by decide) u4 _ _ rfl (HO1.out.alloc _) 1 [.int .i64 t.1, .int .i64 t.2.1, .string t.2.2] rfl ?c0 ?c1 ?c2 ?c3 ?c4 ?c5 ?_) | fail)
        case c0 => simp
        try case c1 => rfl
        case c2 => intro u hu; simp at hu; rcases hu with rfl | rfl | rfl <;> rfl
        case c3 => omega
        try case c4 => decide
        case c5 => have := B1.out.size; simp; omega
        intro v' w3 hown3 hb3 _ _
        rw [← hsn.out] at hown3
        have HO3 := hide hown3
        have HB3 := hide ((B1.out.alloc B1.out.size _).trans hb3)
        have HL2 : Hid ((acc ++ [t]).length ≤ k + 1) := by show _ ≤ _; rw [List.length_append]; have := HA.out; simp; omega
        have HZ2 : Hid (∀ x ∈ acc ++ [t], x.2.2.size ≤ maxLen) := by
          show ∀ x ∈ acc ++ [t], x.2.2.size ≤ maxLen
          intro x hx
          rcases List.mem_append.1 hx with hx | hx
          · exact HZ.out x hx
          · rw [List.mem_singleton.1 hx]; unfold maxLen; omega
        clear hown3 hb3
        go_wp2_with fail
        go_roundw
        case rel => exact ⟨k + 1, acc ++ [t], by omega, by go_num, HL2.out, HT.out, HZ2.out, by simpa using HO3.out, HB3.out⟩
        case measure => simp [intOf]; omega
    · have HT := hide (toks_end W k acc (by rw [HL.out]; omega) HE.out)
      obtain ⟨A', c', hv, _, ha⟩ := Arr.of_own HO.out
      subst hv
      have RA := hide (InRow.of_arr ha)
      clear ha
      have hal := HA.out
      cases hok : exprOkF acc
      · have HN := hide (pe_bad HT.out hok)
        have HK := hide hok
        clear hok
        go_wp2_with fail
        refine (i_exprOk A' acc.length c' acc _ (by omega) rfl RA.out HZ.out).mono ?_
        rintro e w1 ⟨rfl, hb1⟩
        rw [HK.out]
        go_wp2_with fail
        go_ret2
        refine ⟨⟨.slice none 0 0, ret_tup2 HN.out.2.symm, ?_⟩, HB.out.trans (hb1.mono HB.out.size)⟩
        rw [HN.out.1]; exact World.ownsRow_nil _ _ _ _
      · have HN := hide (pe_good HT.out hok)
        have HK := hide hok
        clear hok
        go_wp2_with fail
        refine (i_exprOk A' acc.length c' acc _ (by omega) rfl RA.out HZ.out).mono ?_
        rintro e w1 ⟨rfl, hb1⟩
        rw [HK.out]
        have HO1 := hide (own_belowZ HO.out hb1)
        have B1 := hide (HB.out.trans (hb1.mono HB.out.size))
        clear hb1
        go_wp2_with fail
        go_ret2
        refine ⟨⟨_, ret_tup2 HN.out.2.symm, ?_⟩, B1.out⟩
        rw [HN.out.1]; exact HO1.out
end Go.Proofs.YtclldakoinnhhaaDoor
