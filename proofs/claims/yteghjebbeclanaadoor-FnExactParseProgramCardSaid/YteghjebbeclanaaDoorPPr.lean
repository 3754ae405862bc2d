import Derived.Test.YteghjebbeclanaaDoorPLn0
import Derived.Test.YteghjebbeclanaaDoorOwnG
import Derived.Test.YteghjebbeclanaaDoorPLs
namespace Go.Proofs.YteghjebbeclanaaDoor
open Go Go.RowKit
set_option maxRecDepth 100000
/-! The lines of a text, by scanning. -/
noncomputable def ppL : List UInt8 → List UInt8 → Option (List Ln)
  | [], cur => if cur = [] then some [] else none
  | b :: l, cur => if b = 10 then (if plB ⟨cur.toArray⟩ = true then (ppL l []).map (plX ⟨cur.toArray⟩ :: ·) else none) else ppL l (cur ++ [b])
theorem ppL_none (l : List UInt8) : ∀ cur : List UInt8, (∀ b ∈ l, b ≠ 10) → cur ++ l ≠ [] → ppL l cur = none := by
  induction l with
  | nil => intro cur _ h; rw [ppL, if_neg (by simpa using h)]
  | cons b l ih =>
    intro cur hb h
    rw [ppL, if_neg (hb b (by simp))]
    exact ih _ (fun x hx => hb x (by simp [hx])) (by simp)
theorem ppL_cut (t r : List UInt8) : ∀ cur : List UInt8, (∀ b ∈ t, b ≠ 10) → ppL (t ++ 10 :: r) cur = if plB ⟨(cur ++ t).toArray⟩ = true then (ppL r []).map (plX ⟨(cur ++ t).toArray⟩ :: ·) else none := by
  induction t with
  | nil => intro cur _; rw [List.nil_append, ppL, if_pos rfl, List.append_nil]
  | cons b t ih =>
    intro cur hb
    rw [List.cons_append, ppL, if_neg (hb b (by simp)), ih _ (fun x hx => hb x (by simp [hx])), List.append_assoc]
    rfl
/-- What has been read (acc) and what is still to be read (l, after cur). -/
def PpAt (s l cur : List UInt8) (acc : List Ln) : Prop := ppL s [] = (ppL l cur).map (acc ++ ·)
theorem PpAt.start (s : List UInt8) : PpAt s s [] [] := by unfold PpAt; simp
theorem PpAt.byte {s l cur : List UInt8} {b : UInt8} {acc : List Ln} (h : PpAt s (b :: l) cur acc) (hb : b ≠ 10) : PpAt s l (cur ++ [b]) acc := by
  unfold PpAt at h ⊢; rw [h, ppL, if_neg hb]
theorem PpAt.line {s l cur : List UInt8} {acc : List Ln} (h : PpAt s (10 :: l) cur acc) (hp : plB ⟨cur.toArray⟩ = true) : PpAt s l [] (acc ++ [plX ⟨cur.toArray⟩]) := by
  unfold PpAt at h ⊢
  rw [h, ppL, if_pos rfl, if_pos hp, Option.map_map]
  congr 1
  funext x
  simp
theorem PpAt.bad {s l cur : List UInt8} {acc : List Ln} (h : PpAt s (10 :: l) cur acc) (hp : plB ⟨cur.toArray⟩ = false) : ppL s [] = none := by
  unfold PpAt at h
  rw [h, ppL, if_pos rfl, if_neg (by rw [hp]; simp)]; rfl
theorem PpAt.done {s cur : List UInt8} {acc : List Ln} (h : PpAt s [] cur acc) : ppL s [] = if cur = [] then some acc else none := by
  unfold PpAt at h
  rw [h, ppL]
  split <;> simp
theorem PpAt.cut {s t r : List UInt8} {acc : List Ln} (h : PpAt s (t ++ 10 :: r) [] acc) (ht : ∀ b ∈ t, b ≠ 10) (hp : plB ⟨t.toArray⟩ = true) : PpAt s r [] (acc ++ [plX ⟨t.toArray⟩]) := by
  unfold PpAt at h ⊢
  rw [h, ppL_cut t r [] ht, List.nil_append, if_pos hp, Option.map_map]
  congr 1
  funext x
  simp
theorem PpAt.cutBad {s t r : List UInt8} {acc : List Ln} (h : PpAt s (t ++ 10 :: r) [] acc) (ht : ∀ b ∈ t, b ≠ 10) (hp : plB ⟨t.toArray⟩ = false) : ppL s [] = none := by
  unfold PpAt at h
  rw [h, ppL_cut t r [] ht, List.nil_append, if_neg (by rw [hp]; simp)]; rfl
theorem PpAt.open_ {s l : List UInt8} {acc : List Ln} (h : PpAt s l [] acc) (hl : ∀ b ∈ l, b ≠ 10) (hne : l ≠ []) : ppL s [] = none := by
  unfold PpAt at h
  rw [h, ppL_none l [] hl (by simpa using hne)]; rfl
/-- What is read first stands first: so a long head makes a long list, or none. -/
theorem PpAt.long {s l cur : List UInt8} {acc L : List Ln} (h : PpAt s l cur acc) (hs : ppL s [] = some L) : acc.length ≤ L.length := by
  unfold PpAt at h
  rw [hs] at h
  obtain ⟨y, _, rfl⟩ := Option.map_eq_some_iff.1 h.symm
  simp
noncomputable def ppF (s : ByteArray) : Option (List Ln) := match ppL s.data.toList [] with
  | some L => if L.length ≤ 60 then some L else none
  | none => none
theorem ppF_none {s : ByteArray} (h : ppL s.data.toList [] = none) : ppF s = none := by unfold ppF; rw [h]
theorem ppF_some {s : ByteArray} {L : List Ln} (h : ppL s.data.toList [] = some L) (hl : L.length ≤ 60) : ppF s = some L := by unfold ppF; rw [h]; simp [hl]
theorem ppF_long {s : ByteArray} {l cur : List UInt8} {acc : List Ln} (h : PpAt s.data.toList l cur acc) (hl : 60 < acc.length) : ppF s = none := by
  unfold ppF
  cases hs : ppL s.data.toList [] with
  | none => rfl
  | some L => have := h.long hs; simp; omega
/-! The first line's end. -/
def cutN (s : ByteArray) : List UInt8 × List UInt8 × Bool := Lib.cut s.data.toList [10]
theorem cutN_size (s : ByteArray) : (cutN s).1.length ≤ s.size ∧ (cutN s).2.1.length ≤ s.size ∧ ((cutN s).2.2 = true → (cutN s).2.1.length < s.size) := by
  have : s.data.toList.length = s.size := rfl
  unfold cutN Lib.cut
  split <;> simp
  · rename_i h0
    obtain ⟨o, ho⟩ := Int.eq_ofNat_of_zero_le h0
    have h1 := ho
    rw [Lib.index_one] at h1
    have := (Lib.indexByte_some h1).1
    have := (List.getElem?_eq_some_iff.1 this).1
    omega
theorem first10 : ∀ l : List UInt8, 10 ∈ l → ∃ t r, l = t ++ 10 :: r ∧ ∀ b ∈ t, b ≠ 10 := by
  intro l
  induction l with
  | nil => intro h; cases h
  | cons b l ih =>
    intro h
    by_cases hb : b = 10
    · exact ⟨[], l, by rw [hb]; rfl, fun x hx => by cases hx⟩
    · rcases List.mem_cons.1 h with h | h
      · exact absurd h.symm hb
      · obtain ⟨t, r, e, ht⟩ := ih h
        refine ⟨b :: t, r, by rw [e]; rfl, ?_⟩
        intro x hx
        rcases List.mem_cons.1 hx with rfl | hx
        · exact hb
        · exact ht x hx
theorem idx10 (t r : List UInt8) (h : ∀ b ∈ t, b ≠ 10) : Lib.indexByte (t ++ 10 :: r) 10 = t.length := by
  induction t with
  | nil => simp [Lib.indexByte]
  | cons c t ih =>
    have hc : ¬ c = 10 := h c (by simp)
    have := ih (fun b hb => h b (by simp [hb]))
    rw [List.cons_append, Lib.indexByte, this]
    have h1 : (c == 10) = false := by simpa using hc
    rw [h1]
    have h2 : (((t.length : Nat) : Int) == -1) = false := by rw [beq_eq_false_iff_ne]; omega
    rw [h2]
    simp
theorem cutN_some {s : ByteArray} (h : (10 : UInt8) ∈ s.data.toList) : (cutN s).2.2 = true ∧ s.data.toList = (cutN s).1 ++ 10 :: (cutN s).2.1 ∧ ∀ b ∈ (cutN s).1, b ≠ 10 := by
  obtain ⟨t, r, e, ht⟩ := first10 _ h
  have : cutN s = (t, r, true) := by
    unfold cutN Lib.cut
    rw [e, Lib.index_one, idx10 t r ht, if_pos (by omega), Int.toNat_natCast]
    simp
  rw [this]
  exact ⟨rfl, e, ht⟩
theorem cutN_none {s : ByteArray} (h : (10 : UInt8) ∉ s.data.toList) : (cutN s).2.2 = false := by
  unfold cutN Lib.cut
  rw [Lib.index_one]
  split
  · rename_i h0
    obtain ⟨o, ho⟩ := Int.eq_ofNat_of_zero_le h0
    have := (Lib.indexByte_some ho).1
    exact absurd (List.mem_of_getElem? this) h
  · rfl
end Go.Proofs.YteghjebbeclanaaDoor
namespace Go.Proofs.YteghjebbeclanaaDoor
open Go Go.RowKit
set_option maxRecDepth 100000
set_option linter.unusedVariables false
set_option linter.unusedSimpArgs false
def PpRet (s : ByteArray) (w : World) (e : Ending) (w' : World) : Prop := ∃ A c, e = .returned (.tuple #[.slice A ((ppF s).getD []).length c, .bool (ppF s).isSome]) ∧ OwnLines w' w.heap.size w'.heap.size A ((ppF s).getD [])
def strSz : Value → Nat
  | .string t => t.size
  | _ => 0
theorem own_none (w : World) (lo hi : Nat) : OwnLines w lo hi none [] := ⟨[], rfl, ⟨fun r hr => by obtain rfl := List.mem_singleton.1 hr; exact Arr.nil_ _ _ _ _ _, by simp [rwB]⟩, fun p hp => by simp at hp⟩
theorem Tryd.infoLn : (Tryd.prog.info? 43).map (fun i => (i.zero, i.size, i.bytes)) = some (some (.agg #[.int .i64 0, .string ByteArray.empty, .slice none 0 0, .slice none 0 0]), 4, 72) := by kernel_rfl
set_option maxHeartbeats 4000000 in
theorem i_parseProgram (s : ByteArray) (hs : s.size ≤ 1048576) (w : World) (hp : PowIs w) (hmx : MaxIs w) :
    Calls Tryd.prog 35 #[.string s] w fun e w' => PpRet s w e w' ∧ Below w.heap.size w w' := by
  obtain ⟨i0, hi, hz0, hz1, hz2⟩ := info_parts Tryd.infoLn
  have HI := hide hi
  have HP := hide hp
  have HM := hide hmx
  clear hp hmx hi
  go_enter Tryd.func35, Tryd.ntmps35
  go_wp2_with fail
  go_loopw [0, 4] (fun sv v wr => ∃ (t : ByteArray) (P : List LP), sv = .string t ∧ t.size ≤ 1048576 ∧ PpAt s.data.toList t.data.toList [] (P.map Prod.fst) ∧ P.length ≤ 60 ∧ OwnL wr w.heap.size 43 v P P ∧ Below w.heap.size w wr) (fun sv _ _ => strSz sv)
  case atStart => exact ⟨s, [], rfl, hs, PpAt.start _, by simp, OwnL.nil_ (World.ownsRow_lit w #[] 0 (Nat.le_refl _) (Nat.zero_le _) rfl), (Below.refl _ _).alloc (Nat.le_refl _) _⟩
  case round =>
    obtain ⟨t, P, rfl, ht, hat, hP, hown, hb⟩ := hrel
    have HAT := hide hat
    have HO := hide hown
    have HB := hide hb
    clear hat hown hb
    by_cases hte : t = ⟨#[]⟩
    · have z : t.toList.isEmpty = true := toList_e2 hte
      have HF : Hid (ppF s = some (P.map Prod.fst)) := by
        show _ = _
        have := HAT.out
        rw [hte] at this
        refine ppF_some ?_ (by simpa using hP)
        have h2 := PpAt.done (s := s.data.toList) (cur := []) this
        simpa using h2
      obtain ⟨A, c, hv, hl⟩ := HO.out.lines
      subst hv
      have HL := hide hl
      clear hte hl
      go_wp2_with fail
      go_ret2
      refine ⟨⟨A, c, ?_, ?_⟩, HB.out⟩
      · rw [HF.out]; simp
      · rw [HF.out]; exact HL.out
    · have z : t.toList.isEmpty = false := toList_ne hte
      have hcz := cutN_size t
      obtain ⟨m, hm⟩ := HM.out.below HB.out
      have HMM := hide hm
      have HCUT : Hid (Calls Tryd.prog 47 #[.string t, .string ⟨#[10]⟩] wr fun e w' => e = .returned (.tuple #[.string ⟨(cutN t).1.toArray⟩, .string ⟨(cutN t).2.1.toArray⟩, .bool (cutN t).2.2]) ∧ ∃ n, w' = wr.drewN n) := Tryd.strings_Cut t ⟨#[10]⟩ m wr (by omega) HMM.out
      have HSOME : Hid ((cutN t).2.2 = true → t.data.toList = (cutN t).1 ++ 10 :: (cutN t).2.1 ∧ ∀ b ∈ (cutN t).1, b ≠ 10) := fun h => by
        by_cases h10 : (10 : UInt8) ∈ t.data.toList
        · exact (cutN_some h10).2
        · rw [cutN_none h10] at h; cases h
      have HNONE : Hid ((cutN t).2.2 = false → ppF s = none) := fun h => by
        refine ppF_none (HAT.out.open_ (fun b hb e => ?_) (fun e => hte ?_))
        · subst e; rw [(cutN_some hb).1] at h; cases h
        · apply ByteArray.ext; exact Array.toList_inj.1 e
      generalize hcut : cutN t = q at *
      obtain ⟨tx, rs, fd⟩ := q
      simp only at hcz
      have hsz1 : (⟨tx.toArray⟩ : ByteArray).size ≤ 1048576 := by show tx.length ≤ 1048576; omega
      clear hcut hte hm
      have HPL : Hid (∀ W, PowIs W → MaxIs W → Calls Tryd.prog 30 #[.string ⟨tx.toArray⟩] W fun e w' => PlRet ⟨tx.toArray⟩ W e w' ∧ Below W.heap.size W w') := fun W h1 h2 => i_parseLine ⟨tx.toArray⟩ hsz1 W h1 h2
      unfold PlRet at HPL
      have HGOOD : Hid (fd = true → plB ⟨tx.toArray⟩ = true → PpAt s.data.toList rs [] (P.map Prod.fst ++ [plX ⟨tx.toArray⟩])) := fun h1 h2 => by
        obtain ⟨e1, e2⟩ := HSOME.out h1
        have := HAT.out
        rw [e1] at this
        exact this.cut e2 h2
      have HBADL : Hid (fd = true → plB ⟨tx.toArray⟩ = false → ppF s = none) := fun h1 h2 => by
        obtain ⟨e1, e2⟩ := HSOME.out h1
        have := HAT.out
        rw [e1] at this
        exact ppF_none (this.cutBad e2 h2)
      generalize hX : plX ⟨tx.toArray⟩ = X at *
      generalize hPB : plB ⟨tx.toArray⟩ = pb at *
      obtain ⟨xk, xs, xa, xe⟩ := X
      clear hX hPB HSOME HAT
      simp only at HPL
      go_wp2_with fail
      refine HCUT.out.mono ?_
      rintro e w1 ⟨rfl, nq, rfl⟩
      have B1 := hide (below_drewN HB.out nq)
      have O1 := hide (HO.out.belowZ (below_drewN (Below.refl wr.heap.size wr) nq))
      clear HCUT HB HO
      go_wp2_with fail
      refine (HPL.out _ (HP.out.below B1.out) (HM.out.below B1.out)).mono ?_
      rintro e w2 ⟨⟨D1, d1, D2, d2, rfl, o2, p2⟩, hb2⟩
      have hz2' := hb2.size
      have HX : Hid (OwnL w2 w.heap.size 43 u4 P (P ++ [((xk, xs, xa, xe), D1, d1, D2, d2)])) := O1.out.line hb2 B1.out.size o2 p2
      have B2 := hide (B1.out.trans (hb2.mono B1.out.size))
      have HNIL : Hid (ppF s = none → PpRet s w (.returned (.tuple #[.slice none 0 0, .bool false])) (w2.alloc (.cells #[.int .i64 xk, .string xs, .slice D1 xa.length d1, .slice D2 xe.length d2] 43))) := fun h => by
        unfold PpRet
        rw [h]
        exact ⟨none, 0, rfl, own_none _ _ _⟩
      have B3 := hide (B2.out.alloc B2.out.size (.cells #[.int .i64 xk, .string xs, .slice D1 xa.length d1, .slice D2 xe.length d2] 43))
      have HX3 := hide (HX.out.belowZ ((Below.refl _ _).alloc (Nat.le_refl _) (.cells #[.int .i64 xk, .string xs, .slice D1 xa.length d1, .slice D2 xe.length d2] 43)))
      clear hb2 o2 p2 HX O1 HPL
      obtain ⟨A, c, hv, _⟩ := Arr.of_own HX3.out.1
      subst hv
      cases fd
      · have HF := hide (HNONE.out rfl)
        go_wp2_with fail
        go_ret2
        exact ⟨HNIL.out HF.out, B3.out⟩
      · cases pb
        · have HF := hide (HBADL.out rfl rfl)
          go_wp2_with fail
          go_ret2
          exact ⟨HNIL.out HF.out, B3.out⟩
        · have HN : Hid (PpAt s.data.toList rs [] ((P ++ [((xk, xs, xa, xe), D1, d1, D2, d2)]).map Prod.fst)) := by
            show PpAt _ _ _ _
            have := HGOOD.out rfl rfl
            simpa using this
          by_cases h60 : P.length < 60
          · have z60 : decide ((60 : Int) ≤ (P.length : Int)) = false := decide_eq_false (by omega)
            have hrs : rs.length < t.size := hcz.2.2 rfl
            go_wp2_with (first | (at_builtin; refine wpList_appN _ rfl (.tmp 35) (.tmp 37) _ rfl w.heap.size 43 i0 _ 4 72 Tryd.underlying40 HI.out hz0 hz1 hz2 rfl (by decide) _ _ _ rfl HX3.out.1 1 (lnC ((xk, xs, xa, xe), D1, d1, D2, d2)) rfl ?c0 ?c1 ?c2 ?c3 ?c4 ?c5 ?_) | fail)
            case c0 => simp
            case c1 => rfl
            case c2 => intro u hu; simp [lnC] at hu; rcases hu with rfl | rfl | rfl | rfl <;> rfl
            case c3 => omega
            case c4 => decide
            case c5 => exact B3.out.size
            intro v' w5 hown5 hb5 hgr5 hwh5
            have HX5 := hide (HX3.out.app hown5 hgr5 (by simpa using hwh5))
            have B5 := hide (B3.out.trans hb5)
            clear hown5 hb5 hgr5 hwh5
            go_wp2_with fail
            go_roundw
            case rel => exact ⟨⟨rs.toArray⟩, _, rfl, by show rs.length ≤ _; omega, HN.out, by simp; omega, HX5.out, B5.out⟩
            case measure => show rs.length < t.size; exact hrs
          · have z60 : decide ((60 : Int) ≤ (P.length : Int)) = true := decide_eq_true (by omega)
            have HF : Hid (ppF s = none) := ppF_long HN.out (by simp; omega)
            go_wp2_with fail
            go_ret2
            exact ⟨HNIL.out HF.out, B3.out⟩
end Go.Proofs.YteghjebbeclanaaDoor
namespace Go.Proofs.YteghjebbeclanaaDoor
open Go Go.RowKit
set_option maxRecDepth 100000
set_option linter.unusedVariables false
set_option linter.unusedSimpArgs false
theorem ext_list (s : ByteArray) (a k : Nat) : (s.extract a k).data.toList = (s.data.toList.take k).drop a := by
  rw [ByteArray.data_extract, Array.toList_extract]
  simp [List.extract, List.drop_take]
theorem ext_snoc (s : ByteArray) (a k : Nat) (ha : a ≤ k) (hk : k < s.size) : (s.extract a (k + 1)).data.toList = (s.extract a k).data.toList ++ [s[k]] := by
  rw [ext_list, ext_list, take_snoc s k hk, List.drop_append_of_le_length (by rw [List.length_take, len_toList]; omega)]
theorem ext_nil (s : ByteArray) (a : Nat) : (s.extract a a).data.toList = [] := by
  rw [ext_list, List.drop_of_length_le (by rw [List.length_take]; omega)]
theorem ext_arr (s : ByteArray) (a k : Nat) : (⟨(s.extract a k).data.toList.toArray⟩ : ByteArray) = s.extract a k := by
  exact ByteArray.ext Array.toArray_toList
theorem drop_byte (s : ByteArray) (k : Nat) (hk : k < s.size) : s.data.toList.drop k = s[k] :: s.data.toList.drop (k + 1) := by
  rw [List.drop_eq_getElem_cons (by rw [len_toList]; exact hk)]; rfl
theorem nl_eq {c : UInt8} (h : c = 10) : ((c.toNat : Int) != 10) = false := by rw [h]; rfl
theorem nl_ne {c : UInt8} (h : c ≠ 10) : ((c.toNat : Int) != 10) = true := by
  rw [bne_iff_ne]; intro e; exact h (UInt8.toNat_inj.1 (by show c.toNat = 10; omega))
set_option maxHeartbeats 4000000 in
theorem s_parseProgram (s : ByteArray) (hs : s.size ≤ 1048576) (w : World) (hp : PowIs w) :
    Calls Tryd.prog 34 #[.string s] w fun e w' => PpRet s w e w' ∧ Below w.heap.size w w' := by
  obtain ⟨i0, hi, hz0, hz1, hz2⟩ := info_parts Tryd.infoLn
  have HI := hide hi
  have HP := hide hp
  clear hp hi
  go_enter Tryd.func34, Tryd.ntmps34
  go_wp2_with fail
  go_loopw [4, 5, 6] (fun v st i wr => ∃ (k a : Nat) (P : List LP), a ≤ k ∧ k ≤ s.size ∧ i = .int .i64 k ∧ st = .int .i64 a ∧ P.length ≤ a ∧ PpAt s.data.toList (s.data.toList.drop k) (s.extract a k).data.toList (P.map Prod.fst) ∧ OwnL wr w.heap.size 43 v P P ∧ Below w.heap.size w wr) (fun _ _ i _ => s.size - (intOf i).toNat)
  case atStart => exact ⟨0, 0, [], Nat.le_refl _, Nat.zero_le _, rfl, rfl, Nat.le_refl _, by rw [ext_nil]; exact PpAt.start _, OwnL.nil_ (World.ownsRow_lit w #[] 0 (Nat.le_refl _) (Nat.zero_le _) rfl), (Below.refl _ _).alloc (Nat.le_refl _) _⟩
  case round =>
    obtain ⟨k, a, P, hak, hks, rfl, rfl, hPa, hat, hown, hb⟩ := hrel
    have HAT := hide hat
    have HO := hide hown
    have HB := hide hb
    clear hat hown hb
    obtain ⟨wo, rfl⟩ : ∃ wo : World, wo = wr := ⟨_, rfl⟩
    obtain ⟨A0, cA, hv, _⟩ := Arr.of_own HO.out.1
    subst hv
    by_cases hlt : k < s.size
    · have hdb := drop_byte s k hlt
      by_cases h10 : s[k] = 10
      · have z := nl_eq h10
        have hxs : (s.extract a k).size ≤ 1048576 := by rw [ByteArray.size_extract]; omega
        have HPL : Hid (∀ W, PowIs W → Calls Tryd.prog 29 #[.string (s.extract a k)] W fun e w' => PlRet (s.extract a k) W e w' ∧ Below W.heap.size W w') := fun W h1 => s_parseLine (s.extract a k) hxs W h1
        unfold PlRet at HPL
        have HGOOD : Hid (plB (s.extract a k) = true → PpAt s.data.toList (s.data.toList.drop (k + 1)) (s.extract (k + 1) (k + 1)).data.toList (P.map Prod.fst ++ [plX (s.extract a k)])) := fun h2 => by
          have := HAT.out
          rw [hdb, h10] at this
          have h3 := this.line (by rw [ext_arr]; exact h2)
          rw [ext_arr] at h3
          rw [ext_nil]
          exact h3
        have HBADL : Hid (plB (s.extract a k) = false → ppF s = none) := fun h2 => by
          have := HAT.out
          rw [hdb, h10] at this
          exact ppF_none (this.bad (by rw [ext_arr]; exact h2))
        generalize hX : plX (s.extract a k) = X at *
        generalize hPB : plB (s.extract a k) = pb at *
        obtain ⟨xk, xs, xa, xe⟩ := X
        clear hX hPB HAT h10 hdb
        simp only at HPL
        go_wp2_with fail
        refine (HPL.out _ (HP.out.below HB.out)).mono ?_
        rintro e w2 ⟨⟨D1, d1, D2, d2, rfl, o2, p2⟩, hb2⟩
        have hz2' := hb2.size
        have HX : Hid (OwnL w2 w.heap.size 43 (.slice A0 P.length cA) P (P ++ [((xk, xs, xa, xe), D1, d1, D2, d2)])) := HO.out.line hb2 HB.out.size o2 p2
        have B2 := hide (HB.out.trans (hb2.mono HB.out.size))
        have B3 := hide (B2.out.alloc B2.out.size (.cells #[.int .i64 xk, .string xs, .slice D1 xa.length d1, .slice D2 xe.length d2] 43))
        have HX3 := hide (HX.out.belowZ ((Below.refl _ _).alloc (Nat.le_refl _) (.cells #[.int .i64 xk, .string xs, .slice D1 xa.length d1, .slice D2 xe.length d2] 43)))
        clear hb2 o2 p2 HX HPL HO HB
        cases pb
        · have HF := hide (HBADL.out rfl)
          have HNIL : Hid (∀ W, ∃ A c, (Ending.returned (.tuple #[.slice (some ⟨W, 0, none⟩) 0 0, .bool false]) = .returned (.tuple #[.slice A ((ppF s).getD []).length c, .bool (ppF s).isSome])) ∧ ∀ w', OwnLines w' w.heap.size w'.heap.size A ((ppF s).getD [])) := fun W => by
            rw [HF.out]
            exact ⟨some ⟨W, 0, none⟩, 0, rfl, fun w' => ⟨[], rfl, ⟨fun r hr => by obtain rfl := List.mem_singleton.1 hr; exact Arr.nil_ _ _ _ _ _, by simp [rwB]⟩, fun p hp => by simp at hp⟩⟩
          go_wp2_with fail
          go_ret2
          obtain ⟨A, c, h1, h2⟩ := HNIL.out (w2.heap.size + 1)
          refine ⟨⟨A, c, ?_, h2 _⟩, B3.out.alloc B3.out.size _⟩
          rw [← h1]
          first | rfl | simp
        · have HN : Hid (PpAt s.data.toList (s.data.toList.drop (k + 1)) (s.extract (k + 1) (k + 1)).data.toList ((P ++ [((xk, xs, xa, xe), D1, d1, D2, d2)]).map Prod.fst)) := by
            show PpAt _ _ _ _
            have := HGOOD.out rfl
            simpa using this
          go_wp2_with (first | (at_builtin; refine wpList_appN _ rfl (.tmp 31) (.tmp 33) _ rfl w.heap.size 43 i0 _ 4 72 Tryd.underlying40 HI.out hz0 hz1 hz2 rfl (by decide) _ _ _ rfl HX3.out.1 1 (lnC ((xk, xs, xa, xe), D1, d1, D2, d2)) rfl ?c0 ?c1 ?c2 ?c3 ?c4 ?c5 ?_) | fail)
          case c0 => simp
          case c1 => rfl
          case c2 => intro u hu; simp [lnC] at hu; rcases hu with rfl | rfl | rfl | rfl <;> rfl
          case c3 => omega
          case c4 => decide
          case c5 => exact B3.out.size
          intro v' w5 hown5 hb5 hgr5 hwh5
          have HX5 := hide (HX3.out.app hown5 hgr5 (by simpa using hwh5))
          have B5 := hide (B3.out.trans hb5)
          clear hown5 hb5 hgr5 hwh5
          go_wp2_with fail
          go_roundw
          case rel => exact ⟨k + 1, k + 1, _, Nat.le_refl _, by omega, by go_num, by go_num, by simp; omega, HN.out, HX5.out, B5.out⟩
          case measure => simp [intOf]; omega
      · have z := nl_ne h10
        have HN : Hid (PpAt s.data.toList (s.data.toList.drop (k + 1)) (s.extract a (k + 1)).data.toList (P.map Prod.fst)) := by
          show PpAt _ _ _ _
          have := HAT.out
          rw [hdb] at this
          rw [ext_snoc s a k hak hlt]
          exact this.byte h10
        clear h10 hdb
        go_wp2_with fail
        go_roundw
        case rel => exact ⟨k + 1, a, P, by omega, by omega, by go_num, rfl, hPa, HN.out, HO.out, HB.out⟩
        case measure => simp [intOf]; omega
    · have hkn : k = s.size := by omega
      have HD : Hid (ppL s.data.toList [] = if (s.extract a k).data.toList = [] then some (P.map Prod.fst) else none) := by
        show _ = _
        have := HAT.out
        rw [List.drop_of_length_le (by rw [len_toList]; omega)] at this
        exact this.done
      have HE : Hid ((s.extract a k).data.toList = [] ↔ a = s.size) := by
        show _ ↔ _
        rw [ext_list, List.drop_eq_nil_iff, List.length_take, len_toList]
        omega
      have HNIL : Hid (ppF s = none → ∀ W, ∃ A c, (Ending.returned (.tuple #[.slice (some ⟨W, 0, none⟩) 0 0, .bool false]) = .returned (.tuple #[.slice A ((ppF s).getD []).length c, .bool (ppF s).isSome])) ∧ ∀ w', OwnLines w' w.heap.size w'.heap.size A ((ppF s).getD [])) := fun hF W => by
        rw [hF]
        exact ⟨some ⟨W, 0, none⟩, 0, rfl, fun w' => ⟨[], rfl, ⟨fun r hr => by obtain rfl := List.mem_singleton.1 hr; exact Arr.nil_ _ _ _ _ _, by simp [rwB]⟩, fun p hp => by simp at hp⟩⟩
      clear HAT
      have zk : decide (k < s.size) = false := decide_eq_false hlt
      clear hlt hkn
      by_cases hae : a = s.size
      · have hL : ppL s.data.toList [] = some (P.map Prod.fst) := by rw [HD.out, if_pos (HE.out.2 hae)]
        have zae : ((a : Int) != (s.size : Int)) = false := by simp [hae]
        by_cases h60 : 60 < P.length
        · have HF : Hid (ppF s = none) := by show _ = _; unfold ppF; rw [hL]; simp; omega
          have z60 : decide ((60 : Int) < (P.length : Int)) = true := decide_eq_true (by omega)
          clear hL hae HD HE
          go_wp2_with fail
          go_ret2
          obtain ⟨A, c, h1, h2⟩ := HNIL.out HF.out wo.heap.size
          refine ⟨⟨A, c, ?_, h2 _⟩, HB.out.alloc HB.out.size _⟩
          rw [← h1]
          first | rfl | simp
        · have HF : Hid (ppF s = some (P.map Prod.fst)) := ppF_some hL (by simp; omega)
          have z60 : decide ((60 : Int) < (P.length : Int)) = false := decide_eq_false (by omega)
          obtain ⟨A, c, hv, hl⟩ := HO.out.lines
          cases hv
          have HL := hide hl
          clear hL hae HD HE hl
          go_wp2_with fail
          go_ret2
          refine ⟨⟨A0, cA, ?_, ?_⟩, HB.out⟩
          · rw [HF.out]; simp
          · rw [HF.out]; exact HL.out
      · have HF : Hid (ppF s = none) := ppF_none (by rw [HD.out, if_neg (fun h => hae (HE.out.1 h))])
        have zae : ((a : Int) != (s.size : Int)) = true := by simp [hae]; omega
        clear hae HD HE
        go_wp2_with fail
        go_ret2
        obtain ⟨A, c, h1, h2⟩ := HNIL.out HF.out wo.heap.size
        refine ⟨⟨A, c, ?_, h2 _⟩, HB.out.alloc HB.out.size _⟩
        rw [← h1]
        first | rfl | simp
end Go.Proofs.YteghjebbeclanaaDoor
