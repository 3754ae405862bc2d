import Derived.Test.YtapfbnojodafjaaDoorHexT
import Derived.Test.YtapfbnojodafjaaDoorSplit
import Derived.Deep.CutRange
import Derived.Deep.CutBlock
namespace Go.Proofs.YtapfbnojodafjaaDoor
open Go Go.RowKit
set_option maxRecDepth 100000
/-! The fields of a line, by lists. -/
def splitL : List UInt8 → List UInt8 → List (List UInt8)
  | [], acc => if acc = [] then [] else [acc]
  | c :: l, acc => if c = 32 then (if acc = [] then [] else [acc]) ++ splitL l [] else splitL l (acc ++ [c])
def flatB (G : List (List UInt8)) : List UInt8 := G.flatMap fun g => g ++ [32]
theorem splitL_word (f l : List UInt8) (h : ∀ c ∈ f, c ≠ 32) : ∀ acc, splitL (f ++ l) acc = splitL l (acc ++ f) := by
  induction f with
  | nil => intro acc; simp
  | cons c f ih =>
    intro acc
    rw [List.cons_append, splitL, if_neg (h c List.mem_cons_self), ih (fun x hx => h x (List.mem_cons_of_mem _ hx))]
    simp
theorem splitL_flat (G : List (List UInt8)) (h : ∀ g ∈ G, g ≠ [] ∧ ∀ c ∈ g, c ≠ 32) : splitL (flatB G) [] = G := by
  induction G with
  | nil => rfl
  | cons g G ih =>
    have h1 := h g List.mem_cons_self
    have e : flatB (g :: G) = g ++ (32 :: flatB G) := by simp [flatB]
    rw [e, splitL_word g _ h1.2, List.nil_append, splitL, if_pos rfl, if_neg h1.1, ih (fun x hx => h x (List.mem_cons_of_mem _ hx))]
    rfl
theorem splitL_good (l : List UInt8) : ∀ acc, (∀ c ∈ acc, c ≠ 32) → ∀ g ∈ splitL l acc, g ≠ [] ∧ (∀ c ∈ g, c ≠ 32) ∧ ∀ c ∈ g, c ∈ acc ∨ c ∈ l := by
  induction l with
  | nil =>
    intro acc ha g hg
    unfold splitL at hg
    split at hg
    · cases hg
    · rename_i h
      rw [List.mem_singleton.1 hg]
      exact ⟨h, ha, fun c hc => .inl hc⟩
  | cons x l ih =>
    intro acc ha g hg
    rw [splitL] at hg
    split at hg
    · rcases List.mem_append.1 hg with hg | hg
      · split at hg
        · cases hg
        · rename_i h
          rw [List.mem_singleton.1 hg]
          exact ⟨h, ha, fun c hc => .inl hc⟩
      · obtain ⟨h1, h2, h3⟩ := ih [] (by simp) g hg
        exact ⟨h1, h2, fun c hc => .inr (List.mem_cons_of_mem _ ((h3 c hc).resolve_left (by simp)))⟩
    · rename_i hx
      obtain ⟨h1, h2, h3⟩ := ih (acc ++ [x]) (by
        intro c hc
        rcases List.mem_append.1 hc with hc | hc
        · exact ha c hc
        · rw [List.mem_singleton.1 hc]; exact hx) g hg
      refine ⟨h1, h2, fun c hc => ?_⟩
      rcases h3 c hc with h | h
      · rcases List.mem_append.1 h with h | h
        · exact .inl h
        · rw [List.mem_singleton.1 h]; exact .inr List.mem_cons_self
      · exact .inr (List.mem_cons_of_mem _ h)
theorem splitL_len (l : List UInt8) : ∀ acc, (flatB (splitL l acc)).length ≤ l.length + acc.length + 1 := by
  induction l with
  | nil =>
    intro acc
    unfold splitL
    split <;> simp [flatB]
  | cons x l ih =>
    intro acc
    rw [splitL]
    split
    · have h1 := ih []
      split
      · simp at h1 ⊢; omega
      · have e : flatB ([acc] ++ splitL l []) = acc ++ (32 :: flatB (splitL l [])) := by simp [flatB]
        rw [e]
        simp at h1 ⊢; omega
    · have h1 := ih (acc ++ [x])
      simp at h1 ⊢; omega
theorem fld_split (s : ByteArray) : ∀ (t i b : Nat), s.size - i = t → i ≤ s.size → b ≤ i → fldFrom s b i = (splitL (s.data.toList.drop i) ((s.data.toList.drop b).take (i - b))).map fun g => (⟨g.toArray⟩ : ByteArray) := by
  have hlen : s.data.toList.length = s.size := rfl
  have hext : ∀ b i : Nat, s.extract b i = (⟨((s.data.toList.drop b).take (i - b)).toArray⟩ : ByteArray) := by
    intro b i
    apply ByteArray.ext
    apply Array.ext'
    simp [ByteArray.data_extract]
  intro t
  induction t with
  | zero =>
    intro i b ht his hb
    have hi : ¬ i < s.size := by omega
    rw [fld_end s b i hi, List.drop_of_length_le (by rw [hlen]; omega)]
    by_cases hbi : b < i
    · rw [if_pos hbi, splitL, if_neg (by intro e; have := congrArg List.length e; rw [List.length_take, List.length_drop, hlen] at this; simp at this; omega), hext]
      rfl
    · rw [if_neg hbi, show i - b = 0 by omega, List.take_zero]
      rfl
  | succ t ih =>
    intro i b ht his hb
    have hi : i < s.size := by omega
    have hi' : i < s.data.toList.length := by rw [hlen]; exact hi
    have hc : s.data.toList[i] = s[i] := rfl
    rw [List.drop_eq_getElem_cons hi', splitL, hc]
    by_cases h32 : s[i] = 32
    · rw [fld_blank s b i hi h32, if_pos h32, ih (i + 1) (i + 1) (by omega) (by omega) (Nat.le_refl _), Nat.sub_self, List.take_zero, List.map_append]
      congr 1
      by_cases hbi : b < i
      · rw [if_pos hbi, if_neg (by intro e; have := congrArg List.length e; rw [List.length_take, List.length_drop, hlen] at this; simp at this; omega), hext]
        rfl
      · rw [if_neg hbi, show i - b = 0 by omega, List.take_zero]
        rfl
    · rw [fld_skip s b i hi h32, if_neg h32, ih (i + 1) b (by omega) (by omega) (by omega)]
      congr 2
      rw [show i + 1 - b = (i - b) + 1 by omega, List.take_succ_eq_append_getElem (by rw [List.length_drop, hlen]; omega), List.getElem_drop]
      congr 2
      rw [← hc]
      congr 1
      omega
theorem fields_split (s : ByteArray) : fieldsF s = (splitL s.data.toList []).map fun g => (⟨g.toArray⟩ : ByteArray) := by
  have := fld_split s _ 0 0 rfl (Nat.zero_le _) (Nat.le_refl _)
  unfold fieldsF
  simpa using this
/-- The fields, each with a blank behind it. -/
def joinB (F : List ByteArray) : ByteArray := ⟨(flatB (F.map (·.data.toList))).toArray⟩
theorem joinB_snoc (F : List ByteArray) (f : ByteArray) : joinB (F ++ [f]) = (joinB F ++ f) ++ ⟨#[32]⟩ := by
  apply ByteArray.ext
  apply Array.ext'
  simp [joinB, flatB, ByteArray.data_append]
theorem fields_lists (s : ByteArray) : (fieldsF s).map (·.data.toList) = splitL s.data.toList [] := by
  rw [fields_split, List.map_map]
  conv => rhs; rw [← List.map_id (splitL s.data.toList [])]
  rfl
theorem fields_join (s : ByteArray) : fieldsF (joinB (fieldsF s)) = fieldsF s := by
  rw [fields_split (joinB _)]
  have e : (joinB (fieldsF s)).data.toList = flatB (splitL s.data.toList []) := by rw [← fields_lists]; rfl
  rw [e, splitL_flat _ (fun g hg => by obtain ⟨h1, h2, _⟩ := splitL_good s.data.toList [] (by simp) g hg; exact ⟨h1, h2⟩), ← fields_split]
theorem joinB_size (s : ByteArray) : (joinB (fieldsF s)).size ≤ s.size + 1 := by
  have h := splitL_len s.data.toList []
  have e : (joinB (fieldsF s)).data.toList = flatB (splitL s.data.toList []) := by rw [← fields_lists]; rfl
  have h2 : (joinB (fieldsF s)).data.toList.length = (joinB (fieldsF s)).size := rfl
  have h3 : s.data.toList.length = s.size := rfl
  rw [e] at h2
  simp at h
  omega
theorem joinB_take (F : List ByteArray) : ∀ k, (joinB (F.take k)).size ≤ (joinB F).size := by
  intro k
  have e : joinB F = joinB (F.take k) ++ joinB (F.drop k) := by
    apply ByteArray.ext
    apply Array.ext'
    rw [ByteArray.data_append, Array.toList_append]
    show flatB (F.map _) = flatB ((F.take k).map _) ++ flatB ((F.drop k).map _)
    unfold flatB
    rw [← List.flatMap_append, ← List.map_append, List.take_append_drop]
  rw [e, ByteArray.size_append]
  omega
theorem join_ok (s : ByteArray) (h : sfB s = true) (hj : (joinB (fieldsF s)).size ≤ 600) : sfB (joinB (fieldsF s)) = true ∧ sfV (joinB (fieldsF s)) = fieldsF s := by
  have hs : sfOk s := by
    rcases Classical.em (sfOk s) with h' | h'
    · exact h'
    · have : sfB s = false := @decide_eq_false _ (Classical.propDecidable _) h'
      rw [h] at this; cases this
  have hb : sfB (joinB (fieldsF s)) = true := @decide_eq_true _ (Classical.propDecidable _) ⟨hj, by
    have e : (joinB (fieldsF s)).data.toList = flatB (splitL s.data.toList []) := by rw [← fields_lists]; rfl
    rw [e, List.all_eq_true]
    intro c hc
    unfold flatB at hc
    obtain ⟨g, hg, hc⟩ := List.mem_flatMap.1 hc
    rcases List.mem_append.1 hc with hc | hc
    · obtain ⟨_, _, h3⟩ := splitL_good s.data.toList [] (by simp) g hg
      exact List.all_eq_true.1 hs.2.1 c ((h3 c hc).resolve_left (by simp))
    · rw [List.mem_singleton.1 hc]; decide, by rw [fields_join]; exact hs.2.2⟩
  refine ⟨hb, ?_⟩
  unfold sfV
  rw [if_pos hb, fields_join]
theorem itoaM3 : Lib.itoa (-3) = [45, 51] := by
  unfold Lib.itoa
  rw [if_pos (by decide)]
  show 45 :: Lib.decDigits 3 = _
  rw [Lib.decDigits, dif_pos (by decide)]
  rfl
set_option maxHeartbeats 400000 in
theorem l_sameTexts (A A' : Option Addr) (n n' c c' : Nat) (l l' : List ByteArray) (w : World) (hn : n ≤ 1099511627776) (hn' : n' ≤ 1099511627776)
    (h : InRow w A n 1 (strCells l)) (h' : InRow w A' n' 1 (strCells l')) :
    Calls Tryd.prog 26 #[.slice A n c, .slice A' n' c'] w fun e w' => e = .returned (.bool (decide (l = l'))) ∧ ∃ q, w' = w.drewN q := by
  have hl : l.length = n := by have := h.1; rw [strCells_length] at this; omega
  have hl' : l'.length = n' := by have := h'.1; rw [strCells_length] at this; omega
  by_cases hne : n = n'
  · subst hne
    have H := hide h
    have H' := hide h'
    have HL := hide hl
    have HL' := hide hl'
    clear h h' hl hl'
    go_enter Tryd.func26, Tryd.ntmps26
    go_wp2
    go_loopw [5] (fun i wr => ∃ k nq : Nat, k ≤ n ∧ i = .int .i64 k ∧ l.take k = l'.take k ∧ wr = w.drewN nq) (fun i _ => n - (intOf i).toNat)
    case atStart => exact ⟨0, 0, Nat.zero_le _, rfl, rfl, rfl⟩
    case round =>
      obtain ⟨k, nq, hk, rfl, ht, rfl⟩ := hrel
      have HT := hide ht
      clear ht
      by_cases hlt : k < n
      · have hkl : k < l.length := by rw [HL.out]; exact hlt
        have hkl' : k < l'.length := by rw [HL'.out]; exact hlt
        obtain ⟨b, o, rfl, _, c0⟩ := H.out.str k hkl
        obtain ⟨b', o', rfl, _, d0⟩ := H'.out.str k hkl'
        by_cases heq : l[k] = l'[k]
        · have hd := bneF heq
          have HN := hide (take_eq_step1 l l' k hkl hkl' HT.out heq)
          clear heq
          go_wp2
          go_quiet (fail)
          go_wp2
          go_roundw
          case rel => exact ⟨k + 1, _, by omega, by go_num, HN.out, by first | rfl | exact World.drewN_drewN _ _ _⟩
          case measure => simp [intOf]; omega
        · have hd := bneT heq
          have HN : Hid (decide (l = l') = false) := decide_eq_false (fun e => heq (by subst e; rfl))
          clear heq
          go_wp2
          go_quiet (fail)
          go_wp2
          go_ret
          exact ⟨ret_bool HN.out.symm, _, by first | rfl | exact World.drewN_drewN _ _ _⟩
      · have HN : Hid (decide (l = l') = true) := decide_eq_true (by
          have := HT.out
          rw [List.take_of_length_le (by rw [HL.out]; omega), List.take_of_length_le (by rw [HL'.out]; omega)] at this
          exact this)
        go_wp2
        go_ret
        exact ⟨ret_bool HN.out.symm, _, rfl⟩
  · have hd : (((n : Nat) : Int) != (n' : Int)) = true := by rw [bne_iff_ne]; omega
    have hf : Hid (decide (l = l') = false) := decide_eq_false (fun e => hne (by rw [← hl, ← hl', e]))
    clear h h' hl hl' hne
    go_enter Tryd.func26, Tryd.ntmps26
    go_wp2
    go_ret
    exact ⟨ret_bool hf.out.symm, 0, rfl⟩
set_option maxHeartbeats 400000 in
theorem s_l01Pick (B g : Nat) (ad : Addr) (n c : Nat) (f : Nat → ByteArray) (hn : 0 < n ∧ n ≤ maxLen) (hne : ad.block ≠ g) (w : World) (hc : Cur B w g) (hlt : ad.block < w.heap.size)
    (hcell : ∀ i, i < n → w.cell? (ad.add i) = some (.string (f i))) :
    Calls Tryd.prog 77 #[.pointer (some ⟨g, 0, none⟩), .slice (some ad) n c] w fun e w' => (∃ k, k < n ∧ e = .returned (.string (f k))) ∧ Cur B w' g ∧ w.grownBy w' (some g) := by
  obtain ⟨hn0, hn1⟩ := hn
  unfold maxLen at hn1
  have HC := hide hcell
  clear hcell
  go_enter Tryd.func77, Tryd.ntmps77
  go_wp2_with fail
  refine (s_l01Below B g _ _ hc).mono ?_
  rintro e w1 ⟨⟨x, rfl, hx0, hx1, _⟩, hc1, hg1⟩
  have hx1 := hx1 (by omega)
  obtain ⟨k, rfl⟩ := Int.eq_ofNat_of_zero_le hx0
  have hk : k < n := by omega
  have hcell : w1.cell? (ad.add k) = some (.string (f k)) := (World.cell?_of_block (hg1.block (ad.add k).block (by rw [block_of_add]; exact hlt) (by rw [block_of_add]; simpa using hne))).trans (HC.out k hk)
  go_wp2
  go_ret
  exact ⟨⟨k, hk, rfl⟩, hc1, hg1⟩
def picks6 : Nat → ByteArray
  | 0 => ⟨#[32]⟩
  | 1 => ⟨#[32, 32]⟩
  | 2 => ⟨#[9]⟩
  | 3 => ⟨#[10]⟩
  | 4 => ⟨#[127]⟩
  | _ => ⟨#[233]⟩
theorem picks6_size (k : Nat) : (picks6 k).size ≤ 2 := by
  unfold picks6
  split <;> decide
set_option maxHeartbeats 4000000 in
theorem s_drawSplitFields (A : Option Addr) (n c : Nat) (w : World) (hc : CodeAt w.heap.size w A n) :
    Calls Tryd.prog 23 #[.slice A n c] w fun e w' => (∃ s : ByteArray, e = .returned (.string s) ∧ s.size ≤ 2000) ∧ Below w.heap.size w w' := by
  go_enter Tryd.func23, Tryd.ntmps23
  go_wp2_with fail
  refine (s_l01New A n c w hc).mono ?_
  rintro e w1 ⟨rfl, hc1, hb1⟩
  go_wp2_with fail
  refine (s_l01Below _ _ _ _ hc1).mono ?_
  rintro e w2 ⟨⟨x, rfl, hx0, hx1, _⟩, hc2, hg2⟩
  have hx1 := hx1 (by omega)
  have B2 := hide (below_only hb1 hg2 hb1.size (Nat.le_refl _))
  clear hb1 hg2 hc1
  go_wp2_with fail
  refine (s_l01Once _ _ _ _ hc2).mono ?_
  rintro e w3 ⟨⟨b, rfl⟩, hc3, hg3⟩
  have B3 := hide (below_only B2.out hg3 B2.out.size (Nat.le_refl _))
  clear hg3 hc2 B2
  go_upto_if 13 with fail
  go_cut [4] from 14 to 16 (fun s4 wx => ∃ x : Int, s4 = .int .i64 x ∧ 0 ≤ x ∧ x ≤ 26 ∧ Cur w.heap.size wx w.heap.size ∧ Below w.heap.size w wx)
  case first =>
    cases b
    · go_wp2_with fail
      go_meet
      exact ⟨x, rfl, hx0, by omega, hc3, B3.out⟩
    · go_wp2_with fail
      refine (s_l01Below _ _ _ _ hc3).mono ?_
      rintro e w4 ⟨⟨y, rfl, hy0, hy1, _⟩, hc4, hg4⟩
      have hy1 := hy1 (by omega)
      go_wp2_with fail
      go_meet
      exact ⟨24 + y, rfl, by omega, by omega, hc4, below_only B3.out hg4 B3.out.size (Nat.le_refl _)⟩
  case rest =>
  clear hx0 hx1 hc3 B3
  obtain ⟨x, rfl, hx0, hx1, hc4, hb4⟩ := hcut
  have B4 := hide hb4
  have C4 := hide hc4
  clear hb4 hc4
  go_wp2_with fail
  go_loopw [5, 6] (fun v i wr => ∃ (k : Nat) (S : ByteArray), (k : Int) ≤ x ∧ i = .int .i64 k ∧ v = .string S ∧ S.size ≤ 10 * k ∧ Cur w.heap.size wr w.heap.size ∧ Below w.heap.size w wr) (fun _ i _ => x.toNat - (intOf i).toNat)
  case atStart => exact ⟨0, ⟨#[]⟩, by omega, rfl, rfl, Nat.le_refl _, C4.out, B4.out⟩
  case round =>
    obtain ⟨k, S, hk, rfl, rfl, hS, hcr, hbr⟩ := hrel
    have BR := hide hbr
    have CR := hide hcr
    clear hbr hcr
    by_cases hlt : (k : Int) < x
    · go_upto_region 9 with fail
      go_cut [27] from 17 to 50 (fun s27 wx => ∃ b : Bool, s27 = .bool b ∧ Cur w.heap.size wx w.heap.size ∧ Below w.heap.size w wx)
      case first =>
        by_cases h0 : (0 : Int) < (k : Int)
        · go_wp2_with fail
          go_meet
          exact ⟨true, rfl, CR.out, BR.out⟩
        · obtain rfl : k = 0 := by omega
          go_wp2_with fail
          refine (s_l01Once _ _ _ _ CR.out).mono ?_
          rintro e w5 ⟨⟨b, rfl⟩, hc5, hg5⟩
          go_wp2_with fail
          go_meet
          exact ⟨b, rfl, hc5, below_only BR.out hg5 BR.out.size (Nat.le_refl _)⟩
      case rest =>
      obtain ⟨b, rfl, hc5, hb5⟩ := hcut
      have B5 := hide hb5
      have C5 := hide hc5
      clear hb5 hc5
      go_upto_if 27 with fail
      go_cut [5] from 17 to 50 (fun s5 wx => ∃ S' : ByteArray, s5 = .string S' ∧ S'.size ≤ 10 * k + 3 ∧ Cur w.heap.size wx w.heap.size ∧ Below w.heap.size w wx)
      case first =>
        cases b
        · go_wp2_with fail
          go_meet
          exact ⟨S, rfl, by omega, C5.out, B5.out⟩
        · go_wp2_with fail
          refine (s_l01Below _ _ _ _ C5.out).mono ?_
          rintro e w6 ⟨⟨y, rfl, hy0, hy1, _⟩, hc6, hg6⟩
          have hy1 := hy1 (by omega)
          have B6 := hide (below_only B5.out hg6 B5.out.size (Nat.le_refl _))
          clear hg6
          go_wp2_with fail
          refine (s_l01Below _ _ _ _ hc6).mono ?_
          rintro e w7 ⟨⟨z, rfl, hz0, hz1, _⟩, hc7, hg7⟩
          have hz1 := hz1 (by omega)
          have B7 := hide (below_only B6.out hg7 B6.out.size (Nat.le_refl _))
          have C7 := hide hc7
          clear hg7 hc7 hc6
          have hyz : 0 ≤ y * z ∧ y * z ≤ 2 := by
            obtain rfl | rfl : y = 0 ∨ y = 1 := by omega
            · omega
            · omega
          obtain ⟨m, hm⟩ : ∃ m : Nat, (1 : Int) + y * z = m := ⟨(1 + y * z).toNat, by omega⟩
          have hm1 : m ≤ 3 := by omega
          have HL := hide (s_l01Long m 32 (by omega))
          go_wp2_with fail
          refine (HL.out _).mono ?_
          rintro e w8 ⟨rfl, hb8⟩
          have hsz : (⟨(List.replicate m (32 : UInt8)).toArray⟩ : ByteArray).size = m := List.length_replicate
          generalize (⟨(List.replicate m (32 : UInt8)).toArray⟩ : ByteArray) = s at *
          have hss : (S ++ s : ByteArray).size = S.size + s.size := ByteArray.size_append
          go_wp2_with fail
          go_meet
          exact ⟨S ++ s, rfl, by omega, C7.out.below hb8, B7.out.trans (hb8.mono B7.out.size)⟩
      case rest =>
      obtain ⟨S', rfl, hS', hc8, hb8⟩ := hcut
      have B8 := hide hb8
      have C8 := hide hc8
      clear hb8 hc8 B5 C5
      go_wp2_with fail
      go_loopw [5, 7] (fun v i wr => ∃ (j : Nat) (T : ByteArray), j ≤ 5 ∧ i = .int .i64 j ∧ v = .string T ∧ T.size ≤ 10 * k + 3 + j ∧ Cur w.heap.size wr w.heap.size ∧ Below w.heap.size w wr) (fun _ i _ => 5 - (intOf i).toNat)
      case atStart => exact ⟨0, S', by omega, rfl, rfl, by omega, C8.out, B8.out⟩
      case round =>
        obtain ⟨j, T, hj, rfl, rfl, hT, hcq, hbq⟩ := hrel
        have BQ := hide hbq
        clear hbq
        go_wp2_with fail
        refine (s_l01Below _ _ _ _ hcq).mono ?_
        rintro e w9 ⟨⟨y, rfl, hy0, hy1, _⟩, hc9, hg9⟩
        have hy1 := hy1 (by omega)
        have B9 := hide (below_only BQ.out hg9 BQ.out.size (Nat.le_refl _))
        clear hg9 hcq
        by_cases hjy : (j : Int) ≤ y
        · go_wp2_with fail
          refine (s_l01Below _ _ _ _ hc9).mono ?_
          rintro e w10 ⟨⟨z, rfl, hz0, hz1, _⟩, hc10, hg10⟩
          have hz1 := hz1 (by omega)
          have B10 := hide (below_only B9.out hg10 B9.out.size (Nat.le_refl _))
          have C10 := hide hc10
          clear hg10 hc9 hc10
          have hcv := fun (W : World) => conv_one (P := Tryd.prog) Tryd.underlying24 Tryd.underlying5 9 Tryd.underlying9 W (33 + z) (by omega)
          obtain ⟨d, hd⟩ : ∃ d : ByteArray, d = ⟨[UInt8.ofNat (33 + z).toNat].toArray⟩ := ⟨_, rfl⟩
          rw [← hd] at hcv
          have hsz : d.size = 1 := by rw [hd]; rfl
          have hmod : (33 + z) % 256 = 33 + z := by omega
          clear hd
          have hss : (T ++ d : ByteArray).size = T.size + d.size := ByteArray.size_append
          go_wp2_with fail
          go_roundw
          case rel => exact ⟨j + 1, T ++ d, by omega, by go_num, rfl, by omega, C10.out.alloc _, B10.out.alloc B10.out.size _⟩
          case measure => simp [intOf]; omega
        · go_wp2_with fail
          go_roundw
          case rel => exact ⟨k + 1, T, by omega, by go_num, rfl, by omega, hc9, B9.out⟩
          case measure => simp [intOf]; omega
    · have hk26 : k ≤ 26 := by omega
      go_wp2_with fail
      refine (s_l01Below _ _ _ _ CR.out).mono ?_
      rintro e w5 ⟨⟨y, rfl, hy0, hy1, _⟩, hc5, hg5⟩
      have hy1 := hy1 (by omega)
      have B5 := hide (below_only BR.out hg5 BR.out.size (Nat.le_refl _))
      have C5 := hide hc5
      clear hg5 hc5
      by_cases h0 : y = 0
      · subst h0
        go_wp2_with fail
        refine (s_l01Pick w.heap.size w.heap.size ⟨w5.heap.size, 0, none⟩ 6 6 picks6 ⟨by omega, by decide⟩ (by have := C5.out.lt; simp; omega) _ (C5.out.alloc _) (by simp) (fun i hi => by
          rw [add_zero_off, (Blk.new w5 _ _).cell i]
          have : i = 0 ∨ i = 1 ∨ i = 2 ∨ i = 3 ∨ i = 4 ∨ i = 5 := by omega
          rcases this with rfl | rfl | rfl | rfl | rfl | rfl <;> rfl)).mono ?_
        rintro e w6 ⟨⟨q, hq, rfl⟩, hc6, hg6⟩
        have hp := picks6_size q
        generalize picks6 q = d at *
        have hss : (S ++ d : ByteArray).size = S.size + d.size := ByteArray.size_append
        go_wp2_with fail
        go_ret
        exact ⟨⟨S ++ d, rfl, by omega⟩, below_only (B5.out.alloc B5.out.size _) hg6 (by have := B5.out.size; simp; omega) (Nat.le_refl _)⟩
      · by_cases h1 : y = 1
        · subst h1
          by_cases h6 : (S.size : Int) < 600
          · go_wp2_with fail
            refine (s_l01Below _ _ _ _ C5.out).mono ?_
            rintro e w6 ⟨⟨z, rfl, hz0, hz1, _⟩, hc6, hg6⟩
            have hz1 := hz1 (by omega)
            have B6 := hide (below_only B5.out hg6 B5.out.size (Nat.le_refl _))
            clear hg6
            obtain ⟨m, hm⟩ : ∃ m : Nat, (600 : Int) - (S.size : Int) + z = m := ⟨(600 - (S.size : Int) + z).toNat, by omega⟩
            have hm1 : S.size + m ≤ 601 := by omega
            have HL := hide (s_l01Long m 32 (by omega))
            go_wp2_with fail
            refine (HL.out _).mono ?_
            rintro e w7 ⟨rfl, hb7⟩
            have hsz : (⟨(List.replicate m (32 : UInt8)).toArray⟩ : ByteArray).size = m := List.length_replicate
            generalize (⟨(List.replicate m (32 : UInt8)).toArray⟩ : ByteArray) = s at *
            have hss : (S ++ s : ByteArray).size = S.size + s.size := ByteArray.size_append
            go_wp2_with fail
            go_ret
            exact ⟨⟨S ++ s, rfl, by omega⟩, B6.out.trans (hb7.mono B6.out.size)⟩
          · omega
        · have e0 : (y == 0) = false := by simpa using h0
          have e1 : (y == 1) = false := by simpa using h1
          go_wp2_with fail
          go_ret
          exact ⟨⟨S, rfl, by omega⟩, B5.out⟩
end Go.Proofs.YtapfbnojodafjaaDoor
