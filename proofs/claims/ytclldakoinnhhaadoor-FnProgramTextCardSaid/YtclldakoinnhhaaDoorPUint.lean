import Derived.Test.YtclldakoinnhhaaDoorTokS2
import Derived.Test.YtclldakoinnhhaaDoorHex
namespace Go.Proofs.YtclldakoinnhhaaDoor
open Go.RowKit
set_option maxRecDepth 100000
theorem revInd {α : Type} {p : List α → Prop} (l : List α) (nil : p []) (snoc : ∀ l x, p l → p (l ++ [x])) : p l := by
  have : ∀ n, ∀ l : List α, l.length = n → p l := by
    intro n
    induction n with
    | zero => intro l h; rw [List.eq_nil_of_length_eq_zero h]; exact nil
    | succ n ih =>
      intro l h
      have hne : l ≠ [] := by intro e; rw [e] at h; simp at h
      rw [← List.dropLast_concat_getLast hne]
      exact snoc _ _ (ih _ (by simp [h]))
  exact this _ l rfl
def decT (k : Nat) : List UInt8 := if k = 0 then [48] else digD k
theorem digD_len : ∀ (k n : Nat), n < 10 ^ k → (digD n).length ≤ k := by
  intro k
  induction k with
  | zero => intro n h; obtain rfl : n = 0 := by simpa using h
            rw [digD_zero]; exact Nat.le_refl _
  | succ k ih =>
    intro n h
    by_cases h0 : n = 0
    · subst h0; rw [digD_zero]; exact Nat.zero_le _
    · rw [digD_pos n (by omega), List.length_append]
      have := ih (n / 10) (by rw [Nat.pow_succ] at h; omega)
      simp; omega
def isDig (c : UInt8) : Bool := decide (48 ≤ (c.toNat : Int)) && decide ((c.toNat : Int) ≤ 57)
def decV (l : List UInt8) : Nat := l.foldl (fun a c => 10 * a + (c.toNat - 48)) 0
theorem decV_snoc (l : List UInt8) (c : UInt8) : decV (l ++ [c]) = 10 * decV l + (c.toNat - 48) := by simp [decV]
theorem decV_lt (l : List UInt8) : l.all isDig = true → decV l < 10 ^ l.length := by
  induction l using revInd with
  | nil => intro _; simp [decV]
  | snoc l c ih =>
    intro h
    rw [List.all_append, Bool.and_eq_true] at h
    have h1 := ih h.1
    have h2 : isDig c = true := by simpa using h.2
    unfold isDig at h2
    simp at h2
    rw [decV_snoc, List.length_append, List.length_singleton, Nat.pow_succ]
    omega
theorem digD_zero_iff (n : Nat) : digD n = [] ↔ n = 0 := by
  constructor
  · intro h
    rcases Nat.eq_zero_or_pos n with h0 | h0
    · exact h0
    · rw [digD_pos n h0] at h; simp at h
  · rintro rfl; exact digD_zero
/-- No digits, or a nought ahead. -/
def lead (l : List UInt8) : Prop := l = [] ∨ (1 < l.length ∧ l.head? = some 48)
theorem digD_head : ∀ n : Nat, (digD n).head? ≠ some 48 := by
  intro n
  induction n using Nat.strongRecOn with
  | _ n ih =>
    rcases Nat.eq_zero_or_pos n with h0 | h0
    · subst h0; rw [digD_zero]; simp
    · rw [digD_pos n h0]
      by_cases hq : n / 10 = 0
      · rw [hq, digD_zero, List.nil_append]
        intro e
        simp at e
        have := congrArg UInt8.toNat e
        simp at this
        omega
      · have hne : digD (n / 10) ≠ [] := fun h => hq ((digD_zero_iff _).1 h)
        have := ih (n / 10) (by omega)
        cases hd : digD (n / 10) with
        | nil => exact absurd hd hne
        | cons x t => rw [hd] at this; simpa using this
theorem decT_decV (l : List UInt8) : l.all isDig = true → ¬ lead l → decT (decV l) = l := by
  intro h hl
  have key : ∀ l : List UInt8, l.all isDig = true → l.head? ≠ some 48 → digD (decV l) = l ∧ (l ≠ [] → 0 < decV l) := by
    intro l
    induction l using revInd with
    | nil => intro _ _; exact ⟨by simp [decV, digD_zero], fun h => absurd rfl h⟩
    | snoc l c ih =>
      intro h hh
      rw [List.all_append, Bool.and_eq_true] at h
      have h2 : isDig c = true := by simpa using h.2
      unfold isDig at h2
      simp at h2
      have hc : UInt8.ofNat (48 + (c.toNat - 48)) = c := by rw [show 48 + (c.toNat - 48) = c.toNat by omega]; simp
      cases l with
      | nil =>
        have hne : c.toNat ≠ 48 := fun e => hh (by simp; exact UInt8.toNat_inj.1 (by simpa using e))
        rw [decV_snoc]
        simp only [decV, List.foldl_nil, Nat.mul_zero, Nat.zero_add, List.nil_append]
        refine ⟨?_, fun _ => by omega⟩
        rw [digD_pos _ (by omega), show (c.toNat - 48) / 10 = 0 by omega, digD_zero, List.nil_append, show (c.toNat - 48) % 10 = c.toNat - 48 by omega, hc]
      | cons x l =>
        obtain ⟨i1, i2⟩ := ih h.1 (by simpa using hh)
        have i3 := i2 (by simp)
        rw [decV_snoc]
        refine ⟨?_, fun _ => by omega⟩
        rw [digD_pos _ (by omega), show (10 * decV (x :: l) + (c.toNat - 48)) / 10 = decV (x :: l) by omega, i1, show (10 * decV (x :: l) + (c.toNat - 48)) % 10 = c.toNat - 48 by omega, hc]
  by_cases hh : l.head? = some 48
  · have hlen : l.length ≤ 1 := by
      rcases Nat.lt_or_ge 1 l.length with h1 | h1
      · exact absurd (.inr ⟨h1, hh⟩) hl
      · exact h1
    match l, hlen, hh with
    | [c], _, hh =>
      obtain rfl : c = 48 := by simpa using hh
      decide
  · have hne : l ≠ [] := fun e => hl (.inl e)
    obtain ⟨k1, k2⟩ := key l h hh
    have := k2 hne
    unfold decT
    rw [if_neg (by omega), k1]
theorem decT_lead (n : Nat) : ¬ lead (decT n) := by
  unfold decT lead
  split
  · simp
  · rename_i h
    rintro (h1 | h1)
    · exact h ((digD_zero_iff _).1 h1)
    · exact digD_head n h1.2
theorem toList_inj' {a b : ByteArray} (h : a.toList = b.toList) : a = b := by
  rw [ByteArray.toList_eq, ByteArray.toList_eq] at h
  exact ByteArray.ext (Array.toList_inj.1 h)
theorem bneT' {a b : ByteArray} (h : a ≠ b) : (!a.toList == b.toList) = true := by
  have : (a.toList == b.toList) = false := by rw [beq_eq_false_iff_ne]; exact fun e => h (toList_inj' e)
  rw [this]; rfl
theorem bneF' {a b : ByteArray} (h : a = b) : (!a.toList == b.toList) = false := by rw [h]; simp
/-- What ParseUint answers. -/
def puOk (l : List UInt8) : Prop := l.length ≤ 10 ∧ ¬ lead l ∧ l.all isDig = true ∧ decV l ≤ 1000000000
noncomputable def puB (l : List UInt8) : Bool := @decide (puOk l) (Classical.propDecidable _)
noncomputable def puV (l : List UInt8) : Int := if puB l = true then (decV l : Int) else 0
theorem pu_not {l : List UInt8} (h : ¬ puOk l) : puV l = 0 ∧ puB l = false := by
  have : puB l = false := @decide_eq_false _ (Classical.propDecidable _) h
  exact ⟨by unfold puV; rw [this]; rfl, this⟩
theorem pu_yes {l : List UInt8} (h : puOk l) : puV l = decV l ∧ puB l = true := by
  have : puB l = true := @decide_eq_true _ (Classical.propDecidable _) h
  exact ⟨by unfold puV; rw [this]; rfl, this⟩
set_option maxHeartbeats 1000000 in
theorem i_parseUint (s : ByteArray) (hs : s.size ≤ maxLen) (w : World) :
    Calls Tryd.prog 44 #[.string s] w fun e w' => e = .returned (.tuple #[.int .i64 (puV s.data.toList), .bool (puB s.data.toList)]) ∧ w = w' := by
  unfold maxLen at hs
  by_cases hs0 : s.size = 0
  · have HN := hide (pu_not (l := s.data.toList) (fun h => h.2.1 (.inl (List.eq_nil_of_length_eq_zero (by rw [len_toList]; exact hs0)))))
    have z : ((s.size : Int) == 0) = true := by simp [hs0]
    clear hs0
    go_enter Tryd.func44, Tryd.ntmps44
    go_wp2_with fail
    go_ret2
    exact ⟨ret_pair HN.out.1.symm HN.out.2.symm, rfl⟩
  have z0 : ((s.size : Int) == 0) = false := by rw [beq_eq_false_iff_ne]; omega
  by_cases hs10 : 10 < s.size
  · have HN := hide (pu_not (l := s.data.toList) (fun h => by have := h.1; rw [len_toList] at this; omega))
    have hs10' : (10 : Int) < (s.size : Int) := by omega
    clear hs10 hs0
    go_enter Tryd.func44, Tryd.ntmps44
    go_wp2_with fail
    go_ret2
    exact ⟨ret_pair HN.out.1.symm HN.out.2.symm, rfl⟩
  have h0 : 0 < s.size := by omega
  have hle : (s.size : Int) ≤ 10 := by omega
  have hle' : ¬ (10 : Int) < (s.size : Int) := by omega
  have hhd : s.data.toList.head? = some s[0] := by
    rw [List.head?_eq_getElem?, List.getElem?_eq_getElem (by rw [len_toList]; exact h0)]; rfl
  have HH := hide hhd
  clear hhd hs0 hs10
  by_cases hld : 1 < s.size ∧ s[0] = 48
  · obtain ⟨hl1, hl2⟩ := hld
    have HN := hide (pu_not (l := s.data.toList) (fun h => h.2.1 (.inr ⟨by rw [len_toList]; exact hl1, by rw [HH.out, hl2]⟩)))
    have hl1' : (1 : Int) < (s.size : Int) := by omega
    have hz : ((s[0].toNat : Int) == 48) = true := by rw [hl2]; rfl
    clear hl2 hl1
    go_enter Tryd.func44, Tryd.ntmps44
    go_wp2_with fail
    go_ret2
    exact ⟨ret_pair HN.out.1.symm HN.out.2.symm, rfl⟩
  have HL : Hid (¬ lead s.data.toList) := by
    show ¬ _
    rintro (h | h)
    · have h5 : s.data.toList.length = 0 := by rw [h]; rfl
      rw [len_toList] at h5; omega
    · rw [len_toList, HH.out] at h; exact hld ⟨h.1, by simpa using h.2⟩
  have hcases : (1 < s.size ∧ ((s[0].toNat : Int) == 48) = false) ∨ ¬ 1 < s.size := by
    by_cases h1 : 1 < s.size
    · exact .inl ⟨h1, by rw [beq_eq_false_iff_ne]; intro e; exact hld ⟨h1, UInt8.toNat_inj.1 (by show s[0].toNat = 48; omega)⟩⟩
    · exact .inr h1
  clear hld
  have pre : ∀ w, Calls Tryd.prog 44 #[.string s] w fun e w' => e = .returned (.tuple #[.int .i64 (puV s.data.toList), .bool (puB s.data.toList)]) ∧ w = w' := by
    intro w
    rcases hcases with ⟨hl1, hz⟩ | hl1
    all_goals have hl1' := hide hl1
    · have g1 : (1 : Int) < (s.size : Int) := by omega
      clear hl1
      go_enter Tryd.func44, Tryd.ntmps44
      go_wp2_with fail
      clear hz
      go_loop [4, 5] (fun m i => ∃ (k : Nat) (a : Int), k ≤ s.size ∧ i = .int .i64 k ∧ m = .int .i64 a ∧ 0 ≤ a ∧ a ≤ 9999999999 ∧ (s.data.toList.take k).all isDig = true ∧ a = decV (s.data.toList.take k)) (fun _ i => s.size - (intOf i).toNat)
      case atStart => exact ⟨0, 0, Nat.zero_le _, rfl, rfl, by omega, by omega, rfl, rfl⟩
      case round =>
        obtain ⟨k, a, hk, rfl, rfl, ha0, ha1, hd, hv⟩ := hrel
        have HD := hide hd
        have HV := hide hv
        clear hd hv
        by_cases hlt : k < s.size
        · have hts := hide (take_snoc s k hlt)
          have hdv := hide (decV_snoc (s.data.toList.take k) s[k])
          cases hc : isDig s[k]
          · have HN := hide (pu_not (l := s.data.toList) (fun h => by
              have h3 := List.all_eq_true.1 h.2.2.1 _ (getElem_mem_toList s k hlt)
              rw [hc] at h3; cases h3))
            have hcc : (s[k].toNat : Int) < 48 ∨ 57 < (s[k].toNat : Int) := by
              unfold isDig at hc
              rw [Bool.and_eq_false_iff] at hc
              rcases hc with h | h
              · exact .inl (by have := of_decide_eq_false h; omega)
              · exact .inr (by have := of_decide_eq_false h; omega)
            clear hc
            rcases hcc with hcc | hcc
            · go_wp2_with fail
              go_ret2
              exact ⟨ret_pair HN.out.1.symm HN.out.2.symm, rfl⟩
            · go_wp2_with fail
              go_ret2
              exact ⟨ret_pair HN.out.1.symm HN.out.2.symm, rfl⟩
          · have hcc : 48 ≤ (s[k].toNat : Int) ∧ (s[k].toNat : Int) ≤ 57 := by
              unfold isDig at hc
              simpa using hc
            have HN : Hid ((s.data.toList.take (k + 1)).all isDig = true) := by
              show _ = _
              rw [hts.out, List.all_append, HD.out]; simpa using hc
            have HW : Hid (10 * a + ((s[k].toNat : Int) - 48) = (decV (s.data.toList.take (k + 1)) : Int)) := by
              show _ = _
              rw [hts.out, hdv.out, HV.out]; push_cast; omega
            have hlt2 := decV_lt _ HN.out
            have hp : (10 : Nat) ^ (s.data.toList.take (k + 1)).length ≤ 10000000000 := Nat.le_trans (Nat.pow_le_pow_right (by omega) (show _ ≤ 10 by rw [List.length_take]; omega)) (by decide)
            have hb : (decV (s.data.toList.take (k + 1)) : Int) ≤ 9999999999 := by omega
            have hb0 : (0 : Int) ≤ (decV (s.data.toList.take (k + 1)) : Int) := by omega
            rw [← HW.out] at hb hb0
            clear hc hlt2 hp
            go_wp2_with fail
            go_round
            case rel => exact ⟨k + 1, _, by omega, by go_num, rfl, by first | exact hb0 | omega, by first | exact hb | omega, HN.out, by rw [← HW.out]; omega⟩
            case measure => simp [intOf]; omega
        · have HA : Hid (s.data.toList.all isDig = true) := by have := HD.out; rwa [take_all s k (by omega)] at this
          have HW : Hid (a = decV s.data.toList) := by have := HV.out; rwa [take_all s k (by omega)] at this
          by_cases hbig : 1000000000 < a
          · have HN := hide (pu_not (l := s.data.toList) (fun h => by have h1 := h.2.2.2; have h2 := HW.out; omega))
            go_wp2_with fail
            go_ret2
            exact ⟨ret_pair HN.out.1.symm HN.out.2.symm, rfl⟩
          · have HN := hide (pu_yes (l := s.data.toList) ⟨by rw [len_toList]; omega, HL.out, HA.out, by have h2 := HW.out; omega⟩)
            go_wp2_with fail
            go_ret2
            exact ⟨ret_pair (by rw [HN.out.1]; exact HW.out) HN.out.2.symm, rfl⟩
    · have g1 : ¬ (1 : Int) < (s.size : Int) := by omega
      clear hl1
      go_enter Tryd.func44, Tryd.ntmps44
      go_wp2_with fail
      go_loop [4, 5] (fun m i => ∃ (k : Nat) (a : Int), k ≤ s.size ∧ i = .int .i64 k ∧ m = .int .i64 a ∧ 0 ≤ a ∧ a ≤ 9999999999 ∧ (s.data.toList.take k).all isDig = true ∧ a = decV (s.data.toList.take k)) (fun _ i => s.size - (intOf i).toNat)
      case atStart => exact ⟨0, 0, Nat.zero_le _, rfl, rfl, by omega, by omega, rfl, rfl⟩
      case round =>
        obtain ⟨k, a, hk, rfl, rfl, ha0, ha1, hd, hv⟩ := hrel
        have HD := hide hd
        have HV := hide hv
        clear hd hv
        by_cases hlt : k < s.size
        · have hts := hide (take_snoc s k hlt)
          have hdv := hide (decV_snoc (s.data.toList.take k) s[k])
          cases hc : isDig s[k]
          · have HN := hide (pu_not (l := s.data.toList) (fun h => by
              have h3 := List.all_eq_true.1 h.2.2.1 _ (getElem_mem_toList s k hlt)
              rw [hc] at h3; cases h3))
            have hcc : (s[k].toNat : Int) < 48 ∨ 57 < (s[k].toNat : Int) := by
              unfold isDig at hc
              rw [Bool.and_eq_false_iff] at hc
              rcases hc with h | h
              · exact .inl (by have := of_decide_eq_false h; omega)
              · exact .inr (by have := of_decide_eq_false h; omega)
            clear hc
            rcases hcc with hcc | hcc
            · go_wp2_with fail
              go_ret2
              exact ⟨ret_pair HN.out.1.symm HN.out.2.symm, rfl⟩
            · go_wp2_with fail
              go_ret2
              exact ⟨ret_pair HN.out.1.symm HN.out.2.symm, rfl⟩
          · have hcc : 48 ≤ (s[k].toNat : Int) ∧ (s[k].toNat : Int) ≤ 57 := by
              unfold isDig at hc
              simpa using hc
            have HN : Hid ((s.data.toList.take (k + 1)).all isDig = true) := by
              show _ = _
              rw [hts.out, List.all_append, HD.out]; simpa using hc
            have HW : Hid (10 * a + ((s[k].toNat : Int) - 48) = (decV (s.data.toList.take (k + 1)) : Int)) := by
              show _ = _
              rw [hts.out, hdv.out, HV.out]; push_cast; omega
            have hlt2 := decV_lt _ HN.out
            have hp : (10 : Nat) ^ (s.data.toList.take (k + 1)).length ≤ 10000000000 := Nat.le_trans (Nat.pow_le_pow_right (by omega) (show _ ≤ 10 by rw [List.length_take]; omega)) (by decide)
            have hb : (decV (s.data.toList.take (k + 1)) : Int) ≤ 9999999999 := by omega
            have hb0 : (0 : Int) ≤ (decV (s.data.toList.take (k + 1)) : Int) := by omega
            rw [← HW.out] at hb hb0
            clear hc hlt2 hp
            go_wp2_with fail
            go_round
            case rel => exact ⟨k + 1, _, by omega, by go_num, rfl, by first | exact hb0 | omega, by first | exact hb | omega, HN.out, by rw [← HW.out]; omega⟩
            case measure => simp [intOf]; omega
        · have HA : Hid (s.data.toList.all isDig = true) := by have := HD.out; rwa [take_all s k (by omega)] at this
          have HW : Hid (a = decV s.data.toList) := by have := HV.out; rwa [take_all s k (by omega)] at this
          by_cases hbig : 1000000000 < a
          · have HN := hide (pu_not (l := s.data.toList) (fun h => by have h1 := h.2.2.2; have h2 := HW.out; omega))
            go_wp2_with fail
            go_ret2
            exact ⟨ret_pair HN.out.1.symm HN.out.2.symm, rfl⟩
          · have HN := hide (pu_yes (l := s.data.toList) ⟨by rw [len_toList]; omega, HL.out, HA.out, by have h2 := HW.out; omega⟩)
            go_wp2_with fail
            go_ret2
            exact ⟨ret_pair (by rw [HN.out.1]; exact HW.out) HN.out.2.symm, rfl⟩
  exact pre w
end Go.Proofs.YtclldakoinnhhaaDoor
