import Derived.Test.YtclldakoinnhhaaDoorFmtI
import Derived.Test.YtclldakoinnhhaaDoorDraw
import Derived.Test.YtclldakoinnhhaaDoorPTokS
import Derived.Lib.IndexLaws
namespace Go.Proofs.YtclldakoinnhhaaDoor
open Go Go.RowKit
set_option maxRecDepth 100000
theorem digD_all : ∀ n : Nat, (digD n).all isDig = true := by
  intro n
  induction n using Nat.strongRecOn with
  | _ n ih =>
    rcases Nat.eq_zero_or_pos n with h0 | h0
    · subst h0; rw [digD_zero]; rfl
    · rw [digD_pos n h0, List.all_append, ih (n / 10) (by omega)]
      have : (UInt8.ofNat (48 + n % 10)).toNat = 48 + n % 10 := by simp; omega
      simp [isDig]
      omega
theorem decV_digD : ∀ n : Nat, decV (digD n) = n := by
  intro n
  induction n using Nat.strongRecOn with
  | _ n ih =>
    rcases Nat.eq_zero_or_pos n with h0 | h0
    · subst h0; rw [digD_zero]; rfl
    · have : (UInt8.ofNat (48 + n % 10)).toNat = 48 + n % 10 := by simp; omega
      rw [digD_pos n h0, decV_snoc, ih (n / 10) (by omega), this]
      omega
theorem decT_all (n : Nat) : (decT n).all isDig = true := by
  unfold decT; split
  · decide
  · exact digD_all n
theorem decV_decT (n : Nat) : decV (decT n) = n := by
  unfold decT; split
  · rename_i h; subst h; decide
  · exact decV_digD n
theorem itoa_pu (n : Int) : puB (Lib.itoa n) = (decide (0 ≤ n) && decide (n ≤ 1000000000)) ∧ ((0 ≤ n ∧ n ≤ 1000000000) → puV (Lib.itoa n) = n) ∧ (Lib.itoa n).isEmpty = false := by
  by_cases hn : n < 0
  · have e : Lib.itoa n = 45 :: digD n.natAbs := by unfold Lib.itoa; rw [if_pos hn, digD_dec _ (by omega)]
    have hk : ¬ puOk (Lib.itoa n) := fun h => by
      have := h.2.2.1
      rw [e] at this
      have h2 : isDig 45 = true := by simp at this; exact this.1
      revert h2; decide
    refine ⟨?_, fun h => by omega, by rw [e]; rfl⟩
    rw [(pu_not hk).2, decide_eq_false (by omega)]; rfl
  · have e : Lib.itoa n = decT n.toNat := by unfold Lib.itoa; rw [if_neg hn, decT_dec]
    have hne : (decT n.toNat).isEmpty = false := by
      cases h : decT n.toNat with
      | nil => exact absurd (.inl h) (decT_lead n.toNat)
      | cons _ _ => rfl
    by_cases h9 : n ≤ 1000000000
    · have hk : puOk (Lib.itoa n) := by
        rw [e]
        refine ⟨?_, decT_lead _, decT_all _, by rw [decV_decT]; omega⟩
        unfold decT
        split
        · decide
        · exact digD_len 10 _ (Nat.lt_of_le_of_lt (show n.toNat ≤ 1000000000 by omega) (by decide))
      refine ⟨?_, fun _ => ?_, by rw [e]; exact hne⟩
      · rw [(pu_yes hk).2, decide_eq_true (by omega), decide_eq_true h9]; rfl
      · rw [(pu_yes hk).1, e, decV_decT]; omega
    · have hk : ¬ puOk (Lib.itoa n) := fun h => by have := h.2.2.2; rw [e, decV_decT] at this; omega
      refine ⟨?_, fun h => by omega, by rw [e]; exact hne⟩
      rw [(pu_not hk).2, decide_eq_true (show 0 ≤ n by omega), decide_eq_false h9]; rfl
end Go.Proofs.YtclldakoinnhhaaDoor
namespace Go.Proofs.YtclldakoinnhhaaDoor
open Go Go.RowKit
set_option maxRecDepth 100000
/-! What the reference tries first is what the program takes. -/
theorem pu_of {l : List UInt8} (h : puB l = true) : puOk l := by
  rcases Classical.em (puOk l) with h' | h'
  · exact h'
  · rw [(pu_not h').2] at h; cases h
theorem pu_itoa {l : List UInt8} (h : puB l = true) : Lib.itoa (puV l) = l := by
  have hk := pu_of h
  rw [(pu_yes hk).1]
  have e : Lib.itoa ((decV l : Nat) : Int) = decT (decV l) := by unfold Lib.itoa; rw [if_neg (by omega), Int.toNat_natCast, decT_dec]
  rw [e]
  exact decT_decV l hk.2.2.1 hk.2.1
theorem pu_dig {l : List UInt8} (h : puB l = true) : l ≠ [] ∧ ∀ c ∈ l, isDig c = true := by
  have hk := pu_of h
  exact ⟨fun e => hk.2.1 (.inl e), fun c hc => List.all_eq_true.1 hk.2.2.1 c hc⟩
theorem name_low {l : List UInt8} (h : nameOkF l = true) : l ≠ [] ∧ ∀ c ∈ l, lower c = true := by
  unfold nameOkF at h
  rw [Bool.and_eq_true] at h
  refine ⟨fun e => ?_, fun c hc => List.all_eq_true.1 h.1 c hc⟩
  rw [e] at h
  revert h
  decide
theorem low_not {c : UInt8} (h : lower c = true) : isDig c = false ∧ c ≠ 47 := by
  unfold lower at h
  have h' := of_decide_eq_true h
  refine ⟨?_, fun e => ?_⟩
  · unfold isDig
    rw [decide_eq_false (show ¬ ((c.toNat : Int) ≤ 57) by omega), Bool.and_false]
  · rw [e] at h'
    revert h'
    decide
theorem mem_first {l : List UInt8} {c : UInt8} (h : c ∈ l) : ∃ a b, l = a ++ c :: b ∧ c ∉ a := by
  induction l with
  | nil => cases h
  | cons x l ih =>
    by_cases hx : x = c
    · exact ⟨[], l, by rw [hx]; rfl, by simp⟩
    · rcases List.mem_cons.1 h with h | h
      · exact absurd h.symm hx
      · obtain ⟨a, b, e, ha⟩ := ih h
        exact ⟨x :: a, b, by rw [e]; rfl, fun hm => (List.mem_cons.1 hm).elim (fun e => hx e.symm) ha⟩
theorem idx_at (nm num : List UInt8) (h : (47 : UInt8) ∉ nm) : Lib.indexByte (nm ++ 47 :: num) 47 = nm.length := by
  induction nm with
  | nil => simp [Lib.indexByte]
  | cons c nm ih =>
    have hc : ¬ c = 47 := fun e => h (by rw [e]; exact List.mem_cons_self)
    have := ih (fun h' => h (List.mem_cons_of_mem _ h'))
    rw [List.cons_append, Lib.indexByte, this]
    have h1 : (c == 47) = false := by simpa using hc
    rw [h1]
    have h2 : (((nm.length : Nat) : Int) == -1) = false := by rw [beq_eq_false_iff_ne]; omega
    rw [h2]
    simp
theorem cut_eq {s : ByteArray} {nm num : List UInt8} (e : s.data.toList = nm ++ 47 :: num) (h : (47 : UInt8) ∉ nm) : cutOf s = (nm, num, true) := by
  unfold cutOf Lib.cut
  rw [e, Lib.index_one, idx_at nm num h, if_pos (by omega), Int.toNat_natCast]
  simp
theorem cut_none {s : ByteArray} (h : (47 : UInt8) ∉ s.data.toList) : (cutOf s).2.2 = false := by
  unfold cutOf Lib.cut
  rw [Lib.index_one]
  split
  · rename_i h0
    obtain ⟨o, ho⟩ := Int.eq_ofNat_of_zero_le h0
    have := (Lib.indexByte_some ho).1
    exact absurd (List.mem_of_getElem? this) h
  · rfl
theorem cut_some {s : ByteArray} (h : (47 : UInt8) ∈ s.data.toList) : (cutOf s).2.2 = true ∧ s.data.toList = (cutOf s).1 ++ 47 :: (cutOf s).2.1 ∧ (47 : UInt8) ∉ (cutOf s).1 := by
  obtain ⟨nm, num, e, hn⟩ := mem_first h
  rw [cut_eq e hn]
  exact ⟨rfl, e, hn⟩
theorem fit_name (s : ByteArray) : fit s (1, 0, s) = nameOkF s.data.toList := by
  unfold fit fmtTkF tkOk tokOkF
  cases nameOkF s.data.toList <;> simp
theorem fit_sign (s : ByteArray) (k : Nat) (hk : k < 5) : fit s ((k : Int) + 2, 0, ⟨#[]⟩) = decide ((⟨#[sgnL.getD k 0]⟩ : ByteArray) = s) := by
  have : k = 0 ∨ k = 1 ∨ k = 2 ∨ k = 3 ∨ k = 4 := by omega
  rcases this with rfl | rfl | rfl | rfl | rfl <;> rfl
theorem find_signs (s : ByteArray) : (candJ s 5).find? (fit s) = if nameOkF s.data.toList = true then some (1, 0, s) else (List.range 5).findSome? fun k => if (⟨#[sgnL.getD k 0]⟩ : ByteArray) = s then some ((k : Int) + 2, 0, ⟨#[]⟩) else none := by
  unfold candJ
  rw [List.find?_cons, fit_name]
  cases h : nameOkF s.data.toList
  · rw [if_neg (by simp)]
    show List.find? _ _ = _
    have e : List.range 5 = [0, 1, 2, 3, 4] := rfl
    have f0 := fit_sign s 0 (by omega)
    have f1 := fit_sign s 1 (by omega)
    have f2 := fit_sign s 2 (by omega)
    have f3 := fit_sign s 3 (by omega)
    have f4 := fit_sign s 4 (by omega)
    rw [e]
    simp only [List.map_cons, List.map_nil, List.find?_cons, List.find?_nil, List.findSome?_cons, List.findSome?_nil, f0, f1, f2, f3, f4]
    repeat (split <;> simp_all)
  · rw [if_pos rfl]
theorem opq_char {s : ByteArray} (h1 : s.size = 1) (h2 : 0 ≤ opQ s) : ∃ k : Nat, k < 5 ∧ opQ s = k ∧ s = ⟨#[sgnL.getD k 0]⟩ := by
  have hl : s.data.toList.length = 1 := h1
  obtain ⟨c, hc⟩ : ∃ c, s.data.toList = [c] := by
    cases h : s.data.toList with
    | nil => rw [h] at hl; simp at hl
    | cons c l => rw [h] at hl; cases l with
      | nil => exact ⟨c, rfl⟩
      | cons d l => simp at hl
  unfold opQ at h2 ⊢
  rw [hc, Lib.index_one] at h2 ⊢
  obtain ⟨k, hk⟩ := Int.eq_ofNat_of_zero_le h2
  have hg := (Lib.indexByte_some hk).1
  have hk5 : k < sgnL.length := (List.getElem?_eq_some_iff.1 hg).1
  refine ⟨k, hk5, hk, ?_⟩
  apply ByteArray.ext
  apply Array.ext'
  rw [hc, List.getD_eq_getElem?_getD, hg]
  rfl
theorem opq_of (k : Nat) (hk : k < 5) : (⟨#[sgnL.getD k 0]⟩ : ByteArray).size = 1 ∧ opQ ⟨#[sgnL.getD k 0]⟩ = k ∧ fmtTkF (2 + (k : Int), 0, ⟨#[]⟩) = ⟨#[sgnL.getD k 0]⟩ := by
  have : k = 0 ∨ k = 1 ∨ k = 2 ∨ k = 3 ∨ k = 4 := by omega
  rcases this with rfl | rfl | rfl | rfl | rfl <;> exact ⟨rfl, rfl, rfl⟩
theorem ops_not (k : Nat) (hk : k < 5) : isDig (sgnL.getD k 0) = false ∧ lower (sgnL.getD k 0) = false := by
  have : k = 0 ∨ k = 1 ∨ k = 2 ∨ k = 3 ∨ k = 4 := by omega
  rcases this with rfl | rfl | rfl | rfl | rfl <;> decide
theorem pt_name {s : ByteArray} (hn : nameOkF s.data.toList = true) : ptF s = some (1, 0, s) := by
  obtain ⟨hne, hlow⟩ := name_low hn
  have hse : s ≠ ⟨#[]⟩ := fun e => hne (by rw [e])
  have h1 : ¬ puB s.data.toList = true := fun h => by
    obtain ⟨_, hd⟩ := pu_dig h
    cases hl : s.data.toList with
    | nil => exact hne hl
    | cons c l =>
      have hc : c ∈ s.data.toList := by rw [hl]; exact List.mem_cons_self
      have := hd c hc
      rw [(low_not (hlow c hc)).1] at this
      cases this
  have h2 : ¬ (s.size = 1 ∧ 0 ≤ opQ s) := fun h => by
    obtain ⟨k, hk, _, e⟩ := opq_char h.1 h.2
    have := hlow (sgnL.getD k 0) (by rw [e]; first | done | exact List.mem_singleton.2 rfl)
    rw [(ops_not k hk).2] at this
    cases this
  have h3 : (cutOf s).2.2 = false := cut_none (fun h => (low_not (hlow _ h)).2 rfl)
  have hT : ptTok s = (1, 0, s) := by
    unfold ptTok
    rw [if_neg h1, if_neg h2, if_neg (by rw [h3]; simp)]
  have hf : fmtTkF (1, 0, s) = s := by
    unfold fmtTkF tkOk tokOkF
    simp [hn]
  unfold ptF
  rw [hT, if_pos ⟨hse, hf⟩]
theorem pt_sign (k : Nat) (hk : k < 5) : ptF ⟨#[sgnL.getD k 0]⟩ = some ((k : Int) + 2, 0, ⟨#[]⟩) := by
  obtain ⟨h1, h2, h3⟩ := opq_of k hk
  have hp : ¬ puB (⟨#[sgnL.getD k 0]⟩ : ByteArray).data.toList = true := fun h => by
    have := (pu_dig h).2 (sgnL.getD k 0) (List.mem_singleton.2 rfl)
    rw [(ops_not k hk).1] at this
    cases this
  have hT : ptTok ⟨#[sgnL.getD k 0]⟩ = (2 + (k : Int), 0, ⟨#[]⟩) := by
    unfold ptTok
    rw [if_neg hp, if_pos ⟨h1, by rw [h2]; omega⟩, h2]
  unfold ptF
  rw [hT, if_pos ⟨fun e => (by rw [e] at h1; cases h1), h3⟩, show (2 : Int) + k = k + 2 by omega]
end Go.Proofs.YtclldakoinnhhaaDoor
namespace Go.Proofs.YtclldakoinnhhaaDoor
open Go Go.RowKit
set_option maxRecDepth 100000
def isSign (s : ByteArray) : Prop := ∃ k, k < 5 ∧ (⟨#[sgnL.getD k 0]⟩ : ByteArray) = s
theorem signs_none {s : ByteArray} (h : ¬ isSign s) : ((List.range 5).findSome? fun k => if (⟨#[sgnL.getD k 0]⟩ : ByteArray) = s then some (((k : Nat) : Int) + 2, (0 : Int), (⟨#[]⟩ : ByteArray)) else none) = none := by
  rw [List.findSome?_eq_none_iff]
  intro k hk
  rw [if_neg (fun e => h ⟨k, List.mem_range.1 hk, e⟩)]
theorem not_sign {s : ByteArray} (h : ¬ isSign s) : ¬ (s.size = 1 ∧ 0 ≤ opQ s) := fun h' => by
  obtain ⟨k, hk, _, e⟩ := opq_char h'.1 h'.2
  exact h ⟨k, hk, e.symm⟩
theorem signs_some (k : Nat) (hk : k < 5) : ((List.range 5).findSome? fun j => if (⟨#[sgnL.getD j 0]⟩ : ByteArray) = ⟨#[sgnL.getD k 0]⟩ then some (((j : Nat) : Int) + 2, (0 : Int), (⟨#[]⟩ : ByteArray)) else none) = some ((k : Int) + 2, 0, ⟨#[]⟩) := by
  have : k = 0 ∨ k = 1 ∨ k = 2 ∨ k = 3 ∨ k = 4 := by omega
  rcases this with rfl | rfl | rfl | rfl | rfl <;> rfl
theorem fmt_num (n : Int) : fmtTkF (0, n, ⟨#[]⟩) = if 0 ≤ n ∧ n ≤ 999 then ⟨(Lib.itoa n).toArray⟩ else ⟨#[]⟩ := by
  unfold fmtTkF tkOk tokOkF btw
  by_cases h : 0 ≤ n ∧ n ≤ 999
  · simp [h.1, h.2]
  · rw [if_neg h]
    have : (decide (0 ≤ n) && decide (n ≤ 999)) = false := by
      rw [Bool.and_eq_false_iff]
      rcases Classical.em (0 ≤ n) with h0 | h0
      · exact .inr (decide_eq_false (fun h1 => h ⟨h0, h1⟩))
      · exact .inl (decide_eq_false h0)
    simp [this]
    rfl
theorem case_num {s : ByteArray} (hp : puB s.data.toList = true) : nameOkF s.data.toList = false ∧ ¬ isSign s ∧ (numC s ++ callC s).find? (fit s) = ptF s := by
  obtain ⟨hne, hd⟩ := pu_dig hp
  have hse : s ≠ ⟨#[]⟩ := fun e => hne (by rw [e])
  have hr := puV_range s.data.toList
  have hi : (⟨(Lib.itoa (puV s.data.toList)).toArray⟩ : ByteArray) = s := by rw [pu_itoa hp]
  refine ⟨?_, ?_, ?_⟩
  · cases h : nameOkF s.data.toList
    · rfl
    · obtain ⟨_, hl⟩ := name_low h
      cases hs : s.data.toList with
      | nil => exact absurd hs hne
      | cons c l =>
        have hc : c ∈ s.data.toList := by rw [hs]; exact List.mem_cons_self
        have := hd c hc
        rw [(low_not (hl c hc)).1] at this
        cases this
  · rintro ⟨k, hk, rfl⟩
    have := hd (sgnL.getD k 0) (List.mem_singleton.2 rfl)
    rw [(ops_not k hk).1] at this
    cases this
  · have hcall : callC s = [] := by
      unfold callC
      rw [if_neg]
      rintro ⟨h2, h47⟩
      have hl : s.size - 2 < s.data.toList.length := by show s.size - 2 < s.size; omega
      rw [List.getD_eq_getElem?_getD, List.getElem?_eq_getElem hl] at h47
      have := hd _ (List.getElem_mem hl)
      simp only [Option.getD_some] at h47
      rw [h47] at this
      revert this
      decide
    have hT : ptTok s = (0, puV s.data.toList, ⟨#[]⟩) := by unfold ptTok; rw [if_pos hp]
    have hf := fmt_num (puV s.data.toList)
    unfold ptF numC
    rw [hcall, hT, List.append_nil]
    by_cases h9 : puV s.data.toList ≤ 999
    · rw [if_pos ⟨hr.1, h9⟩, hi] at hf
      rw [if_pos ⟨hp, h9⟩, if_pos ⟨hse, hf⟩, List.find?_cons]
      have : fit s (0, puV s.data.toList, ⟨#[]⟩) = true := by
        unfold fit
        rw [hf]
        unfold tkOk tokOkF btw
        simp [hr.1, h9]
      rw [this]
    · rw [if_neg (fun h => h9 h.2)] at hf
      rw [if_neg (fun h => h9 h.2), if_neg (fun h => hse (by rw [← h.2, hf]))]
      rfl
theorem pu_one (c : UInt8) (h : 0 ≤ (c.toNat : Int) - 48 ∧ (c.toNat : Int) - 48 ≤ 4) : puB [c] = true ∧ puV [c] = (c.toNat : Int) - 48 := by
  have hd : isDig c = true := by
    unfold isDig
    rw [decide_eq_true (show 48 ≤ (c.toNat : Int) by omega), decide_eq_true (show (c.toNat : Int) ≤ 57 by omega)]; rfl
  have hv : decV [c] = c.toNat - 48 := by simp [decV]
  have hk : puOk [c] := by
    refine ⟨by simp, ?_, by simp [hd], by rw [hv]; omega⟩
    rintro (h | h)
    · cases h
    · simp at h
  exact ⟨(pu_yes hk).2, by rw [(pu_yes hk).1, hv]; omega⟩
theorem split_last {s : ByteArray} (h2 : 2 < s.size) (h47 : s.data.toList.getD (s.size - 2) 0 = 47) : s.data.toList = (s.extract 0 (s.size - 2)).data.toList ++ 47 :: [s.data.toList.getD (s.size - 1) 0] := by
  have hl : s.data.toList.length = s.size := rfl
  have e : (s.extract 0 (s.size - 2)).data.toList = s.data.toList.take (s.size - 2) := by
    simp [ByteArray.data_extract]
  rw [e]
  have h1 : s.size - 2 < s.data.toList.length := by omega
  have h3 : s.size - 1 < s.data.toList.length := by omega
  rw [List.getD_eq_getElem?_getD, List.getElem?_eq_getElem h1] at h47
  rw [List.getD_eq_getElem?_getD, List.getElem?_eq_getElem h3]
  simp only [Option.getD_some] at h47 ⊢
  conv => lhs; rw [← List.take_append_drop (s.size - 2) s.data.toList, List.drop_eq_getElem_cons h1, h47]
  congr 2
  rw [List.drop_eq_getElem_cons (by omega), List.drop_of_length_le (by omega)]
  congr 1
  congr 1
  omega
theorem fmt_call (m : Int) (z : ByteArray) : fmtTkF (7, m, z) = if (0 ≤ m ∧ m ≤ 4) ∧ nameOkF z.data.toList = true then (z ++ ⟨#[47]⟩) ++ ⟨(Lib.itoa m).toArray⟩ else ⟨#[]⟩ := by
  unfold fmtTkF tkOk tokOkF btw
  by_cases h : (0 ≤ m ∧ m ≤ 4) ∧ nameOkF z.data.toList = true
  · simp [h.1.1, h.1.2, h.2]
  · rw [if_neg h]
    have : ((decide (0 ≤ m) && decide (m ≤ 4)) && nameOkF z.data.toList) = false := by
      rw [Bool.and_eq_false_iff, Bool.and_eq_false_iff]
      rcases Classical.em (0 ≤ m) with h0 | h0
      · rcases Classical.em (m ≤ 4) with h1 | h1
        · exact .inr (by cases hz : nameOkF z.data.toList; · rfl
                         · exact absurd ⟨⟨h0, h1⟩, hz⟩ h)
        · exact .inl (.inr (decide_eq_false h1))
      · exact .inl (.inl (decide_eq_false h0))
    simp [this]
    rfl
theorem itoa_small (m : Int) (h : 0 ≤ m ∧ m ≤ 4) : Lib.itoa m = [UInt8.ofNat (48 + m.toNat)] := by
  have : m = 0 ∨ m = 1 ∨ m = 2 ∨ m = 3 ∨ m = 4 := by omega
  rcases this with rfl | rfl | rfl | rfl | rfl
  all_goals
    unfold Lib.itoa
    rw [if_neg (by decide), Lib.decDigits, dif_pos (by decide)]
theorem case_call {s : ByteArray} (hn : nameOkF s.data.toList = false) (hs : ¬ isSign s) (hp : ¬ puB s.data.toList = true) : (callC s).find? (fit s) = ptF s := by
  have hT1 : fmtTkF (1, 0, s) = ⟨#[]⟩ := by
    unfold fmtTkF tkOk tokOkF
    simp [hn]
    rfl
  have key : ∀ (h2 : 2 < s.size) (h47 : s.data.toList.getD (s.size - 2) 0 = 47), fit s (7, ((s.data.toList.getD (s.size - 1) 0).toNat : Int) - 48, s.extract 0 (s.size - 2)) = true →
      cutOf s = ((s.extract 0 (s.size - 2)).data.toList, [s.data.toList.getD (s.size - 1) 0], true) ∧ puB [s.data.toList.getD (s.size - 1) 0] = true ∧ puV [s.data.toList.getD (s.size - 1) 0] = ((s.data.toList.getD (s.size - 1) 0).toNat : Int) - 48 := by
    intro h2 h47 hf
    have e := split_last h2 h47
    unfold fit at hf
    rw [Bool.and_eq_true] at hf
    have hk := hf.1
    unfold tkOk tokOkF btw at hk
    simp at hk
    obtain ⟨⟨k0, k4⟩, kn⟩ := hk
    have kn' : nameOkF (s.extract 0 (s.size - 2)).data.toList = true := by simpa using kn
    have hc := cut_eq e (fun h => (low_not ((name_low kn').2 _ h)).2 rfl)
    have := pu_one (s.data.toList.getD (s.size - 1) 0) ⟨by simpa using k0, by simpa using k4⟩
    exact ⟨hc, this⟩
  by_cases h3 : (cutOf s).2.2 = true ∧ puB (cutOf s).2.1 = true
  · obtain ⟨hf3, hp3⟩ := h3
    have hm : (47 : UInt8) ∈ s.data.toList := by
      rcases Classical.em ((47 : UInt8) ∈ s.data.toList) with h | h
      · exact h
      · rw [cut_none h] at hf3; cases hf3
    obtain ⟨_, e, hnm⟩ := cut_some hm
    have hT : ptTok s = (7, puV (cutOf s).2.1, ⟨(cutOf s).1.toArray⟩) := by unfold ptTok; rw [if_neg hp, if_neg (not_sign hs), if_pos ⟨hf3, hp3⟩]
    have hse : s ≠ ⟨#[]⟩ := by intro h; rw [h] at hm; cases hm
    have hfc := fmt_call (puV (cutOf s).2.1) ⟨(cutOf s).1.toArray⟩
    have hit := pu_itoa hp3
    have hfs : ((⟨(cutOf s).1.toArray⟩ ++ ⟨#[47]⟩ : ByteArray) ++ ⟨(cutOf s).2.1.toArray⟩) = s := by
      apply ByteArray.ext
      apply Array.ext'
      rw [e]
      simp [ByteArray.data_append]
    by_cases hok : (0 ≤ puV (cutOf s).2.1 ∧ puV (cutOf s).2.1 ≤ 4) ∧ nameOkF (⟨(cutOf s).1.toArray⟩ : ByteArray).data.toList = true
    · rw [if_pos hok, hit, hfs] at hfc
      have hR : ptF s = some (7, puV (cutOf s).2.1, ⟨(cutOf s).1.toArray⟩) := by
        unfold ptF
        rw [hT, if_pos ⟨hse, hfc⟩]
      have hnum := hit
      rw [itoa_small _ hok.1] at hnum
      have hlen : s.size = (cutOf s).1.length + 2 := by
        show s.data.toList.length = _
        rw [e, ← hnum]
        simp
      have hnl : 0 < (cutOf s).1.length := by
        have := (name_low hok.2).1
        rcases Nat.eq_zero_or_pos (cutOf s).1.length with h0 | h0
        · exact absurd (List.eq_nil_of_length_eq_zero (by simpa using h0)) this
        · exact h0
      have g1 : s.data.toList.getD (s.size - 2) 0 = 47 := by
        rw [hlen, e, List.getD_eq_getElem?_getD]
        simp
      have g2 : s.data.toList.getD (s.size - 1) 0 = UInt8.ofNat (48 + (puV (cutOf s).2.1).toNat) := by
        have e' : s.data.toList = (cutOf s).1 ++ 47 :: [UInt8.ofNat (48 + (puV (cutOf s).2.1).toNat)] := by rw [hnum]; exact e
        rw [hlen, e', List.getD_eq_getElem?_getD, List.getElem?_append_right (by omega)]
        rw [show (cutOf s).1.length + 2 - 1 - (cutOf s).1.length = 1 by omega]
        rfl
      have g3 : s.extract 0 (s.size - 2) = ⟨(cutOf s).1.toArray⟩ := by
        have h := split_last (by omega) g1
        have hc := cut_eq h (fun h' => by
          have h2 : (s.extract 0 (s.size - 2)).data.toList = s.data.toList.take (s.size - 2) := by simp [ByteArray.data_extract]
          rw [h2, e, hlen] at h'
          exact hnm (by simpa using h'))
        apply ByteArray.ext
        apply Array.ext'
        rw [hc]
      have hcall : callC s = [(7, puV (cutOf s).2.1, ⟨(cutOf s).1.toArray⟩)] := by
        unfold callC
        rw [if_pos ⟨by omega, g1⟩, g2, g3]
        have : ((UInt8.ofNat (48 + (puV (cutOf s).2.1).toNat)).toNat : Int) - 48 = puV (cutOf s).2.1 := by simp; omega
        rw [this]
      rw [hR, hcall, List.find?_cons]
      have : fit s (7, puV (cutOf s).2.1, ⟨(cutOf s).1.toArray⟩) = true := by
        unfold fit
        rw [hfc]
        unfold tkOk tokOkF btw
        simp [hok.1.1, hok.1.2]
        simpa using hok.2
      rw [this]
    · rw [if_neg hok] at hfc
      have hR : ptF s = none := by
        unfold ptF
        rw [hT, hfc, if_neg (fun h => h.1 h.2.symm)]
      rw [hR]
      unfold callC
      split
      · rename_i hc
        rw [List.find?_cons]
        cases hf : fit s (7, ((s.data.toList.getD (s.size - 1) 0).toNat : Int) - 48, s.extract 0 (s.size - 2))
        · rfl
        · obtain ⟨h4, h5, h6⟩ := key hc.1 hc.2 hf
          have hk : tkOk (7, ((s.data.toList.getD (s.size - 1) 0).toNat : Int) - 48, s.extract 0 (s.size - 2)) = true := by
            unfold fit at hf
            rw [Bool.and_eq_true] at hf
            exact hf.1
          unfold tkOk tokOkF btw at hk
          simp at hk
          refine absurd ?_ hok
          rw [h4]
          simp only [h6]
          exact ⟨⟨by simpa using hk.1.1, by simpa using hk.1.2⟩, by simpa using hk.2⟩
      · rfl
  · have hT : ptTok s = (1, 0, s) := by unfold ptTok; rw [if_neg hp, if_neg (not_sign hs), if_neg h3]
    have hR : ptF s = none := by
      unfold ptF
      rw [hT, hT1, if_neg (fun h => h.1 h.2.symm)]
    rw [hR]
    unfold callC
    split
    · rename_i hc
      rw [List.find?_cons]
      cases hf : fit s (7, ((s.data.toList.getD (s.size - 1) 0).toNat : Int) - 48, s.extract 0 (s.size - 2))
      · rfl
      · obtain ⟨h4, h5, _⟩ := key hc.1 hc.2 hf
        exact absurd (by rw [h4]; exact ⟨rfl, h5⟩) h3
    · rfl
theorem cands_ptF (s : ByteArray) : (cands s).find? (fit s) = ptF s := by
  unfold cands
  rw [List.append_assoc, List.find?_append, find_signs]
  by_cases hn : nameOkF s.data.toList = true
  · rw [if_pos hn, pt_name hn]; rfl
  · rw [if_neg hn]
    by_cases hs : isSign s
    · obtain ⟨k, hk, rfl⟩ := hs
      rw [signs_some k hk, pt_sign k hk]; rfl
    · rw [signs_none hs]
      show (numC s ++ callC s).find? (fit s) = ptF s
      by_cases hp : puB s.data.toList = true
      · exact (case_num hp).2.2
      · have h0 : numC s = [] := by unfold numC; rw [if_neg (fun h => hp h.1)]
        rw [h0, List.nil_append]
        exact case_call (by simpa using hn) hs hp
end Go.Proofs.YtclldakoinnhhaaDoor
