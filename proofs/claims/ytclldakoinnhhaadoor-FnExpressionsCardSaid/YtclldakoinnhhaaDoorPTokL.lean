import Derived.Test.YtclldakoinnhhaaDoorPTokS
import Derived.Test.YtclldakoinnhhaaDoorNums
import Derived.Lib.IndexLaws
namespace Go.Proofs.YtclldakoinnhhaaDoor
open Go Go.RowKit
set_option maxRecDepth 100000
/-! What the reference tries first is what the program takes. -/
theorem pu_of {l : List UInt8} (h : puB l = true) : puOk l := by
  rcases Classical.em (puOk l) with h' | h'
  · exact h'
  · rw [(pu_not h').2] at h; cases h
theorem pu_itoa {l : List UInt8} (h : puB l = true) : Lib.itoa (puV l) = l := by
  have hk := pu_of h
  rw [(pu_yes hk).1]
  have e : Lib.itoa ((decV l : Nat) : Int) = decT (decV l) := by unfold Lib.itoa; rw [if_neg (by omega), Int.toNat_natCast, decT_dec]
  rw [e]
  exact decT_decV l hk.2.2.1 hk.2.1
theorem pu_dig {l : List UInt8} (h : puB l = true) : l ≠ [] ∧ ∀ c ∈ l, isDig c = true := by
  have hk := pu_of h
  exact ⟨fun e => hk.2.1 (.inl e), fun c hc => List.all_eq_true.1 hk.2.2.1 c hc⟩
theorem name_low {l : List UInt8} (h : nameOkF l = true) : l ≠ [] ∧ ∀ c ∈ l, lower c = true := by
  unfold nameOkF at h
  rw [Bool.and_eq_true] at h
  refine ⟨fun e => ?_, fun c hc => List.all_eq_true.1 h.1 c hc⟩
  rw [e] at h
  revert h
  decide
theorem low_not {c : UInt8} (h : lower c = true) : isDig c = false ∧ c ≠ 47 := by
  unfold lower at h
  have h' := of_decide_eq_true h
  refine ⟨?_, fun e => ?_⟩
  · unfold isDig
    rw [decide_eq_false (show ¬ ((c.toNat : Int) ≤ 57) by omega), Bool.and_false]
  · rw [e] at h'
    revert h'
    decide
theorem mem_first {l : List UInt8} {c : UInt8} (h : c ∈ l) : ∃ a b, l = a ++ c :: b ∧ c ∉ a := by
  induction l with
  | nil => cases h
  | cons x l ih =>
    by_cases hx : x = c
    · exact ⟨[], l, by rw [hx]; rfl, by simp⟩
    · rcases List.mem_cons.1 h with h | h
      · exact absurd h.symm hx
      · obtain ⟨a, b, e, ha⟩ := ih h
        exact ⟨x :: a, b, by rw [e]; rfl, fun hm => (List.mem_cons.1 hm).elim (fun e => hx e.symm) ha⟩
theorem idx_at (nm num : List UInt8) (h : (47 : UInt8) ∉ nm) : Lib.indexByte (nm ++ 47 :: num) 47 = nm.length := by
  induction nm with
  | nil => simp [Lib.indexByte]
  | cons c nm ih =>
    have hc : ¬ c = 47 := fun e => h (by rw [e]; exact List.mem_cons_self)
    have := ih (fun h' => h (List.mem_cons_of_mem _ h'))
    rw [List.cons_append, Lib.indexByte, this]
    have h1 : (c == 47) = false := by simpa using hc
    rw [h1]
    have h2 : (((nm.length : Nat) : Int) == -1) = false := by rw [beq_eq_false_iff_ne]; omega
    rw [h2]
    simp
theorem cut_eq {s : ByteArray} {nm num : List UInt8} (e : s.data.toList = nm ++ 47 :: num) (h : (47 : UInt8) ∉ nm) : cutOf s = (nm, num, true) := by
  unfold cutOf Lib.cut
  rw [e, Lib.index_one, idx_at nm num h, if_pos (by omega), Int.toNat_natCast]
  simp
theorem cut_none {s : ByteArray} (h : (47 : UInt8) ∉ s.data.toList) : (cutOf s).2.2 = false := by
  unfold cutOf Lib.cut
  rw [Lib.index_one]
  split
  · rename_i h0
    obtain ⟨o, ho⟩ := Int.eq_ofNat_of_zero_le h0
    have := (Lib.indexByte_some ho).1
    exact absurd (List.mem_of_getElem? this) h
  · rfl
theorem cut_some {s : ByteArray} (h : (47 : UInt8) ∈ s.data.toList) : (cutOf s).2.2 = true ∧ s.data.toList = (cutOf s).1 ++ 47 :: (cutOf s).2.1 ∧ (47 : UInt8) ∉ (cutOf s).1 := by
  obtain ⟨nm, num, e, hn⟩ := mem_first h
  rw [cut_eq e hn]
  exact ⟨rfl, e, hn⟩
theorem fit_name (s : ByteArray) : fit s (1, 0, s) = nameOkF s.data.toList := by
  unfold fit fmtTkF tkOk tokOkF
  cases nameOkF s.data.toList <;> simp
theorem fit_sign (s : ByteArray) (k : Nat) (hk : k < 5) : fit s ((k : Int) + 2, 0, ⟨#[]⟩) = decide ((⟨#[sgnL.getD k 0]⟩ : ByteArray) = s) := by
  have : k = 0 ∨ k = 1 ∨ k = 2 ∨ k = 3 ∨ k = 4 := by omega
  rcases this with rfl | rfl | rfl | rfl | rfl <;> rfl
theorem find_signs (s : ByteArray) : (candJ s 5).find? (fit s) = if nameOkF s.data.toList = true then some (1, 0, s) else (List.range 5).findSome? fun k => if (⟨#[sgnL.getD k 0]⟩ : ByteArray) = s then some ((k : Int) + 2, 0, ⟨#[]⟩) else none := by
  unfold candJ
  rw [List.find?_cons, fit_name]
  cases h : nameOkF s.data.toList
  · rw [if_neg (by simp)]
    show List.find? _ _ = _
    have e : List.range 5 = [0, 1, 2, 3, 4] := rfl
    have f0 := fit_sign s 0 (by omega)
    have f1 := fit_sign s 1 (by omega)
    have f2 := fit_sign s 2 (by omega)
    have f3 := fit_sign s 3 (by omega)
    have f4 := fit_sign s 4 (by omega)
    rw [e]
    simp only [List.map_cons, List.map_nil, List.find?_cons, List.find?_nil, List.findSome?_cons, List.findSome?_nil, f0, f1, f2, f3, f4]
    repeat (split <;> simp_all)
  · rw [if_pos rfl]
theorem opq_char {s : ByteArray} (h1 : s.size = 1) (h2 : 0 ≤ opQ s) : ∃ k : Nat, k < 5 ∧ opQ s = k ∧ s = ⟨#[sgnL.getD k 0]⟩ := by
  have hl : s.data.toList.length = 1 := h1
  obtain ⟨c, hc⟩ : ∃ c, s.data.toList = [c] := by
    cases h : s.data.toList with
    | nil => rw [h] at hl; simp at hl
    | cons c l => rw [h] at hl; cases l with
      | nil => exact ⟨c, rfl⟩
      | cons d l => simp at hl
  unfold opQ at h2 ⊢
  rw [hc, Lib.index_one] at h2 ⊢
  obtain ⟨k, hk⟩ := Int.eq_ofNat_of_zero_le h2
  have hg := (Lib.indexByte_some hk).1
  have hk5 : k < sgnL.length := (List.getElem?_eq_some_iff.1 hg).1
  refine ⟨k, hk5, hk, ?_⟩
  apply ByteArray.ext
  apply Array.ext'
  rw [hc, List.getD_eq_getElem?_getD, hg]
  rfl
theorem opq_of (k : Nat) (hk : k < 5) : (⟨#[sgnL.getD k 0]⟩ : ByteArray).size = 1 ∧ opQ ⟨#[sgnL.getD k 0]⟩ = k ∧ fmtTkF (2 + (k : Int), 0, ⟨#[]⟩) = ⟨#[sgnL.getD k 0]⟩ := by
  have : k = 0 ∨ k = 1 ∨ k = 2 ∨ k = 3 ∨ k = 4 := by omega
  rcases this with rfl | rfl | rfl | rfl | rfl <;> exact ⟨rfl, rfl, rfl⟩
theorem ops_not (k : Nat) (hk : k < 5) : isDig (sgnL.getD k 0) = false ∧ lower (sgnL.getD k 0) = false := by
  have : k = 0 ∨ k = 1 ∨ k = 2 ∨ k = 3 ∨ k = 4 := by omega
  rcases this with rfl | rfl | rfl | rfl | rfl <;> decide
theorem pt_name {s : ByteArray} (hn : nameOkF s.data.toList = true) : ptF s = some (1, 0, s) := by
  obtain ⟨hne, hlow⟩ := name_low hn
  have hse : s ≠ ⟨#[]⟩ := fun e => hne (by rw [e])
  have h1 : ¬ puB s.data.toList = true := fun h => by
    obtain ⟨_, hd⟩ := pu_dig h
    cases hl : s.data.toList with
    | nil => exact hne hl
    | cons c l =>
      have hc : c ∈ s.data.toList := by rw [hl]; exact List.mem_cons_self
      have := hd c hc
      rw [(low_not (hlow c hc)).1] at this
      cases this
  have h2 : ¬ (s.size = 1 ∧ 0 ≤ opQ s) := fun h => by
    obtain ⟨k, hk, _, e⟩ := opq_char h.1 h.2
    have := hlow (sgnL.getD k 0) (by rw [e]; first | done | exact List.mem_singleton.2 rfl)
    rw [(ops_not k hk).2] at this
    cases this
  have h3 : (cutOf s).2.2 = false := cut_none (fun h => (low_not (hlow _ h)).2 rfl)
  have hT : ptTok s = (1, 0, s) := by
    unfold ptTok
    rw [if_neg h1, if_neg h2, if_neg (by rw [h3]; simp)]
  have hf : fmtTkF (1, 0, s) = s := by
    unfold fmtTkF tkOk tokOkF
    simp [hn]
  unfold ptF
  rw [hT, if_pos ⟨hse, hf⟩]
theorem pt_sign (k : Nat) (hk : k < 5) : ptF ⟨#[sgnL.getD k 0]⟩ = some ((k : Int) + 2, 0, ⟨#[]⟩) := by
  obtain ⟨h1, h2, h3⟩ := opq_of k hk
  have hp : ¬ puB (⟨#[sgnL.getD k 0]⟩ : ByteArray).data.toList = true := fun h => by
    have := (pu_dig h).2 (sgnL.getD k 0) (List.mem_singleton.2 rfl)
    rw [(ops_not k hk).1] at this
    cases this
  have hT : ptTok ⟨#[sgnL.getD k 0]⟩ = (2 + (k : Int), 0, ⟨#[]⟩) := by
    unfold ptTok
    rw [if_neg hp, if_pos ⟨h1, by rw [h2]; omega⟩, h2]
  unfold ptF
  rw [hT, if_pos ⟨fun e => (by rw [e] at h1; cases h1), h3⟩, show (2 : Int) + k = k + 2 by omega]
end Go.Proofs.YtclldakoinnhhaaDoor
