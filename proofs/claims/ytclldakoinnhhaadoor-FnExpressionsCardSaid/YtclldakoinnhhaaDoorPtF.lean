import Derived.Test.YtclldakoinnhhaaDoorPExp
namespace Go.Proofs.YtclldakoinnhhaaDoor
open Go Go.RowKit
set_option maxRecDepth 100000
/-! A token is parsed from its own word. -/
theorem ba_empty {s : ByteArray} (h : s.data.toList.isEmpty = true) : s = ⟨#[]⟩ := by
  have h1 := List.isEmpty_iff.1 h
  exact ByteArray.ext (Array.ext' (by simpa using h1))
theorem itoa_ne (n : Int) : (⟨(Lib.itoa n).toArray⟩ : ByteArray) ≠ ⟨#[]⟩ := fun e => by
  have h := (itoa_pu n).2.2
  have e2 : (⟨(Lib.itoa n).toArray⟩ : ByteArray).data.toList = [] := by rw [e]
  have e3 : Lib.itoa n = [] := by simpa using e2
  rw [e3] at h
  cases h
theorem pt_num {n : Int} (h : 0 ≤ n ∧ n ≤ 999) : ptF ⟨(Lib.itoa n).toArray⟩ = some (0, n, ⟨#[]⟩) := by
  obtain ⟨a, b, c⟩ := itoa_pu n
  have hl : (⟨(Lib.itoa n).toArray⟩ : ByteArray).data.toList = Lib.itoa n := by simp
  have hT : ptTok ⟨(Lib.itoa n).toArray⟩ = (0, n, ⟨#[]⟩) := by
    unfold ptTok
    rw [hl, if_pos (by rw [a, decide_eq_true (show 0 ≤ n by omega), decide_eq_true (show n ≤ 1000000000 by omega)]; rfl), b (by omega)]
  unfold ptF
  rw [hT, if_pos ⟨itoa_ne n, by rw [fmt_num, if_pos h]⟩]
theorem pt_call {m : Int} {z : ByteArray} (h : 0 ≤ m ∧ m ≤ 4) (hz : nameOkF z.data.toList = true) : ptF ((z ++ ⟨#[47]⟩) ++ ⟨(Lib.itoa m).toArray⟩) = some (7, m, z) := by
  obtain ⟨a, b, c⟩ := itoa_pu m
  obtain ⟨hne, hlow⟩ := name_low hz
  have hl : ((z ++ ⟨#[47]⟩) ++ ⟨(Lib.itoa m).toArray⟩ : ByteArray).data.toList = z.data.toList ++ 47 :: Lib.itoa m := by simp
  have h47 : (47 : UInt8) ∉ z.data.toList := fun hm => (low_not (hlow _ hm)).2 rfl
  have hcut := cut_eq (s := (z ++ ⟨#[47]⟩) ++ ⟨(Lib.itoa m).toArray⟩) hl h47
  have hp : ¬ puB (z.data.toList ++ 47 :: Lib.itoa m) = true := fun hp => by
    have := (pu_dig hp).2 47 (by simp)
    revert this; decide
  have hsz : ((z ++ ⟨#[47]⟩) ++ ⟨(Lib.itoa m).toArray⟩ : ByteArray).size ≠ 1 := fun e => by
    have h1 : ((z ++ ⟨#[47]⟩) ++ ⟨(Lib.itoa m).toArray⟩ : ByteArray).data.toList.length = 1 := e
    rw [hl] at h1
    simp at h1
    have := List.length_pos_iff.2 hne
    simp at this
    omega
  have hT : ptTok ((z ++ ⟨#[47]⟩) ++ ⟨(Lib.itoa m).toArray⟩) = (7, m, z) := by
    unfold ptTok
    rw [hl, if_neg hp, if_neg (fun e => hsz e.1), hcut]
    rw [if_pos ⟨rfl, by rw [a, decide_eq_true (show 0 ≤ m by omega), decide_eq_true (show m ≤ 1000000000 by omega)]; rfl⟩, b (by omega)]
  have hne2 : ((z ++ ⟨#[47]⟩) ++ ⟨(Lib.itoa m).toArray⟩ : ByteArray) ≠ ⟨#[]⟩ := fun e => by
    have e2 : ((z ++ ⟨#[47]⟩) ++ ⟨(Lib.itoa m).toArray⟩ : ByteArray).data.toList = [] := by rw [e]
    rw [hl] at e2
    exact absurd e2 (by simp)
  unfold ptF
  rw [hT, if_pos ⟨hne2, by rw [fmt_call, if_pos ⟨h, hz⟩]⟩]
theorem ptF_fmt {t : Tk} (h : tkOk t = true) : ptF (fmtTkF t) = some t := by
  obtain ⟨k, n, s⟩ := t
  have h' : tokOkF k n s.data.toList = true := h
  have hc := tok_cases k n _ h'
  unfold tokOkF btw at h'
  have sign : ∀ j : Nat, j < 5 → k = (j : Int) + 2 → ptF (fmtTkF (k, n, s)) = some (k, n, s) := by
    intro j hj hk
    subst hk
    rw [if_neg (by omega), if_neg (by omega), if_neg (by omega)] at h'
    simp only [Bool.and_eq_true, decide_eq_true_eq] at h'
    obtain ⟨⟨_, rfl⟩, h3⟩ := h'
    obtain rfl := ba_empty h3
    rw [show ((j : Int) + 2) = 2 + (j : Int) by omega, (opq_of j hj).2.2, pt_sign j hj, show ((j : Int) + 2) = 2 + (j : Int) by omega]
  rcases hc with ⟨rfl, h0, h1⟩ | rfl | ⟨rfl, h0, h1⟩ | hk
  · rw [if_pos rfl] at h'
    simp only [Bool.and_eq_true] at h'
    obtain rfl := ba_empty h'.2
    rw [fmt_num, if_pos ⟨h0, h1⟩, pt_num ⟨h0, h1⟩]
  · rw [if_neg (by omega), if_neg (by omega), if_pos rfl] at h'
    simp only [Bool.and_eq_true, decide_eq_true_eq] at h'
    obtain ⟨rfl, h2⟩ := h'
    have : fmtTkF (1, 0, s) = s := by unfold fmtTkF; rw [if_pos h]; rfl
    rw [this, pt_name h2]
  · rw [if_neg (by omega), if_pos rfl] at h'
    simp only [Bool.and_eq_true] at h'
    rw [fmt_call, if_pos ⟨⟨h0, h1⟩, h'.2⟩, pt_call ⟨h0, h1⟩ h'.2]
  · rcases hk with rfl | rfl | rfl | rfl | rfl
    · exact sign 0 (by omega) (by omega)
    · exact sign 1 (by omega) (by omega)
    · exact sign 2 (by omega) (by omega)
    · exact sign 3 (by omega) (by omega)
    · exact sign 4 (by omega) (by omega)
theorem toksOf_fmt {l : List Tk} (h : ∀ t ∈ l, tkOk t = true) : toksOf (l.map fmtTkF) = some l := by
  induction l with
  | nil => rfl
  | cons t l ih =>
    rw [List.map_cons, toksOf, ptF_fmt (h t List.mem_cons_self)]
    simp only [ih (fun u hu => h u (List.mem_cons_of_mem _ hu)), Option.map_some]
end Go.Proofs.YtclldakoinnhhaaDoor
