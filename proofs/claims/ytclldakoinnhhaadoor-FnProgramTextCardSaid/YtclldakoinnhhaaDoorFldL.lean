import Derived.Test.YtclldakoinnhhaaDoorSplit
namespace Go.Proofs.YtclldakoinnhhaaDoor
open Go Go.RowKit
set_option maxRecDepth 100000
/-! The fields of a line, by lists. -/
def splitL : List UInt8 → List UInt8 → List (List UInt8)
  | [], acc => if acc = [] then [] else [acc]
  | c :: l, acc => if c = 32 then (if acc = [] then [] else [acc]) ++ splitL l [] else splitL l (acc ++ [c])
def flatB (G : List (List UInt8)) : List UInt8 := G.flatMap fun g => g ++ [32]
theorem splitL_word (f l : List UInt8) (h : ∀ c ∈ f, c ≠ 32) : ∀ acc, splitL (f ++ l) acc = splitL l (acc ++ f) := by
  induction f with
  | nil => intro acc; simp
  | cons c f ih =>
    intro acc
    rw [List.cons_append, splitL, if_neg (h c List.mem_cons_self), ih (fun x hx => h x (List.mem_cons_of_mem _ hx))]
    simp
theorem splitL_flat (G : List (List UInt8)) (h : ∀ g ∈ G, g ≠ [] ∧ ∀ c ∈ g, c ≠ 32) : splitL (flatB G) [] = G := by
  induction G with
  | nil => rfl
  | cons g G ih =>
    have h1 := h g List.mem_cons_self
    have e : flatB (g :: G) = g ++ (32 :: flatB G) := by simp [flatB]
    rw [e, splitL_word g _ h1.2, List.nil_append, splitL, if_pos rfl, if_neg h1.1, ih (fun x hx => h x (List.mem_cons_of_mem _ hx))]
    rfl
theorem splitL_good (l : List UInt8) : ∀ acc, (∀ c ∈ acc, c ≠ 32) → ∀ g ∈ splitL l acc, g ≠ [] ∧ (∀ c ∈ g, c ≠ 32) ∧ ∀ c ∈ g, c ∈ acc ∨ c ∈ l := by
  induction l with
  | nil =>
    intro acc ha g hg
    unfold splitL at hg
    split at hg
    · cases hg
    · rename_i h
      rw [List.mem_singleton.1 hg]
      exact ⟨h, ha, fun c hc => .inl hc⟩
  | cons x l ih =>
    intro acc ha g hg
    rw [splitL] at hg
    split at hg
    · rcases List.mem_append.1 hg with hg | hg
      · split at hg
        · cases hg
        · rename_i h
          rw [List.mem_singleton.1 hg]
          exact ⟨h, ha, fun c hc => .inl hc⟩
      · obtain ⟨h1, h2, h3⟩ := ih [] (by simp) g hg
        exact ⟨h1, h2, fun c hc => .inr (List.mem_cons_of_mem _ ((h3 c hc).resolve_left (by simp)))⟩
    · rename_i hx
      obtain ⟨h1, h2, h3⟩ := ih (acc ++ [x]) (by
        intro c hc
        rcases List.mem_append.1 hc with hc | hc
        · exact ha c hc
        · rw [List.mem_singleton.1 hc]; exact hx) g hg
      refine ⟨h1, h2, fun c hc => ?_⟩
      rcases h3 c hc with h | h
      · rcases List.mem_append.1 h with h | h
        · exact .inl h
        · rw [List.mem_singleton.1 h]; exact .inr List.mem_cons_self
      · exact .inr (List.mem_cons_of_mem _ h)
theorem splitL_len (l : List UInt8) : ∀ acc, (flatB (splitL l acc)).length ≤ l.length + acc.length + 1 := by
  induction l with
  | nil =>
    intro acc
    unfold splitL
    split <;> simp [flatB]
  | cons x l ih =>
    intro acc
    rw [splitL]
    split
    · have h1 := ih []
      split
      · simp at h1 ⊢; omega
      · have e : flatB ([acc] ++ splitL l []) = acc ++ (32 :: flatB (splitL l [])) := by simp [flatB]
        rw [e]
        simp at h1 ⊢; omega
    · have h1 := ih (acc ++ [x])
      simp at h1 ⊢; omega
theorem fld_split (s : ByteArray) : ∀ (t i b : Nat), s.size - i = t → i ≤ s.size → b ≤ i → fldFrom s b i = (splitL (s.data.toList.drop i) ((s.data.toList.drop b).take (i - b))).map fun g => (⟨g.toArray⟩ : ByteArray) := by
  have hlen : s.data.toList.length = s.size := rfl
  have hext : ∀ b i : Nat, s.extract b i = (⟨((s.data.toList.drop b).take (i - b)).toArray⟩ : ByteArray) := by
    intro b i
    apply ByteArray.ext
    apply Array.ext'
    simp [ByteArray.data_extract]
  intro t
  induction t with
  | zero =>
    intro i b ht his hb
    have hi : ¬ i < s.size := by omega
    rw [fld_end s b i hi, List.drop_of_length_le (by rw [hlen]; omega)]
    by_cases hbi : b < i
    · rw [if_pos hbi, splitL, if_neg (by intro e; have := congrArg List.length e; rw [List.length_take, List.length_drop, hlen] at this; simp at this; omega), hext]
      rfl
    · rw [if_neg hbi, show i - b = 0 by omega, List.take_zero]
      rfl
  | succ t ih =>
    intro i b ht his hb
    have hi : i < s.size := by omega
    have hi' : i < s.data.toList.length := by rw [hlen]; exact hi
    have hc : s.data.toList[i] = s[i] := rfl
    rw [List.drop_eq_getElem_cons hi', splitL, hc]
    by_cases h32 : s[i] = 32
    · rw [fld_blank s b i hi h32, if_pos h32, ih (i + 1) (i + 1) (by omega) (by omega) (Nat.le_refl _), Nat.sub_self, List.take_zero, List.map_append]
      congr 1
      by_cases hbi : b < i
      · rw [if_pos hbi, if_neg (by intro e; have := congrArg List.length e; rw [List.length_take, List.length_drop, hlen] at this; simp at this; omega), hext]
        rfl
      · rw [if_neg hbi, show i - b = 0 by omega, List.take_zero]
        rfl
    · rw [fld_skip s b i hi h32, if_neg h32, ih (i + 1) b (by omega) (by omega) (by omega)]
      congr 2
      rw [show i + 1 - b = (i - b) + 1 by omega, List.take_succ_eq_append_getElem (by rw [List.length_drop, hlen]; omega), List.getElem_drop]
      congr 2
      rw [← hc]
      congr 1
      omega
theorem fields_split (s : ByteArray) : fieldsF s = (splitL s.data.toList []).map fun g => (⟨g.toArray⟩ : ByteArray) := by
  have := fld_split s _ 0 0 rfl (Nat.zero_le _) (Nat.le_refl _)
  unfold fieldsF
  simpa using this
/-- The fields, each with a blank behind it. -/
def joinB (F : List ByteArray) : ByteArray := ⟨(flatB (F.map (·.data.toList))).toArray⟩
theorem joinB_snoc (F : List ByteArray) (f : ByteArray) : joinB (F ++ [f]) = (joinB F ++ f) ++ ⟨#[32]⟩ := by
  apply ByteArray.ext
  apply Array.ext'
  simp [joinB, flatB, ByteArray.data_append]
theorem fields_lists (s : ByteArray) : (fieldsF s).map (·.data.toList) = splitL s.data.toList [] := by
  rw [fields_split, List.map_map]
  conv => rhs; rw [← List.map_id (splitL s.data.toList [])]
  rfl
theorem fields_join (s : ByteArray) : fieldsF (joinB (fieldsF s)) = fieldsF s := by
  rw [fields_split (joinB _)]
  have e : (joinB (fieldsF s)).data.toList = flatB (splitL s.data.toList []) := by rw [← fields_lists]; rfl
  rw [e, splitL_flat _ (fun g hg => by obtain ⟨h1, h2, _⟩ := splitL_good s.data.toList [] (by simp) g hg; exact ⟨h1, h2⟩), ← fields_split]
theorem joinB_size (s : ByteArray) : (joinB (fieldsF s)).size ≤ s.size + 1 := by
  have h := splitL_len s.data.toList []
  have e : (joinB (fieldsF s)).data.toList = flatB (splitL s.data.toList []) := by rw [← fields_lists]; rfl
  have h2 : (joinB (fieldsF s)).data.toList.length = (joinB (fieldsF s)).size := rfl
  have h3 : s.data.toList.length = s.size := rfl
  rw [e] at h2
  simp at h
  omega
theorem joinB_take (F : List ByteArray) : ∀ k, (joinB (F.take k)).size ≤ (joinB F).size := by
  intro k
  have e : joinB F = joinB (F.take k) ++ joinB (F.drop k) := by
    apply ByteArray.ext
    apply Array.ext'
    rw [ByteArray.data_append, Array.toList_append]
    show flatB (F.map _) = flatB ((F.take k).map _) ++ flatB ((F.drop k).map _)
    unfold flatB
    rw [← List.flatMap_append, ← List.map_append, List.take_append_drop]
  rw [e, ByteArray.size_append]
  omega
theorem join_ok (s : ByteArray) (h : sfB s = true) (hj : (joinB (fieldsF s)).size ≤ 600) : sfB (joinB (fieldsF s)) = true ∧ sfV (joinB (fieldsF s)) = fieldsF s := by
  have hs : sfOk s := by
    rcases Classical.em (sfOk s) with h' | h'
    · exact h'
    · have : sfB s = false := @decide_eq_false _ (Classical.propDecidable _) h'
      rw [h] at this; cases this
  have hb : sfB (joinB (fieldsF s)) = true := @decide_eq_true _ (Classical.propDecidable _) ⟨hj, by
    have e : (joinB (fieldsF s)).data.toList = flatB (splitL s.data.toList []) := by rw [← fields_lists]; rfl
    rw [e, List.all_eq_true]
    intro c hc
    unfold flatB at hc
    obtain ⟨g, hg, hc⟩ := List.mem_flatMap.1 hc
    rcases List.mem_append.1 hc with hc | hc
    · obtain ⟨_, _, h3⟩ := splitL_good s.data.toList [] (by simp) g hg
      exact List.all_eq_true.1 hs.2.1 c ((h3 c hc).resolve_left (by simp))
    · rw [List.mem_singleton.1 hc]; decide, by rw [fields_join]; exact hs.2.2⟩
  refine ⟨hb, ?_⟩
  unfold sfV
  rw [if_pos hb, fields_join]
end Go.Proofs.YtclldakoinnhhaaDoor
