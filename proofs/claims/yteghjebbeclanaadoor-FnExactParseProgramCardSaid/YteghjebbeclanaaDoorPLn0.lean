import Derived.Test.YteghjebbeclanaaDoorPLinL
import Derived.Test.YteghjebbeclanaaDoorPExp
namespace Go.Proofs.YteghjebbeclanaaDoor
open Go Go.RowKit
set_option maxRecDepth 100000
/-! The line of a text: from its words. -/
def kwI (s : ByteArray) : Int := idxF kws s
theorem kwI_kw (m : Nat) (h : m < 8) : kwI (kw m) = m := by
  have : m = 0 ∨ m = 1 ∨ m = 2 ∨ m = 3 ∨ m = 4 ∨ m = 5 ∨ m = 6 ∨ m = 7 := by omega
  rcases this with rfl | rfl | rfl | rfl | rfl | rfl | rfl | rfl <;> decide
theorem idxFrom_hit (s : ByteArray) : ∀ (l : List ByteArray) (k : Nat) (j : Nat), idxFrom s l k = ((k + j : Nat) : Int) → l[j]? = some s := by
  intro l
  induction l with
  | nil => intro k j h; simp [idxFrom] at h; omega
  | cons x l ih =>
    intro k j h
    rw [idxFrom] at h
    split at h
    · rename_i hx
      have : j = 0 := by omega
      subst this
      simp [hx]
    · rcases idxFrom_ge s l (k + 1) with h' | h'
      · rw [h'] at h; omega
      · obtain ⟨i, rfl⟩ : ∃ i, j = i + 1 := ⟨j - 1, by omega⟩
        rw [show k + (i + 1) = k + 1 + i by omega] at h
        simpa using ih (k + 1) i h
theorem kwI_hit {s : ByteArray} {m : Nat} (h : kwI s = m) : kw m = s := by
  have := idxFrom_hit s kws 0 m (by rw [Nat.zero_add]; exact h)
  unfold kw
  rw [this]; rfl
theorem kwI_range (s : ByteArray) : -1 ≤ kwI s ∧ kwI s < 8 := idxF_le kws s
/-- Which of the first m words it is. -/
def kwTo (s : ByteArray) (m : Nat) : Int := if 0 ≤ kwI s ∧ kwI s < m then kwI s else -1
theorem kwTo_zero (s : ByteArray) : kwTo s 0 = -1 := by unfold kwTo; rw [if_neg (by omega)]
theorem kwTo_hit {s : ByteArray} {m : Nat} (hm : m < 8) (h : kw m = s) : kwTo s (m + 1) = m := by
  have := kwI_kw m hm
  rw [h] at this
  unfold kwTo
  rw [if_pos (by omega), this]
theorem kwTo_miss {s : ByteArray} {m : Nat} (h : kw m ≠ s) : kwTo s (m + 1) = kwTo s m := by
  have hne : kwI s ≠ (m : Int) := fun e => h (kwI_hit e)
  unfold kwTo
  by_cases hc : 0 ≤ kwI s ∧ kwI s < m
  · rw [if_pos (by omega), if_pos hc]
  · rw [if_neg (by omega), if_neg hc]
theorem kwTo_end (s : ByteArray) : kwTo s 8 = kwI s := by
  have := kwI_range s
  unfold kwTo
  split <;> omega
def nmR (kd : Int) (rest : List ByteArray) : ByteArray × List ByteArray := if (kd = 0 ∨ kd = 1) ∧ rest ≠ [] then (rest.headD ⟨#[]⟩, rest.tail) else (⟨#[]⟩, rest)
noncomputable def lnG1 (kd : Int) (p : ByteArray × List ByteArray) : Ln := (kd, p.1, if kd = 0 then p.2 else [], if kd = 0 then [] else peL p.2)
noncomputable def lnG (W : List ByteArray) : Ln := lnG1 (kwI (W.headD ⟨#[]⟩)) (nmR (kwI (W.headD ⟨#[]⟩)) W.tail)
theorem peL_nil : peL [] = [] := by
  have h : exprOkF [] = false := by decide
  exact (pe_bad (W := []) rfl h).1
noncomputable def plB (s : ByteArray) : Bool := yes (s ≠ ⟨#[]⟩ ∧ fmtLnF (lnG (splW s)) = s)
noncomputable def plX (s : ByteArray) : Ln := if plB s = true then lnG (splW s) else (0, ⟨#[]⟩, [], [])
theorem fmtLn_bad {x : Ln} (h : lineOkF x = false) : fmtLnF x = ⟨#[]⟩ := by unfold fmtLnF; rw [h]; rfl
theorem yes_prop' {p : Prop} (h : yes p = true) : p := by
  rcases Classical.em p with h' | h'
  · exact h'
  · rw [yes_not h'] at h; cases h
/-- What a text that is a line's has for words. -/
theorem line_split {s : ByteArray} {x : Ln} (hok : lineOkF x = true) (h : fmtLnF x = s) : sfB s = true ∧ sfV s = allW x ∧ splW s = allW x ∧ allW x ≠ [] := by
  obtain ⟨h1, h2, h3, h4⟩ := lineOk_words hok
  rw [h4] at h
  subst h
  obtain ⟨g1, g2, g3⟩ := sf_jb (allW x) h1 h2 h3
  exact ⟨g1, g2, g3, h1⟩
theorem pl_from_split {s : ByteArray} (h : plB s = true) : sfB s = true ∧ sfV s ≠ [] ∧ sfV s = splW s ∧ 0 ≤ (lnG (splW s)).1 ∧ lineOkF (lnG (splW s)) = true ∧ fmtLnF (lnG (splW s)) = s := by
  obtain ⟨h1, h2⟩ := yes_prop' h
  have hok : lineOkF (lnG (splW s)) = true := by
    cases hq : lineOkF (lnG (splW s))
    · rw [fmtLn_bad hq] at h2; exact absurd h2.symm h1
    · rfl
  obtain ⟨g1, g2, g3, g4⟩ := line_split hok h2
  obtain ⟨⟨m, hm, _⟩, _⟩ := lineOk_parts hok
  exact ⟨g1, by rw [g2]; exact g4, g2.trans g3.symm, by omega, hok, h2⟩
theorem pl_of_fields {s : ByteArray} (h1 : sfV s ≠ []) (hok : lineOkF (lnG (sfV s)) = true) (h2 : fmtLnF (lnG (sfV s)) = s) : plB s = true ∧ sfV s = splW s := by
  obtain ⟨g1, g2, g3, g4⟩ := line_split hok h2
  have e : sfV s = splW s := g2.trans g3.symm
  refine ⟨yes_of ⟨?_, by rw [← e]; exact h2⟩, e⟩
  rintro rfl
  apply h1
  rcases Classical.em (sfOk ⟨#[]⟩) with h | h
  · rw [(sf_yes h).1]; unfold fieldsF; rw [fld_end _ _ _ (by decide), if_neg (by decide)]
  · exact (sf_not h).1
theorem splitK_len (sep : List UInt8) : ∀ (k : Nat) (s : List UInt8), ∀ p ∈ Lib.splitK sep 0 k s, p.length ≤ s.length := by
  intro k
  induction k with
  | zero => intro s p hp; simp [Lib.splitK] at hp; rw [hp]; exact Nat.le_refl _
  | succ k ih =>
    intro s p hp
    rw [Lib.splitK] at hp
    split at hp
    · simp at hp; rw [hp]; exact Nat.le_refl _
    · rcases List.mem_cons.1 hp with rfl | hp
      · rw [List.length_take]; omega
      · have := ih _ p hp
        rw [List.length_drop] at this
        omega
theorem splW_size (s : ByteArray) : ∀ a ∈ splW s, a.size ≤ s.size := by
  intro a ha
  have : a.data.toList ∈ (splW s).map (·.data.toList) := List.mem_map_of_mem ha
  rw [splW_data] at this
  exact splitK_len _ _ _ _ this
theorem splW_len (s : ByteArray) : (splW s).length = Lib.countB s ⟨#[32]⟩ + 1 := Lib.splitB_all ⟨#[32]⟩ (by decide) 0 _ s rfl
theorem splW_cnt (s : ByteArray) : Lib.countB s ⟨#[32]⟩ ≤ s.size := Lib.countB_le ⟨#[32]⟩ (by decide) _ s (Nat.le_refl _)
theorem flatB_mem (G : List (List UInt8)) (g : List UInt8) (h : g ∈ G) : g.length ≤ (flatB G).length := by
  induction G with
  | nil => cases h
  | cons x G ih =>
    have e : flatB (x :: G) = (x ++ [32]) ++ flatB G := by simp [flatB]
    rw [e, List.length_append, List.length_append]
    rcases List.mem_cons.1 h with rfl | h
    · omega
    · have := ih h; omega
theorem sfV_size (s : ByteArray) : ∀ a ∈ sfV s, a.size ≤ 601 := by
  intro a ha
  rcases Classical.em (sfOk s) with h | h
  · rw [(sf_yes h).1] at ha
    have hm : a.data.toList ∈ (fieldsF s).map (·.data.toList) := List.mem_map_of_mem ha
    rw [fields_lists] at hm
    have h1 := flatB_mem _ _ hm
    have h2 := splitL_len s.data.toList []
    have h3 : s.data.toList.length = s.size := rfl
    have h4 := h.1
    have h5 : a.data.toList.length = a.size := rfl
    simp only [List.length_nil] at h2
    omega
  · rw [(sf_not h).1] at ha; cases ha
theorem toks_size : ∀ (W : List ByteArray) (l : List Tk), toksOf W = some l → (∀ a ∈ W, a.size ≤ 1048576) → ∀ t ∈ l, t.2.2.size ≤ 1048576 := by
  intro W
  induction W with
  | nil => intro l h _ t ht; simp [toksOf] at h; subst h; cases ht
  | cons a W ih =>
    intro l h hs t ht
    rw [toksOf] at h
    cases hp : ptF a with
    | none => rw [hp] at h; cases h
    | some x =>
      rw [hp] at h
      obtain ⟨y, hy, rfl⟩ := Option.map_eq_some_iff.1 h
      rcases List.mem_cons.1 ht with rfl | ht
      · have := ptF_size hp; have := hs a (by simp); omega
      · exact ih y hy (fun b hb => hs b (by simp [hb])) t ht
theorem peL_size (W : List ByteArray) (h : ∀ a ∈ W, a.size ≤ 1048576) : ∀ t ∈ peL W, t.2.2.size ≤ 1048576 := by
  intro t ht
  cases hk : toksOf W with
  | none => rw [(pe_none hk).1] at ht; cases ht
  | some l =>
    cases hb : exprOkF l
    · rw [(pe_bad hk hb).1] at ht; cases ht
    · rw [(pe_good hk hb).1] at ht; exact toks_size W l hk h t ht
theorem nmR_size (kd : Int) (rest : List ByteArray) (h : ∀ a ∈ rest, a.size ≤ 1048576) : (nmR kd rest).1.size ≤ 1048576 ∧ (∀ a ∈ (nmR kd rest).2, a.size ≤ 1048576) ∧ (nmR kd rest).2.length ≤ rest.length := by
  unfold nmR
  split
  · cases rest with
    | nil => exact ⟨Nat.zero_le _, (fun a ha => by cases ha), Nat.le_refl _⟩
    | cons x r => exact ⟨h x (by simp), fun a ha => h a (by simp at ha; simp [ha]), by simp⟩
  · exact ⟨Nat.zero_le _, h, Nat.le_refl _⟩
theorem lnG1_sz (kd : Int) (rest : List ByteArray) (h : ∀ a ∈ rest, a.size ≤ 1048576) (hl : rest.length ≤ 1048576) : LnSz (lnG1 kd (nmR kd rest)) ∧ (lnG1 kd (nmR kd rest)).2.2.1.length + (lnG1 kd (nmR kd rest)).2.2.2.length ≤ 1048576 := by
  obtain ⟨h1, h2, h3⟩ := nmR_size kd rest h
  have hp := peL_length (nmR kd rest).2
  have hq := peL_size (nmR kd rest).2 h2
  unfold lnG1 LnSz maxLen
  simp only
  by_cases hk : kd = 0
  · rw [if_pos hk, if_pos hk]
    exact ⟨⟨by omega, (fun a ha => by have := h2 a ha; omega), (fun t ht => by cases ht)⟩, by simp; omega⟩
  · rw [if_neg hk, if_neg hk]
    exact ⟨⟨by omega, (fun a ha => by cases ha), (fun t ht => by have := hq t ht; omega)⟩, by simp; omega⟩
end Go.Proofs.YteghjebbeclanaaDoor
