import Derived.Test.YtclldakoinnhhaaDoorDrP
import Derived.Test.YtclldakoinnhhaaDoorLinS
namespace Go.Proofs.YtclldakoinnhhaaDoor
open Go Go.RowKit
set_option maxRecDepth 100000
set_option linter.unusedVariables false
/-- A drawn program: good lines, at least one, at most 400. -/
theorem s_drawProgram (A : Option Addr) (n c : Nat) (w : World) (hc : CodeAt w.heap.size w A n) :
    Calls Tryd.prog 6 #[.slice A n c] w fun e w' => (∃ (A' : Option Addr) (c' : Nat) (L : List Ln), e = .returned (.slice A' L.length c') ∧ OwnLines w' w.heap.size w'.heap.size A' L ∧ (∀ x ∈ L, lineOkF x = true) ∧ 1 ≤ L.length ∧ L.length ≤ 400) ∧ Below w.heap.size w w' := by
  go_enter Tryd.func6, Tryd.ntmps6
  go_wp2_with fail
  refine (s_l01New A n c w hc).mono ?_
  rintro e w1 ⟨rfl, hc1, hb1⟩
  go_wp2_with fail
  refine (s_l03Program _ _ _ hc1).mono ?_
  rintro e w2 ⟨v, rfl, ⟨A', P, c', rfl, hO, hok, hlen, hc2, hg2⟩, hv⟩
  go_wp2_with fail
  go_ret
  have hz := hb1.size
  obtain ⟨A2, c2, e2, hL⟩ := hO.lines
  cases e2
  obtain ⟨P2, e3, hP⟩ := hL
  refine ⟨⟨A', c', P.map Prod.fst, by rw [List.length_map]; rfl, ⟨P2, e3, hP.1.more hz (Nat.le_refl _) (Nat.le_refl _), hP.2⟩, ?_, ?_, ?_⟩, below_only hb1 hg2 hz (Nat.le_refl _)⟩
  · intro x hx
    obtain ⟨p, hp, rfl⟩ := List.mem_map.1 hx
    exact hok p hp
  · rw [List.length_map]; exact hv
  · rw [List.length_map]; exact hlen
theorem endL_allQ (l : List Tk) : ∀ (m p need : Nat), l.length - p ≤ m → endL l p need = l.length → ∀ i, p ≤ i → (h : i < l.length) → tkOk l[i] = true := by
  intro m
  induction m with
  | zero => intro p need hm _ i hi h; omega
  | succ m ih =>
    intro p need hm he i hi h
    have hp : p < l.length := by omega
    by_cases h0 : need = 0
    · subst h0; rw [endL_zero] at he; omega
    · cases hok : tkOk l[p]
      · rw [endL_bad l p need (by omega) hp hok] at he; omega
      · rw [endL_step l p need (by omega) hp hok] at he
        by_cases e : i = p
        · subst e; exact hok
        · exact ih (p + 1) _ (by omega) he i (by omega) h
theorem exprOk_toksQ {l : List Tk} (h : exprOkF l = true) : ∀ t ∈ l, tkOk t = true := by
  intro t ht
  obtain ⟨i, hi, rfl⟩ := List.mem_iff_getElem.1 ht
  unfold exprOkF at h
  simp only [Bool.and_eq_true, decide_eq_true_eq] at h
  obtain ⟨⟨_, h1⟩, h2⟩ := h
  unfold exprEndF at h2
  rw [if_pos (by omega)] at h2
  exact endL_allQ l _ 0 1 (Nat.le_refl _) h2 i (by omega) hi
/-- What a good line is made of. -/
theorem lineOk_partsQ {x : Ln} (h : lineOkF x = true) : (∃ m : Nat, x.1 = m ∧ m < 8) ∧ ((x.1 = 0 ∨ x.1 = 1) → nameOkF x.2.1.data.toList = true) ∧ (¬ (x.1 = 0 ∨ x.1 = 1) → x.2.1 = ⟨#[]⟩) ∧
    (x.1 = 0 → ArgsP x.2.2.1) ∧ (x.1 ≠ 0 → x.2.2.1 = []) ∧ (hasExprF x.1 = true → exprOkF x.2.2.2 = true) ∧ (hasExprF x.1 = false → x.2.2.2 = []) := by
  unfold lineOkF at h
  simp only [Bool.and_eq_true] at h
  obtain ⟨⟨⟨h1, h2⟩, h3⟩, h4⟩ := h
  have hk : 0 ≤ x.1 ∧ x.1 ≤ 7 := by simpa [btw] using h1
  refine ⟨⟨x.1.toNat, by omega, by omega⟩, fun hq => by rwa [if_pos hq] at h2, fun hq => ?_, fun hq => ?_, fun hq => ?_, fun hq => by rwa [if_pos hq] at h4, fun hq => ?_⟩
  · rw [if_neg hq] at h2
    have : x.2.1.data.toList = [] := by simpa using h2
    apply ByteArray.ext; apply Array.ext'; rw [this]
  · rw [if_pos hq] at h3
    rcases Classical.em (ArgsP x.2.2.1) with h | h
    · exact h
    · rw [argsF, yes_not h] at h3; cases h3
  · rw [if_neg hq] at h3
    exact List.eq_nil_of_length_eq_zero (of_decide_eq_true h3)
  · rw [if_neg (by rw [hq]; simp)] at h4
    exact List.eq_nil_of_length_eq_zero (of_decide_eq_true h4)
theorem nameOk_sizeQ {s : ByteArray} (h : nameOkF s.data.toList = true) : s.size ≤ 8 := by
  unfold nameOkF at h
  simp [btw] at h
  have : s.data.toList.length = s.size := rfl
  simp at this
  omega
theorem tkOk_sizeQ {t : Tk} (h : tkOk t = true) : t.2.2.size ≤ 8 := by
  have h' : tokOkF t.1 t.2.1 t.2.2.data.toList = true := h
  unfold tokOkF at h'
  have em : t.2.2.data.toList.isEmpty = true → t.2.2.size ≤ 8 := fun e => by
    have h0 : t.2.2.data.toList.length = t.2.2.size := rfl
    rw [List.isEmpty_iff.1 e] at h0
    rw [← h0]; exact Nat.zero_le _
  split at h'
  · rw [Bool.and_eq_true] at h'; exact em h'.2
  · split at h'
    · rw [Bool.and_eq_true] at h'; exact nameOk_sizeQ h'.2
    · split at h'
      · rw [Bool.and_eq_true] at h'; exact nameOk_sizeQ h'.2
      · rw [Bool.and_eq_true] at h'; exact em h'.2
/-- What a good line takes. -/
theorem lineOk_szQ {x : Ln} (h : lineOkF x = true) : LnSz x ∧ x.2.2.1.length + x.2.2.2.length ≤ 24 := by
  obtain ⟨_, h1, h2, h3, h4, h5, h6⟩ := lineOk_partsQ h
  have hx : (∀ t ∈ x.2.2.2, t.2.2.size ≤ 8) ∧ x.2.2.2.length ≤ 20 := by
    cases hq : hasExprF x.1
    · rw [h6 hq]; exact ⟨fun t ht => (by cases ht), Nat.zero_le _⟩
    · have he := h5 hq
      refine ⟨fun t ht => tkOk_sizeQ (exprOk_toksQ he t ht), ?_⟩
      unfold exprOkF at he
      simp only [Bool.and_eq_true, decide_eq_true_eq] at he
      exact he.1.1
  have ha : (∀ s ∈ x.2.2.1, s.size ≤ 8) ∧ x.2.2.1.length ≤ 4 := by
    by_cases hk : x.1 = 0
    · refine ⟨fun s hs => ?_, (h3 hk).1⟩
      obtain ⟨i, hi, rfl⟩ := List.mem_iff_getElem.1 hs
      exact nameOk_sizeQ ((h3 hk).2 i hi hi).1
    · rw [h4 hk]; exact ⟨fun s hs => (by cases hs), Nat.zero_le _⟩
  have hn : x.2.1.size ≤ 8 := by
    by_cases hk : x.1 = 0 ∨ x.1 = 1
    · exact nameOk_sizeQ (h1 hk)
    · rw [h2 hk]; exact Nat.zero_le _
  unfold LnSz maxLen
  exact ⟨⟨by omega, fun s hs => by have := ha.1 s hs; omega, fun t ht => by have := hx.1 t ht; omega⟩, by omega⟩
theorem lnTot_leQ (L : List Ln) (h : ∀ x ∈ L, x.2.2.1.length + x.2.2.2.length ≤ 24) : lnTot L ≤ 24 * L.length := by
  induction L with
  | nil => simp [lnTot]
  | cons x L ih =>
    have h1 := h x List.mem_cons_self
    have h2 := ih (fun y hy => h y (List.mem_cons_of_mem _ hy))
    have e : lnTot (x :: L) = (x.2.2.1.length + x.2.2.2.length) + lnTot L := by simp [lnTot]
    rw [e, List.length_cons]
    omega
end Go.Proofs.YtclldakoinnhhaaDoor
