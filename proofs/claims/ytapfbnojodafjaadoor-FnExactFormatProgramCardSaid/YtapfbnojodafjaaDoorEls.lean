import Derived.Test.YtapfbnojodafjaaDoorEndO
namespace Go.Proofs.YtapfbnojodafjaaDoor
open Go.RowKit
set_option maxRecDepth 100000
/-! The plain law on ends. -/
theorem depF_le (k : Int) : -1 ≤ depF k ∧ depF k ≤ 1 := by unfold depF; split <;> split <;> omega
theorem depF_open (k : Int) (h : opensF k = true) : depF k = 1 := by
  have h7 : k ≠ 7 := by intro e; rw [e] at h; simp [opensF] at h
  unfold depF; rw [if_pos h, if_neg h7]; rfl
theorem endFrom_ge : ∀ (M : List Ln) (i : Nat) (o : Int), endFrom M i o = -1 ∨ ((i : Int) ≤ endFrom M i o ∧ endFrom M i o < i + M.length) := by
  intro M
  induction M with
  | nil => intro i o; exact .inl rfl
  | cons x M ih =>
    intro i o
    rw [endFrom]
    split
    · right; simp; omega
    · rcases ih (i + 1) (o + depF x.1) with h | ⟨h1, h2⟩
      · exact .inl h
      · right; simp; omega
theorem endFrom_inner : ∀ (M : List Ln) (i : Nat) (a d : Int), 1 ≤ a → 1 ≤ d → 0 ≤ endFrom M i (a + d) → (i : Int) ≤ endFrom M i a ∧ endFrom M i a < endFrom M i (a + d) := by
  intro M
  induction M with
  | nil => intro i a d _ _ h; simp [endFrom] at h
  | cons x M ih =>
    intro i a d ha hd h
    have hx := depF_le x.1
    have e1 : endFrom (x :: M) i (a + d) = endFrom M (i + 1) (a + depF x.1 + d) := by rw [endFrom, if_neg (by omega), show a + d + depF x.1 = a + depF x.1 + d by omega]
    rw [e1] at h ⊢
    rw [endFrom]
    by_cases h0 : a + depF x.1 = 0
    · rw [if_pos h0]
      rcases endFrom_ge M (i + 1) (a + depF x.1 + d) with hg | hg <;> omega
    · rw [if_neg h0]
      have := ih (i + 1) (a + depF x.1) d (by omega) hd h
      omega
theorem endFrom_skip : ∀ (t : Nat) (M : List Ln) (i : Nat) (a : Int), 1 ≤ a → (i : Int) + t ≤ endFrom M i a → ∃ o, 1 ≤ o ∧ endFrom M i a = endFrom (M.drop t) (i + t) o := by
  intro t
  induction t with
  | zero => intro M i a ha _; exact ⟨a, ha, rfl⟩
  | succ t ih =>
    intro M i a ha h
    cases M with
    | nil => simp [endFrom] at h; omega
    | cons x M =>
      have hx := depF_le x.1
      rw [endFrom] at h ⊢
      by_cases h0 : a + depF x.1 = 0
      · rw [if_pos h0] at h; omega
      · rw [if_neg h0] at h ⊢
        obtain ⟨o, h1, h2⟩ := ih M (i + 1) (a + depF x.1) (by omega) (by omega)
        exact ⟨o, h1, by rw [h2, List.drop_succ_cons, show i + 1 + t = i + (t + 1) by omega]⟩
theorem lnAtD_of (L : List Ln) (i : Nat) (h : i < L.length) : lnAtD L i = L[i] := by
  unfold lnAtD; rw [List.getD_eq_getElem?_getD, List.getElem?_eq_getElem h]; rfl
theorem endFrom_open (L : List Ln) (i : Nat) (hi : i < L.length) (ho : opensF (lnAtD L i).1 = true) (o : Int) (h : 0 ≤ o) : endFrom (L.drop i) i o = endFrom (L.drop (i + 1)) (i + 1) (o + 1) := by
  rw [lnAtD_of L i hi] at ho
  rw [drop_step L i hi, endFrom, depF_open _ ho, if_neg (by omega)]
theorem endOf_pos (L : List Ln) (k : Int) (h : 0 ≤ endOfF L k) : ∃ p : Nat, k = p ∧ p < L.length ∧ opensF (lnAtD L p).1 = true ∧ (p : Int) < endOfF L k ∧ endOfF L k < L.length ∧ endOfF L k = endFrom (L.drop (p + 1)) (p + 1) 1 := by
  have h2 := h
  unfold endOfF at h
  split at h
  · rename_i hc
    obtain ⟨p, rfl⟩ := Int.eq_ofNat_of_zero_le hc.1
    have hp : p < L.length := by omega
    have ho := hc.2.2
    rw [Int.toNat_natCast] at ho
    have he : endOfF L (p : Int) = endFrom (L.drop (p + 1)) (p + 1) 1 := by
      unfold endOfF; rw [if_pos hc, Int.toNat_natCast, endFrom_open L p hp ho 0 (by omega)]; rfl
    refine ⟨p, rfl, hp, ho, ?_, ?_, he⟩
    · rcases endFrom_ge (L.drop (p + 1)) (p + 1) 1 with hg | hg
      · rw [he, hg] at h2; omega
      · rw [he]; omega
    · rcases endFrom_ge (L.drop (p + 1)) (p + 1) 1 with hg | hg
      · rw [he, hg] at h2; omega
      · rw [he]; simp at hg; omega
  · omega
theorem endOf_nest (L : List Ln) (k i : Nat) (hk : 0 ≤ endOfF L k) (h1 : k < i) (h2 : (i : Int) < endOfF L k) (ho : opensF (lnAtD L i).1 = true) : (i : Int) < endOfF L i ∧ endOfF L i < endOfF L k := by
  obtain ⟨p, e, hp, hop, ha, hb, he⟩ := endOf_pos L k hk
  obtain rfl : k = p := by omega
  have hi : i < L.length := by omega
  obtain ⟨o, ho1, hs⟩ := endFrom_skip (i - (k + 1)) (L.drop (k + 1)) (k + 1) 1 (by omega) (by rw [← he]; omega)
  rw [List.drop_drop, show k + 1 + (i - (k + 1)) = i by omega, endFrom_open L i hi ho o (by omega), Int.add_comm] at hs
  have hin := endFrom_inner (L.drop (i + 1)) (i + 1) 1 o (by omega) ho1 (by rw [← hs, ← he]; exact hk)
  have hei : endOfF L (i : Int) = endFrom (L.drop (i + 1)) (i + 1) 1 := by
    unfold endOfF; rw [if_pos ⟨by omega, by omega, by rw [Int.toNat_natCast]; exact ho⟩, Int.toNat_natCast, endFrom_open L i hi ho 0 (by omega)]; rfl
  rw [hei, he, hs]
  omega
def elseFrom (L : List Ln) (e i : Nat) : Int :=
  if i < e then
    if (lnAtD L i).1 = 4 then (i : Int)
    else if (lnAtD L i).1 = 3 ∨ (lnAtD L i).1 = 5 then elseFrom L e (max (i + 1) ((endOfF L i).toNat + 1))
    else elseFrom L e (i + 1)
  else -1
termination_by e - i
def elseOfF (L : List Ln) (k : Int) : Int := if 0 ≤ endOfF L k ∧ (lnAtD L k.toNat).1 = 3 then elseFrom L (endOfF L k).toNat (k.toNat + 1) else -1
theorem else_out (L : List Ln) (e i : Nat) (h : ¬ i < e) : elseFrom L e i = -1 := by rw [elseFrom, if_neg h]
theorem else_hit (L : List Ln) (e i : Nat) (h : i < e) (h4 : (lnAtD L i).1 = 4) : elseFrom L e i = i := by rw [elseFrom, if_pos h, if_pos h4]
theorem else_skip (L : List Ln) (e i j : Nat) (h : i < e) (h35 : (lnAtD L i).1 = 3 ∨ (lnAtD L i).1 = 5) (hj : endOfF L i = j) (hij : i < j) : elseFrom L e i = elseFrom L e (j + 1) := by
  rw [elseFrom, if_pos h, if_neg (by omega), if_pos h35, hj, Int.toNat_natCast, Nat.max_eq_right (by omega)]
theorem else_next (L : List Ln) (e i : Nat) (h : i < e) (h4 : ¬ (lnAtD L i).1 = 4) (h35 : ¬ ((lnAtD L i).1 = 3 ∨ (lnAtD L i).1 = 5)) : elseFrom L e i = elseFrom L e (i + 1) := by
  rw [elseFrom, if_pos h, if_neg h4, if_neg h35]
end Go.Proofs.YtapfbnojodafjaaDoor
