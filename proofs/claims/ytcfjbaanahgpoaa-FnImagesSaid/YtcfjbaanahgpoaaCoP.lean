import Derived.Test.YtcfjbaanahgpoaaCnPX
namespace Go.Proofs.Ytcfjbaanahgpoaa
open Go Go.RowKit
set_option maxRecDepth 100000
set_option linter.unusedVariables false
set_option linter.unusedSimpArgs false
/-! Where an else belongs. -/
theorem end_not_open {L : List Ln} {p q : Nat} (h : endOfF L p = q) : endOfF L q < 0 := by
  rcases Int.lt_or_le (endOfF L q) 0 with h1 | h1
  · exact h1
  · obtain ⟨r, hr, _, ho, _⟩ := endOf_pos L q h1
    have hr' : r = q := by omega
    subst hr'
    have := endOf_kind L p r h
    rw [this] at ho
    exact absurd ho (by decide)
theorem elseFrom_past (L : List Ln) (e : Nat) : ∀ (m p i : Nat), e - p ≤ m → elseFrom L e p = (i : Int) → ∀ q : Nat, p ≤ q → q < i → (lnAtD L q).1 = 3 → 0 ≤ endOfF L q → endOfF L q < i := by
  intro m
  induction m with
  | zero =>
    intro p i hm h
    rw [else_out L e p (by omega)] at h
    omega
  | succ m ih =>
    intro p i hm h q h1 h2 hq3 h3
    by_cases hp : p < e
    · rw [elseFrom, if_pos hp] at h
      by_cases h4 : (lnAtD L p).1 = 4
      · rw [if_pos h4] at h; omega
      · rw [if_neg h4] at h
        split at h
        · rename_i hop
          have hge : ((max (p + 1) ((endOfF L p).toNat + 1) : Nat) : Int) ≤ i := by
            rcases elseFrom_in L e _ (max (p + 1) ((endOfF L p).toNat + 1)) (Nat.le_refl _) with g1 | ⟨g1, _⟩
            · omega
            · omega
          by_cases hq : max (p + 1) ((endOfF L p).toNat + 1) ≤ q
          · exact ih _ i (by omega) h q hq h2 hq3 h3
          · by_cases hqp : q = p
            · subst hqp; omega
            · have h5 : 0 ≤ endOfF L p := by
                rcases Int.lt_or_le (endOfF L p) 0 with h6 | h6
                · omega
                · exact h6
              by_cases hqe : (q : Int) = endOfF L p
              · have := end_not_open (L := L) (p := p) (q := q) hqe.symm; omega
              · obtain ⟨r, hr, _, ho, _⟩ := endOf_pos L q h3
                have hr' : r = q := by omega
                subst hr'
                have := endOf_nest L p r h5 (by omega) (by omega) ho
                omega
        · rename_i hop
          by_cases hqp : q = p
          · subst hqp
            exact absurd (Or.inl hq3) hop
          · exact ih (p + 1) i (by omega) h q (by omega) h2 hq3 h3
    · rw [else_out L e p hp] at h; omega
theorem else_inj {L : List Ln} {j k i : Nat} (h1 : elseOfF L j = i) (h2 : elseOfF L k = i) : j = k := by
  have key : ∀ a b : Nat, elseOfF L a = i → elseOfF L b = i → a < b → False := by
    intro a b ha hb hab
    rcases elseOf_in L b with g | ⟨g1, g2, _, _, g5⟩
    · omega
    · have hb0 : 0 ≤ endOfF L b := by omega
      rw [Int.toNat_natCast] at g5
      have ha' := ha
      unfold elseOfF at ha'
      split at ha'
      · have := elseFrom_past L _ _ _ _ (Nat.le_refl _) ha' b (by simp; omega) (by omega) g5 hb0
        omega
      · omega
  rcases Nat.lt_trichotomy j k with h | h | h
  · exact (key j k h1 h2 h).elim
  · exact h
  · exact (key k j h2 h1 h).elim
theorem tile_cover (L : List Ln) : ∀ (fs : List Int) (nx : Int), 0 ≤ nx → tileI L fs nx = true → (∀ j : Nat, nx ≤ j → j < L.length → ∃ g ∈ fs, g ≤ (j : Int) ∧ (j : Int) ≤ endOfF L g) ∧ (∀ g ∈ fs, nx ≤ g) ∧ (∀ g ∈ fs, ∀ f ∈ fs, g < f → endOfF L g < f) := by
  intro fs
  induction fs with
  | nil =>
    intro nx h0 h
    rw [tileI] at h
    have h' : nx = L.length := by simpa using h
    exact ⟨fun j h1 h2 => by omega, fun g hg => (by cases hg), fun g hg => (by cases hg)⟩
  | cons x fs ih =>
    intro nx h0 h
    rw [tileI] at h
    by_cases hc : x = nx ∧ findF L (lnAtD L x.toNat).2.1 = x ∧ 0 ≤ endOfF L x ∧ fnI L x.toNat (endOfF L x).toNat = true
    · rw [if_pos hc] at h
      obtain ⟨p, hp, _, _, hpe, _, _⟩ := endOf_pos L x hc.2.2.1
      obtain ⟨i1, i2, i3⟩ := ih (endOfF L x + 1) (by omega) h
      have hxn := hc.1
      refine ⟨fun j h1 h2 => ?_, fun g hg => ?_, fun g hg f hf hgf => ?_⟩
      · by_cases hj : (j : Int) ≤ endOfF L x
        · exact ⟨x, List.mem_cons_self, by omega, hj⟩
        · obtain ⟨g, g1, g2, g3⟩ := i1 j (by omega) h2
          exact ⟨g, List.mem_cons_of_mem _ g1, g2, g3⟩
      · rcases List.mem_cons.1 hg with rfl | hg
        · omega
        · have := i2 g hg; omega
      · rcases List.mem_cons.1 hg with e1 | hg'
        · rcases List.mem_cons.1 hf with e2 | hf'
          · omega
          · have := i2 f hf'; rw [e1]; omega
        · rcases List.mem_cons.1 hf with e2 | hf'
          · have := i2 g hg'; omega
          · exact i3 g hg' f hf' hgf
    · rw [if_neg hc] at h; cases h
/-- An else within a function belongs to an if of the function. -/
theorem prog_else {L : List Ln} (h : progS L = true) {fu en i : Nat} (hfl : fu < L.length) (h0 : (lnAtD L fu).1 = 0) (he : endOfF L fu = en) (h1 : fu < i) (h2 : i ≤ en) (h4 : (lnAtD L i).1 = 4) : ∃ j : Nat, fu < j ∧ j < i ∧ elseOfF L j = i := by
  have hm := mem_funs hfl h0
  obtain ⟨e', q1, q2, q3, _⟩ := prog_fnk h fu hfl h0
  rw [← prog_eq] at h
  obtain ⟨_, _, _, _, _, ht, hels⟩ := yes_out h
  obtain ⟨j, _, hjl, hj⟩ := elseIn_true (hels i (by omega) h4)
  rcases elseOf_in L j with g | ⟨g1, g2, g3, g4, g5⟩
  · omega
  · refine ⟨j, ?_, by omega, hj⟩
    rw [Int.toNat_natCast] at g5
    obtain ⟨c1, c2, c3⟩ := tile_cover L _ 0 (Int.le_refl _) ht
    rcases Nat.lt_trichotomy fu j with hlt | hlt | hlt
    · exact hlt
    · subst hlt; omega
    · exfalso
      obtain ⟨g, hg, k1, k2⟩ := c1 j (by omega) hjl
      have k3 := c3 g hg _ hm (by omega)
      obtain ⟨p, hp, hpl, hpo, hpe, _, _⟩ := endOf_pos L g (by omega)
      subst hp
      obtain ⟨r, hr, _, hro, _⟩ := endOf_pos L j (by omega)
      have hr' : r = j := by omega
      subst hr'
      have hpk : (lnAtD L p).1 = 0 := by
        obtain ⟨q, hq, _, hq0⟩ := funsF_mem L _ hg
        have : q = p := by omega
        subst this
        exact hq0
      by_cases hpj : p = r
      · subst hpj; omega
      · by_cases hje : (r : Int) = endOfF L p
        · have := end_not_open (L := L) (p := p) (q := r) hje.symm; omega
        · have := endOf_nest L p r (by omega) (by omega) (by omega) hro
          omega
end Go.Proofs.Ytcfjbaanahgpoaa
