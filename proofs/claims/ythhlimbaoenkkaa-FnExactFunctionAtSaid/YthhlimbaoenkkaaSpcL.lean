import Derived.Test.YthhlimbaoenkkaaSpcA
import Derived.Test.YthhlimbaoenkkaaImgC
namespace Go.Proofs.Ythhlimbaoenkkaa
open Go Go.RowKit
set_option maxRecDepth 100000
set_option linter.unusedVariables false
/-! Plain facts on spaces. -/
theorem imgP_facts (code : ByteArray) (l : List Sy) : ∀ (rest : List Sy) (k p : Nat), ImgP code l rest k p → p ≤ code.size ∧ ∀ t ∈ rest, (p : Int) ≤ t.2.1 ∧ 1 ≤ t.2.2 ∧ t.2.1 + t.2.2 ≤ code.size := by
  intro rest
  induction rest with
  | nil =>
    intro k p h
    unfold ImgP at h
    exact ⟨by omega, fun t ht => by cases ht⟩
  | cons x rest ih =>
    intro k p h
    unfold ImgP at h
    obtain ⟨h1, h2, h3, _, _, _, h7⟩ := h
    obtain ⟨g1, g2⟩ := ih _ _ h7
    refine ⟨by omega, fun t ht => ?_⟩
    rcases List.mem_cons.1 ht with rfl | ht
    · exact ⟨by omega, h2, by omega⟩
    · have := g2 t ht
      exact ⟨by omega, this.2.1, this.2.2⟩
theorem imgP_sym (code : ByteArray) (hc : code.size ≤ 1000000) (l : List Sy) : ∀ (rest : List Sy) (k p : Nat), ImgP code l rest k p → ∀ t ∈ rest, ∃ (n : Nat) (h : n < rest.length), symFrom t.2.1 rest k = ((k + n : Nat) : Int) ∧ rest[n].2.1 = t.2.1 := by
  intro rest
  induction rest with
  | nil => intro k p _ t ht; cases ht
  | cons x rest ih =>
    intro k p h t ht
    have h0 := h
    unfold ImgP at h
    obtain ⟨h1, h2, h3, _, _, _, h7⟩ := h
    have hf := imgP_facts code l rest _ _ h7
    rw [symFrom]
    rcases List.mem_cons.1 ht with rfl | ht
    · rw [if_pos ⟨decide_eq_true (by omega), decide_eq_true (by omega), Int.le_refl _, by omega⟩]
      exact ⟨0, by simp, by simp, rfl⟩
    · have hg := hf.2 t ht
      rw [if_neg (fun hq => by omega)]
      obtain ⟨n, hn, e1, e2⟩ := ih _ _ h7 t ht
      refine ⟨n + 1, by simpa using hn, ?_, by simpa using e2⟩
      rw [e1, show k + 1 + n = k + (n + 1) by omega]
theorem yes_prop {p : Prop} (h : yes p = true) : p := by
  rcases Classical.em p with h' | h'
  · exact h'
  · rw [yes_not h'] at h; cases h
theorem imgOk_facts {y : Im} (h : imgOkF y = true) : y.1.size ≤ 1000000 ∧ (∀ t ∈ y.2, 0 ≤ t.2.1 ∧ 1 ≤ t.2.2 ∧ t.2.1 + t.2.2 ≤ y.1.size) ∧ ∀ t ∈ y.2, ∃ (n : Nat) (h : n < y.2.length), symF y.2 t.2.1 = n ∧ y.2[n].2.1 = t.2.1 := by
  obtain ⟨h1, h2⟩ := yes_prop h
  refine ⟨h2, fun t ht => ?_, fun t ht => ?_⟩
  · have := (imgP_facts y.1 y.2 y.2 0 0 h1).2 t ht
    exact ⟨by omega, this.2⟩
  · obtain ⟨n, hn, e1, e2⟩ := imgP_sym y.1 h2 y.2 y.2 0 0 h1 t ht
    exact ⟨n, hn, by simpa [symF] using e1, e2⟩
def ovl (I0 I1 : Im) (B0 B1 : Int) : Prop := 0 < I0.1.size ∧ 0 < I1.1.size ∧ B0 < B1 + (I1.1.size : Int) ∧ B1 < B0 + (I0.1.size : Int)
def spGood (im : List Im) (bs : List Int) (m : Nat) : Prop := ∀ k, k < m → ∀ (h1 : k < im.length) (h2 : k < bs.length), imgOkF im[k] = true ∧ btw bs[k] 1 1000000 = true
def spOkP (x : Sp) : Prop := ∃ (h1 : x.1.length = 2) (h2 : x.2.1.length = 2), (1 ≤ x.2.2.length ∧ x.2.2.length ≤ 6) ∧ spGood x.1 x.2.1 2 ∧
  ¬ ovl (x.1[0]'(by omega)) (x.1[1]'(by omega)) (x.2.1[0]'(by omega)) (x.2.1[1]'(by omega)) ∧ ∀ e ∈ x.2.2, isEnt x e
noncomputable def spOkF (x : Sp) : Bool := yes (spOkP x)
theorem spGood_zero (im : List Im) (bs : List Int) : spGood im bs 0 := fun k h => absurd h (Nat.not_lt_zero _)
theorem spGood_succ {im : List Im} {bs : List Int} {m : Nat} (h1 : m < im.length) (h2 : m < bs.length) (h : spGood im bs m) (ha : imgOkF im[m] = true) (hb : btw bs[m] 1 1000000 = true) : spGood im bs (m + 1) := by
  intro k hk g1 g2
  by_cases e : k = m
  · subst e; exact ⟨ha, hb⟩
  · exact h k (by omega) g1 g2
theorem spGood_num {im : List Im} {bs en : List Int} (h1 : im.length = 2) (h2 : bs.length = 2) (h : spGood im bs 2) : SpNum (im, bs, en) ∧ SymNum (im, bs, en) := by
  refine ⟨⟨by simp only; omega, fun b hb => ?_, fun y hy => ?_⟩, fun y hy t ht => ?_⟩
  · obtain ⟨k, hk, rfl⟩ := List.mem_iff_getElem.1 hb
    simp only at hk
    have := of_decide_eq_true (h k (by omega) (by omega) hk).2
    show 0 ≤ bs[k] ∧ bs[k] ≤ 1000000
    exact ⟨by omega, this.2⟩
  · obtain ⟨k, hk, rfl⟩ := List.mem_iff_getElem.1 hy
    simp only at hk
    exact (imgOk_facts (h k (by omega) hk (by omega)).1).1
  · obtain ⟨k, hk, rfl⟩ := List.mem_iff_getElem.1 hy
    simp only at hk
    obtain ⟨g1, g2, _⟩ := imgOk_facts (h k (by omega) hk (by omega)).1
    have := g2 t ht
    exact ⟨this.1, by omega⟩
/-- Where an entry lies. -/
theorem ent_lct {im : List Im} {bs en : List Int} (h1 : im.length = 2) (h2 : bs.length = 2) (h : spGood im bs 2) (ho : ¬ ovl (im[0]'(by omega)) (im[1]'(by omega)) (bs[0]'(by omega)) (bs[1]'(by omega))) {e : Int} (he : isEnt (im, bs, en) e) :
    ∃ (k : Nat) (g1 : k < im.length) (g2 : k < bs.length) (n : Nat) (hn : n < im[k].2.length), lct e im bs 0 = ((k : Int), e - bs[k]) ∧ symF im[k].2 (e - bs[k]) = n ∧ im[k].2[n].2.1 = e - bs[k] := by
  obtain ⟨k, g1, g2, t, ht, et⟩ := he
  simp only at g1 g2 ht et
  obtain ⟨f1, f2, f3⟩ := imgOk_facts (h k (by omega) g1 g2).1
  have ft := f2 t ht
  obtain ⟨n, hn, e1, e2⟩ := f3 t ht
  have hoff : e - bs[k] = t.2.1 := by omega
  refine ⟨k, g1, g2, n, hn, ?_, by rw [hoff]; exact e1, by rw [hoff]; exact e2⟩
  have c0 := lct_cons e im bs 0 (by omega) (by omega)
  have c1 := lct_cons e im bs 1 (by omega) (by omega)
  simp only [List.drop_zero] at c0
  rw [c0, c1]
  have hkk : k = 0 ∨ k = 1 := by omega
  rcases hkk with rfl | rfl
  · rw [if_pos ⟨by omega, by omega⟩]
  · rw [if_neg, if_pos ⟨by omega, by omega⟩]
    intro hq
    exact ho ⟨by omega, by omega, by omega, by omega⟩
theorem spOk_not_head {x : Sp} (h : ¬ (x.1.length = 2 ∧ x.2.1.length = 2 ∧ 1 ≤ x.2.2.length ∧ x.2.2.length ≤ 6)) : spOkF x = false :=
  yes_not (fun ⟨h1, h2, h3, _⟩ => h ⟨h1, h2, h3⟩)
theorem spOk_not_good {x : Sp} {k : Nat} (hk : k < 2) (h1 : k < x.1.length) (h2 : k < x.2.1.length) (h : ¬ (imgOkF x.1[k] = true ∧ btw x.2.1[k] 1 1000000 = true)) : spOkF x = false :=
  yes_not (fun ⟨_, _, _, hg, _⟩ => h (hg k hk h1 h2))
theorem spOk_not_ovl {x : Sp} (h1 : x.1.length = 2) (h2 : x.2.1.length = 2) (h : ovl (x.1[0]'(by omega)) (x.1[1]'(by omega)) (x.2.1[0]'(by omega)) (x.2.1[1]'(by omega))) : spOkF x = false :=
  yes_not (fun ⟨_, _, _, _, ho, _⟩ => ho h)
theorem spOk_not_ent {x : Sp} {e : Int} (he : e ∈ x.2.2) (h : ¬ isEnt x e) : spOkF x = false :=
  yes_not (fun ⟨_, _, _, _, _, hq⟩ => h (hq e he))
end Go.Proofs.Ythhlimbaoenkkaa
