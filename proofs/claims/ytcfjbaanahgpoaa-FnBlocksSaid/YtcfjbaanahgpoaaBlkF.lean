import Derived.Test.YtcfjbaanahgpoaaPokT
import Derived.Test.YtcfjbaanahgpoaaL7
namespace Go.Proofs.Ytcfjbaanahgpoaa
open Go Go.RowKit
set_option maxRecDepth 100000
/-! Functions follow one another. -/
theorem tileI_head {L : List Ln} {a next : Int} {fs : List Int} (h : tileI L (a :: fs) next = true) : a = next ∧ findF L (lnAtD L a.toNat).2.1 = a ∧ 0 ≤ endOfF L a ∧ fnI L a.toNat (endOfF L a).toNat = true ∧ tileI L fs (endOfF L a + 1) = true := by
  by_cases hc : a = next ∧ findF L (lnAtD L a.toNat).2.1 = a ∧ 0 ≤ endOfF L a ∧ fnI L a.toNat (endOfF L a).toNat = true
  · rw [tileI_good hc] at h
    exact ⟨hc.1, hc.2.1, hc.2.2.1, hc.2.2.2, h⟩
  · rw [tileI_bad hc] at h; cases h
theorem tileI_all (L : List Ln) : ∀ (fs : List Int) (next : Int), tileI L fs next = true → ∀ (k : Nat) (hk : k < fs.length), findF L (lnAtD L fs[k].toNat).2.1 = fs[k] ∧ (locF L (fs[k].toNat : Int)).length ≤ 8 ∧ (∀ h : 0 < k, fs[k] = endOfF L (fs[k - 1]'(by omega)) + 1) := by
  intro fs
  induction fs with
  | nil => intro next h k hk; simp at hk
  | cons a fs ih =>
    intro next h k hk
    obtain ⟨h1, h2, h3, h4, h5⟩ := tileI_head h
    cases k with
    | zero =>
      unfold fnI at h4
      rw [Bool.and_eq_true] at h4
      exact ⟨h2, of_decide_eq_true h4.1, fun h => by omega⟩
    | succ k =>
      have hk' : k < fs.length := by simpa using hk
      obtain ⟨r1, r2, r3⟩ := ih _ h5 k hk'
      refine ⟨r1, r2, fun _ => ?_⟩
      cases k with
      | zero =>
        cases fs with
        | nil => simp at hk'
        | cons b fs => exact (tileI_head h5).1
      | succ k => exact r3 (by omega)
theorem progI_yes {L : List Ln} (h : progI L = true) : L.length ≤ 60 ∧ 1 ≤ (funsF L).length ∧ ∀ (k : Nat) (hk : k < (funsF L).length), findF L (lnAtD L (funsF L)[k].toNat).2.1 = (funsF L)[k] ∧ (locF L ((funsF L)[k].toNat : Int)).length ≤ 8 ∧ (∀ h : 0 < k, (funsF L)[k] = endOfF L ((funsF L)[k - 1]'(by omega)) + 1) := by
  rcases Classical.em (L.length ≤ 60 ∧ 1 ≤ (funsF L).length ∧ (funsF L).length ≤ 6 ∧ (∀ k : Nat, k < L.length → lineOkF (lnAtD L k) = true) ∧ headOk L ∧ tileI L (funsF L) 0 = true ∧ elsesOk L) with hq | hq
  · exact ⟨hq.1, hq.2.1, tileI_all L _ _ hq.2.2.2.2.2.1⟩
  · rw [progI_not hq] at h; cases h
theorem else_range (L : List Ln) (a : Nat) : ¬ (0 ≤ endOfF L a ∧ endOfF L a ≤ a) ∧ ¬ (0 ≤ elseOfF L a ∧ (elseOfF L a ≤ a ∨ endOfF L a ≤ elseOfF L a)) := by
  refine ⟨fun h => ?_, fun h => ?_⟩
  · obtain ⟨p, e, _, _, h1, _⟩ := endOf_pos L a h.1
    omega
  · rcases elseOf_in L a with h1 | h1
    · omega
    · omega
theorem nest_range (L : List Ln) (a b : Nat) (hx : 0 ≤ endOfF L a) (hab : a < b) : ¬ (0 ≤ endOfF L b ∧ (b : Int) < endOfF L a ∧ endOfF L a ≤ endOfF L b) := by
  rintro ⟨h1, h2, h3⟩
  obtain ⟨p, e, _, ho, _⟩ := endOf_pos L b h1
  have e' : b = p := by omega
  have h4 := endOf_nest L a b hx (by omega) h2 (e' ▸ ho)
  omega
end Go.Proofs.Ytcfjbaanahgpoaa
