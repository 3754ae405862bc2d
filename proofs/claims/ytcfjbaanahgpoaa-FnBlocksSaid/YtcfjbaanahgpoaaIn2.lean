import Derived.Test.YtcfjbaanahgpoaaIn
import Derived.Test.YtcfjbaanahgpoaaLin
import Derived.SliceStrings
namespace Go.Proofs.Ytcfjbaanahgpoaa
open Go.ChangeShapes Go.WideShapes Go.ChangeAt Go.RowKit
open Go.ChangeMaps (open_string shut_string)
open Go.Deep
set_option maxRecDepth 100000
section
variable {H : Type} {enc : TypeId × Value → H} {W : World} {base : Nat} {v : Value} {d : DataW H} {p : List MemPlace}
/-- A slice of strings, by what its one cell reads as. -/
def StrsAt (W : World) (v : Value) : Prop := ∃ (A : Option Addr) (n c : Nat) (l : List ByteArray), v = .slice A n c ∧ n ≤ c ∧ c ≤ maxLen ∧ l.length = n ∧ InRow W A n 1 (strCells l) ∧ ∀ s ∈ l, s.size ≤ maxLen
theorem strsAt {spare : Nat → Bool} {held : Bool} {fuel : Nat} {x : DataW H × List MemPlace} (hf : DataW.trod enc Try.prog W 0 spare held fuel 31 [v] = some x) : StrsAt W v := by
  rcases open_strings Try.underlying31 Try.underlying9 (by kernel_rfl) hf with ⟨hcs, _⟩ | ⟨a, n, c, ss, hcs, _, hl, hm, hz, _, hcell, hsz⟩
  · simp at hcs
    subst hcs
    exact ⟨none, 0, 0, [], rfl, Nat.le_refl _, Nat.zero_le _, rfl, InRow.nil_ _ _ _, fun t h => by simp at h⟩
  · simp at hcs
    subst hcs
    have hnm : n ≤ ss.length := by rw [hz]; split <;> omega
    have hll : (ss.take n).length = n := by rw [List.length_take]; omega
    have hfl : strCells (ss.take n) = (ss.take n).flatMap fun s => [.string s] := by
      generalize ss.take n = q
      induction q with
      | nil => rfl
      | cons x q ih => rw [List.flatMap_cons, ← ih]; rfl
    refine ⟨some a, n, c, ss.take n, rfl, hl, hm, hll, ?_, fun t ht => hsz t (List.mem_of_mem_take ht)⟩
    rw [hfl]
    refine InRow.of_each (fun s => [.string s]) (fun _ => rfl) _ hll (by decide) (fun hn => ⟨a, rfl, fun i hi j hj => ?_⟩)
    obtain rfl : j = 0 := Nat.lt_one_iff.1 hj
    have := hcell i (by omega)
    rw [Nat.mul_one, Nat.add_zero, this, List.getElem_take, List.getD_eq_getElem?_getD, List.getElem?_eq_getElem (by omega)]
    rfl
def InStrings (w : World) (v : Value) : Prop := StrsAt w v
theorem inStrings (hv : Value.okWide Try.prog W .any base 31 v) (h : DataW.Trod enc Try.prog W 0 (fun _ => true) true 31 v d p) : InStrings W v := by
  obtain ⟨a, n, c, rfl⟩ := okWide_slice Try.underlying31 hv
  obtain ⟨fuel, hf⟩ := h
  exact strsAt (by simpa [Value.cells] using hf)
end
end Go.Proofs.Ytcfjbaanahgpoaa
