import Derived.Test.YthhlimbaoenkkaaIn
import Derived.Test.YthhlimbaoenkkaaSym
import Derived.SliceStrings
namespace Go.Proofs.Ythhlimbaoenkkaa
open Go.ChangeShapes Go.WideShapes Go.ChangeAt Go.RowKit
open Go.ChangeMaps (open_string shut_string)
open Go.Deep
set_option maxRecDepth 100000
section
variable {H : Type} {enc : TypeId × Value → H} {W : World} {base : Nat} {v : Value} {d : DataW H} {p : List MemPlace}
/-- A slice of symbols, by what its one cell reads as. -/
def SymsAt (W : World) (v : Value) : Prop := ∃ (A : Option Addr) (n c : Nat) (l : List Sy), v = .slice A n c ∧ n ≤ c ∧ c ≤ maxLen ∧ l.length = n ∧ InRow W A n 3 (symCells l) ∧ ∀ t ∈ l, t.1.size ≤ maxLen
theorem symsAt {spare : Nat → Bool} {held : Bool} {fuel : Nat} {x : DataW H × List MemPlace} (hf : DataW.trod enc Try.prog W 0 spare held fuel 144 [v] = some x) : SymsAt W v := by
  rcases open_slice_fields Try.underlying144 Try.underlying170 (by kernel_rfl) (by kernel_rfl) hf with ⟨hcs, _⟩ | ⟨a, n, c, m, D, Pl, hcs, _, hl, hm, hmm, _, hi⟩
  · simp at hcs
    subst hcs
    exact ⟨none, 0, 0, [], rfl, Nat.le_refl _, Nat.zero_le _, rfl, InRow.nil_ _ _ _, fun t h => by simp at h⟩
  · simp at hcs
    subst hcs
    have hnm : n ≤ m := by rw [hmm]; split <;> omega
    obtain ⟨l, hll, hp⟩ := list_of (P := fun i (t : Sy) => (∀ j, j < 3 → W.cell? (a.add (i * 3 + j)) = (symC t)[j]?) ∧ t.1.size ≤ maxLen) n (fun i hin => by
      obtain ⟨ys, k, _, _, _, hf⟩ := hi i (by omega)
      obtain ⟨v0, y0, e0, _, h0⟩ := hf 0 _ rfl
      obtain ⟨v1, y1, e1, _, h1⟩ := hf 1 _ rfl
      obtain ⟨v2, y2, e2, _, h2⟩ := hf 2 _ rfl
      obtain ⟨a0, r0, _, hs⟩ := DataW.trod_string Try.underlying9 h0
      obtain ⟨a1, r1, _, _⟩ := DataW.trod_int Try.underlying3 h1
      obtain ⟨a2, r2, _, _⟩ := DataW.trod_int Try.underlying3 h2
      simp at r0 r1 r2
      subst r0 r1 r2
      refine ⟨(a0, a1, a2), fun j hj => ?_, hs⟩
      match j, hj with
      | 0, _ => exact e0
      | 1, _ => exact e1
      | 2, _ => exact e2)
    refine ⟨some a, n, c, l, rfl, hl, hm, hll, InRow.of_each symC (fun _ => rfl) l hll (by decide) (fun hn => ⟨a, rfl, fun i hi j hj => (hp i hi).1 j hj⟩), fun t ht => ?_⟩
    · obtain ⟨i, hi, rfl⟩ := List.getElem_of_mem ht
      exact (hp i hi).2
def InImage (w : World) (v : Value) : Prop := ∃ (x : Im) (A : Option Addr) (c : Nat), v = .agg #[.string x.1, .slice A x.2.length c] ∧ ImIn w x A c ∧ ImSz x
theorem imAt {v0 v1 : Value} {spare : Nat → Bool} {held : Bool} {f0 f1 : Nat} {y0 y1 : DataW H × List MemPlace}
    (h0 : DataW.trod enc Try.prog W 0 spare held f0 9 [v0] = some y0) (h1 : DataW.trod enc Try.prog W 0 spare held f1 144 [v1] = some y1) :
    ∃ (x : Im) (A : Option Addr) (c : Nat), v0 = .string x.1 ∧ v1 = .slice A x.2.length c ∧ ImIn W x A c ∧ ImSz x := by
  obtain ⟨a0, e0, _, s0⟩ := DataW.trod_string Try.underlying9 h0
  obtain ⟨A1, n1, c1, l1, rfl, q1, q2, rfl, r1, t1⟩ := symsAt h1
  simp at e0
  subst e0
  exact ⟨(a0, l1), A1, c1, rfl, rfl, ⟨r1, q1, q2⟩, s0, t1⟩
theorem inImage (hv : Value.okWide Try.prog W .any base 146 v) (h : DataW.Trod enc Try.prog W 0 (fun _ => true) true 146 v d p) : InImage W v := by
  obtain ⟨v0, v1, y0, y1, n, rfl, rfl, rfl, h0, h1⟩ := Joins.open_agg2 Try.underlying146 (by kernel_rfl) (by kernel_rfl) hv h
  obtain ⟨x, A, c, rfl, rfl, hx, hs⟩ := imAt h0 h1
  exact ⟨x, A, c, rfl, hx, hs⟩
end
end Go.Proofs.Ythhlimbaoenkkaa
