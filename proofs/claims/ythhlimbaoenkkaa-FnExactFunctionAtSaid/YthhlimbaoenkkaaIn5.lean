import Derived.Test.YthhlimbaoenkkaaIn3
import Derived.Test.YthhlimbaoenkkaaIn4
import Derived.Test.YthhlimbaoenkkaaSpc
namespace Go.Proofs.Ythhlimbaoenkkaa
open Go.ChangeShapes Go.WideShapes Go.ChangeAt Go.RowKit
open Go.ChangeMaps (open_string shut_string)
open Go.Deep
set_option maxRecDepth 100000
section
variable {H : Type} {enc : TypeId × Value → H} {W : World} {base : Nat} {v : Value} {d : DataW H} {p : List MemPlace}
def ImgsAt (W : World) (v : Value) : Prop := ∃ (A : Option Addr) (n c : Nat) (l : List Im), v = .slice A n c ∧ n ≤ c ∧ c ≤ maxLen ∧ InImgs W A n l ∧ ∀ x ∈ l, ImSz x
theorem imgsAt {spare : Nat → Bool} {held : Bool} {fuel : Nat} {x : DataW H × List MemPlace} (hf : DataW.trod enc Try.prog W 0 spare held fuel 50 [v] = some x) : ImgsAt W v := by
  rcases open_slice_fields Try.underlying50 Try.underlying146 (by kernel_rfl) (by kernel_rfl) hf with ⟨hcs, _⟩ | ⟨a, n, c, m, D, Pl, hcs, _, hl, hm, hmm, _, hi⟩
  · simp at hcs
    subst hcs
    exact ⟨none, 0, 0, [], rfl, Nat.le_refl _, Nat.zero_le _, InImgs.nil_ _ _, fun t h => by simp at h⟩
  · simp at hcs
    subst hcs
    have hnm : n ≤ m := by rw [hmm]; split <;> omega
    obtain ⟨P, hll, hp⟩ := list_of (P := fun i (t : MP) => (∀ j, j < 2 → W.cell? (a.add (i * 2 + j)) = (imC t)[j]?) ∧ ImIn W t.1 t.2.1 t.2.2 ∧ ImSz t.1) n (fun i hin => by
      obtain ⟨ys, k, _, _, _, hf⟩ := hi i (by omega)
      obtain ⟨v0, y0, e0, _, h0⟩ := hf 0 _ rfl
      obtain ⟨v1, y1, e1, _, h1⟩ := hf 1 _ rfl
      obtain ⟨x, A1, c1, rfl, rfl, hx, hs⟩ := imAt h0 h1
      refine ⟨(x, A1, c1), fun j hj => ?_, hx, hs⟩
      match j, hj with
      | 0, _ => exact e0
      | 1, _ => exact e1)
    refine ⟨some a, n, c, P.map Prod.fst, rfl, hl, hm, ⟨P, rfl, InRow.of_each imC (fun _ => rfl) P hll (by decide) (fun hn => ⟨a, rfl, fun i hi j hj => (hp i hi).1 j hj⟩), fun q hq => ?_⟩, fun t ht => ?_⟩
    · obtain ⟨i, hi, rfl⟩ := List.getElem_of_mem hq
      exact (hp i hi).2.1
    · obtain ⟨q, hq, rfl⟩ := List.mem_map.1 ht
      obtain ⟨i, hi, rfl⟩ := List.getElem_of_mem hq
      exact (hp i hi).2.2
def InSpace (w : World) (v : Value) : Prop := ∃ (x : Sp) (A B C : Option Addr) (a b c : Nat), v = .agg #[.slice A x.1.length a, .slice B x.2.1.length b, .slice C x.2.2.length c] ∧ SpIn w x A B C a b c ∧ SpSz x
theorem inSpace (hv : Value.okWide Try.prog W .any base 53 v) (h : DataW.Trod enc Try.prog W 0 (fun _ => true) true 53 v d p) : InSpace W v := by
  obtain ⟨v0, v1, v2, y0, y1, y2, n, rfl, rfl, rfl, h0, h1, h2⟩ := Joins.open_agg3 Try.underlying53 (by kernel_rfl) (by kernel_rfl) hv h
  obtain ⟨A0, n0, c0, l0, rfl, q1, q2, q3, q4⟩ := imgsAt h0
  obtain ⟨A1, n1, c1, l1, rfl, q5, q6, rfl, q8⟩ := intsAt h1
  obtain ⟨A2, n2, c2, l2, rfl, q9, q10, rfl, q12⟩ := intsAt h2
  have hl := q3.len
  subst hl
  exact ⟨(l0, l1, l2), A0, A1, A2, c0, c1, c2, rfl, ⟨q3, q8, q12, q1, q2, q5, q6, q9, q10⟩, q4⟩
end
end Go.Proofs.Ythhlimbaoenkkaa
