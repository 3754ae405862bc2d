import Derived.Test.YthhlimbaoenkkaaIn
import Derived.Test.YthhlimbaoenkkaaLin
import Derived.SliceStrings
namespace Go.Proofs.Ythhlimbaoenkkaa
open Go.ChangeShapes Go.WideShapes Go.ChangeAt Go.RowKit
open Go.ChangeMaps (open_string shut_string)
open Go.Deep
set_option maxRecDepth 100000
section
variable {H : Type} {enc : TypeId × Value → H} {W : World} {base : Nat} {v : Value} {d : DataW H} {p : List MemPlace}
/-- A slice of strings, by what its one cell reads as. -/
def StrsAt (W : World) (v : Value) : Prop := ∃ (A : Option Addr) (n c : Nat) (l : List ByteArray), v = .slice A n c ∧ n ≤ c ∧ c ≤ maxLen ∧ l.length = n ∧ InRow W A n 1 (strCells l) ∧ ∀ s ∈ l, s.size ≤ maxLen
theorem strsAt {spare : Nat → Bool} {held : Bool} {fuel : Nat} {x : DataW H × List MemPlace} (hf : DataW.trod enc Try.prog W 0 spare held fuel 74 [v] = some x) : StrsAt W v := by
  rcases open_strings Try.underlying74 Try.underlying9 (by kernel_rfl) hf with ⟨hcs, _⟩ | ⟨a, n, c, ss, hcs, _, hl, hm, hz, _, hcell, hsz⟩
  · simp at hcs
    subst hcs
    exact ⟨none, 0, 0, [], rfl, Nat.le_refl _, Nat.zero_le _, rfl, InRow.nil_ _ _ _, fun t h => by simp at h⟩
  · simp at hcs
    subst hcs
    have hnm : n ≤ ss.length := by rw [hz]; split <;> omega
    have hll : (ss.take n).length = n := by rw [List.length_take]; omega
    have hfl : strCells (ss.take n) = (ss.take n).flatMap fun s => [.string s] := by
      generalize ss.take n = q
      induction q with
      | nil => rfl
      | cons x q ih => rw [List.flatMap_cons, ← ih]; rfl
    refine ⟨some a, n, c, ss.take n, rfl, hl, hm, hll, ?_, fun t ht => hsz t (List.mem_of_mem_take ht)⟩
    rw [hfl]
    refine InRow.of_each (fun s => [.string s]) (fun _ => rfl) _ hll (by decide) (fun hn => ⟨a, rfl, fun i hi j hj => ?_⟩)
    obtain rfl : j = 0 := Nat.lt_one_iff.1 hj
    have := hcell i (by omega)
    rw [Nat.mul_one, Nat.add_zero, this, List.getElem_take, List.getD_eq_getElem?_getD, List.getElem?_eq_getElem (by omega)]
    rfl
def InStrings (w : World) (v : Value) : Prop := StrsAt w v
theorem inStrings (hv : Value.okWide Try.prog W .any base 74 v) (h : DataW.Trod enc Try.prog W 0 (fun _ => true) true 74 v d p) : InStrings W v := by
  obtain ⟨a, n, c, rfl⟩ := okWide_slice Try.underlying74 hv
  obtain ⟨fuel, hf⟩ := h
  exact strsAt (by simpa [Value.cells] using hf)
theorem lnAt {v0 v1 v2 v3 : Value} {spare : Nat → Bool} {held : Bool} {f0 f1 f2 f3 : Nat} {y0 y1 y2 y3 : DataW H × List MemPlace}
    (h0 : DataW.trod enc Try.prog W 0 spare held f0 3 [v0] = some y0) (h1 : DataW.trod enc Try.prog W 0 spare held f1 9 [v1] = some y1)
    (h2 : DataW.trod enc Try.prog W 0 spare held f2 74 [v2] = some y2) (h3 : DataW.trod enc Try.prog W 0 spare held f3 42 [v3] = some y3) :
    ∃ (x : Ln) (A1 : Option Addr) (c1 : Nat) (A2 : Option Addr) (c2 : Nat), v0 = .int .i64 x.1 ∧ v1 = .string x.2.1 ∧ v2 = .slice A1 x.2.2.1.length c1 ∧ v3 = .slice A2 x.2.2.2.length c2 ∧ LnIn W x A1 c1 A2 c2 ∧ LnSz x := by
  obtain ⟨a0, e0, _, _⟩ := DataW.trod_int Try.underlying3 h0
  obtain ⟨a1, e1, _, s1⟩ := DataW.trod_string Try.underlying9 h1
  obtain ⟨A1, n1, c1, l1, rfl, q1, q2, rfl, r1, t1⟩ := strsAt h2
  obtain ⟨A2, n2, c2, l2, rfl, q3, q4, rfl, r2, t2⟩ := toksAt h3
  simp at e0 e1
  subst e0 e1
  exact ⟨(a0, a1, l1, l2), A1, c1, A2, c2, rfl, rfl, rfl, rfl, ⟨r1, r2, q1, q2, q3, q4⟩, s1, t1, t2⟩
def InLine (w : World) (v : Value) : Prop := ∃ (x : Ln) (A1 : Option Addr) (c1 : Nat) (A2 : Option Addr) (c2 : Nat), v = .agg #[.int .i64 x.1, .string x.2.1, .slice A1 x.2.2.1.length c1, .slice A2 x.2.2.2.length c2] ∧ LnIn w x A1 c1 A2 c2 ∧ LnSz x
theorem inLine (hv : Value.okWide Try.prog W .any base 131 v) (h : DataW.Trod enc Try.prog W 0 (fun _ => true) true 131 v d p) : InLine W v := by
  obtain ⟨v0, v1, v2, v3, y0, y1, y2, y3, n, rfl, rfl, rfl, h0, h1, h2, h3⟩ := Joins.open_agg4 Try.underlying131 (by kernel_rfl) (by kernel_rfl) hv h
  obtain ⟨x, A1, c1, A2, c2, rfl, rfl, rfl, rfl, hx, hs⟩ := lnAt h0 h1 h2 h3
  exact ⟨x, A1, c1, A2, c2, rfl, hx, hs⟩
def InLinesV (w : World) (v : Value) : Prop := ∃ (A : Option Addr) (n c : Nat) (l : List Ln), v = .slice A n c ∧ n ≤ c ∧ c ≤ maxLen ∧ InLines w A n l ∧ ∀ x ∈ l, LnSz x
theorem linesAt {spare : Nat → Bool} {held : Bool} {fuel : Nat} {x : DataW H × List MemPlace} (hf : DataW.trod enc Try.prog W 0 spare held fuel 78 [v] = some x) : InLinesV W v := by
  rcases open_slice_fields Try.underlying78 Try.underlying131 (by kernel_rfl) (by kernel_rfl) hf with ⟨hcs, _⟩ | ⟨a, n, c, m, D, Pl, hcs, _, hl, hm, hmm, _, hi⟩
  · simp at hcs
    subst hcs
    exact ⟨none, 0, 0, [], rfl, Nat.le_refl _, Nat.zero_le _, InLines.nil_ _ _, fun t h => by simp at h⟩
  · simp at hcs
    subst hcs
    have hnm : n ≤ m := by rw [hmm]; split <;> omega
    obtain ⟨P, hll, hp⟩ := list_of (P := fun i (t : LP) => (∀ j, j < 4 → W.cell? (a.add (i * 4 + j)) = (lnC t)[j]?) ∧ LnIn W t.1 t.2.1 t.2.2.1 t.2.2.2.1 t.2.2.2.2 ∧ LnSz t.1) n (fun i hin => by
      obtain ⟨ys, k, _, _, _, hf⟩ := hi i (by omega)
      obtain ⟨v0, y0, e0, _, h0⟩ := hf 0 _ rfl
      obtain ⟨v1, y1, e1, _, h1⟩ := hf 1 _ rfl
      obtain ⟨v2, y2, e2, _, h2⟩ := hf 2 _ rfl
      obtain ⟨v3, y3, e3, _, h3⟩ := hf 3 _ rfl
      obtain ⟨x, A1, c1, A2, c2, rfl, rfl, rfl, rfl, hx, hs⟩ := lnAt h0 h1 h2 h3
      refine ⟨(x, A1, c1, A2, c2), fun j hj => ?_, hx, hs⟩
      match j, hj with
      | 0, _ => exact e0
      | 1, _ => exact e1
      | 2, _ => exact e2
      | 3, _ => exact e3)
    refine ⟨some a, n, c, P.map Prod.fst, rfl, hl, hm, ⟨P, rfl, InRow.of_each lnC (fun _ => rfl) P hll (by decide) (fun hn => ⟨a, rfl, fun i hi j hj => (hp i hi).1 j hj⟩), fun q hq => ?_⟩, fun t ht => ?_⟩
    · obtain ⟨i, hi, rfl⟩ := List.getElem_of_mem hq
      exact (hp i hi).2.1
    · obtain ⟨q, hq, rfl⟩ := List.mem_map.1 ht
      obtain ⟨i, hi, rfl⟩ := List.getElem_of_mem hq
      exact (hp i hi).2.2
theorem inLinesV (hv : Value.okWide Try.prog W .any base 78 v) (h : DataW.Trod enc Try.prog W 0 (fun _ => true) true 78 v d p) : InLinesV W v := by
  obtain ⟨a, n, c, rfl⟩ := okWide_slice Try.underlying78 hv
  obtain ⟨fuel, hf⟩ := h
  exact linesAt (by simpa [Value.cells] using hf)
end
end Go.Proofs.Ythhlimbaoenkkaa
