import Derived.Test.YthhlimbaoenkkaaIn
import Derived.Test.YthhlimbaoenkkaaItm
namespace Go.Proofs.Ythhlimbaoenkkaa
open Go.ChangeShapes Go.WideShapes Go.ChangeAt Go.RowKit
open Go.ChangeMaps (open_string shut_string)
open Go.Deep
set_option maxRecDepth 100000
section
variable {H : Type} {enc : TypeId × Value → H} {W : World} {base : Nat} {v : Value} {d : DataW H} {p : List MemPlace}
def InItems (W : World) (v : Value) : Prop := ∃ (A : Option Addr) (n c : Nat) (l : List It), v = .slice A n c ∧ n ≤ c ∧ c ≤ maxLen ∧ InItems' W A n l
theorem list7 {α : Type} (l : List α) (h : l.length = 7) : ∃ a b c d e f g, l = [a, b, c, d, e, f, g] := by
  match l, h with
  | [a, b, c, d, e, f, g], _ => exact ⟨a, b, c, d, e, f, g, rfl⟩
def IntsAt (W : World) (v : Value) : Prop := ∃ (A : Option Addr) (n c : Nat) (l : List Int), v = .slice A n c ∧ n ≤ c ∧ c ≤ maxLen ∧ l.length = n ∧ InRow W A n 1 (intCells l)
theorem intsAt {spare : Nat → Bool} {held : Bool} {fuel : Nat} {x : DataW H × List MemPlace} (hf : DataW.trod enc Try.prog W 0 spare held fuel 51 [v] = some x) : IntsAt W v := by
  rcases open_ints Try.underlying51 Try.underlying3 (by kernel_rfl) hf with ⟨hcs, _⟩ | ⟨a, n, c, zs, hcs, _, hl, hm, hz, _, hcell, _⟩
  · simp at hcs
    subst hcs
    exact ⟨none, 0, 0, [], rfl, Nat.le_refl _, Nat.zero_le _, rfl, InRow.nil_ _ _ _⟩
  · simp at hcs
    subst hcs
    have hnm : n ≤ zs.length := by rw [hz]; split <;> omega
    have hll : (zs.take n).length = n := by rw [List.length_take]; omega
    have hfl : intCells (zs.take n) = (zs.take n).flatMap fun s => [.int .i64 s] := by
      generalize zs.take n = q
      induction q with
      | nil => rfl
      | cons x q ih => rw [List.flatMap_cons, ← ih]; rfl
    refine ⟨some a, n, c, zs.take n, rfl, hl, hm, hll, ?_⟩
    rw [hfl]
    refine InRow.of_each (fun s => [.int .i64 s]) (fun _ => rfl) _ hll (by decide) (fun hn => ⟨a, rfl, fun i hi j hj => ?_⟩)
    obtain rfl : j = 0 := Nat.lt_one_iff.1 hj
    have := hcell i (by omega)
    rw [Nat.mul_one, Nat.add_zero, this, List.getElem_take, List.getD_eq_getElem?_getD, List.getElem?_eq_getElem (by omega)]
    rfl
theorem itemsAt {spare : Nat → Bool} {held : Bool} {fuel : Nat} {x : DataW H × List MemPlace} (hf : DataW.trod enc Try.prog W 0 spare held fuel 35 [v] = some x) : InItems W v := by
  rcases open_slice Try.underlying35 hf with ⟨hcs, _⟩ | ⟨a, n, c, m, nf, D, Pl, hcs, _, hl, hm, hmm, _, hi⟩
  · simp at hcs
    subst hcs
    exact ⟨none, 0, 0, [], rfl, Nat.le_refl _, Nat.zero_le _, InItems'.nil_ _ _⟩
  · simp at hcs
    subst hcs
    have hnm : n ≤ m := by rw [hmm]; split <;> omega
    have hC : Try.prog.cellsOf 95 = 7 := by kernel_rfl
    have hC2 : Try.prog.cellsOf 93 = 2 := by kernel_rfl
    have hCi : Try.prog.cellsOf 3 = 1 := by kernel_rfl
    have hCb : Try.prog.cellsOf 4 = 1 := by kernel_rfl
    have hCs : Try.prog.cellsOf 51 = 1 := by kernel_rfl
    obtain ⟨P, hll, hp⟩ := list_of (P := fun i (t : IP) => (∀ j, j < 7 → W.cell? (a.add (i * 7 + j)) = (itC t)[j]?) ∧ ItIn W t.1 t.2.1 t.2.2) n (fun i hin => by
      obtain ⟨cs', hc, ht'⟩ := hi i (by omega)
      rw [hC] at hc
      obtain ⟨ys, k, _, _, _, hyl, hf⟩ := DataW.trod_struct Try.underlying95 ht'
      obtain ⟨_, hcl, hat⟩ := World.cells?_some hc
      obtain ⟨a0, a1, a2, a3, a4, a5, a6, rfl⟩ := list7 cs' hcl
      have hy : ys.length = 6 := hyl
      have g : ∀ j, j < 6 → ∃ y, ys[j]? = some y := fun j hj => ⟨_, List.getElem?_eq_getElem (by omega)⟩
      obtain ⟨y0, e0⟩ := g 0 (by omega)
      obtain ⟨y1, e1⟩ := g 1 (by omega)
      obtain ⟨y2, e2⟩ := g 2 (by omega)
      obtain ⟨y3, e3⟩ := g 3 (by omega)
      obtain ⟨y4, e4⟩ := g 4 (by omega)
      obtain ⟨y5, e5⟩ := g 5 (by omega)
      have h0 : DataW.trod enc Try.prog W 0 spare held k 93 [a0, a1] = some y0 := ((congrArg (fun q => DataW.trod enc Try.prog W 0 spare held k 93 (List.take q (List.drop 0 [a0, a1, a2, a3, a4, a5, a6]))) hC2).symm.trans (hf 0 _ rfl)).trans e0
      have h1 : DataW.trod enc Try.prog W 0 spare held k 3 [a2] = some y1 := ((congrArg (fun q => DataW.trod enc Try.prog W 0 spare held k 3 (List.take q (List.drop 2 [a0, a1, a2, a3, a4, a5, a6]))) hCi).symm.trans (hf 1 _ rfl)).trans e1
      have h2 : DataW.trod enc Try.prog W 0 spare held k 4 [a3] = some y2 := ((congrArg (fun q => DataW.trod enc Try.prog W 0 spare held k 4 (List.take q (List.drop 3 [a0, a1, a2, a3, a4, a5, a6]))) hCb).symm.trans (hf 2 _ rfl)).trans e2
      have h3 : DataW.trod enc Try.prog W 0 spare held k 51 [a4] = some y3 := ((congrArg (fun q => DataW.trod enc Try.prog W 0 spare held k 51 (List.take q (List.drop 4 [a0, a1, a2, a3, a4, a5, a6]))) hCs).symm.trans (hf 3 _ rfl)).trans e3
      have h4 : DataW.trod enc Try.prog W 0 spare held k 3 [a5] = some y4 := ((congrArg (fun q => DataW.trod enc Try.prog W 0 spare held k 3 (List.take q (List.drop 5 [a0, a1, a2, a3, a4, a5, a6]))) hCi).symm.trans (hf 4 _ rfl)).trans e4
      have h5 : DataW.trod enc Try.prog W 0 spare held k 4 [a6] = some y5 := ((congrArg (fun q => DataW.trod enc Try.prog W 0 spare held k 4 (List.take q (List.drop 6 [a0, a1, a2, a3, a4, a5, a6]))) hCb).symm.trans (hf 5 _ rfl)).trans e5
      obtain ⟨zs, k2, _, _, _, hzl, hf2⟩ := DataW.trod_struct Try.underlying93 h0
      have hz : zs.length = 2 := hzl
      have g2 : ∀ j, j < 2 → ∃ y, zs[j]? = some y := fun j hj => ⟨_, List.getElem?_eq_getElem (by omega)⟩
      obtain ⟨x0, r0⟩ := g2 0 (by omega)
      obtain ⟨x1, r1⟩ := g2 1 (by omega)
      have q0 : DataW.trod enc Try.prog W 0 spare held k2 3 [a0] = some x0 := ((congrArg (fun q => DataW.trod enc Try.prog W 0 spare held k2 3 (List.take q (List.drop 0 [a0, a1]))) hCi).symm.trans (hf2 0 _ rfl)).trans r0
      have q1 : DataW.trod enc Try.prog W 0 spare held k2 3 [a1] = some x1 := ((congrArg (fun q => DataW.trod enc Try.prog W 0 spare held k2 3 (List.take q (List.drop 1 [a0, a1]))) hCi).symm.trans (hf2 1 _ rfl)).trans r1
      obtain ⟨b0, s0, _, _⟩ := DataW.trod_int Try.underlying3 q0
      obtain ⟨b1, s1, _, _⟩ := DataW.trod_int Try.underlying3 q1
      obtain ⟨b2, s2, _, _⟩ := DataW.trod_int Try.underlying3 h1
      obtain ⟨b3, s3, _⟩ := DataW.trod_bool Try.underlying4 h2
      obtain ⟨A4, n4, c4, l4, s4, t1, t2, t3, t4⟩ := intsAt h3
      obtain ⟨b5, s5, _, _⟩ := DataW.trod_int Try.underlying3 h4
      obtain ⟨b6, s6, _⟩ := DataW.trod_bool Try.underlying4 h5
      simp at s0 s1 s2 s3 s5 s6
      subst s0 s1 s2 s3 s4 s5 s6 t3
      refine ⟨((b0, b1, b2, b3, l4, b5, b6), A4, c4), fun j hj => ?_, t4, t1, t2⟩
      rw [← Go.Deep.add_add, hat j hj]
      rfl)
    exact ⟨some a, n, c, P.map Prod.fst, rfl, hl, hm, P, rfl, InRow.of_each itC (fun _ => rfl) P hll (by decide) (fun hn => ⟨a, rfl, fun i hi j hj => (hp i hi).1 j hj⟩), fun q hq => by
      obtain ⟨i, hi, rfl⟩ := List.getElem_of_mem hq
      exact (hp i hi).2⟩
theorem inItems (hv : Value.okWide Try.prog W .any base 35 v) (h : DataW.Trod enc Try.prog W 0 (fun _ => true) true 35 v d p) : InItems W v := by
  obtain ⟨a, n, c, rfl⟩ := okWide_slice Try.underlying35 hv
  obtain ⟨fuel, hf⟩ := h
  exact itemsAt (by simpa [Value.cells] using hf)
end
end Go.Proofs.Ythhlimbaoenkkaa
