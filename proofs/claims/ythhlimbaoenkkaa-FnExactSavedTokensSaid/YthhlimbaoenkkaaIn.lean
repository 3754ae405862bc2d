/- What an argument of a law reads as: for each parameter type a predicate, and that a reading gives it. -/
import Derived.Test.YthhlimbaoenkkaaRows
import Derived.Test.YthhlimbaoenkkaaArr
import Derived.ProofKit
import Derived.OpenShut
import Derived.ShutString
import Derived.ChangeOld
import Derived.Below
import Derived.Lib.SmallJoins
import Derived.Deep.Slices
import Derived.Deep.Fields
namespace Go.Proofs.Ythhlimbaoenkkaa
open Go.ChangeShapes Go.WideShapes Go.ChangeAt Go.RowKit
open Go.ChangeMaps (open_string shut_string)
open Go.Deep

set_option maxRecDepth 100000
theorem In.own : ownKnob Try.prog.godebug = none := by kernel_rfl
theorem In.laidOut : laidOutB Try.prog = true := by kernel_rfl

section
variable {H : Type} {enc : TypeId × Value → H} {P : Program} {w : World} {base : Nat} {spare : Nat → Bool} {held : Bool}
theorem open_slice_fields {t e : TypeId} {fs : Array Field} {fuel : Nat} {cs : List Value} {x : DataW H × List MemPlace} (ht : P.underlying t = some (.slice e)) (he : P.underlying e = some (.struct fs))
    (hone : oneCellFields P fs = true) (hC : P.cellsOf e = fs.size) (h : DataW.trod enc P w base spare held fuel t cs = some x) :
    (cs = [.slice none 0 0] ∧ x = (.nil, [])) ∨
    ∃ (a : Addr) (len cap m : Nat) (D : Nat → DataW H) (Pl : Nat → List MemPlace), cs = [.slice (some a) len cap] ∧ base ≤ a.block ∧ len ≤ cap ∧ cap ≤ maxLen ∧ m = (if spare a.block then cap else len) ∧
      x = (.slice ((List.range len).map D) ((List.range (m - len)).map fun j => D (len + j)), MemPlace.row a (m * fs.size) ++ (List.range m).flatMap Pl) ∧
      ∀ i, i < m → ∃ (ys : List (DataW H × List MemPlace)) (n : Nat), D i = .agg (ys.map (·.1)) ∧ Pl i = ys.flatMap (·.2) ∧ ys.length = fs.size ∧
        ∀ (j : Nat) (f : Field), fs[j]? = some f → ∃ (v : Value) (y : DataW H × List MemPlace), w.cell? (a.add (i * fs.size + j)) = some v ∧ ys[j]? = some y ∧ DataW.trod enc P w base spare held n f.type [v] = some y := by
  rcases open_slice ht h with h0 | ⟨a, len, cap, m, n, D, Pl, hcs, hb, hl, hm, hmm, hx, hi⟩
  · exact .inl h0
  · refine .inr ⟨a, len, cap, m, D, Pl, hcs, hb, hl, hm, hmm, by rw [hC] at hx; exact hx, fun i him => ?_⟩
    obtain ⟨cs', hc, ht'⟩ := hi i him
    rw [hC] at hc
    obtain ⟨ys, n', hn', hy, hlen, hyl, hf⟩ := DataW.trod_struct he ht'
    obtain ⟨_, hcl, hat⟩ := World.cells?_some hc
    simp only [Prod.mk.injEq] at hy
    refine ⟨ys, n', hy.1, hy.2, hyl, fun j f hj => ?_⟩
    obtain ⟨ho, hk⟩ := hone_of hone j f hj
    have hjl : j < fs.size := (Array.getElem?_eq_some_iff.1 hj).1
    have hcell := hat j hjl
    have hv : cs'[j]? = some (cs'[j]'(by omega)) := List.getElem?_eq_getElem (by omega)
    have h1 := hf j f hj
    rw [ho, hk] at h1
    have hone' : (cs'.drop j).take 1 = [cs'[j]'(by omega)] := by
      rw [List.drop_eq_getElem_cons (by omega)]
      rfl
    rw [hone'] at h1
    have hys : ys[j]? = some (ys[j]'(by omega)) := List.getElem?_eq_getElem (by omega)
    refine ⟨_, _, ?_, hys, h1.trans hys⟩
    rw [← Go.Deep.add_add, hcell, hv]
theorem block_lt_of_cell {a : Addr} {u : Value} (h : w.cell? a = some u) : a.block < w.heap.size := by
  rcases Nat.lt_or_ge a.block w.heap.size with hlt | hge
  · exact hlt
  · exfalso
    have : w.heap[a.block]? = none := Array.getElem?_eq_none hge
    simp [World.cell?, this] at h
end
section
variable {H : Type} {enc : TypeId × Value → H} {W : World} {base : Nat} {v : Value} {d : DataW H} {p : List MemPlace}

def InInt (_w : World) (v : Value) : Prop := ∃ a : Int, v = .int .i64 a ∧ -9223372036854775808 ≤ a ∧ a ≤ 9223372036854775807
theorem inInt (hv : Value.okWide Try.prog W .any base 3 v) (h : DataW.Trod enc Try.prog W 0 (fun _ => true) true 3 v d p) : InInt W v := by
  obtain ⟨a, rfl, rfl, rfl, wf⟩ := open_int Try.underlying3 hv h
  exact ⟨a, rfl, by simpa [Lit.wf, IntKind.min, IntKind.max, IntKind.signed, IntKind.bits] using wf⟩
def InString (_w : World) (v : Value) : Prop := ∃ s : ByteArray, v = .string s ∧ s.size ≤ maxLen
theorem inString (hv : Value.okWide Try.prog W .any base 9 v) (h : DataW.Trod enc Try.prog W 0 (fun _ => true) true 9 v d p) : InString W v := by
  obtain ⟨s, rfl, rfl, rfl, ws⟩ := open_string Try.underlying9 hv h
  exact ⟨s, rfl, ws⟩
def InBytes (w : World) (v : Value) : Prop := ∃ (A : Option Addr) (n c : Nat), v = .slice A n c ∧ n ≤ c ∧ c ≤ maxLen ∧ (0 < n → ∃ (ad : Addr) (f : Nat → Int), A = some ad ∧ ∀ i, i < n → w.cell? (ad.add i) = some (.int .u8 (f i)) ∧ 0 ≤ f i ∧ f i ≤ 255)
theorem inBytes (hv : Value.okWide Try.prog W .any base 22 v) (h : DataW.Trod enc Try.prog W 0 (fun _ => true) true 22 v d p) : InBytes W v := by
  obtain ⟨a, n, c, rfl⟩ := okWide_slice Try.underlying22 hv
  obtain ⟨fuel, hf⟩ := h
  rcases open_ints Try.underlying22 Try.underlying5 (by kernel_rfl) hf with ⟨hcs, _⟩ | ⟨x, l, c', zs, hcs, _, hl, hm, hz, _, hcell, hwz⟩
  · simp [Value.cells] at hcs
    obtain ⟨rfl, rfl, rfl⟩ := hcs
    exact ⟨none, 0, 0, rfl, Nat.le_refl _, Nat.zero_le _, fun h => absurd h (by omega)⟩
  · simp [Value.cells] at hcs
    obtain ⟨rfl, rfl, rfl⟩ := hcs
    simp at hz
    refine ⟨some x, n, c, rfl, hl, hm, fun _ => ⟨x, fun i => zs.getD i 0, rfl, fun i hi => ⟨hcell i (by omega), ?_⟩⟩⟩
    have hi' : i < zs.length := by omega
    have hw := hwz (zs.getD i 0) (by rw [List.getD_eq_getElem?_getD, List.getElem?_eq_getElem hi']; exact List.getElem_mem _)
    simpa [Lit.wf, IntKind.min, IntKind.max, IntKind.signed, IntKind.bits] using hw
def InTok (_w : World) (v : Value) : Prop := ∃ (k n : Int) (s : ByteArray), v = .agg #[.int .i64 k, .int .i64 n, .string s] ∧ s.size ≤ maxLen
theorem inTok (hv : Value.okWide Try.prog W .any base 102 v) (h : DataW.Trod enc Try.prog W 0 (fun _ => true) true 102 v d p) : InTok W v := by
  obtain ⟨v0, v1, v2, y0, y1, y2, n, rfl, rfl, rfl, h0, h1, h2⟩ := Joins.open_agg3 Try.underlying102 (by kernel_rfl) (by kernel_rfl) hv h
  obtain ⟨a0, e0, rfl, _⟩ := DataW.trod_int Try.underlying3 h0
  obtain ⟨a1, e1, rfl, _⟩ := DataW.trod_int Try.underlying3 h1
  obtain ⟨a2, e2, rfl, hs⟩ := DataW.trod_string Try.underlying9 h2
  simp at e0 e1 e2
  subst e0 e1 e2
  exact ⟨_, _, _, rfl, hs⟩
def InOp (_w : World) (v : Value) : Prop := ∃ (k n : Int), v = .agg #[.int .i64 k, .int .i64 n] ∧ (-9223372036854775808 ≤ k ∧ k ≤ 9223372036854775807) ∧ (-9223372036854775808 ≤ n ∧ n ≤ 9223372036854775807)
theorem inOp (hv : Value.okWide Try.prog W .any base 93 v) (h : DataW.Trod enc Try.prog W 0 (fun _ => true) true 93 v d p) : InOp W v := by
  obtain ⟨v0, v1, y0, y1, n, rfl, rfl, rfl, h0, h1⟩ := Joins.open_agg2 Try.underlying93 (by kernel_rfl) (by kernel_rfl) hv h
  obtain ⟨a0, e0, rfl, w0⟩ := DataW.trod_int Try.underlying3 h0
  obtain ⟨a1, e1, rfl, w1⟩ := DataW.trod_int Try.underlying3 h1
  simp at e0 e1
  subst e0 e1
  exact ⟨_, _, rfl, by simpa [Lit.wf, IntKind.min, IntKind.max, IntKind.signed, IntKind.bits] using w0, by simpa [Lit.wf, IntKind.min, IntKind.max, IntKind.signed, IntKind.bits] using w1⟩
/-- A slice of tokens, by what its one cell reads as (it may lie in a struct too). -/
def ToksAt (W : World) (v : Value) : Prop := ∃ (A : Option Addr) (n c : Nat) (l : List Tk), v = .slice A n c ∧ n ≤ c ∧ c ≤ maxLen ∧ l.length = n ∧ InRow W A n 3 (tokCells l) ∧ ∀ t ∈ l, t.2.2.size ≤ maxLen
theorem toksAt {spare : Nat → Bool} {held : Bool} {fuel : Nat} {x : DataW H × List MemPlace} (hf : DataW.trod enc Try.prog W 0 spare held fuel 42 [v] = some x) : ToksAt W v := by
  rcases open_slice_fields Try.underlying42 Try.underlying102 (by kernel_rfl) (by kernel_rfl) hf with ⟨hcs, _⟩ | ⟨a, n, c, m, D, Pl, hcs, _, hl, hm, hmm, _, hi⟩
  · simp at hcs
    subst hcs
    exact ⟨none, 0, 0, [], rfl, Nat.le_refl _, Nat.zero_le _, rfl, InRow.nil_ _ _ _, fun t h => by simp at h⟩
  · simp at hcs
    subst hcs
    have hnm : n ≤ m := by rw [hmm]; split <;> omega
    obtain ⟨l, hll, hp⟩ := list_of (P := fun i (t : Tk) => (∀ j, j < 3 → W.cell? (a.add (i * 3 + j)) = (tokC t)[j]?) ∧ t.2.2.size ≤ maxLen) n (fun i hin => by
      obtain ⟨ys, k, _, _, _, hf⟩ := hi i (by omega)
      obtain ⟨v0, y0, e0, _, h0⟩ := hf 0 _ rfl
      obtain ⟨v1, y1, e1, _, h1⟩ := hf 1 _ rfl
      obtain ⟨v2, y2, e2, _, h2⟩ := hf 2 _ rfl
      obtain ⟨a0, r0, _, _⟩ := DataW.trod_int Try.underlying3 h0
      obtain ⟨a1, r1, _, _⟩ := DataW.trod_int Try.underlying3 h1
      obtain ⟨a2, r2, _, hs⟩ := DataW.trod_string Try.underlying9 h2
      simp at r0 r1 r2
      subst r0 r1 r2
      refine ⟨(a0, a1, a2), fun j hj => ?_, hs⟩
      match j, hj with
      | 0, _ => exact e0
      | 1, _ => exact e1
      | 2, _ => exact e2)
    refine ⟨some a, n, c, l, rfl, hl, hm, hll, InRow.of_each tokC (fun _ => rfl) l hll (by decide) (fun hn => ⟨a, rfl, fun i hi j hj => (hp i hi).1 j hj⟩), fun t ht => ?_⟩
    · obtain ⟨i, hi, rfl⟩ := List.getElem_of_mem ht
      exact (hp i hi).2
def InToks (w : World) (v : Value) : Prop := ToksAt w v
theorem inToks (hv : Value.okWide Try.prog W .any base 42 v) (h : DataW.Trod enc Try.prog W 0 (fun _ => true) true 42 v d p) : InToks W v := by
  obtain ⟨a, n, c, rfl⟩ := okWide_slice Try.underlying42 hv
  obtain ⟨fuel, hf⟩ := h
  exact toksAt (by simpa [Value.cells] using hf)
end
end Go.Proofs.Ythhlimbaoenkkaa
