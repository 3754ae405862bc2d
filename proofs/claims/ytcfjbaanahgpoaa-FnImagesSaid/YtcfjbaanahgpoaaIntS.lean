import Derived.Test.YtcfjbaanahgpoaaArr
import Derived.Test.YtcfjbaanahgpoaaTm
namespace Go.Proofs.Ytcfjbaanahgpoaa
open Go.RowKit
set_option maxRecDepth 100000
def intCells (l : List Int) : List Value := l.map (.int .i64)
theorem intCells_length (l : List Int) : (intCells l).length = l.length := by simp [intCells]
theorem intCells_at (l : List Int) (i : Nat) (hi : i < l.length) : (intCells l)[i]? = some (.int .i64 l[i]) := by simp [intCells, hi]
theorem intCells_snoc (l : List Int) (x : Int) : intCells (l ++ [x]) = intCells l ++ [.int .i64 x] := by simp [intCells]
theorem InRow.int {w : World} {A : Option Addr} {n : Nat} {l : List Int} (h : InRow w A n 1 (intCells l)) (k : Nat) (hk : k < l.length) : ∃ b o, A = some ⟨b, o, none⟩ ∧ b < w.heap.size ∧ w.cell? ⟨b, o + k, none⟩ = some (.int .i64 l[k]) := by
  have hl : l.length = n * 1 := by rw [← intCells_length]; exact h.1
  obtain ⟨b, o, e, hb, hc⟩ := h.2 (by omega)
  exact ⟨b, o, e, hb, (hc k (by omega)).trans (intCells_at l k hk)⟩
theorem take_eq_step1 {α : Type} (l l' : List α) (k : Nat) (h : k < l.length) (h' : k < l'.length) (ht : l.take k = l'.take k) (e : l[k] = l'[k]) : l.take (k + 1) = l'.take (k + 1) := by
  rw [List.take_succ_eq_append_getElem h, List.take_succ_eq_append_getElem h', ht, e]
theorem Try.infoInt : (Try.prog.info? 3).map (fun i => (i.zero, i.size, i.bytes)) = some (some (.int .i64 0), 1, 8) := by kernel_rfl
end Go.Proofs.Ytcfjbaanahgpoaa
