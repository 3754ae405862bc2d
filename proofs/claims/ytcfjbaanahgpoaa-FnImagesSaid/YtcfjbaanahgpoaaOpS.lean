import Derived.Test.YtcfjbaanahgpoaaArr
import Derived.Test.YtcfjbaanahgpoaaOpD
namespace Go.Proofs.Ytcfjbaanahgpoaa
open Go.RowKit
def opCells (l : List (Int × Int)) : List Value := l.flatMap fun x => [.int .i64 x.1, .int .i64 x.2]
theorem opCells_length (l : List (Int × Int)) : (opCells l).length = l.length * 2 := by
  induction l with
  | nil => rfl
  | cons x l ih => simp only [opCells, List.flatMap_cons, List.length_append, List.length_cons, List.length_nil] at ih ⊢; omega
theorem opCells_snoc (l : List (Int × Int)) (x : Int × Int) : opCells (l ++ [x]) = opCells l ++ [.int .i64 x.1, .int .i64 x.2] := by simp [opCells]
theorem opCells_at (l : List (Int × Int)) (i : Nat) (hi : i < l.length) : (opCells l)[i * 2]? = some (.int .i64 l[i].1) ∧ (opCells l)[i * 2 + 1]? = some (.int .i64 l[i].2) :=
  ⟨flat_at _ 2 (fun _ => rfl) l i 0 hi (by omega), flat_at _ 2 (fun _ => rfl) l i 1 hi (by omega)⟩
theorem take_eq_step {α : Type} (l l' : List α) (k : Nat) (h : k < l.length) (h' : k < l'.length) (ht : l.take k = l'.take k) (e : l[k] = l'[k]) : l.take (k + 1) = l'.take (k + 1) := by
  rw [List.take_succ_eq_append_getElem h, List.take_succ_eq_append_getElem h', ht, e]
end Go.Proofs.Ytcfjbaanahgpoaa
