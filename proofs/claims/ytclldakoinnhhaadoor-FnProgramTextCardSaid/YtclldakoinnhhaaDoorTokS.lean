import Derived.Test.YtclldakoinnhhaaDoorArr
import Derived.Test.YtclldakoinnhhaaDoorT3
namespace Go.Proofs.YtclldakoinnhhaaDoor
open Go.RowKit
set_option maxRecDepth 100000

theorem take_eq_step {α : Type} (l l' : List α) (k : Nat) (h : k < l.length) (h' : k < l'.length) (ht : l.take k = l'.take k) (e : l[k] = l'[k]) : l.take (k + 1) = l'.take (k + 1) := by
  rw [List.take_succ_eq_append_getElem h, List.take_succ_eq_append_getElem h', ht, e]
theorem tokCells_take_succ (l : List Tk) (k : Nat) (h : k < l.length) : tokCells (l.take (k + 1)) = tokCells (l.take k) ++ [.int .i64 l[k].1] ++ [.int .i64 l[k].2.1] ++ [.string l[k].2.2] := by
  rw [List.take_succ_eq_append_getElem h]; unfold tokCells; rw [List.flatMap_append]; simp [tokC]
theorem tokCells_set3 (l : List Tk) (k : Nat) (h : k < l.length) (zs : List Value) (hz : zs.length = l.length * 3) :
    (((tokCells (l.take k) ++ zs.drop (k * 3)).set (k * 3) (.int .i64 l[k].1)).set (k * 3 + 1) (.int .i64 l[k].2.1)).set (k * 3 + 2) (.string l[k].2.2) = tokCells (l.take (k + 1)) ++ zs.drop ((k + 1) * 3) := by
  have e : (tokCells (l.take k)).length = k * 3 := by rw [tokCells_length, List.length_take]; omega
  have s1 := set_prefix (tokCells (l.take k)) zs (.int .i64 l[k].1) (by omega)
  have s2 := set_prefix (tokCells (l.take k) ++ [.int .i64 l[k].1]) zs (.int .i64 l[k].2.1) (by simp; omega)
  have s3 := set_prefix (tokCells (l.take k) ++ [.int .i64 l[k].1] ++ [.int .i64 l[k].2.1]) zs (.string l[k].2.2) (by simp; omega)
  simp only [List.length_append, List.length_cons, List.length_nil, e, Nat.zero_add] at s1 s2 s3
  rw [s1, s2, s3, tokCells_take_succ l k h, show k * 3 + 1 + 1 + 1 = (k + 1) * 3 by omega]
theorem Tryd.infoTok : (Tryd.prog.info? 32).map (fun i => (i.zero, i.size, i.bytes)) = some (some (.agg #[.int .i64 0, .int .i64 0, .string ByteArray.empty]), 3, 32) := by kernel_rfl
end Go.Proofs.YtclldakoinnhhaaDoor
