import Derived.Test.YtcfjbaanahgpoaaTokX
import Derived.Test.YtcfjbaanahgpoaaLin
namespace Go.Proofs.Ytcfjbaanahgpoaa
open Go.RowKit
set_option maxRecDepth 100000
abbrev Sy := ByteArray × Int × Int
def symC (t : Sy) : List Value := [.string t.1, .int .i64 t.2.1, .int .i64 t.2.2]
def symCells (l : List Sy) : List Value := l.flatMap symC
theorem symCells_length (l : List Sy) : (symCells l).length = l.length * 3 := flat_length _ 3 (fun _ => rfl) l
theorem InRow.sym {w : World} {A : Option Addr} {n : Nat} {l : List Sy} (h : InRow w A n 3 (symCells l)) (k : Nat) (hk : k < l.length) : ∃ b o, A = some ⟨b, o, none⟩ ∧ b < w.heap.size ∧
    w.cell? ⟨b, o + k * 3, none⟩ = some (.string l[k].1) ∧ w.cell? ⟨b, o + k * 3 + 1, none⟩ = some (.int .i64 l[k].2.1) ∧ w.cell? ⟨b, o + k * 3 + 2, none⟩ = some (.int .i64 l[k].2.2) := by
  have hl : l.length * 3 = n * 3 := by rw [← symCells_length]; exact h.1
  obtain ⟨b, o, e, hb, hc⟩ := h.2 (by omega)
  have t := fun j hj => flat_at symC 3 (fun _ => rfl) l k j hk hj
  exact ⟨b, o, e, hb, (hc (k * 3) (by omega)).trans (t 0 (by omega)), (hc (k * 3 + 1) (by omega)).trans (t 1 (by omega)), (hc (k * 3 + 2) (by omega)).trans (t 2 (by omega))⟩
theorem symCells_take_succ (l : List Sy) (k : Nat) (h : k < l.length) : symCells (l.take (k + 1)) = symCells (l.take k) ++ [.string l[k].1] ++ [.int .i64 l[k].2.1] ++ [.int .i64 l[k].2.2] := by
  rw [List.take_succ_eq_append_getElem h]; unfold symCells; rw [List.flatMap_append]; simp [symC]
theorem symCells_set3 (l : List Sy) (k : Nat) (h : k < l.length) (zs : List Value) (hz : zs.length = l.length * 3) :
    (((symCells (l.take k) ++ zs.drop (k * 3)).set (k * 3) (.string l[k].1)).set (k * 3 + 1) (.int .i64 l[k].2.1)).set (k * 3 + 2) (.int .i64 l[k].2.2) = symCells (l.take (k + 1)) ++ zs.drop ((k + 1) * 3) := by
  have e : (symCells (l.take k)).length = k * 3 := by rw [symCells_length, List.length_take]; omega
  have s1 := set_prefix (symCells (l.take k)) zs (.string l[k].1) (by omega)
  have s2 := set_prefix (symCells (l.take k) ++ [.string l[k].1]) zs (.int .i64 l[k].2.1) (by simp; omega)
  have s3 := set_prefix (symCells (l.take k) ++ [.string l[k].1] ++ [.int .i64 l[k].2.1]) zs (.int .i64 l[k].2.2) (by simp; omega)
  simp only [List.length_append, List.length_cons, List.length_nil, e, Nat.zero_add] at s1 s2 s3
  rw [s1, s2, s3, symCells_take_succ l k h, show k * 3 + 1 + 1 + 1 = (k + 1) * 3 by omega]
theorem Try.infoSym : (Try.prog.info? 79).map (fun i => (i.zero, i.size, i.bytes)) = some (some (.agg #[.string ByteArray.empty, .int .i64 0, .int .i64 0]), 3, 32) := by kernel_rfl
abbrev Im := ByteArray × List Sy
def ImIn (w : World) (x : Im) (A : Option Addr) (c : Nat) : Prop := InRow w A x.2.length 3 (symCells x.2) ∧ x.2.length ≤ c ∧ c ≤ maxLen
def ImSz (x : Im) : Prop := x.1.size ≤ maxLen ∧ ∀ t ∈ x.2, t.1.size ≤ maxLen
theorem ImIn.below {w w' : World} {x : Im} {A : Option Addr} {c : Nat} (h : ImIn w x A c) (hb : Below w.heap.size w w') : ImIn w' x A c := ⟨h.1.below hb, h.2⟩
theorem imIn_own {w : World} {lo hi : Nat} {x : Im} {A : Option Addr} (h : Arr w lo hi A x.2.length 3 (symCells x.2)) (hn : x.1.size + x.2.length ≤ 1048576) : ImIn w x A x.2.length := ⟨.of_arr h, Nat.le_refl _, by unfold maxLen; omega⟩
end Go.Proofs.Ytcfjbaanahgpoaa
