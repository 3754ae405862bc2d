import Derived.Test.YtclldakoinnhhaaDoorPTokI
import Derived.Deep.CutRange
namespace Go.Proofs.YtclldakoinnhhaaDoor
open Go Go.RowKit
set_option maxRecDepth 100000
/-! What the reference tries, in its order. -/
def fit (s : ByteArray) (t : Tk) : Bool := tkOk t && decide (fmtTkF t = s)
def candJ (s : ByteArray) (j : Nat) : List Tk := (1, 0, s) :: (List.range j).map fun i => (((i : Nat) : Int) + 2, 0, ⟨#[]⟩)
noncomputable def numC (s : ByteArray) : List Tk := if puB s.data.toList = true ∧ puV s.data.toList ≤ 999 then [(0, puV s.data.toList, ⟨#[]⟩)] else []
def callC (s : ByteArray) : List Tk := if 2 < s.size ∧ s.data.toList.getD (s.size - 2) 0 = 47 then [(7, ((s.data.toList.getD (s.size - 1) 0).toNat : Int) - 48, s.extract 0 (s.size - 2))] else []
noncomputable def cands (s : ByteArray) : List Tk := candJ s 5 ++ numC s ++ callC s
theorem candJ_succ (s : ByteArray) (j : Nat) : candJ s (j + 1) = candJ s j ++ [((j : Int) + 2, 0, ⟨#[]⟩)] := by
  unfold candJ
  rw [List.range_succ, List.map_append]
  rfl
theorem candJ_length (s : ByteArray) (j : Nat) : (candJ s j).length = j + 1 := by simp [candJ]
theorem tokCells_snoc (l : List Tk) (t : Tk) : tokCells (l ++ [t]) = tokCells l ++ [.int .i64 t.1, .int .i64 t.2.1, .string t.2.2] := by
  unfold tokCells
  rw [List.flatMap_append]
  rfl
theorem callC_length (s : ByteArray) : (callC s).length ≤ 1 := by unfold callC; split <;> simp
theorem cands_size (s : ByteArray) (hs : s.size ≤ maxLen) : ∀ t ∈ cands s, t.2.2.size ≤ maxLen := by
  intro t ht
  unfold cands candJ numC callC at ht
  rcases List.mem_append.1 ht with ht | ht
  · rcases List.mem_append.1 ht with ht | ht
    · rcases List.mem_cons.1 ht with rfl | ht
      · exact hs
      · obtain ⟨i, _, rfl⟩ := List.mem_map.1 ht; exact Nat.zero_le _
    · split at ht
      · rw [List.mem_singleton.1 ht]; exact Nat.zero_le _
      · cases ht
  · split at ht
    · rw [List.mem_singleton.1 ht]
      show (s.extract 0 (s.size - 2)).size ≤ maxLen
      rw [ByteArray.size_extract]; omega
    · cases ht
end Go.Proofs.YtclldakoinnhhaaDoor
