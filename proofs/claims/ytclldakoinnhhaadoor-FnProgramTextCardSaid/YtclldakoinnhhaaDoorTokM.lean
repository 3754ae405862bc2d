import Derived.Test.YtclldakoinnhhaaDoorTokS2
namespace Go.Proofs.YtclldakoinnhhaaDoor
open Go.RowKit
set_option maxRecDepth 100000
def markTok1 (k0 : Int) (i : Nat) : List Value := [.int .i64 (k0 + (i * 3 : Nat)), .int .i64 (k0 + (i * 3 : Nat) + 1), .string (markT (k0 + (i * 3 : Nat) + 2))]
def markToks (k0 : Int) (n : Nat) : List Value := (List.range n).flatMap (markTok1 k0)
theorem markToks_length (k0 : Int) (n : Nat) : (markToks k0 n).length = n * 3 := by rw [markToks, flat_length _ 3 (fun _ => rfl), List.length_range]
theorem markToks_at (k0 : Int) (n i j : Nat) (h : i < n) (hj : j < 3) : (markToks k0 n)[i * 3 + j]? = (markTok1 k0 i)[j]? := by
  have := flat_at (markTok1 k0) 3 (fun _ => rfl) (List.range n) i j (by simpa using h) hj
  simpa [markToks] using this
theorem markToks_succ (k0 : Int) (n : Nat) : markToks k0 (n + 1) = markToks k0 n ++ [.int .i64 (k0 + (n * 3 : Nat))] ++ [.int .i64 (k0 + (n * 3 : Nat) + 1)] ++ [.string (markT (k0 + (n * 3 : Nat) + 2))] := by
  unfold markToks; rw [List.range_succ, List.flatMap_append]; simp [markTok1]
theorem markToks_set3 (k0 : Int) (i : Nat) (xs : List Value) (h : (i + 1) * 3 ≤ xs.length) :
    (((markToks k0 i ++ xs.drop (i * 3)).set (i * 3) (.int .i64 (k0 + (i * 3 : Nat)))).set (i * 3 + 1) (.int .i64 (k0 + (i * 3 : Nat) + 1))).set (i * 3 + 2) (.string (markT (k0 + (i * 3 : Nat) + 2))) = markToks k0 (i + 1) ++ xs.drop ((i + 1) * 3) := by
  have e := markToks_length k0 i
  have s1 := set_prefix (markToks k0 i) xs (.int .i64 (k0 + (i * 3 : Nat))) (by omega)
  have s2 := set_prefix (markToks k0 i ++ [.int .i64 (k0 + (i * 3 : Nat))]) xs (.int .i64 (k0 + (i * 3 : Nat) + 1)) (by simp; omega)
  have s3 := set_prefix (markToks k0 i ++ [.int .i64 (k0 + (i * 3 : Nat))] ++ [.int .i64 (k0 + (i * 3 : Nat) + 1)]) xs (.string (markT (k0 + (i * 3 : Nat) + 2))) (by simp; omega)
  simp only [List.length_append, List.length_cons, List.length_nil, e, Nat.zero_add] at s1 s2 s3
  rw [s1, s2, s3, markToks_succ, show i * 3 + 1 + 1 + 1 = (i + 1) * 3 by omega]
end Go.Proofs.YtclldakoinnhhaaDoor
