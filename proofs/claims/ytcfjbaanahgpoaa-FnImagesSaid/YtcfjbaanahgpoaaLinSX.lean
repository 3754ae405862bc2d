import Derived.Test.YtcfjbaanahgpoaaLin
namespace Go.Proofs.Ytcfjbaanahgpoaa
open Go.RowKit
set_option maxRecDepth 100000
theorem sumLn (L : List Ln) : lnsCnt L ≤ 3 * (L.map fun x => x.2.2.1.length + x.2.2.2.length).sum + 2 * L.length := by
  unfold lnsCnt
  induction L with
  | nil => simp
  | cons x L ih => simp [lnCnt] at ih ⊢; omega
def lnTot (L : List Ln) : Nat := (L.map fun x => x.2.2.1.length + x.2.2.2.length).sum
theorem lnTot_mem (L : List Ln) (x : Ln) (h : x ∈ L) : x.2.2.1.length + x.2.2.2.length ≤ lnTot L := by
  unfold lnTot
  induction L with
  | nil => simp at h
  | cons y L ih =>
    simp only [List.map_cons, List.sum_cons]
    rcases List.mem_cons.1 h with rfl | h
    · omega
    · have := ih h; omega
theorem lnTot_snoc (L : List Ln) (x : Ln) : lnTot (L ++ [x]) = lnTot L + (x.2.2.1.length + x.2.2.2.length) := by simp [lnTot]
end Go.Proofs.Ytcfjbaanahgpoaa
namespace Go.Proofs.Ytcfjbaanahgpoaa
open Go.RowKit
set_option maxRecDepth 100000
theorem lnC_flat_length (P : List LP) : (P.flatMap lnC).length = P.length * 4 := flat_length lnC 4 (fun _ => rfl) P
theorem Try.infoLine : (Try.prog.info? 34).map (fun i => (i.zero, i.size, i.bytes)) = some (some (.agg #[.int .i64 0, .string ByteArray.empty, .slice none 0 0, .slice none 0 0]), 4, 72) := by kernel_rfl
end Go.Proofs.Ytcfjbaanahgpoaa
