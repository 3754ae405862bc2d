import Derived.Test.YtcfjbaanahgpoaaArr
import Derived.Test.YtcfjbaanahgpoaaTm
namespace Go.Proofs.Ytcfjbaanahgpoaa
open Go.RowKit
set_option maxRecDepth 100000

theorem take_eq_step {α : Type} (l l' : List α) (k : Nat) (h : k < l.length) (h' : k < l'.length) (ht : l.take k = l'.take k) (e : l[k] = l'[k]) : l.take (k + 1) = l'.take (k + 1) := by
  rw [List.take_succ_eq_append_getElem h, List.take_succ_eq_append_getElem h', ht, e]
theorem tokCells_take_succ (l : List Tk) (k : Nat) (h : k < l.length) : tokCells (l.take (k + 1)) = tokCells (l.take k) ++ [.int .i64 l[k].1] ++ [.int .i64 l[k].2.1] ++ [.string l[k].2.2] := by
  rw [List.take_succ_eq_append_getElem h]; unfold tokCells; rw [List.flatMap_append]; simp [tokC]
theorem tokCells_set3 (l : List Tk) (k : Nat) (h : k < l.length) (zs : List Value) (hz : zs.length = l.length * 3) :
    (((tokCells (l.take k) ++ zs.drop (k * 3)).set (k * 3) (.int .i64 l[k].1)).set (k * 3 + 1) (.int .i64 l[k].2.1)).set (k * 3 + 2) (.string l[k].2.2) = tokCells (l.take (k + 1)) ++ zs.drop ((k + 1) * 3) := by
  have e : (tokCells (l.take k)).length = k * 3 := by rw [tokCells_length, List.length_take]; omega
  have s1 := set_prefix (tokCells (l.take k)) zs (.int .i64 l[k].1) (by omega)
  have s2 := set_prefix (tokCells (l.take k) ++ [.int .i64 l[k].1]) zs (.int .i64 l[k].2.1) (by simp; omega)
  have s3 := set_prefix (tokCells (l.take k) ++ [.int .i64 l[k].1] ++ [.int .i64 l[k].2.1]) zs (.string l[k].2.2) (by simp; omega)
  simp only [List.length_append, List.length_cons, List.length_nil, e, Nat.zero_add] at s1 s2 s3
  rw [s1, s2, s3, tokCells_take_succ l k h, show k * 3 + 1 + 1 + 1 = (k + 1) * 3 by omega]
theorem Try.infoTok : (Try.prog.info? 64).map (fun i => (i.zero, i.size, i.bytes)) = some (some (.agg #[.int .i64 0, .int .i64 0, .string ByteArray.empty]), 3, 32) := by kernel_rfl
end Go.Proofs.Ytcfjbaanahgpoaa
namespace Go.Proofs.Ytcfjbaanahgpoaa
open Go.RowKit
set_option maxRecDepth 100000
/-- The decimal digits of a number above 0 (none of 0). -/
def digD (n : Nat) : List UInt8 := if _h : n = 0 then [] else digD (n / 10) ++ [UInt8.ofNat (48 + n % 10)]
termination_by n
decreasing_by omega
theorem digD_zero : digD 0 = [] := by rw [digD]; rfl
theorem digD_pos (n : Nat) (h : 0 < n) : digD n = digD (n / 10) ++ [UInt8.ofNat (48 + n % 10)] := by rw [digD]; rw [dif_neg (by omega)]
def markT (k : Int) : ByteArray := if k ≤ 0 then ⟨#[109, 48]⟩ else ⟨(109 :: digD k.toNat).toArray⟩
theorem conv_one {P : Program} {src e : Nat} (hs : P.underlying src = some (.slice e)) (he : P.underlying e = some (.int .u8)) (dst : Nat) (hd : P.underlying dst = some .string) (W : World) (b : Int) (hb : 0 ≤ b ∧ b ≤ 255) :
    (convert src dst (.slice (some ⟨W.heap.size, 0, none⟩) 1 1)).run P (W.alloc (.cells #[.int .u8 b] e)) = .ok (.string ⟨[UInt8.ofNat b.toNat].toArray⟩) (W.alloc (.cells #[.int .u8 b] e)) := by
  refine run_convert_bytes_back _ src dst e ⟨W.heap.size, 0, none⟩ 1 [UInt8.ofNat b.toNat] hs he hd fun j hj => ?_
  rw [add_zero_off, (Blk.new W e _).cell j]
  have : j = 0 := by simpa using hj
  subst this
  simp
  omega
end Go.Proofs.Ytcfjbaanahgpoaa
namespace Go.Proofs.Ytcfjbaanahgpoaa
open Go.RowKit
set_option maxRecDepth 100000
def markTok1 (k0 : Int) (i : Nat) : List Value := [.int .i64 (k0 + (i * 3 : Nat)), .int .i64 (k0 + (i * 3 : Nat) + 1), .string (markT (k0 + (i * 3 : Nat) + 2))]
def markToks (k0 : Int) (n : Nat) : List Value := (List.range n).flatMap (markTok1 k0)
theorem markToks_length (k0 : Int) (n : Nat) : (markToks k0 n).length = n * 3 := by rw [markToks, flat_length _ 3 (fun _ => rfl), List.length_range]
theorem markToks_at (k0 : Int) (n i j : Nat) (h : i < n) (hj : j < 3) : (markToks k0 n)[i * 3 + j]? = (markTok1 k0 i)[j]? := by
  have := flat_at (markTok1 k0) 3 (fun _ => rfl) (List.range n) i j (by simpa using h) hj
  simpa [markToks] using this
theorem markToks_succ (k0 : Int) (n : Nat) : markToks k0 (n + 1) = markToks k0 n ++ [.int .i64 (k0 + (n * 3 : Nat))] ++ [.int .i64 (k0 + (n * 3 : Nat) + 1)] ++ [.string (markT (k0 + (n * 3 : Nat) + 2))] := by
  unfold markToks; rw [List.range_succ, List.flatMap_append]; simp [markTok1]
theorem markToks_set3 (k0 : Int) (i : Nat) (xs : List Value) (h : (i + 1) * 3 ≤ xs.length) :
    (((markToks k0 i ++ xs.drop (i * 3)).set (i * 3) (.int .i64 (k0 + (i * 3 : Nat)))).set (i * 3 + 1) (.int .i64 (k0 + (i * 3 : Nat) + 1))).set (i * 3 + 2) (.string (markT (k0 + (i * 3 : Nat) + 2))) = markToks k0 (i + 1) ++ xs.drop ((i + 1) * 3) := by
  have e := markToks_length k0 i
  have s1 := set_prefix (markToks k0 i) xs (.int .i64 (k0 + (i * 3 : Nat))) (by omega)
  have s2 := set_prefix (markToks k0 i ++ [.int .i64 (k0 + (i * 3 : Nat))]) xs (.int .i64 (k0 + (i * 3 : Nat) + 1)) (by simp; omega)
  have s3 := set_prefix (markToks k0 i ++ [.int .i64 (k0 + (i * 3 : Nat))] ++ [.int .i64 (k0 + (i * 3 : Nat) + 1)]) xs (.string (markT (k0 + (i * 3 : Nat) + 2))) (by simp; omega)
  simp only [List.length_append, List.length_cons, List.length_nil, e, Nat.zero_add] at s1 s2 s3
  rw [s1, s2, s3, markToks_succ, show i * 3 + 1 + 1 + 1 = (i + 1) * 3 by omega]
end Go.Proofs.Ytcfjbaanahgpoaa
