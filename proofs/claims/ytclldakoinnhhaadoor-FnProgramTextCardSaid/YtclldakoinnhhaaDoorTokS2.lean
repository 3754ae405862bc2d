import Derived.Test.YtclldakoinnhhaaDoorTokS
namespace Go.Proofs.YtclldakoinnhhaaDoor
open Go.RowKit
set_option maxRecDepth 100000
/-- The decimal digits of a number above 0 (none of 0). -/
def digD (n : Nat) : List UInt8 := if _h : n = 0 then [] else digD (n / 10) ++ [UInt8.ofNat (48 + n % 10)]
termination_by n
decreasing_by omega
theorem digD_zero : digD 0 = [] := by rw [digD]; rfl
theorem digD_pos (n : Nat) (h : 0 < n) : digD n = digD (n / 10) ++ [UInt8.ofNat (48 + n % 10)] := by rw [digD]; rw [dif_neg (by omega)]
def markT (k : Int) : ByteArray := if k ≤ 0 then ⟨#[109, 48]⟩ else ⟨(109 :: digD k.toNat).toArray⟩
theorem conv_one {P : Program} {src e : Nat} (hs : P.underlying src = some (.slice e)) (he : P.underlying e = some (.int .u8)) (dst : Nat) (hd : P.underlying dst = some .string) (W : World) (b : Int) (hb : 0 ≤ b ∧ b ≤ 255) :
    (convert src dst (.slice (some ⟨W.heap.size, 0, none⟩) 1 1)).run P (W.alloc (.cells #[.int .u8 b] e)) = .ok (.string ⟨[UInt8.ofNat b.toNat].toArray⟩) (W.alloc (.cells #[.int .u8 b] e)) := by
  refine run_convert_bytes_back _ src dst e ⟨W.heap.size, 0, none⟩ 1 [UInt8.ofNat b.toNat] hs he hd fun j hj => ?_
  rw [add_zero_off, (Blk.new W e _).cell j]
  have : j = 0 := by simpa using hj
  subst this
  simp
  omega
end Go.Proofs.YtclldakoinnhhaaDoor
