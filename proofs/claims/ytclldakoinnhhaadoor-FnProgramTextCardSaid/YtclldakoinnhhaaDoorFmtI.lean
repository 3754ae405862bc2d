import Derived.Test.YtclldakoinnhhaaDoorPUint
import Derived.Test.YtclldakoinnhhaaDoorDoor
import Derived.Test.YtclldakoinnhhaaDoorShelf
namespace Go.Proofs.YtclldakoinnhhaaDoor
open Go Go.RowKit
set_option maxRecDepth 100000
theorem digD_dec (n : Nat) : 0 < n → digD n = Lib.decDigits n := by
  induction n using Nat.strongRecOn with
  | _ n ih =>
    intro h
    rw [digD_pos n h, Lib.decDigits]
    by_cases h10 : n < 10
    · rw [dif_pos h10, show n / 10 = 0 by omega, digD_zero, List.nil_append, show n % 10 = n by omega]
    · rw [dif_neg h10, ih (n / 10) (by omega) (by omega)]
theorem decT_dec (n : Nat) : decT n = Lib.decDigits n := by
  unfold decT
  split
  · rename_i h; subst h; rw [Lib.decDigits]; rfl
  · exact digD_dec n (by omega)
set_option maxHeartbeats 400000 in
theorem i_formatInt (n : Int) (h0 : -9223372036854775808 ≤ n) (h1 : n ≤ 9223372036854775807) (w : World) (hp : PowIs w) :
    Calls Tryd.prog 24 #[.int .i64 n] w fun e w' => e = .returned (.string ⟨(Lib.itoa n).toArray⟩) ∧ Below w.heap.size w w' := by
  have HP := hide hp
  clear hp
  go_enter Tryd.func24, Tryd.ntmps24
  go_wp2_with fail
  refine (Tryd.strconv_Itoa n h0 h1 _ HP.out).mono ?_
  rintro e w' ⟨rfl, k, os, rfl⟩
  have hb := hide (Lib.below_grow w.heap.size w (Nat.le_refl _) k os)
  go_wp2_with fail
  go_ret
  exact ⟨rfl, hb.out⟩
end Go.Proofs.YtclldakoinnhhaaDoor
