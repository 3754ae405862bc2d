import Derived.Test.YtapfbnojodafjaaDoorHex
namespace Go.Proofs.YtapfbnojodafjaaDoor
open Go.RowKit
set_option maxRecDepth 100000

def unhex (c : UInt8) : Int := if 48 ≤ c.toNat ∧ c.toNat ≤ 57 then (c.toNat : Int) - 48 else if 97 ≤ c.toNat ∧ c.toNat ≤ 102 then (c.toNat : Int) - 87 else -1
theorem unhex_range (c : UInt8) : -1 ≤ unhex c ∧ unhex c ≤ 15 := by unfold unhex; repeat' split
                                                                    all_goals omega
def pairV (l : List UInt8) (j : Nat) : Option UInt8 :=
  if unhex (l.getD (2 * j) 0) < 0 ∨ unhex (l.getD (2 * j + 1) 0) < 0 then none
  else some (UInt8.ofNat (unhex (l.getD (2 * j) 0) * 16 + unhex (l.getD (2 * j + 1) 0)).toNat)
def decL (l : List UInt8) : Nat → Option (List UInt8)
  | 0 => some []
  | k + 1 => match decL l k, pairV l k with
    | some xs, some b => some (xs ++ [b])
    | _, _ => none
theorem decL_none (l : List UInt8) (k : Nat) (h : pairV l k = none) : ∀ m, k < m → decL l m = none := by
  intro m
  induction m with
  | zero => intro h; omega
  | succ m ih =>
    intro hk
    unfold decL
    rcases Nat.lt_or_ge k m with h1 | h1
    · rw [ih h1]
    · have : m = k := by omega
      subst this
      rw [h]
      cases decL l m <;> rfl
theorem decL_length (l : List UInt8) : ∀ k xs, decL l k = some xs → xs.length = k := by
  intro k
  induction k with
  | zero => intro xs h; simp [decL] at h; subst h; rfl
  | succ k ih =>
    intro xs h
    unfold decL at h
    cases h1 : decL l k with
    | none => rw [h1] at h; simp at h
    | some ys =>
      cases h2 : pairV l k with
      | none => rw [h1, h2] at h; simp at h
      | some b =>
        rw [h1, h2] at h
        simp at h
        subst h
        simp [ih ys h1]
def decHexF (l : List UInt8) : Option (List UInt8) := if l.length % 2 = 0 ∧ l.length ≤ 40000 then decL l (l.length / 2) else none
def optL (o : Option (List UInt8)) : List UInt8 := o.getD []
theorem u8_cell (x : Int) (h : 0 ≤ x ∧ x ≤ 255) : ((UInt8.ofNat x.toNat).toNat : Int) = x := by simp; omega
theorem byte_cell (a b : Int) (ha : 0 ≤ a ∧ a ≤ 15) (hb : 0 ≤ b ∧ b ≤ 15) : [Value.int .u8 (a * 16 + b)] = bcells [UInt8.ofNat (a * 16 + b).toNat] := by
  simp only [bcells, List.map_cons, List.map_nil]
  rw [u8_cell _ (by omega)]
theorem ownsRow_drewN {w : World} {base e size n : Nat} {v : Value} {xs : List Value} (h : w.ownsRow base e size v n xs) (k : Nat) : (w.drewN k).ownsRow base e size v n xs := h
theorem byte_cell' (a b : Int) (ha : 0 ≤ a ∧ a ≤ 15) (hb : 0 ≤ b ∧ b ≤ 15) : [Value.int .u8 (16 * a + b)] = bcells [UInt8.ofNat (a * 16 + b).toNat] := by
  rw [← byte_cell a b ha hb, Int.mul_comm]
/-- One round's pair. -/
theorem pair_bad (s : ByteArray) (k j : Nat) (hj : j = 2 * k) (h : j + 1 < s.size) (hb : unhex s[j] < 0 ∨ unhex s[j + 1] < 0) (hl : s.size % 2 = 0 ∧ s.size ≤ 40000) : decHexF s.data.toList = none := by
  subst hj
  unfold decHexF
  rw [len_toList, if_pos hl]
  refine decL_none _ k ?_ _ (by omega)
  unfold pairV
  rw [getD_toList s _ (by omega), getD_toList s _ h, if_pos hb]
theorem pair_good (s : ByteArray) (k j : Nat) (hj : j = 2 * k) (h : j + 1 < s.size) (hb : ¬ (unhex s[j] < 0 ∨ unhex s[j + 1] < 0)) (xs : List UInt8) (hx : decL s.data.toList k = some xs) :
    decL s.data.toList (k + 1) = some (xs ++ [UInt8.ofNat (unhex s[j] * 16 + unhex s[j + 1]).toNat]) := by
  subst hj
  have hp : pairV s.data.toList k = some (UInt8.ofNat (unhex s[2 * k] * 16 + unhex s[2 * k + 1]).toNat) := by
    unfold pairV
    rw [getD_toList s _ (by omega), getD_toList s _ h, if_neg hb]
  simp only [decL, hx, hp]
theorem dec_end (s : ByteArray) (k : Nat) (h1 : s.size ≤ 2 * k) (h2 : 2 * k ≤ s.size) (hl : s.size % 2 = 0 ∧ s.size ≤ 40000) (xs : List UInt8) (hx : decL s.data.toList k = some xs) : decHexF s.data.toList = some xs := by
  unfold decHexF
  rw [len_toList, if_pos hl, show s.size / 2 = k by omega]
  exact hx
set_option maxHeartbeats 400000 in
theorem i_hexDigit (c : UInt8) (w : World) :
    Calls Tryd.prog 76 #[.int .u8 (c.toNat : Int)] w fun e w' => e = .returned (.int .i64 (unhex c)) ∧ w = w' := by
  have hq : c.toNat < 256 := c.toNat_lt
  go_enter Tryd.func76, Tryd.ntmps76
  go_wp2
  all_goals go_ret
  all_goals refine ⟨ret_int ?_, rfl⟩
  all_goals unfold unhex
  all_goals go_light
  all_goals repeat' split
  all_goals omega
set_option maxHeartbeats 400000 in
theorem i_decodeHex (s : ByteArray) (hs : s.size ≤ maxLen) (w : World) :
    Calls Tryd.prog 22 #[.string s] w fun e w' => e = .returned (.tuple #[.string ⟨(optL (decHexF s.data.toList)).toArray⟩, .bool (decHexF s.data.toList).isSome]) ∧ Below w.heap.size w w' := by
  unfold maxLen at hs
  obtain ⟨i0, hi, hz0, hz1, hz2⟩ := info_parts Tryd.info8
  by_cases hl : s.size % 2 = 0 ∧ s.size ≤ 40000
  · have HL := hide hl
    obtain ⟨hl1, hl2⟩ := hl
    have g1 : (((s.size : Int) % 2) != 0) = false := by rw [bne_eq_false_iff_eq]; omega
    have g2 : decide (20000 < (s.size : Int) / 2) = false := decide_eq_false (by omega)
    clear hl1
    go_enter Tryd.func22, Tryd.ntmps22
    go_wp2_with (at_make; refine wpList_make_own _ rfl _ _ 24 rfl w.heap.size 5 i0 (.int .u8 0) 1 Tryd.underlying24 hi hz0 hz1 _ _ _ (s.size / 2) rfl rfl ?c1 ?c2 ?c3 ?c4 ?_)
    case c1 => omega
    case c2 => rw [hz2]; omega
    case c3 => unfold maxLen; omega
    case c4 => exact Nat.le_refl _
    intro w1 hown1 hg1
    have hb1 : Below w.heap.size w w1 := (Below.refl _ _).grown hg1 (Nat.le_refl _) (by simp)
    go_wp2
    go_loopw [4, 5] (fun v i wr => ∃ (k j : Nat) (xs : List UInt8), j = 2 * k ∧ j ≤ s.size ∧ i = .int .i64 j ∧ decL s.data.toList k = some xs ∧ wr.ownsRow w.heap.size 5 1 v k (bcells xs) ∧ Below w.heap.size w wr) (fun _ i _ => s.size - (intOf i).toNat)
    case atStart => exact ⟨0, 0, [], rfl, Nat.zero_le _, rfl, rfl, hown1, hb1⟩
    case round =>
      obtain ⟨k, j, xs, hj, hk, rfl, hdec, hown, hb⟩ := hrel
      have HO := hide hown
      have HB := hide hb
      have HD := hide hdec
      have HJ := hide hj
      clear hown hb hdec hj
      by_cases hlt : j < s.size
      · have hlt1 : j + 1 < s.size := by have := HL.out.1; have := HJ.out; omega
        have ua := unhex_range s[j]
        have ub := unhex_range s[j + 1]
        have i0' : 0 ≤ (j : Int) + 1 := by omega
        have i1' : (j : Int) + 1 < (s.size : Int) := by omega
        have i2' : IntKind.i64.wrap ((j : Int) + 1) = (j : Int) + 1 := IntWalk.i64_in _ (by omega)
        have i3' : ((j : Int) + 1).toNat = j + 1 := by omega
        by_cases hbad : unhex s[j] < 0 ∨ unhex s[j + 1] < 0
        · have hfin := hide (pair_bad s k j HJ.out hlt1 hbad HL.out)
          by_cases hb1 : unhex s[j] < 0
          · clear hbad
            go_wp2_with fail
            go_quiet ((go_at_call 76; exact quiet_left (i_hexDigit _ _)))
            go_wp2
            go_ret2
            refine ⟨?_, below_drewN HB.out _⟩
            rw [hfin.out]; rfl
          · have hb2 : unhex s[j + 1] < 0 := by omega
            clear hbad
            go_wp2_with fail
            go_quiet ((go_at_call 76; exact quiet_left (i_hexDigit _ _)))
            go_wp2
            go_ret2
            refine ⟨?_, below_drewN HB.out _⟩
            rw [hfin.out]; rfl
        · have hgood := hide (pair_good s k j HJ.out hlt1 hbad xs HD.out)
          have e := hide (byte_cell (unhex s[j]) (unhex s[j + 1]) (by omega) (by omega))
          have v0 : 0 ≤ unhex s[j] := by omega
          have v1 : 0 ≤ unhex s[j + 1] := by omega
          clear hbad
          go_wp2_with fail
          go_quiet ((go_at_call 76; exact quiet_left (i_hexDigit _ _)))
          go_wp2_with (at_builtin; refine wpList_app _ rfl (.tmp 43) (.tmp 49) _ rfl w.heap.size 5 i0 (.int .u8 0) 1 1 Tryd.underlying24 hi hz0 hz1 hz2 rfl (by decide) u4 _ _ rfl (ownsRow_drewN HO.out _) 1 _ rfl ?c1 ?c2 ?c3 ?c4 ?c5 ?_)
          case c1 => rfl
          case c2 => rw [e.out]; exact bcells_one _
          case c3 => have := HJ.out; omega
          case c4 => decide
          case c5 => exact HB.out.size
          intro v' w3 hown3 hb3 _ _
          rw [e.out, ← bcells_append] at hown3
          have hown4 := hide hown3
          have hb4 := hide ((below_drewN HB.out _).trans hb3)
          clear hown3 hb3
          go_wp2
          go_roundw
          case rel => exact ⟨k + 1, j + 2, _, by have := HJ.out; omega, by have := HJ.out; have := HL.out.1; omega, by go_num, hgood.out, hown4.out, hb4.out⟩
          case measure => simp [intOf]; omega
      · have hconv := conv_own (P := Tryd.prog) Tryd.underlying24 Tryd.underlying5 HO.out 9 Tryd.underlying9
        have hend := hide (dec_end s k (by have := HJ.out; omega) (by have := HJ.out; omega) HL.out xs HD.out)
        go_wp2
        go_ret2
        refine ⟨?_, HB.out⟩
        rw [hend.out]; rfl
  · have hfin : decHexF s.data.toList = none := by unfold decHexF; rw [len_toList, if_neg hl]
    have HF := hide hfin
    clear hfin
    by_cases h2 : s.size % 2 = 0
    · have g1 : (((s.size : Int) % 2) != 0) = false := by rw [bne_eq_false_iff_eq]; omega
      have g2 : 20000 < (s.size : Int) / 2 := by omega
      clear h2 hl
      go_enter Tryd.func22, Tryd.ntmps22
      go_wp2
      go_ret2
      refine ⟨?_, Below.refl _ _⟩
      rw [HF.out]; rfl
    · have g1 : (((s.size : Int) % 2) != 0) = true := by rw [bne_iff_ne]; omega
      clear h2 hl
      go_enter Tryd.func22, Tryd.ntmps22
      go_wp2
      go_ret2
      refine ⟨?_, Below.refl _ _⟩
      rw [HF.out]; rfl
end Go.Proofs.YtapfbnojodafjaaDoor
