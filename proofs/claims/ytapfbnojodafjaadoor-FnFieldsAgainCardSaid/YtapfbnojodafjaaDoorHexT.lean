import Derived.Test.YtapfbnojodafjaaDoorFmtI
import Derived.Test.YtapfbnojodafjaaDoorDraw
import Derived.Test.YtapfbnojodafjaaDoorHex2
import Derived.Test.YtapfbnojodafjaaDoorIntS
namespace Go.Proofs.YtapfbnojodafjaaDoor
open Go Go.RowKit
set_option maxRecDepth 100000
theorem unhex_hexD (n : Nat) (h : n < 16) : unhex (hexD n) = n := by
  have h1 := hexD_toNat n h
  unfold unhex
  split at h1
  · rw [if_pos (by omega)]; omega
  · rw [if_neg (by omega), if_pos (by omega)]; omega
theorem hexL_getD (l : List UInt8) : ∀ (j : Nat) (h : j < l.length), (hexL l).getD (2 * j) 0 = hexD (l[j].toNat / 16) ∧ (hexL l).getD (2 * j + 1) 0 = hexD (l[j].toNat % 16) := by
  induction l with
  | nil => intro j h; simp at h
  | cons b l ih =>
    intro j h
    have e : hexL (b :: l) = hexD (b.toNat / 16) :: hexD (b.toNat % 16) :: hexL l := by simp [hexL]
    rw [e]
    cases j with
    | zero => exact ⟨rfl, rfl⟩
    | succ j =>
      have := ih j (by simpa using h)
      rw [show 2 * (j + 1) = 2 * j + 1 + 1 by omega, show 2 * j + 1 + 1 + 1 = (2 * j + 1) + 1 + 1 by omega]
      simpa using this
theorem pair_hex (l : List UInt8) (j : Nat) (h : j < l.length) : pairV (hexL l) j = some l[j] := by
  obtain ⟨h1, h2⟩ := hexL_getD l j h
  have hb := l[j].toNat_lt
  unfold pairV
  rw [h1, h2, unhex_hexD _ (by omega), unhex_hexD _ (by omega), if_neg (by omega)]
  congr 1
  apply UInt8.toNat_inj.1
  simp
  omega
theorem decL_hex (l : List UInt8) : ∀ k, k ≤ l.length → decL (hexL l) k = some (l.take k) := by
  intro k
  induction k with
  | zero => intro _; rfl
  | succ k ih =>
    intro h
    have hk : k < l.length := by omega
    rw [List.take_succ_eq_append_getElem hk]
    unfold decL
    rw [ih (by omega), pair_hex l k hk]
theorem decHex_enc (l : List UInt8) (h : l.length ≤ 20000) : decHexF (hexL l) = some l := by
  unfold decHexF
  rw [hexL_length, if_pos ⟨by omega, by omega⟩, show 2 * l.length / 2 = l.length by omega, decL_hex l _ (Nat.le_refl _), List.take_of_length_le (Nat.le_refl _)]
theorem itoa10 : Lib.itoa 10 = [49, 48] := by
  unfold Lib.itoa
  rw [if_neg (by decide), show (10 : Int).toNat = 10 from rfl, Lib.decDigits, dif_neg (by decide), Lib.decDigits, dif_pos (by decide)]
  rfl
set_option maxHeartbeats 1000000 in
theorem s_l01Long (n : Nat) (x : UInt8) (hn : n ≤ 1048576) (w : World) :
    Calls Tryd.prog 74 #[.int .i64 n, .int .u8 (x.toNat : Int)] w fun e w' => e = .returned (.string ⟨(List.replicate n x).toArray⟩) ∧ Below w.heap.size w w' := by
  obtain ⟨i0, hi, hz0, hz1, hz2⟩ := info_parts Tryd.info8
  go_enter Tryd.func74, Tryd.ntmps74
  go_wp2_with (at_make; refine wpList_mk _ rfl _ _ 24 rfl 5 i0 _ 1 Tryd.underlying24 hi hz0 hz1 _ _ _ _ n rfl rfl ?c1 ?c2 ?c3 ?c4 ?_)
  case c1 => rfl
  case c2 => rfl
  case c3 => rw [hz2]; omega
  case c4 => unfold maxLen; omega
  intro w1 zs ha1 hb1
  have HZ := hide ha1.1
  go_wp2
  go_loopw [6] (fun i wr => ∃ k : Nat, k ≤ n ∧ i = .int .i64 k ∧ Arr wr w.heap.size wr.heap.size (some ⟨w.heap.size, 0, none⟩) n 1 (bcells (List.replicate k x) ++ zs.drop k) ∧ Below w.heap.size w wr) (fun i _ => n - (intOf i).toNat)
  case atStart => exact ⟨0, Nat.zero_le _, rfl, by simpa [bcells] using ha1, hb1⟩
  case round =>
    obtain ⟨k, hk, rfl, hr, hb⟩ := hrel
    have R := hide hr
    have HB := hide hb
    clear hr hb
    by_cases hlt : k < n
    · have s1 : Hid ((bcells (List.replicate k x) ++ zs.drop k).set k (.int .u8 (x.toNat : Int)) = bcells (List.replicate (k + 1) x) ++ zs.drop (k + 1)) := by
        show _ = _
        have e : (bcells (List.replicate k x)).length = k := by rw [bcells_length, List.length_replicate]
        have := set_prefix (bcells (List.replicate k x)) zs (.int .u8 (x.toNat : Int)) (by rw [e, HZ.out]; omega)
        rw [List.length_append, e] at this
        rw [this, List.replicate_succ', bcells_append]
        rfl
      have R3 := hide (R.out.set_ (j := k) (by omega) (.int .u8 (x.toNat : Int)))
      obtain ⟨g', eg, g1, g2, g3, hc⟩ := R.out.2 (by omega)
      obtain rfl : w.heap.size = g' := by injection eg with eg; injection eg
      obtain ⟨u0, d0⟩ : ∃ u, wr.cell? ⟨w.heap.size, k, none⟩ = some u := ⟨_, (hc k (by omega)).1.trans (List.getElem?_eq_getElem (by rw [R.out.1]; omega))⟩
      have f0 := (hc k (by omega)).2
      clear hc eg
      go_wp2
      go_roundw
      case rel =>
        refine ⟨k + 1, by omega, by go_num, ?_, ?_⟩
        · rw [← s1.out]
          exact R3.out.more (Nat.le_refl _) (by simp [World.setCell]) (Nat.le_refl _)
        · exact HB.out.setCell (p := ⟨w.heap.size, k, none⟩) (Nat.le_refl _) _
      case measure => simp [intOf]; omega
    · have hall : bcells (List.replicate k x) ++ zs.drop k = bcells (List.replicate n x) := by
        rw [show k = n by omega, List.drop_of_length_le (by rw [HZ.out]; omega), List.append_nil]
      have R2 := hide R.out
      rw [hall] at R2
      clear hall
      have hcv : (convert 24 9 (.slice (some ⟨w.heap.size, 0, none⟩) n n)).run Tryd.prog wr = .ok (.string ⟨(List.replicate n x).toArray⟩) wr := by
        have hl : (List.replicate n x).length = n := List.length_replicate
        have := run_convert_bytes_back wr 24 9 5 ⟨w.heap.size, 0, none⟩ n (List.replicate n x) Tryd.underlying24 Tryd.underlying5 Tryd.underlying9 (fun j hj => by
          rw [add_zero_off]
          obtain ⟨g', eg, g1, g2, g3, hc⟩ := R2.out.2 (by omega)
          obtain rfl : w.heap.size = g' := by injection eg with eg; injection eg
          rw [(hc j (by omega)).1]
          unfold bcells
          rw [List.getElem?_map, List.getElem?_eq_getElem hj]; rfl)
        rwa [hl] at this
      go_wp2
      go_ret
      exact ⟨rfl, HB.out⟩
set_option maxHeartbeats 1000000 in
theorem s_l01Text (B g : Nat) (n : Int) (hn : 0 ≤ n ∧ n ≤ 5000) (w : World) (hc : Cur B w g) :
    Calls Tryd.prog 75 #[.pointer (some ⟨g, 0, none⟩), .int .i64 n] w fun e w' => (∃ s : ByteArray, e = .returned (.string s) ∧ (s.size : Int) ≤ n) ∧ Cur B w' g ∧ w.grownBy w' (some g) := by
  obtain ⟨i0, hi, hz0, hz1, hz2⟩ := info_parts Tryd.info8
  obtain ⟨n0, n1⟩ := hn
  have hgl := hc.lt
  have HC0 := hide hc
  clear hc
  go_enter Tryd.func75, Tryd.ntmps75
  go_wp2_with fail
  go_loopw [5, 6] (fun v i wr => ∃ (k : Nat) (acc : List UInt8), (k : Int) ≤ n ∧ i = .int .i64 k ∧ acc.length = k ∧ wr.ownsRow w.heap.size 5 1 v acc.length (bcells acc) ∧ Cur B wr g ∧ w.grownBy wr (some g)) (fun _ i _ => n.toNat - (intOf i).toNat)
  case atStart => exact ⟨0, [], by omega, rfl, rfl, World.ownsRow_lit w #[] 0 (Nat.le_refl _) (Nat.zero_le _) rfl, HC0.out.alloc _, only_alloc (World.grownBy.refl w _) _⟩
  case round =>
    obtain ⟨k, acc, hk, rfl, hacc, hown, hcur, hg⟩ := hrel
    have HO := hide hown
    have HC := hide hcur
    have HG := hide hg
    have HA := hide hacc
    clear hown hcur hg hacc
    by_cases hlt : (k : Int) < n
    · go_wp2_with fail
      refine (s_l01Byte B g _ HC.out).mono ?_
      rintro e w1 ⟨⟨x, rfl, hx0, hx1⟩, hc1, hg1⟩
      have HO1 : Hid (w1.ownsRow w.heap.size 5 1 u5 acc.length (bcells acc)) := HO.out.kept hg1 (by
        cases hv : Value.ownBlock u5 with
        | none => exact .inl rfl
        | some q => right; have := (HO.out.lt q hv).1; intro e; injection e with e; omega)
      have HC1 := hide hc1
      have HG1 := hide (only_trans HG.out hg1)
      have hsn : Hid (bcells (acc ++ [UInt8.ofNat x.toNat]) = bcells acc ++ [.int .u8 x]) := by
        show _ = _
        rw [bcells_append]
        unfold bcells
        simp
        omega
      have hxx : x % 256 = x := by omega
      clear hc1 hg1
      go_wp2_with (first | (at_builtin; refine wpList_app _ rfl (.tmp 15) (.tmp 19) _ rfl w.heap.size 5 i0 _ 1 1 Tryd.underlying24 hi hz0 hz1 hz2 rfl (by decide) u5 _ _ rfl HO1.out 1 [.int .u8 x] rfl ?c1 ?c2 ?c3 ?c4 ?c5 ?_) | fail)
      case c1 => rfl
      case c2 => first | rfl | (intro u hu; obtain rfl := List.mem_singleton.1 hu; rfl)
      case c3 => have := HA.out; omega
      case c4 => decide
      case c5 => exact HG1.out.size
      intro v' w3 hown3 hb3 hg3 hv3
      rw [← hsn.out] at hown3
      have HO3 := hide hown3
      have HC3 : Hid (Cur B w3 g) := by
        have hl := HC1.out.lt
        cases hv : Value.ownBlock u5 with
        | none => rw [hv] at hg3; exact HC1.out.below ⟨hg3.os, hg3.tape, hg3.output, hg3.size, fun b hb => hg3.block b hb (by simp)⟩
        | some q =>
          rw [hv] at hg3
          have hq := (HO1.out.lt q hv).1
          exact HC1.out.grown hg3 (by have := HC1.out.1; omega) (by omega)
      have HG3 : Hid (w.grownBy w3 (some g)) := ⟨hb3.os.trans HG1.out.os, hb3.tape.trans HG1.out.tape, hb3.output.trans HG1.out.output, Nat.le_trans HG1.out.size hb3.size, fun i hi hne => (hb3.block i hi).trans (HG1.out.block i hi hne)⟩
      clear hown3 hb3 hg3 hv3
      go_wp2_with fail
      go_roundw
      case rel => exact ⟨k + 1, acc ++ [UInt8.ofNat x.toNat], by omega, by go_num, by have := HA.out; simp; omega, by simpa using HO3.out, HC3.out, HG3.out⟩
      case measure => simp [intOf]; omega
    · have hcv := conv_own (P := Tryd.prog) Tryd.underlying24 Tryd.underlying5 HO.out 9 Tryd.underlying9
      obtain ⟨A, c, hv, _, _⟩ := Arr.of_own HO.out
      subst hv
      go_wp2_with fail
      go_ret
      exact ⟨⟨_, rfl, by have := HA.out; show ((acc.length : Nat) : Int) ≤ n; omega⟩, HC.out, HG.out⟩
set_option maxHeartbeats 400000 in
theorem s_drawEncodeHex (A : Option Addr) (n c : Nat) (w : World) (hc : CodeAt w.heap.size w A n) :
    Calls Tryd.prog 20 #[.slice A n c] w fun e w' => (∃ s : ByteArray, e = .returned (.string s) ∧ (s.size : Int) ≤ 20001) ∧ Below w.heap.size w w' := by
  go_enter Tryd.func20, Tryd.ntmps20
  go_wp2_with fail
  refine (s_l01New A n c w hc).mono ?_
  rintro e w1 ⟨rfl, hc1, hb1⟩
  go_wp2_with fail
  refine (s_l01Once _ _ _ _ hc1).mono ?_
  rintro e w2 ⟨⟨b, rfl⟩, hc2, hg2⟩
  have B2 := hide (below_only hb1 hg2 hb1.size (Nat.le_refl _))
  clear hb1 hg2
  cases b
  · go_wp2_with fail
    refine (s_l01Below _ _ _ _ hc2).mono ?_
    rintro e w3 ⟨⟨x, rfl, hx0, hx1, _⟩, hc3, hg3⟩
    have hx1 := hx1 (by omega)
    have B3 := hide (below_only B2.out hg3 B2.out.size (Nat.le_refl _))
    clear hg3
    go_wp2_with fail
    refine (s_l01Text _ _ _ ⟨hx0, by omega⟩ _ hc3).mono ?_
    rintro e w4 ⟨⟨s, rfl, hs⟩, hc4, hg4⟩
    go_wp2_with fail
    go_ret
    exact ⟨⟨s, rfl, by omega⟩, below_only B3.out hg4 B3.out.size (Nat.le_refl _)⟩
  · go_wp2_with fail
    refine (s_l01Below _ _ _ _ hc2).mono ?_
    rintro e w3 ⟨⟨x, rfl, hx0, hx1, _⟩, hc3, hg3⟩
    have hx1 := hx1 (by omega)
    have B3 := hide (below_only B2.out hg3 B2.out.size (Nat.le_refl _))
    clear hg3
    obtain ⟨m, hm⟩ : ∃ m : Nat, (20000 : Int) + x = m := ⟨(20000 + x).toNat, by omega⟩
    have hm1 : (m : Int) ≤ 20001 := by omega
    have HL := hide (s_l01Long m 200 (by omega))
    go_wp2_with fail
    refine (HL.out _).mono ?_
    rintro e w4 ⟨rfl, hb4⟩
    have hsz : (⟨(List.replicate m (200 : UInt8)).toArray⟩ : ByteArray).size = m := List.length_replicate
    generalize (⟨(List.replicate m (200 : UInt8)).toArray⟩ : ByteArray) = s at *
    have hs : (s.size : Int) ≤ 20001 := by omega
    clear hsz
    go_wp2_with fail
    go_ret
    exact ⟨⟨s, rfl, hs⟩, B3.out.trans (hb4.mono B3.out.size)⟩
namespace fnHexText
set_option maxHeartbeats 1000000 in
theorem walk (v0 : Value) (w : World) (hp : PowIs w) (h0 : InBytes w v0) : Calls Tryd.prog 5 #[v0] w fun e w' => e = .returned (.bool true) ∧ Below w.heap.size w w' := by
  obtain ⟨A, n, c, rfl, hnc, hc, hrow⟩ := h0
  have hn : n ≤ maxLen := by omega
  have HP := hide hp
  have HR := hide (CodeAt.of_in hnc hc hrow)
  clear hrow hp
  by_cases hbig : 1048576 < n
  · have hd : decide (1048576 < n) = true := by simpa using hbig
    go_enter Tryd.func5, Tryd.ntmps5
    go_wp2_with (go_at_call 17; refine (l_big _ _ _ hn _).mono ?_; rintro e w' ⟨rfl, rfl⟩)
    go_ret
    exact ⟨rfl, Below.refl _ _⟩
  · have hd : decide (1048576 < n) = false := by simpa using hbig
    go_enter Tryd.func5, Tryd.ntmps5
    go_wp2_with fail
    refine (l_big _ _ _ hn _).mono ?_
    rintro e w' ⟨rfl, rfl⟩
    go_wp2_with fail
    refine (s_drawEncodeHex _ _ _ _ HR.out).mono ?_
    rintro e w1 ⟨⟨s, rfl, hs⟩, hb1⟩
    have B1 := hide hb1
    clear hb1 hd hbig
    have hsm : s.size ≤ maxLen := by unfold maxLen; omega
    go_wp2_with fail
    refine (i_encodeHex s hsm _).mono ?_
    rintro e w2 ⟨rfl, hb2⟩
    have B2 := hide (B1.out.trans (hb2.mono B1.out.size))
    clear hb2
    by_cases hq : (20000 : Int) < (s.size : Int)
    · have e1 : encHexB s.data.toList = false := decide_eq_false (by rw [len_toList]; omega)
      have e2 : encHexF s.data.toList = [] := by unfold encHexF; rw [if_neg (by rw [len_toList]; omega)]
      rw [e1, e2]
      clear e1 e2
      go_wp2_with fail
      refine (i_formatInt 10 (by omega) (by omega) _ (HP.out.below B2.out)).mono ?_
      rintro e w3 ⟨rfl, hb3⟩
      rw [itoa10]
      go_wp2_with fail
      go_ret
      exact ⟨rfl, B2.out.trans (hb3.mono B2.out.size)⟩
    · have e1 : encHexB s.data.toList = true := decide_eq_true (by rw [len_toList]; omega)
      have e2 : encHexF s.data.toList = hexL s.data.toList := by unfold encHexF; rw [if_pos (by rw [len_toList]; omega)]
      have hhs : (⟨(hexL s.data.toList).toArray⟩ : ByteArray).size = 2 * s.size := by
        show (hexL s.data.toList).length = _
        rw [hexL_length, len_toList]
      have hdec : decHexF (⟨(hexL s.data.toList).toArray⟩ : ByteArray).data.toList = some s.data.toList := decHex_enc _ (by rw [len_toList]; omega)
      rw [e1, e2]
      clear e1 e2
      generalize (⟨(hexL s.data.toList).toArray⟩ : ByteArray) = h at *
      have hhm : h.size ≤ maxLen := by unfold maxLen; omega
      have HD := hide hdec
      have HH := hide hhs
      clear hdec hhs
      go_wp2_with fail
      refine (i_decodeHex h hhm _).mono ?_
      rintro e w3 ⟨rfl, hb3⟩
      have B3 := hide (B2.out.trans (hb3.mono B2.out.size))
      clear hb3
      rw [HD.out]
      have hz : (((h.size : Nat) : Int) == 2 * (s.size : Int)) = true := by rw [HH.out]; simp
      have hbs : (⟨(optL (some s.data.toList)).toArray⟩ : ByteArray) = s := by apply ByteArray.ext; simp [optL]
      rw [hbs]
      clear hbs
      go_wp2_with fail
      go_ret
      exact ⟨rfl, B3.out⟩
end fnHexText
end Go.Proofs.YtapfbnojodafjaaDoor
