import Derived.Test.YthhlimbaoenkkaaDrawOp
import Derived.Test.YthhlimbaoenkkaaOpsL
import Derived.Test.YthhlimbaoenkkaaOpS
import Derived.Test.YthhlimbaoenkkaaIn
namespace Go.Proofs.Ythhlimbaoenkkaa
open Go Go.RowKit
set_option maxRecDepth 100000
set_option linter.unusedVariables false
/-! Instructions drawn, encoded and decoded again. -/
theorem own_low {w : World} {b b' e size n : Nat} {v : Value} {xs : List Value} (h : w.ownsRow b e size v n xs) (hb : b' ≤ b) : w.ownsRow b' e size v n xs := by
  refine ⟨h.1, ?_⟩
  rcases h.2 with hn | ⟨g, cap, cur, rfl, hg, rest⟩
  · exact .inl hn
  · exact .inr ⟨g, cap, cur, rfl, Nat.le_trans hb hg, rest⟩
theorem InRow.op {w : World} {A : Option Addr} {n : Nat} {l : List (Int × Int)} (h : InRow w A n 2 (opCells l)) (k : Nat) (hk : k < l.length) : ∃ b o, A = some ⟨b, o, none⟩ ∧ b < w.heap.size ∧
    w.cell? ⟨b, o + k * 2, none⟩ = some (.int .i64 l[k].1) ∧ w.cell? ⟨b, o + k * 2 + 1, none⟩ = some (.int .i64 l[k].2) := by
  have hl : l.length = n := by have := h.1; rw [opCells_length] at this; omega
  obtain ⟨b, o, e, hb, hc⟩ := h.2 (by omega)
  exact ⟨b, o, e, hb, (hc (k * 2) (by omega)).trans (opCells_at l k hk).1, (hc (k * 2 + 1) (by omega)).trans (opCells_at l k hk).2⟩
theorem mkB_app (a b : List UInt8) : (⟨a.toArray⟩ : ByteArray) ++ ⟨b.toArray⟩ = ⟨(a ++ b).toArray⟩ := by
  apply ByteArray.ext
  simp [ByteArray.data_append]
theorem mkB_size (a : List UInt8) : (⟨a.toArray⟩ : ByteArray).size = a.length := rfl
set_option maxHeartbeats 1000000 in
theorem s_drawOps (A : Option Addr) (n c : Nat) (w : World) (hc : CodeAt w.heap.size w A n) :
    Calls Try.prog 15 #[.slice A n c] w fun e w' => (∃ (v : Value) (L : List (Int × Int)), e = .returned v ∧ L.length ≤ 9 ∧ (∀ x ∈ L, opOkF x.1 x.2 = true) ∧ w'.ownsRow w.heap.size 28 2 v L.length (opCells L)) ∧ Below w.heap.size w w' := by
  obtain ⟨i0, hi, hz0, hz1, hz2⟩ := info_parts Try.infoOp
  go_enter Try.func15, Try.ntmps15
  go_wp2_with fail
  refine (s_l01New A n c w hc).mono ?_
  rintro e w1 ⟨rfl, hc1, hb1⟩
  have hgl := hc1.lt
  have HB1 := hide hb1
  have HC1 := hide hc1
  clear hb1 hc1
  go_wp2_with fail
  refine (s_l01Below _ _ _ _ (HC1.out.alloc _)).mono ?_
  rintro e w2 ⟨⟨x, rfl, hx0, hx1, _⟩, hc2, hg2⟩
  have hx1 := hx1 (by omega)
  have HO2 : Hid (w2.ownsRow w1.heap.size 28 2 (.slice (some ⟨w1.heap.size, 0, none⟩) 0 0) 0 (opCells [])) := (World.ownsRow_lit w1 #[] 0 (Nat.le_refl _) (Nat.zero_le _) rfl).kept hg2 (by right; simp [Value.ownBlock]; omega)
  have HC2 := hide hc2
  have HB2 := hide (below_only (HB1.out.alloc HB1.out.size (.cells #[] 28)) hg2 (by have := HB1.out.size; simp; omega) (Nat.le_refl _))
  have hzz : w1.heap.size ≤ w2.heap.size := by have := hg2.size; simp at this; omega
  clear hc2 hg2
  go_wp2_with fail
  go_loopw [4, 5] (fun v i wr => ∃ (k : Nat) (acc : List (Int × Int)), i = .int .i64 k ∧ k + acc.length ≤ 9 ∧ (∀ x ∈ acc, opOkF x.1 x.2 = true) ∧ wr.ownsRow w1.heap.size 28 2 v acc.length (opCells acc) ∧ Cur w.heap.size wr w.heap.size ∧ w1.heap.size ≤ wr.heap.size ∧ Below w.heap.size w wr) (fun _ i _ => (intOf i).toNat)
  case atStart =>
    obtain ⟨k, rfl⟩ := Int.eq_ofNat_of_zero_le hx0
    exact ⟨k, [], rfl, by simp; omega, (fun x h => by cases h), HO2.out, HC2.out, hzz, HB2.out⟩
  case round =>
    obtain ⟨k, acc, rfl, hkl, hok, hown, hcur, hzr, hbr⟩ := hrel
    have HO := hide hown
    have HC := hide hcur
    have HB := hide hbr
    have HK := hide hok
    clear hown hcur hbr hok
    by_cases hlt : 0 < k
    · have hkI : (0 : Int) < (k : Int) := by omega
      go_wp2_with fail
      refine (s_l07Op w.heap.size w.heap.size _ HC.out).mono ?_
      rintro e w3 ⟨⟨c, a, rfl, hca⟩, hc3, hg3⟩
      have HCA := hide hca
      have HO3 : Hid (w3.ownsRow w1.heap.size 28 2 u4 acc.length (opCells acc)) := HO.out.kept hg3 (by
        cases hv : Value.ownBlock u4 with
        | none => exact .inl rfl
        | some q => right; have := (HO.out.lt q hv).1; intro e; injection e with e; omega)
      have HC3 := hide hc3
      have HB3 := hide (below_only HB.out hg3 HB.out.size (Nat.le_refl _))
      have hz3 := hg3.size
      have hsn := hide (opCells_snoc acc (c, a))
      have hz : w1.heap.size ≤ w3.heap.size := Nat.le_trans hzr hz3
      clear hc3 hg3 hca
      go_wp2_with (first | (at_builtin; refine wpList_app _ rfl (.tmp 15) (.tmp 18) _ rfl w1.heap.size 28 i0 _ 2 16 Try.underlying24 hi hz0 hz1 hz2 rfl (by decide) u4 _ _ rfl HO3.out 1 [.int .i64 c, .int .i64 a] rfl ?c1 ?c2 ?c3 ?c4 ?c5 ?_) | fail)
      case c1 => rfl
      case c2 => intro u hu; simp at hu; rcases hu with rfl | rfl <;> rfl
      case c3 => omega
      case c4 => decide
      case c5 => exact hz
      intro v' w4 hown4 hb4 hg4 hv4
      rw [← hsn.out] at hown4
      have HO4 := hide hown4
      have HC4 : Hid (Cur w.heap.size w4 w.heap.size) := by
        have hl := HC3.out.lt
        cases hv : Value.ownBlock u4 with
        | none => rw [hv] at hg4; exact HC3.out.below ⟨hg4.os, hg4.tape, hg4.output, hg4.size, fun b hb => hg4.block b hb (by simp)⟩
        | some q =>
          rw [hv] at hg4
          have hq := (HO3.out.lt q hv).1
          exact HC3.out.grown hg4 (by omega) (by omega)
      have hz4 : w1.heap.size ≤ w4.heap.size := Nat.le_trans hz hb4.size
      have HB4 := hide (HB3.out.trans (hb4.mono (by omega)))
      clear hown4 hb4 hg4 hv4
      go_wp2_with fail
      go_roundw
      case rel =>
        refine ⟨k - 1, acc ++ [(c, a)], by go_num, by simp; omega, ?_, by simpa using HO4.out, HC4.out, hz4, HB4.out⟩
        intro y hy
        rcases List.mem_append.1 hy with hy | hy
        · exact HK.out y hy
        · obtain rfl := List.mem_singleton.1 hy; exact HCA.out
      case measure => simp [intOf]; omega
    · have hkI : ¬ (0 : Int) < (k : Int) := by omega
      go_wp2_with fail
      go_ret
      exact ⟨⟨u4, rfl, acc, by omega, (fun a b h => HK.out (a, b) h), own_low HO.out (by omega)⟩, HB.out⟩
theorem dat_mk (a : List UInt8) : (⟨a.toArray⟩ : ByteArray).data.toList = a := rfl
theorem disV_some (L : List (Int × Int)) : disL (some L) = L := rfl
namespace fnOps
set_option maxHeartbeats 4000000 in
theorem walk (v0 : Value) (w : World) (h0 : InBytes w v0) : Calls Try.prog 3 #[v0] w fun e w' => e = .returned (.bool true) ∧ Below w.heap.size w w' := by
  obtain ⟨A, n, c, rfl, hnc, hc, hrow⟩ := h0
  have hn : n ≤ maxLen := by omega
  have HR := hide (CodeAt.of_in hnc hc hrow)
  clear hrow
  by_cases hbig : 1048576 < n
  · have hd : decide (1048576 < n) = true := by simpa using hbig
    go_enter Try.func3, Try.ntmps3
    go_wp2_with (go_at_call 14; refine (l_big _ _ _ hn _).mono ?_; rintro e w' ⟨rfl, rfl⟩)
    go_ret
    exact ⟨rfl, Below.refl _ _⟩
  · have hd : decide (1048576 < n) = false := by simpa using hbig
    go_enter Try.func3, Try.ntmps3
    go_wp2_with fail
    refine (l_big _ _ _ hn _).mono ?_
    rintro e w' ⟨rfl, rfl⟩
    go_wp2_with fail
    refine (s_drawOps _ _ _ _ HR.out).mono ?_
    rintro e w1 ⟨⟨v, L, rfl, hL, hok, ho⟩, hb1⟩
    have B1 := hide hb1
    have HOK := hide hok
    obtain ⟨A1, c1, hv, hcap, ha1⟩ := Arr.of_own ho
    subst hv
    have X := hide (InRow.of_arr ha1)
    have hlI : (L.length : Int) ≤ 9 := by omega
    have HDL := hide (dis_all L hok)
    have HDM := hide (dis_more L hok)
    have HEL := hide (encAll_len L)
    have HLT : Hid (∀ k, (encAll (L.take k)).length ≤ 45) := fun k => by have := encAll_len (L.take k); rw [List.length_take] at this; omega
    clear hb1 hd hbig ho ha1 hok hcap
    go_wp2_with fail
    go_loopw [4, 5] (fun v i wr => ∃ k : Nat, k ≤ L.length ∧ i = .int .i64 k ∧ v = .string ⟨(encAll (L.take k)).toArray⟩ ∧ Below w1.heap.size w1 wr) (fun _ i _ => L.length - (intOf i).toNat)
    case atStart => exact ⟨0, Nat.zero_le _, rfl, rfl, Below.refl _ _⟩
    case round =>
      obtain ⟨k, hk, rfl, rfl, hb⟩ := hrel
      have HB := hide hb
      have R := hide (X.out.below hb)
      have BW := hide (B1.out.trans (hb.mono B1.out.size))
      clear hb
      by_cases hlt : k < L.length
      · have hltI : (k : Int) < (L.length : Int) := by omega
        have hokk := hide (HOK.out _ (List.getElem_mem hlt))
        have hbt := opOk_btw hokk.out
        have hbt' : btw L[k].1 0 17 = true := decide_eq_true hbt
        have hosz := opSize_in hbt'
        have hel := encOp_len hokk.out
        obtain ⟨b, o, rfl, hbl, c0, c1⟩ := R.out.op k hlt
        have HNX : Hid ((⟨(encAll (L.take k)).toArray⟩ : ByteArray) ++ ⟨(encOpF L[k].1 L[k].2).toArray⟩ = ⟨(encAll (L.take (k + 1))).toArray⟩) := by show _ = _; rw [mkB_app, encAll_take L k hlt]
        have hs1 : (⟨(encAll (L.take k)).toArray⟩ : ByteArray).size ≤ 45 := HLT.out k
        have hs2 : (⟨(encOpF L[k].1 L[k].2).toArray⟩ : ByteArray).size = opW L[k].1 + 1 := hel
        have hw4 := opW_le L[k].1
        have z : (((⟨(encOpF L[k].1 L[k].2).toArray⟩ : ByteArray).size : Int) != opSizeF L[k].1) = false := by rw [hs2, hosz]; simp
        go_wp2_with fail
        refine (i_encodeOp L[k].1 L[k].2 _).mono ?_
        rintro e w2 ⟨rfl, hb2⟩
        have hz2 := hb2.size
        have d0 := (hb2.cell (p := ⟨b, o + k * 2, none⟩) hbl).trans c0
        have d1 := (hb2.cell (p := ⟨b, o + k * 2 + 1, none⟩) hbl).trans c1
        have HB2 := hide (HB.out.trans (hb2.mono HB.out.size))
        have BW2 := hide (BW.out.trans (hb2.mono BW.out.size))
        clear hb2 c0 c1 hel
        generalize (⟨(encOpF L[k].1 L[k].2).toArray⟩ : ByteArray) = S1 at *
        generalize (⟨(encAll (L.take k)).toArray⟩ : ByteArray) = S0 at *
        go_wp2_with fail
        refine (i_opSize _ _).mono ?_
        rintro e w' ⟨rfl, rfl⟩
        go_wp2_with fail
        refine (i_opOk _ _ _).mono ?_
        rintro e w3 ⟨rfl, hb3⟩
        rw [hokk.out]
        have HB3 := hide (HB2.out.trans (hb3.mono HB2.out.size))
        clear hb3 d0 d1
        go_wp2_with fail
        go_roundw
        case rel => exact ⟨k + 1, by omega, by go_num, by rw [HNX.out], HB3.out⟩
        case measure => simp [intOf]; omega
      · have hk' : L.take k = L := List.take_of_length_le (by omega)
        rw [hk']
        have hsz : (⟨(encAll L).toArray⟩ : ByteArray).size ≤ 45 := by have := HEL.out; show (encAll L).length ≤ 45; omega
        have I1 : Hid (∀ w, Calls Try.prog 19 #[.string ⟨(encAll L).toArray⟩] w fun e w' => (∃ v, e = .returned (.tuple #[v, .bool true]) ∧ w'.ownsRow w.heap.size 28 2 v L.length (opCells L)) ∧ Below w.heap.size w w') := fun w => by
          have h := i_disassemble ⟨(encAll L).toArray⟩ (by omega) w
          rw [dat_mk, HDL.out] at h
          exact h
        have I2 : Hid (∀ w, Calls Try.prog 19 #[.string ((⟨(encAll L).toArray⟩ : ByteArray) ++ ⟨#[255]⟩)] w fun e w' => (∃ v, e = .returned (.tuple #[v, .bool false]) ∧ w'.ownsRow w.heap.size 28 2 v 0 []) ∧ Below w.heap.size w w') := fun w => by
          have h := i_disassemble (⟨(encAll L).toArray⟩ ++ ⟨[255].toArray⟩) (by rw [mkB_app, mkB_size, List.length_append]; have := HEL.out; simp; omega) w
          rw [mkB_app, dat_mk, HDM.out, ← mkB_app] at h
          exact h
        have I3 : Hid (∀ (k : Nat) (hk : k < L.length) w, Calls Try.prog 20 #[.string ((⟨#[97, 98]⟩ : ByteArray) ++ ⟨(encAll L).toArray⟩), .int .i64 (((encAll (L.take k)).length : Int) + 2)] w fun e w' => e = .returned (.tuple #[.agg #[.int .i64 L[k].1, .int .i64 L[k].2], .int .i64 (opW L[k].1 + 1), .bool true]) ∧ Below w.heap.size w w') := fun k hk w => by
          have h := i_decodeOp (⟨[97, 98].toArray⟩ ++ ⟨(encAll L).toArray⟩) (by rw [mkB_app, mkB_size, List.length_append]; have := HEL.out; simp; omega) (((encAll (L.take k)).length : Int) + 2) w
          have hd := dec_enc ([97, 98] ++ encAll (L.take k)) (encAll (L.drop (k + 1))) L[k].1 L[k].2 (HOK.out _ (List.getElem_mem hk))
          have he := encAll_split L k hk
          rw [List.append_assoc, List.append_assoc, ← List.append_assoc (encAll (L.take k)), ← he] at hd
          rw [show ((([97, 98] ++ encAll (L.take k) : List UInt8).length : Nat) : Int) = ((encAll (L.take k)).length : Int) + 2 by simp; omega] at hd
          rw [mkB_app, dat_mk, hd, ← mkB_app] at h
          exact h
        have HT : Hid (∀ k, (hk : k < L.length) → (encAll (L.take (k + 1))).length = (encAll (L.take k)).length + (opW L[k].1 + 1)) := fun k hk => by
          rw [encAll_take L k hk, List.length_append, encOp_len (HOK.out _ (List.getElem_mem hk))]
        have HE : Hid ((encAll (L.take L.length)).length = (⟨(encAll L).toArray⟩ : ByteArray).size) := by show _ = _; rw [List.take_of_length_le (Nat.le_refl _)]; rfl
        clear hk'
        generalize (⟨(encAll L).toArray⟩ : ByteArray) = S at *
        have hs2 : ((⟨#[97, 98]⟩ : ByteArray) ++ S).size = 2 + S.size := ByteArray.size_append
        have hs3 : (S ++ (⟨#[255]⟩ : ByteArray)).size = S.size + 1 := ByteArray.size_append
        go_wp2_with fail
        refine (I1.out _).mono ?_
        rintro e w2 ⟨⟨v2, rfl, ho2⟩, hb2⟩
        obtain ⟨A2, c2, hv2, _, ha2⟩ := Arr.of_own ho2
        subst hv2
        have Y := hide (InRow.of_arr ha2)
        have X2 := hide (R.out.below hb2)
        have B2 := hide (BW.out.trans (hb2.mono BW.out.size))
        clear ho2 ha2 hb2
        go_wp2_with fail
        go_loopw [9, 10] (fun p i wr => ∃ m : Nat, m ≤ L.length ∧ i = .int .i64 m ∧ p = .int .i64 ((encAll (L.take m)).length : Nat) ∧ Below w2.heap.size w2 wr) (fun _ i _ => L.length - (intOf i).toNat)
        case atStart => exact ⟨0, Nat.zero_le _, rfl, rfl, Below.refl _ _⟩
        case round =>
          obtain ⟨m, hm, rfl, rfl, hb⟩ := hrel
          have HB2 := hide hb
          have XR := hide (X2.out.below hb)
          have YR := hide (Y.out.below hb)
          have BR := hide (B2.out.trans (hb.mono B2.out.size))
          have hle := HLT.out m
          clear hb
          by_cases hlt2 : m < L.length
          · have hltI : (m : Int) < (L.length : Int) := by omega
            have hst := HT.out m hlt2
            have hw4 := opW_le L[m].1
            go_wp2_with fail
            refine (I3.out m hlt2 _).mono ?_
            rintro e w3 ⟨rfl, hb3⟩
            have XR3 := hide (XR.out.below hb3)
            have YR3 := hide (YR.out.below hb3)
            have HB3 := hide (HB2.out.trans (hb3.mono HB2.out.size))
            clear hb3
            have XA := hide (XR3.out.below ((Below.refl _ _).alloc (Nat.le_refl _) (.cells #[.int .i64 L[m].1, .int .i64 L[m].2] 28)))
            have YA := hide (YR3.out.below ((Below.refl _ _).alloc (Nat.le_refl _) (.cells #[.int .i64 L[m].1, .int .i64 L[m].2] 28)))
            have BA := hide (HB3.out.alloc HB3.out.size (.cells #[.int .i64 L[m].1, .int .i64 L[m].2] 28))
            obtain ⟨b, o, rfl, hbl, c0, c1⟩ := XA.out.op m hlt2
            obtain ⟨b', o', rfl, hbl', d0, d1⟩ := YA.out.op m hlt2
            have KN := hide (Blk.new w3 28 #[.int .i64 L[m].1, .int .i64 L[m].2])
            have n0 := KN.out.cell 0
            have n1 := KN.out.cell 1
            simp at n0 n1
            go_wp2_with fail
            go_quiet (fail)
            have BQ := hide (below_drewN BA.out nq)
            clear c0 c1 d0 d1 n0 n1
            go_wp2_with fail
            go_roundw
            case rel => exact ⟨m + 1, by omega, by go_num, by rw [hst]; go_num, BQ.out⟩
            case measure => simp [intOf]; omega
          · obtain rfl : m = L.length := by omega
            rw [HE.out]
            have zE : ((S.size : Int) == (S.size : Int)) = true := by simp
            go_wp2_with fail
            refine (I2.out _).mono ?_
            rintro e w3 ⟨⟨v3, rfl, ho3⟩, hb3⟩
            have B3 := hide (BR.out.trans (hb3.mono BR.out.size))
            clear ho3 hb3
            go_wp2_with fail
            go_ret
            first | exact ⟨rfl, B3.out⟩ | exact ⟨ret_bool (by simp), B3.out⟩
end fnOps
end Go.Proofs.Ythhlimbaoenkkaa
