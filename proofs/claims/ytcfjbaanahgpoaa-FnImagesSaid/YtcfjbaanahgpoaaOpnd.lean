import Derived.Test.YtcfjbaanahgpoaaExpr
import Derived.Test.YtcfjbaanahgpoaaIntS
import Derived.Test.YtcfjbaanahgpoaaTokX
namespace Go.Proofs.Ytcfjbaanahgpoaa
open Go.RowKit
set_option maxRecDepth 100000
def opsL (l : List Tk) : Nat → Int → List Int
  | 0, _ => []
  | k + 1, nx => nx :: opsL l k (exprEndF l nx)
theorem opsL_length (l : List Tk) : ∀ k nx, (opsL l k nx).length = k := by
  intro k
  induction k with
  | zero => intro nx; rfl
  | succ k ih => intro nx; simp [opsL, ih]
def tkAt (l : List Tk) (i : Nat) : Tk := l.getD i (0, 0, ByteArray.empty)
def operandsF (l : List Tk) (at' : Int) : List Int := if exprEndF l at' < 0 then [] else opsL l (tkAr (tkAt l at'.toNat)).toNat (at' + 1)
theorem exprEnd_in (l : List Tk) (at' : Int) (h : ¬ exprEndF l at' < 0) : 0 ≤ at' ∧ at' < l.length ∧ tkOk (tkAt l at'.toNat) = true := by
  unfold exprEndF at h
  split at h
  · rename_i h1
    refine ⟨h1.1, h1.2, ?_⟩
    have hlt : at'.toNat < l.length := by omega
    cases hb : tkOk (tkAt l at'.toNat) with
    | true => rfl
    | false =>
      exfalso
      apply h
      rw [endL_bad l _ 1 (by omega) hlt (by
        unfold tkAt at hb
        rw [List.getD_eq_getElem?_getD, List.getElem?_eq_getElem hlt] at hb
        exact hb)]
      omega
  · omega
theorem operandsF_length (l : List Tk) (at' : Int) : (operandsF l at').length ≤ 4 := by
  unfold operandsF
  split
  · exact Nat.zero_le _
  · rename_i h
    have := tkAr_ok _ (exprEnd_in l at' h).2.2
    rw [opsL_length]; omega
set_option maxHeartbeats 1000000 in
theorem i_operands (A : Option Addr) (n c : Nat) (l : List Tk) (at0 : Int) (w : World) (hn : n ≤ 1048576) (hl : l.length = n) (h : InRow w A n 3 (tokCells l)) (hs : ∀ t ∈ l, t.2.2.size ≤ maxLen) :
    Calls Try.prog 101 #[.slice A n c, .int .i64 at0] w fun e w' => (∃ v, e = .returned v ∧ w'.ownsRow w.heap.size 3 1 v (operandsF l at0).length (intCells (operandsF l at0))) ∧ Below w.heap.size w w' := by
  obtain ⟨i0, hi, hz0, hz1, hz2⟩ := info_parts Try.infoInt
  have H := hide h
  have HL := hide hl
  have HS := hide hs
  clear h hl hs
  by_cases hneg : exprEndF l at0 < 0
  · have HF : Hid (operandsF l at0 = []) := by show _ = _; unfold operandsF; rw [if_pos hneg]
    go_enter Try.func101, Try.ntmps101
    go_wp2_with fail
    refine (i_exprEnd A n c l at0 _ hn HL.out H.out HS.out).mono ?_
    rintro e w1 ⟨rfl, hb1⟩
    go_wp2
    go_ret
    refine ⟨⟨.slice none 0 0, rfl, ?_⟩, hb1⟩
    rw [HF.out]
    exact World.ownsRow_nil _ _ _ _
  · obtain ⟨ha0, ha1, hok⟩ := exprEnd_in l at0 hneg
    have har := tkAr_ok _ hok
    have HF : Hid (operandsF l at0 = opsL l (tkAr (tkAt l at0.toNat)).toNat (at0 + 1)) := by show _ = _; unfold operandsF; rw [if_neg hneg]
    obtain ⟨p, rfl⟩ := Int.eq_ofNat_of_zero_le ha0
    rw [Int.toNat_natCast] at HF har hok
    have hpl : p < l.length := by omega
    have hpn : p < n := by rw [← HL.out]; exact hpl
    have HT : Hid (tkAt l p = l[p]) := by show _ = _; unfold tkAt; rw [List.getD_eq_getElem?_getD, List.getElem?_eq_getElem hpl]; rfl
    rw [HT.out] at HF har hok
    have hsz := HS.out _ (List.getElem_mem hpl)
    have HA : Hid (arityF l[p].1 l[p].2.1 l[p].2.2.data.toList = tkAr l[p]) := rfl
    clear ha0 ha1 hok
    go_enter Try.func101, Try.ntmps101
    go_wp2_with fail
    refine (i_exprEnd A n c l _ _ hn HL.out H.out HS.out).mono ?_
    rintro e w1 ⟨rfl, hb1⟩
    have R1 := hide ((H.out.below hb1).below ((Below.refl _ _).alloc (Nat.le_refl _) (.cells #[] 3)))
    obtain ⟨b, o, rfl, _, c0, c1, c2⟩ := R1.out.tok p hpl
    go_wp2_with fail
    refine (i_arity _ _ _ hsz _).mono ?_
    rintro e w2 ⟨rfl, hb2⟩
    rw [HA.out]
    generalize tkAr l[p] = ar at *
    clear hneg
    have hz1' := hb1.size
    have hbA := hide (((hb1.alloc hb1.size (.cells #[] 3))).trans (hb2.mono (by simp; omega)))
    have O1 : Hid (w2.ownsRow w.heap.size 3 1 (.slice (some ⟨w1.heap.size, 0, none⟩) 0 0) 0 []) := own_belowZ (World.ownsRow_lit w1 #[] 0 hb1.size (Nat.zero_le _) rfl) hb2
    clear hb1 hb2 c0 c1 c2 R1
    go_wp2
    go_loopw [5, 6, 7] (fun v nx kk wr => ∃ (j : Nat) (x : Int) (acc : List Int), kk = .int .i64 j ∧ nx = .int .i64 x ∧ acc.length + j ≤ 4 ∧ operandsF l (p : Int) = acc ++ opsL l j x ∧ wr.ownsRow w.heap.size 3 1 v acc.length (intCells acc) ∧ Below w.heap.size w wr) (fun _ _ kk _ => (intOf kk).toNat)
    case atStart => exact ⟨ar.toNat, (p : Int) + 1, [], by go_num, rfl, by simp; omega, by rw [HF.out]; rfl, O1.out, hbA.out⟩
    case round =>
      obtain ⟨j, x, acc, rfl, rfl, hacc, ho, hown, hb⟩ := hrel
      have HO := hide hown
      have HB := hide hb
      have HE := hide ho
      have R := hide (H.out.below hb)
      clear hown hb ho O1 hbA
      by_cases hj : 0 < j
      · obtain ⟨j, rfl⟩ : ∃ i, j = i + 1 := ⟨j - 1, by omega⟩
        have HE2 : Hid (operandsF l (p : Int) = (acc ++ [x]) ++ opsL l j (exprEndF l x)) := by show _ = _; rw [HE.out]; simp [opsL]
        have hsn := hide (intCells_snoc acc x)
        go_wp2_with (first | (at_builtin; refine wpList_app _ rfl (.tmp 24) (.tmp 26) _ rfl w.heap.size 3 i0 _ 1 8 Try.underlying28 hi hz0 hz1 hz2 rfl (by decide) u5 _ _ rfl HO.out 1 [.int .i64 x] rfl ?c1 ?c2 ?c3 ?c4 ?c5 ?_) | fail)
        case c1 => rfl
        case c2 => intro u hu; obtain rfl := List.mem_singleton.1 hu; rfl
        case c3 => omega
        case c4 => decide
        case c5 => exact HB.out.size
        intro v' w3 hown3 hb3 _ _
        rw [← hsn.out] at hown3
        have HO3 := hide hown3
        have HB3 := hide (HB.out.trans hb3)
        have R3 := hide (H.out.below HB3.out)
        clear hown3 hb3
        go_wp2_with fail
        refine (i_exprEnd _ n c l _ _ hn HL.out R3.out HS.out).mono ?_
        rintro e w4 ⟨rfl, hb4⟩
        have HO4 := hide (own_belowZ HO3.out hb4)
        have HB4 := hide (HB3.out.trans (hb4.mono HB3.out.size))
        clear hb4
        go_wp2
        go_roundw
        case rel => exact ⟨j, exprEndF l x, acc ++ [x], by go_num, rfl, by simp; omega, HE2.out, by simpa using HO4.out, HB4.out⟩
        case measure => first | (simp [intOf]; done) | (simp [intOf]; omega)
      · have HF2 : Hid (operandsF l (p : Int) = acc) := by show _ = _; rw [HE.out, show j = 0 by omega]; exact List.append_nil _
        go_wp2
        go_ret
        refine ⟨⟨u5, rfl, ?_⟩, HB.out⟩
        rw [HF2.out]
        exact HO.out
set_option maxHeartbeats 1000000 in
theorem s_operands (A : Option Addr) (n c : Nat) (l : List Tk) (at0 : Int) (w : World) (hn : n ≤ 1048576) (hl : l.length = n) (h : InRow w A n 3 (tokCells l)) (hs : ∀ t ∈ l, t.2.2.size ≤ maxLen) :
    Calls Try.prog 95 #[.slice A n c, .int .i64 at0] w fun e w' => (∃ v, e = .returned v ∧ w'.ownsRow w.heap.size 3 1 v (operandsF l at0).length (intCells (operandsF l at0))) ∧ Below w.heap.size w w' := by
  obtain ⟨i0, hi, hz0, hz1, hz2⟩ := info_parts Try.infoInt
  have H := hide h
  have HL := hide hl
  have HS := hide hs
  clear h hl hs
  by_cases hneg : exprEndF l at0 < 0
  · have HF : Hid (operandsF l at0 = []) := by show _ = _; unfold operandsF; rw [if_pos hneg]
    go_enter Try.func95, Try.ntmps95
    go_wp2_with fail
    refine (s_exprEnd A n c l at0 _ hn HL.out (H.out.below ((Below.refl _ _).alloc (Nat.le_refl _) _)) HS.out).mono ?_
    rintro e w1 ⟨rfl, hb1⟩
    go_wp2
    go_ret
    refine ⟨⟨.slice (some ⟨w.heap.size, 0, none⟩) 0 0, rfl, ?_⟩, ((Below.refl _ _).alloc (Nat.le_refl _) _).trans (hb1.mono (by simp))⟩
    rw [HF.out]
    exact own_belowZ (World.ownsRow_lit w #[] 0 (Nat.le_refl _) (Nat.zero_le _) rfl) hb1
  · obtain ⟨ha0, ha1, hok⟩ := exprEnd_in l at0 hneg
    have har := tkAr_ok _ hok
    have HF : Hid (operandsF l at0 = opsL l (tkAr (tkAt l at0.toNat)).toNat (at0 + 1)) := by show _ = _; unfold operandsF; rw [if_neg hneg]
    obtain ⟨p, rfl⟩ := Int.eq_ofNat_of_zero_le ha0
    rw [Int.toNat_natCast] at HF har hok
    have hpl : p < l.length := by omega
    have hpn : p < n := by rw [← HL.out]; exact hpl
    have HT : Hid (tkAt l p = l[p]) := by show _ = _; unfold tkAt; rw [List.getD_eq_getElem?_getD, List.getElem?_eq_getElem hpl]; rfl
    rw [HT.out] at HF har hok
    have hsz := HS.out _ (List.getElem_mem hpl)
    have HA : Hid (arityF l[p].1 l[p].2.1 l[p].2.2.data.toList = tkAr l[p]) := rfl
    clear ha0 ha1 hok
    go_enter Try.func95, Try.ntmps95
    go_wp2_with fail
    refine (s_exprEnd A n c l _ _ hn HL.out (H.out.below ((Below.refl _ _).alloc (Nat.le_refl _) _)) HS.out).mono ?_
    rintro e w1 ⟨rfl, hb1⟩
    have hb0 : Below w.heap.size w w1 := ((Below.refl _ _).alloc (Nat.le_refl _) _).trans (hb1.mono (by simp))
    have R1 := hide (H.out.below hb0)
    obtain ⟨b, o, rfl, _, c0, c1, c2⟩ := R1.out.tok p hpl
    go_wp2_with fail
    refine (s_arity _ _ _ hsz _).mono ?_
    rintro e w2 ⟨rfl, hb2⟩
    rw [HA.out]
    generalize tkAr l[p] = ar at *
    clear hneg
    have hbA := hide (hb0.trans (hb2.mono hb0.size))
    have O1 : Hid (w2.ownsRow w.heap.size 3 1 (.slice (some ⟨w.heap.size, 0, none⟩) 0 0) 0 []) := own_belowZ (own_belowZ (World.ownsRow_lit w #[] 0 (Nat.le_refl _) (Nat.zero_le _) rfl) hb1) hb2
    clear hb0
    clear hb1 hb2 c0 c1 c2 R1
    go_wp2
    go_loopw [5, 6, 7] (fun v nx kk wr => ∃ (j : Nat) (x : Int) (acc : List Int), kk = .int .i64 j ∧ nx = .int .i64 x ∧ acc.length + j ≤ 4 ∧ operandsF l (p : Int) = acc ++ opsL l j x ∧ wr.ownsRow w.heap.size 3 1 v acc.length (intCells acc) ∧ Below w.heap.size w wr) (fun _ _ kk _ => (intOf kk).toNat)
    case atStart => exact ⟨ar.toNat, (p : Int) + 1, [], by go_num, rfl, by simp; omega, by rw [HF.out]; rfl, O1.out, hbA.out⟩
    case round =>
      obtain ⟨j, x, acc, rfl, rfl, hacc, ho, hown, hb⟩ := hrel
      have HO := hide hown
      have HB := hide hb
      have HE := hide ho
      have R := hide (H.out.below hb)
      clear hown hb ho O1 hbA
      by_cases hj : 0 < j
      · obtain ⟨j, rfl⟩ : ∃ i, j = i + 1 := ⟨j - 1, by omega⟩
        have HE2 : Hid (operandsF l (p : Int) = (acc ++ [x]) ++ opsL l j (exprEndF l x)) := by show _ = _; rw [HE.out]; simp [opsL]
        have hsn := hide (intCells_snoc acc x)
        go_wp2_with (first | (at_builtin; refine wpList_app _ rfl (.tmp 25) (.tmp 27) _ rfl w.heap.size 3 i0 _ 1 8 Try.underlying28 hi hz0 hz1 hz2 rfl (by decide) u5 _ _ rfl HO.out 1 [.int .i64 x] rfl ?c1 ?c2 ?c3 ?c4 ?c5 ?_) | fail)
        case c1 => rfl
        case c2 => intro u hu; obtain rfl := List.mem_singleton.1 hu; rfl
        case c3 => omega
        case c4 => decide
        case c5 => exact HB.out.size
        intro v' w3 hown3 hb3 _ _
        rw [← hsn.out] at hown3
        have HO3 := hide hown3
        have HB3 := hide (HB.out.trans hb3)
        have R3 := hide (H.out.below HB3.out)
        clear hown3 hb3
        go_wp2_with fail
        refine (s_exprEnd _ n c l _ _ hn HL.out R3.out HS.out).mono ?_
        rintro e w4 ⟨rfl, hb4⟩
        have HO4 := hide (own_belowZ HO3.out hb4)
        have HB4 := hide (HB3.out.trans (hb4.mono HB3.out.size))
        clear hb4
        go_wp2
        go_roundw
        case rel => exact ⟨j, exprEndF l x, acc ++ [x], by go_num, rfl, by simp; omega, HE2.out, by simpa using HO4.out, HB4.out⟩
        case measure => first | (simp [intOf]; done) | (simp [intOf]; omega)
      · have HF2 : Hid (operandsF l (p : Int) = acc) := by show _ = _; rw [HE.out, show j = 0 by omega]; exact List.append_nil _
        go_wp2
        go_ret
        refine ⟨⟨u5, rfl, ?_⟩, HB.out⟩
        rw [HF2.out]
        exact HO.out
end Go.Proofs.Ytcfjbaanahgpoaa
