import Derived.Test.YthhlimbaoenkkaaIntS
import Derived.Test.YthhlimbaoenkkaaLin
import Derived.Test.YthhlimbaoenkkaaOpS
namespace Go.Proofs.Ythhlimbaoenkkaa
open Go.RowKit
set_option maxRecDepth 100000
/-! Items: an instruction, a line, a mark, a chain of lines, a depth, a mark. -/
abbrev It := Int × Int × Int × Bool × List Int × Int × Bool
abbrev IP := It × Option Addr × Nat
def itC (p : IP) : List Value := [.int .i64 p.1.1, .int .i64 p.1.2.1, .int .i64 p.1.2.2.1, .bool p.1.2.2.2.1, .slice p.2.1 p.1.2.2.2.2.1.length p.2.2, .int .i64 p.1.2.2.2.2.2.1, .bool p.1.2.2.2.2.2.2]
def ItIn (w : World) (x : It) (A : Option Addr) (c : Nat) : Prop := InRow w A x.2.2.2.2.1.length 1 (intCells x.2.2.2.2.1) ∧ x.2.2.2.2.1.length ≤ c ∧ c ≤ maxLen
def InItems' (w : World) (A : Option Addr) (n : Nat) (L : List It) : Prop :=
  ∃ P : List IP, P.map Prod.fst = L ∧ InRow w A n 7 (P.flatMap itC) ∧ ∀ p ∈ P, ItIn w p.1 p.2.1 p.2.2
section
variable {w w' : World} {A : Option Addr} {n : Nat} {L : List It}
theorem ItIn.below {x : It} {A : Option Addr} {c : Nat} (h : ItIn w x A c) (hb : Below w.heap.size w w') : ItIn w' x A c := ⟨h.1.below hb, h.2⟩
theorem ItIn.drew {x : It} {A : Option Addr} {c : Nat} (h : ItIn w x A c) : ItIn w.drew x A c := h
theorem InItems'.below (h : InItems' w A n L) (hb : Below w.heap.size w w') : InItems' w' A n L := by
  obtain ⟨P, e, h1, h2⟩ := h
  exact ⟨P, e, h1.below hb, fun p hp => (h2 p hp).below hb⟩
theorem InItems'.len (h : InItems' w A n L) : L.length = n := by
  obtain ⟨P, rfl, h1, _⟩ := h
  have := h1.1
  rw [flat_length itC 7 (fun _ => rfl)] at this
  simp; omega
theorem InItems'.nil_ (w : World) (A : Option Addr) : InItems' w A 0 [] := ⟨[], rfl, InRow.nil_ _ _ _, fun p h => by simp at h⟩
theorem InItems'.at_ (h : InItems' w A n L) (k : Nat) (hk : k < L.length) : ∃ b o A1 c1, A = some ⟨b, o, none⟩ ∧ b < w.heap.size ∧ w.cell? ⟨b, o + k * 7, none⟩ = some (.int .i64 L[k].1) ∧
    w.cell? ⟨b, o + k * 7 + 1, none⟩ = some (.int .i64 L[k].2.1) ∧ w.cell? ⟨b, o + k * 7 + 2, none⟩ = some (.int .i64 L[k].2.2.1) ∧ w.cell? ⟨b, o + k * 7 + 3, none⟩ = some (.bool L[k].2.2.2.1) ∧
    w.cell? ⟨b, o + k * 7 + 4, none⟩ = some (.slice A1 L[k].2.2.2.2.1.length c1) ∧ w.cell? ⟨b, o + k * 7 + 5, none⟩ = some (.int .i64 L[k].2.2.2.2.2.1) ∧ w.cell? ⟨b, o + k * 7 + 6, none⟩ = some (.bool L[k].2.2.2.2.2.2) ∧ ItIn w L[k] A1 c1 := by
  have hl := h.len
  obtain ⟨P, rfl, h1, h2⟩ := h
  have hk' : k < P.length := by simpa using hk
  obtain ⟨b, o, e, hb, hc⟩ := h1.2 (by omega)
  have t := fun j hj => flat_at itC 7 (fun _ => rfl) P k j hk' hj
  have hn : k * 7 + 6 < n * 7 := by omega
  simp only [List.getElem_map]
  exact ⟨b, o, P[k].2.1, P[k].2.2, e, hb, (hc (k * 7) (by omega)).trans (t 0 (by omega)), (hc (k * 7 + 1) (by omega)).trans (t 1 (by omega)), (hc (k * 7 + 2) (by omega)).trans (t 2 (by omega)), (hc (k * 7 + 3) (by omega)).trans (t 3 (by omega)), (hc (k * 7 + 4) (by omega)).trans (t 4 (by omega)), (hc (k * 7 + 5) (by omega)).trans (t 5 (by omega)), (hc (k * 7 + 6) (by omega)).trans (t 6 (by omega)), h2 _ (List.getElem_mem hk')⟩
end
def itTot (L : List It) : Nat := (L.map fun x => x.2.2.2.2.1.length).sum
theorem itTot_mem (L : List It) (x : It) (h : x ∈ L) : x.2.2.2.2.1.length ≤ itTot L := by
  unfold itTot
  induction L with
  | nil => simp at h
  | cons y L ih =>
    simp only [List.map_cons, List.sum_cons]
    rcases List.mem_cons.1 h with rfl | h
    · omega
    · have := ih h; omega
theorem itTot_snoc (L : List It) (x : It) : itTot (L ++ [x]) = itTot L + x.2.2.2.2.1.length := by simp [itTot]
set_option maxHeartbeats 400000 in
theorem l_szIntS (A : Option Addr) (n c : Nat) (L : Int) (w : World) (hn : n ≤ maxLen) (hL : -1 ≤ L ∧ L ≤ 1048576) :
    Calls Try.prog 80 #[.slice A n c, .int .i64 L] w fun e w' => (∃ r : Int, e = .returned (.int .i64 r) ∧ -1 ≤ r ∧ r ≤ L ∧ (0 ≤ r → (n : Int) + r ≤ L)) ∧ w = w' := by
  unfold maxLen at hn
  by_cases hlen : L - n < 0
  · go_enter Try.func80, Try.ntmps80
    go_wp2_with fail
    go_ret
    exact ⟨⟨-1, rfl, by omega, by omega, fun h => by omega⟩, rfl⟩
  · go_enter Try.func80, Try.ntmps80
    go_wp2_with fail
    go_ret
    exact ⟨⟨L - n, rfl, by omega, by omega, fun h => by omega⟩, rfl⟩
set_option maxHeartbeats 400000 in
theorem l_szItem (x : It) (A : Option Addr) (c : Nat) (L : Int) (w : World) (hL : -1 ≤ L ∧ L ≤ 1048576) (h : ItIn w x A c) :
    Calls Try.prog 68 #[.agg #[.int .i64 x.1, .int .i64 x.2.1, .int .i64 x.2.2.1, .bool x.2.2.2.1, .slice A x.2.2.2.2.1.length c, .int .i64 x.2.2.2.2.2.1, .bool x.2.2.2.2.2.2], .int .i64 L] w fun e w' =>
      (∃ r : Int, e = .returned (.int .i64 r) ∧ -1 ≤ r ∧ r ≤ L ∧ (0 ≤ r → (x.2.2.2.2.1.length : Int) + r ≤ L)) ∧ Below w.heap.size w w' := by
  obtain ⟨k, a, ln, st, ch, d, en⟩ := x
  obtain ⟨h1, h2, h3⟩ := h
  simp only at h1 h2 h3 ⊢
  go_enter Try.func68, Try.ntmps68
  go_wp2_with fail
  refine (l_szIntS A _ c L _ (by omega) hL).mono ?_
  rintro e w2 ⟨⟨r, rfl, r0, r1, r2⟩, rfl⟩
  by_cases hb1 : r < 0
  · go_wp2_with fail
    go_ret
    exact ⟨⟨-1, rfl, by omega, by omega, fun h => by omega⟩, by repeat (first | exact Below.refl _ _ | refine Below.alloc ?_ (by first | (simp; done) | (simp; omega)) _ | refine Below.drew ?_ | refine below_drewN ?_ _ | refine Below.setCell ?_ (by first | (simp; done) | (simp; omega)) _)⟩
  · have r3 := r2 (by omega)
    go_wp2_with fail
    go_ret
    exact ⟨⟨r, rfl, by omega, by omega, fun h => by omega⟩, by repeat (first | exact Below.refl _ _ | refine Below.alloc ?_ (by first | (simp; done) | (simp; omega)) _ | refine Below.drew ?_ | refine below_drewN ?_ _ | refine Below.setCell ?_ (by first | (simp; done) | (simp; omega)) _)⟩
set_option maxHeartbeats 400000 in
theorem l_szItemS (A : Option Addr) (n c : Nat) (l : List It) (L : Int) (w : World) (hn : n ≤ maxLen) (hL : -1 ≤ L ∧ L ≤ 1048576) (h : InItems' w A n l) :
    Calls Try.prog 21 #[.slice A n c, .int .i64 L] w fun e w' => (∃ r : Int, e = .returned (.int .i64 r) ∧ -1 ≤ r ∧ r ≤ L ∧ (0 ≤ r → (n : Int) + itTot l + r ≤ L)) ∧ Below w.heap.size w w' := by
  unfold maxLen at hn
  have H := hide h
  have HL := hide h.len
  clear h
  by_cases hlen : L - n < 0
  · go_enter Try.func21, Try.ntmps21
    go_wp2_with fail
    go_ret
    exact ⟨⟨-1, rfl, by omega, by omega, fun h => by omega⟩, Below.refl _ _⟩
  · go_enter Try.func21, Try.ntmps21
    go_wp2_with fail
    go_loopw [1, 5] (fun m i wr => ∃ (k : Nat) (r : Int), k ≤ n ∧ i = .int .i64 k ∧ m = .int .i64 r ∧ 0 ≤ r ∧ r ≤ L - n - itTot (l.take k) ∧ Below w.heap.size w wr) (fun _ i _ => n - (intOf i).toNat)
    case atStart => exact ⟨0, L - n, Nat.zero_le _, rfl, rfl, by omega, by simp [itTot], Below.refl _ _⟩
    case round =>
      obtain ⟨k, r, hk, rfl, rfl, hr0, hr1, hb⟩ := hrel
      have HB := hide hb
      have R := hide (H.out.below hb)
      clear hb
      by_cases hlt : k < n
      · have hkl : k < l.length := by rw [HL.out]; exact hlt
        obtain ⟨b, o, A1, c1, rfl, _, k0, k1, k2, k3, k4, k5, k6, hln⟩ := R.out.at_ k hkl
        have hst := hide (List.take_succ_eq_append_getElem hkl)
        have HN := hide hln
        clear hln
        go_wp2_with fail
        refine (l_szItem l[k] A1 c1 _ _ (by omega) HN.out).mono ?_
        rintro e w2 ⟨⟨q, rfl, q0, q1, q2⟩, hb2⟩
        have hbn := hide (HB.out.trans (hb2.mono HB.out.size))
        clear hb2
        by_cases hbad : q < 0
        · go_wp2
          go_ret
          exact ⟨⟨-1, rfl, by omega, by omega, fun h => by omega⟩, hbn.out⟩
        · have q3 := q2 (by omega)
          clear q2
          go_wp2
          go_roundw
          case rel =>
            refine ⟨k + 1, q, by omega, by go_num, rfl, by omega, ?_, hbn.out⟩
            rw [hst.out, itTot_snoc]
            omega
          case measure => simp [intOf]; omega
      · have HA := hide (List.take_of_length_le (l := l) (i := k) (by rw [HL.out]; omega))
        rw [HA.out] at hr1
        go_wp2
        go_ret
        exact ⟨⟨r, rfl, by omega, by omega, fun h => by omega⟩, HB.out⟩
theorem intCells_step (l : List Int) (k : Nat) (h : k < l.length) (zs : List Value) (hz : zs.length = l.length) : (intCells (l.take k) ++ zs.drop k).set k (.int .i64 l[k]) = intCells (l.take (k + 1)) ++ zs.drop (k + 1) := by
  have hp : (intCells (l.take k)).length = k := by rw [intCells_length, List.length_take]; omega
  have := set_prefix (intCells (l.take k)) zs (.int .i64 l[k]) (by rw [hp]; omega)
  rw [List.length_append, hp] at this
  rw [List.take_succ_eq_append_getElem h, intCells_snoc]
  exact this
set_option maxHeartbeats 400000 in
theorem l_toIntS (A : Option Addr) (n c : Nat) (l : List Int) (w : World) (hn : n ≤ 1048576) (hl : l.length = n) (h : InRow w A n 1 (intCells l)) :
    Calls Try.prog 86 #[.slice A n c] w fun e w' => (∃ A', e = .returned (.slice A' n n) ∧ Arr w' w.heap.size w'.heap.size A' n 1 (intCells l)) ∧ Below w.heap.size w w' := by
  obtain ⟨i0, hi, hz0, hz1, hz2⟩ := info_parts Try.infoInt
  have H := hide h
  have HL := hide hl
  clear h hl
  go_enter Try.func86, Try.ntmps86
  go_wp2_with (at_make; refine wpList_mk _ rfl _ _ 51 rfl 3 i0 _ 1 Try.underlying51 hi hz0 hz1 _ _ _ _ n rfl rfl ?c1 ?c2 ?c3 ?c4 ?_)
  case c1 => rfl
  case c2 => rfl
  case c3 => rw [hz2]; omega
  case c4 => unfold maxLen; omega
  intro w1 zs ha1 hb1
  have HZ := hide ha1.1
  go_wp2
  go_loopw [4] (fun i wr => ∃ k : Nat, k ≤ n ∧ i = .int .i64 k ∧ Arr wr w.heap.size wr.heap.size (some ⟨w.heap.size, 0, none⟩) n 1 (intCells (l.take k) ++ zs.drop k) ∧ Below w.heap.size w wr) (fun i _ => n - (intOf i).toNat)
  case atStart => exact ⟨0, Nat.zero_le _, rfl, by simpa [intCells] using ha1, hb1⟩
  case round =>
    obtain ⟨k, hk, rfl, hr, hb⟩ := hrel
    have R := hide hr
    have HB := hide hb
    have RI := hide (H.out.below hb)
    clear hr hb
    by_cases hlt : k < n
    · have hkl : k < l.length := by rw [HL.out]; exact hlt
      obtain ⟨b, o, rfl, _, c0⟩ := RI.out.int k hkl
      have s1 := hide (intCells_step l k hkl zs (by rw [HZ.out, HL.out]; omega))
      have R3 := hide (R.out.set_ (j := k) (by omega) (.int .i64 l[k]))
      obtain ⟨g', eg, g1, g2, g3, hc⟩ := R.out.2 (by omega)
      obtain rfl : w.heap.size = g' := by injection eg with eg; injection eg
      obtain ⟨u0, d0⟩ : ∃ u, wr.cell? ⟨w.heap.size, k, none⟩ = some u := ⟨_, (hc k (by omega)).1.trans (List.getElem?_eq_getElem (by rw [R.out.1]; omega))⟩
      have f0 := (hc k (by omega)).2
      clear hc eg
      go_wp2
      go_roundw
      case rel =>
        refine ⟨k + 1, by omega, by go_num, ?_, ?_⟩
        · rw [← s1.out]
          exact R3.out.more (Nat.le_refl _) (by simp [World.setCell]) (Nat.le_refl _)
        · exact HB.out.setCell (p := ⟨w.heap.size, k, none⟩) (Nat.le_refl _) _
      case measure => simp [intOf]; omega
    · have hall : intCells (l.take k) ++ zs.drop k = intCells l := by
        rw [List.take_of_length_le (by rw [HL.out]; omega), List.drop_of_length_le (by rw [HZ.out]; omega), List.append_nil]
      have R2 := hide R.out
      rw [hall] at R2
      clear hall
      go_wp2
      go_ret
      exact ⟨⟨_, rfl, R2.out⟩, HB.out⟩
set_option maxHeartbeats 1000000 in
theorem l_toItem (x : It) (A : Option Addr) (c : Nat) (w : World) (hn : x.2.2.2.2.1.length ≤ 1048576) (h : ItIn w x A c) :
    Calls Try.prog 69 #[.agg #[.int .i64 x.1, .int .i64 x.2.1, .int .i64 x.2.2.1, .bool x.2.2.2.1, .slice A x.2.2.2.2.1.length c, .int .i64 x.2.2.2.2.2.1, .bool x.2.2.2.2.2.2]] w fun e w' =>
      (∃ B, e = .returned (.agg #[.int .i64 x.1, .int .i64 x.2.1, .int .i64 x.2.2.1, .bool x.2.2.2.1, .slice B x.2.2.2.2.1.length x.2.2.2.2.1.length, .int .i64 x.2.2.2.2.2.1, .bool x.2.2.2.2.2.2]) ∧ Arr w' w.heap.size w'.heap.size B x.2.2.2.2.1.length 1 (intCells x.2.2.2.2.1)) ∧ Below w.heap.size w w' := by
  obtain ⟨k, a, ln, st, ch, d, en⟩ := x
  obtain ⟨h1, h2, h3⟩ := h
  simp only at h1 h2 h3 hn ⊢
  go_enter Try.func69, Try.ntmps69
  go_wp2_with fail
  refine (l_toOp _ _ _).mono ?_
  rintro e w2 ⟨rfl, hb2⟩
  have Z2 := hb2.size
  simp at Z2
  have K0 : Blk w2 w.heap.size 95 #[.int .i64 k, .int .i64 a, .int .i64 ln, .bool st, .slice A ch.length c, .int .i64 d, .bool en] := (((Blk.new w _ _).alloc _).alloc _).below hb2 (by simp; omega)
  have K1 : Blk w2 (w.heap.size + 1) 97 #[.int .i64 0, .int .i64 0, .int .i64 0, .bool false, .slice none 0 0, .int .i64 0, .bool false] := by
    have := ((Blk.new (w.alloc (.cells #[.int .i64 k, .int .i64 a, .int .i64 ln, .bool st, .slice A ch.length c, .int .i64 d, .bool en] 95)) 97 #[.int .i64 0, .int .i64 0, .int .i64 0, .bool false, .slice none 0 0, .int .i64 0, .bool false]).alloc _).below hb2 (by simp)
    simpa using this
  have K2 : Blk w2 (w.heap.size + 1 + 1) 97 #[.int .i64 0, .int .i64 0, .int .i64 0, .bool false, .slice none 0 0, .int .i64 0, .bool false] := by
    have := (Blk.new ((w.alloc (.cells #[.int .i64 k, .int .i64 a, .int .i64 ln, .bool st, .slice A ch.length c, .int .i64 d, .bool en] 95)).alloc (.cells #[.int .i64 0, .int .i64 0, .int .i64 0, .bool false, .slice none 0 0, .int .i64 0, .bool false] 97)) 97 #[.int .i64 0, .int .i64 0, .int .i64 0, .bool false, .slice none 0 0, .int .i64 0, .bool false]).below hb2 (by simp)
    simpa using this
  have hB2 := hide (show Below w.heap.size w w2 from Below.trans (by repeat (first | exact Below.refl _ _ | refine Below.alloc ?_ (by first | (simp; done) | (simp; omega)) _ | refine Below.drew ?_ | refine below_drewN ?_ _ | refine Below.setCell ?_ (by first | (simp; done) | (simp; omega)) _)) (hb2.mono (by first | (simp; done) | (simp; omega) | omega)))
  clear hb2
  have x0 := K0.cell 0
  have x1 := K0.cell 1
  have x2 := K0.cell 2
  have x3 := K0.cell 3
  have x4 := K0.cell 4
  have x5 := K0.cell 5
  have x6 := K0.cell 6
  have y0 := K2.cell 0
  have y1 := K2.cell 1
  have y2 := K2.cell 2
  have y3 := K2.cell 3
  have y4 := K2.cell 4
  have y5 := K2.cell 5
  have y6 := K2.cell 6
  have z0 := K2.frozen 0
  have z1 := K2.frozen 1
  have z2 := K2.frozen 2
  have z3 := K2.frozen 3
  simp at x0 x1 x2 x3 x4 x5 x6 y0 y1 y2 y3 y4 y5 y6
  go_wp2_with fail
  refine (l_toIntS A _ c ch _ hn rfl (h1.below ((((hB2.out.setCell (p := ⟨_, _, _⟩) (by first | (simp; done) | (simp; omega) | omega) _).setCell (p := ⟨_, _, _⟩) (by first | (simp; done) | (simp; omega) | omega) _).setCell (p := ⟨_, _, _⟩) (by first | (simp; done) | (simp; omega) | omega) _).setCell (p := ⟨_, _, _⟩) (by first | (simp; done) | (simp; omega) | omega) _))).mono ?_
  rintro e w3 ⟨⟨B, rfl, r1⟩, hb3⟩
  have Z3 := hb3.size
  simp at Z3
  have E0 := ((((K0.far (p := ⟨w.heap.size + 1 + 1, 0, none⟩) (by first | (simp; done) | (simp; omega) | omega) (.int .i64 k)).far (p := ⟨w.heap.size + 1 + 1, 1, none⟩) (by first | (simp; done) | (simp; omega) | omega) (.int .i64 a)).far (p := ⟨w.heap.size + 1 + 1, 2, none⟩) (by first | (simp; done) | (simp; omega) | omega) (.int .i64 ln)).far (p := ⟨w.heap.size + 1 + 1, 3, none⟩) (by first | (simp; done) | (simp; omega) | omega) (.bool st)).below hb3 (by first | (simp; done) | (simp; omega) | omega)
  have E1 := ((((K1.far (p := ⟨w.heap.size + 1 + 1, 0, none⟩) (by first | (simp; done) | (simp; omega) | omega) (.int .i64 k)).far (p := ⟨w.heap.size + 1 + 1, 1, none⟩) (by first | (simp; done) | (simp; omega) | omega) (.int .i64 a)).far (p := ⟨w.heap.size + 1 + 1, 2, none⟩) (by first | (simp; done) | (simp; omega) | omega) (.int .i64 ln)).far (p := ⟨w.heap.size + 1 + 1, 3, none⟩) (by first | (simp; done) | (simp; omega) | omega) (.bool st)).below hb3 (by first | (simp; done) | (simp; omega) | omega)
  have E2 := ((((K2.set_ 0 (.int .i64 k)).set_ 1 (.int .i64 a)).set_ 2 (.int .i64 ln)).set_ 3 (.bool st)).below hb3 (by first | (simp; done) | (simp; omega) | omega)
  have hB3 := hide (((((hB2.out.setCell (p := ⟨w.heap.size + 1 + 1, 0, none⟩) (by first | (simp; done) | (simp; omega) | omega) (.int .i64 k)).setCell (p := ⟨w.heap.size + 1 + 1, 1, none⟩) (by first | (simp; done) | (simp; omega) | omega) (.int .i64 a)).setCell (p := ⟨w.heap.size + 1 + 1, 2, none⟩) (by first | (simp; done) | (simp; omega) | omega) (.int .i64 ln)).setCell (p := ⟨w.heap.size + 1 + 1, 3, none⟩) (by first | (simp; done) | (simp; omega) | omega) (.bool st)).trans (hb3.mono (by first | (simp; done) | (simp; omega) | omega)))
  have R3 : Hid (Arr w3 (w.heap.size + 3) w3.heap.size B ch.length 1 (intCells ch)) := r1.more (by first | (simp; done) | (simp; omega) | omega) (Nat.le_refl _) (Nat.le_refl _)
  clear hb3 r1 K0 K1 K2 x0 x1 x2 x3 x4 x5 x6 y0 y1 y2 y3 y4 y5 y6 z0 z1 z2 z3
  have x4 := E0.cell 4
  have x5 := E0.cell 5
  have x6 := E0.cell 6
  have y0 := E2.cell 0
  have y1 := E2.cell 1
  have y2 := E2.cell 2
  have y3 := E2.cell 3
  have y4 := E2.cell 4
  have y5 := E2.cell 5
  have y6 := E2.cell 6
  have z4 := E2.frozen 4
  have z5 := E2.frozen 5
  have z6 := E2.frozen 6
  have v0 := E1.cell 0
  have v1 := E1.cell 1
  have v2 := E1.cell 2
  have v3 := E1.cell 3
  have v4 := E1.cell 4
  have v5 := E1.cell 5
  have v6 := E1.cell 6
  have u0 := E1.frozen 0
  have u1 := E1.frozen 1
  have u2 := E1.frozen 2
  have u3 := E1.frozen 3
  have u4 := E1.frozen 4
  have u5 := E1.frozen 5
  have u6 := E1.frozen 6
  simp at x4 x5 x6 y0 y1 y2 y3 y4 y5 y6 v0 v1 v2 v3 v4 v5 v6
  go_wp2_with fail
  have hne1 : ¬ w.heap.size + 1 + 1 = w.heap.size + 1 := by omega
  have hne2 : ¬ w.heap.size + 1 = w.heap.size + 1 + 1 := by omega
  refine bodyPost_ret (v := .agg #[.int .i64 k, .int .i64 a, .int .i64 ln, .bool st, .slice B ch.length ch.length, .int .i64 d, .bool en]) (by simp [results, Try.results69, go_sem, v0, v1, v2, v3, v4, v5, v6]) rfl ⟨⟨B, rfl, ?_⟩, ?_⟩
  · have R4 : Arr w3 (w.heap.size + 3) w3.heap.size B ch.length 1 (intCells ch) := R3.out
    refine Arr.more (lo := w.heap.size + 3) (hi := w3.heap.size) ?_ (by first | (simp; done) | (simp; omega) | omega) (by first | (simp; done) | (simp; omega) | omega) (Nat.le_refl _)
    iterate 10 refine Arr.far ?_ (.inl (by first | (simp; done) | (simp; omega) | omega)) _
    exact R4
  · iterate 10 refine Below.setCell ?_ (by first | (simp; done) | (simp; omega) | omega) _
    exact hB3.out
end Go.Proofs.Ythhlimbaoenkkaa
