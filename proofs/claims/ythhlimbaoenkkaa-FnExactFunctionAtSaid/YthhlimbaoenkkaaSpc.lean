import Derived.Test.YthhlimbaoenkkaaSym
import Derived.Test.YthhlimbaoenkkaaItmB
namespace Go.Proofs.Ythhlimbaoenkkaa
open Go.RowKit
set_option maxRecDepth 100000
/-! Images in a row, and a space. -/
abbrev MP := Im × Option Addr × Nat
def imC (p : MP) : List Value := [.string p.1.1, .slice p.2.1 p.1.2.length p.2.2]
def InImgs (w : World) (A : Option Addr) (n : Nat) (L : List Im) : Prop :=
  ∃ P : List MP, P.map Prod.fst = L ∧ InRow w A n 2 (P.flatMap imC) ∧ ∀ p ∈ P, ImIn w p.1 p.2.1 p.2.2
section
variable {w w' : World} {A : Option Addr} {n : Nat} {L : List Im}
theorem InImgs.below (h : InImgs w A n L) (hb : Below w.heap.size w w') : InImgs w' A n L := by
  obtain ⟨P, e, h1, h2⟩ := h
  exact ⟨P, e, h1.below hb, fun p hp => (h2 p hp).below hb⟩
theorem InImgs.len (h : InImgs w A n L) : L.length = n := by
  obtain ⟨P, rfl, h1, _⟩ := h
  have := h1.1
  rw [flat_length imC 2 (fun _ => rfl)] at this
  simp; omega
theorem InImgs.nil_ (w : World) (A : Option Addr) : InImgs w A 0 [] := ⟨[], rfl, InRow.nil_ _ _ _, fun p h => by simp at h⟩
theorem InImgs.at_ (h : InImgs w A n L) (k : Nat) (hk : k < L.length) : ∃ b o A1 c1, A = some ⟨b, o, none⟩ ∧ b < w.heap.size ∧ w.cell? ⟨b, o + k * 2, none⟩ = some (.string L[k].1) ∧
    w.cell? ⟨b, o + k * 2 + 1, none⟩ = some (.slice A1 L[k].2.length c1) ∧ ImIn w L[k] A1 c1 := by
  have hl := h.len
  obtain ⟨P, rfl, h1, h2⟩ := h
  have hk' : k < P.length := by simpa using hk
  obtain ⟨b, o, e, hb, hc⟩ := h1.2 (by omega)
  have t := fun j hj => flat_at imC 2 (fun _ => rfl) P k j hk' hj
  have hn : k * 2 + 1 < n * 2 := by omega
  simp only [List.getElem_map]
  exact ⟨b, o, P[k].2.1, P[k].2.2, e, hb, (hc (k * 2) (by omega)).trans (t 0 (by omega)), (hc (k * 2 + 1) (by omega)).trans (t 1 (by omega)), h2 _ (List.getElem_mem hk')⟩
end
def ArrImgs (w : World) (lo hi : Nat) (A : Option Addr) (n : Nat) (L : List Im) : Prop :=
  ∃ P : List MP, P.map Prod.fst = L ∧ Arr w lo hi A n 2 (P.flatMap imC) ∧ ∀ p ∈ P, p.2.2 = p.1.2.length ∧ p.1.2.length ≤ maxLen ∧ Arr w lo hi p.2.1 p.1.2.length 3 (symCells p.1.2)
theorem ArrImgs.belowZ {w w' : World} {lo hi : Nat} {A : Option Addr} {n : Nat} {L : List Im} (h : ArrImgs w lo hi A n L) (hb : Below w.heap.size w w') : ArrImgs w' lo hi A n L := by
  obtain ⟨P, e, h1, h2⟩ := h
  exact ⟨P, e, h1.belowZ hb, fun p hp => ⟨(h2 p hp).1, (h2 p hp).2.1, (h2 p hp).2.2.belowZ hb⟩⟩
theorem ArrImgs.far {w : World} {lo hi : Nat} {A : Option Addr} {n : Nat} {L : List Im} (h : ArrImgs w lo hi A n L) {p : Addr} (hp : p.block < lo ∨ hi ≤ p.block) (u : Value) : ArrImgs (w.setCell p u) lo hi A n L := by
  obtain ⟨P, e, h1, h2⟩ := h
  exact ⟨P, e, h1.far hp u, fun q hq => ⟨(h2 q hq).1, (h2 q hq).2.1, (h2 q hq).2.2.far hp u⟩⟩
theorem ArrImgs.in_ {w : World} {lo hi : Nat} {A : Option Addr} {n : Nat} {L : List Im} (h : ArrImgs w lo hi A n L) : InImgs w A n L := by
  obtain ⟨P, e, h1, h2⟩ := h
  exact ⟨P, e, .of_arr h1, fun p hp => ⟨.of_arr (h2 p hp).2.2, by rw [(h2 p hp).1]; exact Nat.le_refl _, by rw [(h2 p hp).1]; exact (h2 p hp).2.1⟩⟩
def imTot (L : List Im) : Nat := (L.map fun x => x.1.size + x.2.length).sum
theorem imTot_mem (L : List Im) (x : Im) (h : x ∈ L) : x.1.size + x.2.length ≤ imTot L := by
  unfold imTot
  induction L with
  | nil => simp at h
  | cons y L ih =>
    simp only [List.map_cons, List.sum_cons]
    rcases List.mem_cons.1 h with rfl | h
    · omega
    · have := ih h; omega
theorem imTot_snoc (L : List Im) (x : Im) : imTot (L ++ [x]) = imTot L + (x.1.size + x.2.length) := by simp [imTot]
theorem imC_flat_length (P : List MP) : (P.flatMap imC).length = P.length * 2 := flat_length imC 2 (fun _ => rfl) P
theorem set_two {α : Type} (p xs : List α) (a b : α) (j : Nat) (hp : p.length = j) (h : j + 2 ≤ xs.length) :
    ((p ++ xs.drop j).set j a).set (j + 1) b = (p ++ [a, b]) ++ xs.drop (j + 2) := by
  rw [set_pre p xs a j hp (by omega), set_pre (p ++ [a]) xs b (j + 1) (by simp; omega) (by omega)]
  simp
set_option maxHeartbeats 400000 in
theorem l_szImageS (A : Option Addr) (n c : Nat) (l : List Im) (L : Int) (w : World) (hn : n ≤ maxLen) (hL : -1 ≤ L ∧ L ≤ 1048576) (h : InImgs w A n l) (hs : ∀ x ∈ l, ImSz x) :
    Calls Try.prog 79 #[.slice A n c, .int .i64 L] w fun e w' => (∃ r : Int, e = .returned (.int .i64 r) ∧ -1 ≤ r ∧ r ≤ L ∧ (0 ≤ r → (n : Int) + imTot l + r ≤ L)) ∧ Below w.heap.size w w' := by
  unfold maxLen at hn
  have H := hide h
  have HL := hide h.len
  have HS := hide hs
  clear h hs
  by_cases hlen : L - n < 0
  · go_enter Try.func79, Try.ntmps79
    go_wp2_with fail
    go_ret
    exact ⟨⟨-1, rfl, by omega, by omega, fun h => by omega⟩, Below.refl _ _⟩
  · go_enter Try.func79, Try.ntmps79
    go_wp2_with fail
    go_loopw [1, 5] (fun m i wr => ∃ (k : Nat) (r : Int), k ≤ n ∧ i = .int .i64 k ∧ m = .int .i64 r ∧ 0 ≤ r ∧ r ≤ L - n - imTot (l.take k) ∧ Below w.heap.size w wr) (fun _ i _ => n - (intOf i).toNat)
    case atStart => exact ⟨0, L - n, Nat.zero_le _, rfl, rfl, by omega, by simp [imTot], Below.refl _ _⟩
    case round =>
      obtain ⟨k, r, hk, rfl, rfl, hr0, hr1, hb⟩ := hrel
      have HB := hide hb
      have R := hide (H.out.below hb)
      clear hb
      by_cases hlt : k < n
      · have hkl : k < l.length := by rw [HL.out]; exact hlt
        obtain ⟨b, o, A1, c1, rfl, _, k0, k1, hln⟩ := R.out.at_ k hkl
        have hst := hide (List.take_succ_eq_append_getElem hkl)
        have HN := hide hln
        have hsz := hide (HS.out _ (List.getElem_mem hkl))
        clear hln
        go_wp2_with fail
        refine (l_szImage l[k] A1 c1 _ _ (by omega) HN.out hsz.out).mono ?_
        rintro e w2 ⟨⟨q, rfl, q0, q1, q2⟩, hb2⟩
        have hbn := hide (HB.out.trans (hb2.mono HB.out.size))
        clear hb2
        by_cases hbad : q < 0
        · go_wp2
          go_ret
          exact ⟨⟨-1, rfl, by omega, by omega, fun h => by omega⟩, hbn.out⟩
        · have q3 := q2 (by omega)
          clear q2
          go_wp2
          go_roundw
          case rel =>
            refine ⟨k + 1, q, by omega, by go_num, rfl, by omega, ?_, hbn.out⟩
            rw [hst.out, imTot_snoc]
            omega
          case measure => simp [intOf]; omega
      · have HA := hide (List.take_of_length_le (l := l) (i := k) (by rw [HL.out]; omega))
        rw [HA.out] at hr1
        go_wp2
        go_ret
        exact ⟨⟨r, rfl, by omega, by omega, fun h => by omega⟩, HB.out⟩
theorem Try.infoImage : (Try.prog.info? 114).map (fun i => (i.zero, i.size, i.bytes)) = some (some (.agg #[.string ByteArray.empty, .slice none 0 0]), 2, 40) := by kernel_rfl
set_option maxHeartbeats 2000000 in
theorem l_toImageS (A : Option Addr) (n c : Nat) (l : List Im) (w : World) (hn : n + imTot l ≤ 1048576) (h : InImgs w A n l) :
    Calls Try.prog 85 #[.slice A n c] w fun e w' => (∃ A', e = .returned (.slice A' n n) ∧ ArrImgs w' w.heap.size w'.heap.size A' n l) ∧ Below w.heap.size w w' := by
  obtain ⟨i0, hi, hz0, hz1, hz2⟩ := info_parts Try.infoImage
  have H := hide h
  have HL := hide h.len
  clear h
  go_enter Try.func85, Try.ntmps85
  go_wp2_with (at_make; refine wpList_mk _ rfl _ _ 56 rfl 114 i0 _ 2 Try.underlying56 hi hz0 hz1 _ _ _ _ n rfl rfl ?c1 ?c2 ?c3 ?c4 ?_)
  case c1 => rfl
  case c2 => rfl
  case c3 => rw [hz2]; omega
  case c4 => unfold maxLen; omega
  intro w1 zs ha1 hb1
  have HZ := hide ha1.1
  go_wp2
  go_loopw [4] (fun i wr => ∃ (k : Nat) (P : List MP), k ≤ n ∧ i = .int .i64 k ∧ P.map Prod.fst = l.take k ∧ (∀ p ∈ P, p.2.2 = p.1.2.length ∧ Arr wr (w.heap.size + 1) wr.heap.size p.2.1 p.1.2.length 3 (symCells p.1.2)) ∧ Arr wr w.heap.size wr.heap.size (some ⟨w.heap.size, 0, none⟩) n 2 (P.flatMap imC ++ zs.drop (k * 2)) ∧ Below w.heap.size w wr) (fun i _ => n - (intOf i).toNat)
  case atStart => exact ⟨0, [], Nat.zero_le _, rfl, rfl, fun p h => by simp at h, by simpa using ha1, hb1⟩
  case round =>
    obtain ⟨k, P, hk, rfl, hP, hcap, hr, hb⟩ := hrel
    have hPl : P.length = k := by
      have := congrArg List.length hP
      rw [List.length_map, List.length_take, HL.out] at this
      omega
    have HP := hide hP
    have HC := hide hcap
    have R := hide hr
    have HB := hide hb
    have RI := hide (H.out.below hb)
    clear hr hb hP hcap
    by_cases hlt : k < n
    · have hkl : k < l.length := by rw [HL.out]; exact hlt
      have hm := imTot_mem l l[k] (List.getElem_mem hkl)
      obtain ⟨b, o, A1, c1, rfl, _, k0, k1, hln⟩ := RI.out.at_ k hkl
      have HN := hide hln
      clear hln
      go_wp2_with fail
      refine (l_toImage l[k] A1 c1 _ (by omega) HN.out).mono ?_
      rintro e w2 ⟨⟨B1, rfl, r2⟩, hb2⟩
      clear k0 k1
      have Z2 := hb2.size
      have R2 := hide (R.out.belowZ hb2)
      have Z1 := HB.out.size
      have HB2 := hide (HB.out.trans (hb2.mono HB.out.size))
      obtain ⟨g', eg, g1, g2, g3, hc⟩ := R2.out.2 (by omega)
      obtain rfl : w.heap.size = g' := by injection eg with eg; injection eg
      have O2 : Hid (Arr w2 (w.heap.size + 1) w2.heap.size B1 l[k].2.length 3 (symCells l[k].2)) := r2.more (by omega) (Nat.le_refl _) (Nat.le_refl _)
      have C2 : Hid (∀ p ∈ P, p.2.2 = p.1.2.length ∧ Arr w2 (w.heap.size + 1) w2.heap.size p.2.1 p.1.2.length 3 (symCells p.1.2)) := fun p hp => ⟨(HC.out p hp).1, ((HC.out p hp).2.belowZ hb2).more (Nat.le_refl _) Z2 (Nat.le_refl _)⟩
      clear r2 hb2
      have ar2 : Arr w2 w.heap.size wr.heap.size (some ⟨w.heap.size, 0, none⟩) n 2 (P.flatMap imC ++ zs.drop (k * 2)) := R2.out
      have hfl := imC_flat_length P
      have s4 := hide (set_two (P.flatMap imC) zs (.string l[k].1) (.slice B1 l[k].2.length l[k].2.length) (k * 2) (by omega) (by rw [HZ.out]; omega))
      have R3 := hide ((ar2.set_ (j := k * 2) (by omega) (.string l[k].1)).set_ (j := k * 2 + 1) (by omega) (.slice B1 l[k].2.length l[k].2.length))
      have hxl := ar2.1
      obtain ⟨u0, d0⟩ : ∃ u, w2.cell? ⟨w.heap.size, k * 2, none⟩ = some u := ⟨_, (hc (k * 2) (by omega)).1.trans (List.getElem?_eq_getElem (by rw [hxl]; omega))⟩
      obtain ⟨u1, d1⟩ : ∃ u, w2.cell? ⟨w.heap.size, k * 2 + 1, none⟩ = some u := ⟨_, (hc (k * 2 + 1) (by omega)).1.trans (List.getElem?_eq_getElem (by rw [hxl]; omega))⟩
      have f0 := (hc (k * 2) (by omega)).2
      have f1 := (hc (k * 2 + 1) (by omega)).2
      clear hc eg ar2 hxl
      have hlk : Hid (l.take (k + 1) = l.take k ++ [l[k]]) := List.take_succ_eq_append_getElem hkl
      go_wp2
      go_roundw
      case rel =>
        have W3 : Within w.heap.size (w.heap.size + 1) w2 ((w2.setCell ⟨w.heap.size, k * 2, none⟩ (.string l[k].1)).setCell ⟨w.heap.size, k * 2 + 1, none⟩ (.slice B1 l[k].2.length l[k].2.length)) := ((Within.setCell w2 (p := ⟨w.heap.size, k * 2, none⟩) (Nat.le_refl _) (Nat.lt_succ_self _) (.string l[k].1)).trans (Within.setCell _ (p := ⟨w.heap.size, k * 2 + 1, none⟩) (Nat.le_refl _) (Nat.lt_succ_self _) _))
        refine ⟨k + 1, P ++ [(l[k], B1, l[k].2.length)], by omega, by go_num, by rw [hlk.out, List.map_append, HP.out]; rfl, fun p hp => ?_, ?_, ?_⟩
        · rcases List.mem_append.1 hp with hp | hp
          · exact ⟨(C2.out p hp).1, ((C2.out p hp).2.within W3 (.inr (Nat.le_refl _))).more (Nat.le_refl _) (by simp [World.setCell]) (Nat.le_refl _)⟩
          · obtain rfl := List.mem_singleton.1 hp
            exact ⟨rfl, (O2.out.within W3 (.inr (Nat.le_refl _))).more (Nat.le_refl _) (by simp [World.setCell]) (Nat.le_refl _)⟩
        · have := R3.out
          rw [s4.out] at this
          have t2 := this.more (Nat.le_refl _) (hi' := w2.heap.size) Z2 (by simp [World.setCell])
          simpa [imC, show (k + 1) * 2 = k * 2 + 2 by omega, World.setCell] using t2
        · exact HB2.out.trans (W3.below (Nat.le_refl _) HB2.out.size)
      case measure => simp [intOf]; omega
    · have hkn : k = n := by omega
      subst hkn
      have hP2 : P.map Prod.fst = l := by rw [HP.out, List.take_of_length_le (by rw [HL.out]; omega)]
      have R2 := R.out
      rw [List.drop_of_length_le (by rw [HZ.out]; omega), List.append_nil] at R2
      have hmm : ∀ p ∈ P, p.1.2.length ≤ 1048576 := by
        intro p hp
        have := imTot_mem l p.1 (by rw [← hP2]; exact List.mem_map_of_mem hp)
        omega
      have HF : Hid (ArrImgs wr w.heap.size wr.heap.size (some ⟨w.heap.size, 0, none⟩) k l) := ⟨P, hP2, R2, fun p hp => ⟨(HC.out p hp).1, by have := hmm p hp; unfold maxLen; omega, (HC.out p hp).2.more (by omega) (Nat.le_refl _) (Nat.le_refl _)⟩⟩
      clear R2 hP2 hmm
      go_wp2
      go_ret
      exact ⟨⟨_, rfl, HF.out⟩, HB.out⟩
set_option maxHeartbeats 1000000 in
theorem l_eqImageS (A A' : Option Addr) (n c c' : Nat) (l : List Im) (w : World) (hn : n + imTot l ≤ 1099511627776) (h : InImgs w A n l) (h' : InImgs w A' n l) :
    Calls Try.prog 89 #[.slice A n c, .slice A' n c'] w fun e w' => e = .returned (.bool true) ∧ Below w.heap.size w w' := by
  have hl : l.length = n := h.len
  have H := hide h
  have H' := hide h'
  have HL := hide hl
  clear h h' hl
  go_enter Try.func89, Try.ntmps89
  go_wp2
  go_loopw [5] (fun i wr => ∃ k : Nat, k ≤ n ∧ i = .int .i64 k ∧ Below w.heap.size w wr) (fun i _ => n - (intOf i).toNat)
  case atStart => exact ⟨0, Nat.zero_le _, rfl, Below.refl _ _⟩
  case round =>
    obtain ⟨k, hk, rfl, hb⟩ := hrel
    have HB := hide hb
    have R := hide (H.out.below hb)
    have R' := hide (H'.out.below hb)
    clear hb
    by_cases hlt : k < n
    · have hkl : k < l.length := by rw [HL.out]; exact hlt
      have m := imTot_mem l _ (List.getElem_mem hkl)
      obtain ⟨b, o, A1, c1, rfl, _, x0, x1, hx⟩ := R.out.at_ k hkl
      obtain ⟨b', o', B1, d1, rfl, _, y0, y1, hy⟩ := R'.out.at_ k hkl
      have X := hide hx
      have Y := hide hy
      clear hx hy
      go_wp2
      refine wp_region_still_tail 8 (by kernel_rfl) (by kernel_rfl) ?_
      simp only [List.take_succ_cons, List.take_zero, List.drop_succ_cons, List.drop_zero]
      repeat still_step
      refine wpStill_nil ?_
      change wpList _ _ _ _ _ wr.drew
      go_wp2_with fail
      refine (l_eqImage l[k] l[k] A1 B1 c1 d1 _ (by omega) (by omega) (X.out.below (Below.refl _ _).drew) (Y.out.below (Below.refl _ _).drew)).mono ?_
      rintro e w2 ⟨rfl, hb2⟩
      rw [same_of rfl]
      go_wp2
      go_roundw
      case rel => exact ⟨k + 1, by omega, by go_num, HB.out.drew.trans (hb2.mono HB.out.size)⟩
      case measure => simp [intOf]; omega
    · go_wp2
      go_ret
      exact ⟨rfl, HB.out⟩
abbrev Sp := List Im × List Int × List Int
def SpIn (w : World) (x : Sp) (A B C : Option Addr) (a b c : Nat) : Prop := InImgs w A x.1.length x.1 ∧ InRow w B x.2.1.length 1 (intCells x.2.1) ∧ InRow w C x.2.2.length 1 (intCells x.2.2) ∧ x.1.length ≤ a ∧ a ≤ maxLen ∧ x.2.1.length ≤ b ∧ b ≤ maxLen ∧ x.2.2.length ≤ c ∧ c ≤ maxLen
def SpSz (x : Sp) : Prop := ∀ y ∈ x.1, ImSz y
theorem SpIn.below {w w' : World} {x : Sp} {A B C : Option Addr} {a b c : Nat} (h : SpIn w x A B C a b c) (hb : Below w.heap.size w w') : SpIn w' x A B C a b c := ⟨h.1.below hb, h.2.1.below hb, h.2.2.1.below hb, h.2.2.2⟩
theorem SpIn.belowZ {w w' : World} {x : Sp} {A B C : Option Addr} {a b c : Nat} (h : SpIn w x A B C a b c) (hb : Below w.heap.size w w') : SpIn w' x A B C a b c := h.below hb
theorem SpIn.drew {w : World} {x : Sp} {A B C : Option Addr} {a b c : Nat} (h : SpIn w x A B C a b c) : SpIn w.drew x A B C a b c := h.below (Below.refl _ _).drew
def spTot (x : Sp) : Nat := x.1.length + imTot x.1 + x.2.1.length + x.2.2.length
set_option maxHeartbeats 1000000 in
theorem l_szSpace (x : Sp) (A B C : Option Addr) (a b c : Nat) (L : Int) (w : World) (hL : -1 ≤ L ∧ L ≤ 1048576) (h : SpIn w x A B C a b c) (hs : SpSz x) :
    Calls Try.prog 33 #[.agg #[.slice A x.1.length a, .slice B x.2.1.length b, .slice C x.2.2.length c], .int .i64 L] w fun e w' =>
      (∃ r : Int, e = .returned (.int .i64 r) ∧ -1 ≤ r ∧ r ≤ L ∧ (0 ≤ r → (spTot x : Int) + r ≤ L)) ∧ Below w.heap.size w w' := by
  obtain ⟨im, bs, en⟩ := x
  obtain ⟨h1, h2, h3, ha1, ha2, hb1, hb2, hc1, hc2⟩ := h
  simp only at h1 h2 h3 ha1 hb1 hc1 ⊢
  have HS : Hid (∀ y ∈ im, ImSz y) := hs
  clear hs
  unfold spTot
  simp only
  have K := hide (Blk.new w 53 #[.slice A im.length a, .slice B bs.length b, .slice C en.length c])
  have B0 := hide ((Below.refl w.heap.size w).alloc (Nat.le_refl _) (.cells #[.slice A im.length a, .slice B bs.length b, .slice C en.length c] 53))
  go_enter Try.func33, Try.ntmps33
  go_wp2_with fail
  refine (l_szImageS A _ a im _ _ (by omega) (by omega) (h1.below B0.out) HS.out).mono ?_
  rintro e w2 ⟨⟨r, rfl, r0, r1, r2⟩, hbb⟩
  have B2 := hide (B0.out.trans (hbb.mono B0.out.size))
  have K2 := hide (K.out.below hbb (Blk.lt K.out))
  clear hbb K B0
  by_cases hneg : r < 0
  · go_wp2_with fail
    go_ret
    exact ⟨⟨-1, rfl, by omega, by omega, fun h => by omega⟩, B2.out⟩
  · have r3 := r2 (by omega)
    have k1 := K2.out.cell 1
    have k2 := K2.out.cell 2
    simp at k1 k2
    go_wp2_with fail
    refine (l_szIntS B _ b r _ (by omega) (by omega)).mono ?_
    rintro e w3 ⟨⟨q, rfl, q0, q1, q2⟩, rfl⟩
    by_cases hneg2 : q < 0
    · go_wp2_with fail
      go_ret
      exact ⟨⟨-1, rfl, by omega, by omega, fun h => by omega⟩, B2.out⟩
    · have q3 := q2 (by omega)
      go_wp2_with fail
      refine (l_szIntS C _ c q _ (by omega) (by omega)).mono ?_
      rintro e w4 ⟨⟨s, rfl, s0, s1, s2⟩, rfl⟩
      by_cases hneg3 : s < 0
      · go_wp2_with fail
        go_ret
        exact ⟨⟨-1, rfl, by omega, by omega, fun h => by omega⟩, B2.out⟩
      · have s3 := s2 (by omega)
        go_wp2_with fail
        go_ret
        exact ⟨⟨s, rfl, by omega, by omega, fun h => by omega⟩, B2.out⟩
set_option maxHeartbeats 1000000 in
theorem l_toSpace (x : Sp) (A B C : Option Addr) (a b c : Nat) (w : World) (hn : spTot x ≤ 1048576) (h : SpIn w x A B C a b c) :
    Calls Try.prog 35 #[.agg #[.slice A x.1.length a, .slice B x.2.1.length b, .slice C x.2.2.length c]] w fun e w' =>
      (∃ A' B' C', e = .returned (.agg #[.slice A' x.1.length x.1.length, .slice B' x.2.1.length x.2.1.length, .slice C' x.2.2.length x.2.2.length]) ∧ SpIn w' x A' B' C' x.1.length x.2.1.length x.2.2.length) ∧ Below w.heap.size w w' := by
  obtain ⟨im, bs, en⟩ := x
  obtain ⟨h1, h2, h3, ha1, ha2, hb1, hb2, hc1, hc2⟩ := h
  simp only at h1 h2 h3 ha1 hb1 hc1 ⊢
  unfold spTot at hn
  simp only at hn
  have B0 := hide ((((Below.refl w.heap.size w).alloc (Nat.le_refl _) (.cells #[.slice A im.length a, .slice B bs.length b, .slice C en.length c] 53)).alloc (by simp) (.cells #[.slice none 0 0, .slice none 0 0, .slice none 0 0] 58)).alloc (by first | (simp; done) | (simp; omega)) (.cells #[.slice none 0 0, .slice none 0 0, .slice none 0 0] 58))
  go_enter Try.func35, Try.ntmps35
  go_wp2_with fail
  refine (l_toImageS A _ a im _ (by omega) (h1.below B0.out)).mono ?_
  rintro e w2 ⟨⟨A', rfl, o2⟩, hbb⟩
  have Z2 := hbb.size
  simp at Z2
  have K0 := hide ((((Blk.new w 53 #[.slice A im.length a, .slice B bs.length b, .slice C en.length c]).alloc (.cells #[.slice none 0 0, .slice none 0 0, .slice none 0 0] 58)).alloc (.cells #[.slice none 0 0, .slice none 0 0, .slice none 0 0] 58)).below hbb (by simp; omega))
  have K1 : Hid (Blk w2 (w.heap.size + 1) 58 #[.slice none 0 0, .slice none 0 0, .slice none 0 0]) := by
    have := ((Blk.new (w.alloc (.cells #[.slice A im.length a, .slice B bs.length b, .slice C en.length c] 53)) 58 #[.slice none 0 0, .slice none 0 0, .slice none 0 0]).alloc (.cells #[.slice none 0 0, .slice none 0 0, .slice none 0 0] 58)).below hbb (by simp)
    show Blk _ _ _ _
    simpa using this
  have K2 : Hid (Blk w2 (w.heap.size + 1 + 1) 58 #[.slice none 0 0, .slice none 0 0, .slice none 0 0]) := by
    have := (Blk.new ((w.alloc (.cells #[.slice A im.length a, .slice B bs.length b, .slice C en.length c] 53)).alloc (.cells #[.slice none 0 0, .slice none 0 0, .slice none 0 0] 58)) 58 #[.slice none 0 0, .slice none 0 0, .slice none 0 0]).below hbb (by simp)
    show Blk _ _ _ _
    simpa using this
  have B2 := hide (B0.out.trans (hbb.mono B0.out.size))
  have O2 : Hid (ArrImgs w2 (w.heap.size + 3) w2.heap.size A' im.length im) := by show ArrImgs w2 (w.heap.size + 3) w2.heap.size A' im.length im; simpa using o2
  clear hbb o2 B0
  have x1 := K0.out.cell 1
  have y0 := K2.out.cell 0
  have z0 := K2.out.frozen 0
  simp at x1 y0
  go_wp2_with fail
  refine (l_toIntS B _ b bs _ (by omega) rfl (h2.below (B2.out.setCell (p := ⟨_, _, _⟩) (by first | (simp; done) | (simp; omega) | omega) _))).mono ?_
  rintro e w3 ⟨⟨B', rfl, o3⟩, hbb⟩
  have Z3 := hbb.size
  simp at Z3
  have E0 := hide ((K0.out.far (p := ⟨w.heap.size + 1 + 1, 0, none⟩) (by first | (simp; done) | (simp; omega) | omega) (.slice A' im.length im.length)).below hbb (by first | (simp; done) | (simp; omega) | omega))
  have E1 := hide ((K1.out.far (p := ⟨w.heap.size + 1 + 1, 0, none⟩) (by first | (simp; done) | (simp; omega) | omega) (.slice A' im.length im.length)).below hbb (by first | (simp; done) | (simp; omega) | omega))
  have E2 := hide ((K2.out.set_ 0 (.slice A' im.length im.length)).below hbb (by first | (simp; done) | (simp; omega) | omega))
  have O3 := hide ((O2.out.far (p := ⟨w.heap.size + 1 + 1, 0, none⟩) (.inl (by first | (simp; done) | (simp; omega) | omega)) (.slice A' im.length im.length)).belowZ hbb)
  have B3 := hide ((B2.out.setCell (p := ⟨w.heap.size + 1 + 1, 0, none⟩) (by first | (simp; done) | (simp; omega) | omega) (.slice A' im.length im.length)).trans (hbb.mono (by first | (simp; done) | (simp; omega) | omega)))
  have P3 : Hid (Arr w3 (w.heap.size + 3) w3.heap.size B' bs.length 1 (intCells bs)) := o3.more (by simp [World.setCell]; omega) (Nat.le_refl _) (Nat.le_refl _)
  clear hbb o3 O2 K0 K1 K2 B2 x1 y0 z0
  have x2 := E0.out.cell 2
  have y1 := E2.out.cell 1
  have z1 := E2.out.frozen 1
  simp at x2 y1
  go_wp2_with fail
  refine (l_toIntS C _ c en _ (by omega) rfl (h3.below (B3.out.setCell (p := ⟨_, _, _⟩) (by first | (simp; done) | (simp; omega) | omega) _))).mono ?_
  rintro e w4 ⟨⟨C', rfl, o4⟩, hbb⟩
  have Z4 := hbb.size
  simp at Z4
  have F1 := hide ((E1.out.far (p := ⟨w.heap.size + 1 + 1, 1, none⟩) (by first | (simp; done) | (simp; omega) | omega) (.slice B' bs.length bs.length)).below hbb (by first | (simp; done) | (simp; omega) | omega))
  have F2 := hide ((E2.out.set_ 1 (.slice B' bs.length bs.length)).below hbb (by first | (simp; done) | (simp; omega) | omega))
  have O4 := hide ((O3.out.far (p := ⟨w.heap.size + 1 + 1, 1, none⟩) (.inl (by first | (simp; done) | (simp; omega) | omega)) (.slice B' bs.length bs.length)).belowZ hbb)
  have P4 := hide ((P3.out.far (p := ⟨w.heap.size + 1 + 1, 1, none⟩) (.inl (by first | (simp; done) | (simp; omega) | omega)) (.slice B' bs.length bs.length)).belowZ hbb)
  have B4 := hide ((B3.out.setCell (p := ⟨w.heap.size + 1 + 1, 1, none⟩) (by first | (simp; done) | (simp; omega) | omega) (.slice B' bs.length bs.length)).trans (hbb.mono (by first | (simp; done) | (simp; omega) | omega)))
  have Q4 : Hid (Arr w4 (w.heap.size + 3) w4.heap.size C' en.length 1 (intCells en)) := o4.more (by simp [World.setCell]; omega) (Nat.le_refl _) (Nat.le_refl _)
  clear hbb o4 O3 P3 E0 E1 E2 B3 x2 y1 z1
  have y0 := F2.out.cell 0
  have y1 := F2.out.cell 1
  have y2 := F2.out.cell 2
  have z2 := F2.out.frozen 2
  have v0 := F1.out.cell 0
  have v1 := F1.out.cell 1
  have v2 := F1.out.cell 2
  have u0 := F1.out.frozen 0
  have u1 := F1.out.frozen 1
  have u2 := F1.out.frozen 2
  simp at y0 y1 y2 v0 v1 v2
  go_wp2_with fail
  have hne1 : ¬ w.heap.size + 1 + 1 = w.heap.size + 1 := by omega
  have hne2 : ¬ w.heap.size + 1 = w.heap.size + 1 + 1 := by omega
  refine bodyPost_ret (v := .agg #[.slice A' im.length im.length, .slice B' bs.length bs.length, .slice C' en.length en.length]) (by simp [results, Try.results35, go_sem, v0, v1, v2]) rfl ⟨⟨A', B', C', rfl, ?_, ?_, ?_, ?_⟩, ?_⟩
  · refine ArrImgs.in_ (lo := w.heap.size + 3) (hi := w2.heap.size) ?_
    iterate 4 refine ArrImgs.far ?_ (.inl (by first | (simp; done) | (simp; omega) | omega)) _
    exact O4.out
  · refine InRow.of_arr (lo := w.heap.size + 3) (hi := w3.heap.size) ?_
    iterate 4 refine Arr.far ?_ (.inl (by first | (simp; done) | (simp; omega) | omega)) _
    exact P4.out
  · refine InRow.of_arr (lo := w.heap.size + 3) (hi := w4.heap.size) ?_
    iterate 4 refine Arr.far ?_ (.inl (by first | (simp; done) | (simp; omega) | omega)) _
    exact Q4.out
  · unfold maxLen
    simp only
    omega
  · iterate 4 refine Below.setCell ?_ (by first | (simp; done) | (simp; omega) | omega) _
    exact B4.out
set_option maxHeartbeats 1000000 in
theorem l_eqSpace (x : Sp) (A B C A' B' C' : Option Addr) (a b c a' b' c' : Nat) (w : World) (hn : spTot x ≤ 1048576) (h : SpIn w x A B C a b c) (h' : SpIn w x A' B' C' a' b' c') :
    Calls Try.prog 37 #[.agg #[.slice A x.1.length a, .slice B x.2.1.length b, .slice C x.2.2.length c], .agg #[.slice A' x.1.length a', .slice B' x.2.1.length b', .slice C' x.2.2.length c']] w fun e w' =>
      e = .returned (.bool true) ∧ Below w.heap.size w w' := by
  obtain ⟨im, bs, en⟩ := x
  obtain ⟨h1, h2, h3, _⟩ := h
  obtain ⟨g1, g2, g3, _⟩ := h'
  simp only at h1 h2 h3 g1 g2 g3 ⊢
  unfold spTot at hn
  simp only at hn
  have B0 := hide (((Below.refl w.heap.size w).alloc (Nat.le_refl _) (.cells #[.slice A im.length a, .slice B bs.length b, .slice C en.length c] 58)).alloc (by simp) (.cells #[.slice A' im.length a', .slice B' bs.length b', .slice C' en.length c'] 58))
  have KA := hide ((Blk.new w 58 #[.slice A im.length a, .slice B bs.length b, .slice C en.length c]).alloc (.cells #[.slice A' im.length a', .slice B' bs.length b', .slice C' en.length c'] 58))
  have KB : Hid (Blk ((w.alloc (.cells #[.slice A im.length a, .slice B bs.length b, .slice C en.length c] 58)).alloc (.cells #[.slice A' im.length a', .slice B' bs.length b', .slice C' en.length c'] 58)) (w.heap.size + 1) 58 #[.slice A' im.length a', .slice B' bs.length b', .slice C' en.length c']) := by
    have := Blk.new (w.alloc (.cells #[.slice A im.length a, .slice B bs.length b, .slice C en.length c] 58)) 58 #[.slice A' im.length a', .slice B' bs.length b', .slice C' en.length c']
    show Blk _ _ _ _
    simpa using this
  go_enter Try.func37, Try.ntmps37
  go_wp2_with fail
  refine (l_eqImageS A A' _ a a' im _ (by omega) (h1.below B0.out) (g1.below B0.out)).mono ?_
  rintro e w2 ⟨rfl, hb2⟩
  have KA2 := hide (KA.out.below hb2 (Blk.lt KA.out))
  have KB2 := hide (KB.out.below hb2 (Blk.lt KB.out))
  have B2 := hide (B0.out.trans (hb2.mono B0.out.size))
  clear hb2 KA KB B0
  have a1 := KA2.out.cell 1
  have b1 := KB2.out.cell 1
  simp at a1 b1
  go_wp2_with fail
  refine (l_eqIntS B B' _ _ b b' bs bs _ (by omega) (by omega) (h2.below B2.out) (g2.below B2.out)).mono ?_
  rintro e w3 ⟨rfl, hb3⟩
  rw [decide_eq_true (show bs = bs from rfl)]
  have KA3 := hide (KA2.out.below hb3 (Blk.lt KA2.out))
  have KB3 := hide (KB2.out.below hb3 (Blk.lt KB2.out))
  have B3 := hide (B2.out.trans (hb3.mono B2.out.size))
  clear hb3 KA2 KB2 B2 a1 b1
  have a2 := KA3.out.cell 2
  have b2 := KB3.out.cell 2
  simp at a2 b2
  go_wp2_with fail
  refine (l_eqIntS C C' _ _ c c' en en _ (by omega) (by omega) (h3.below B3.out) (g3.below B3.out)).mono ?_
  rintro e w4 ⟨rfl, hb4⟩
  rw [decide_eq_true (show en = en from rfl)]
  have B4 := hide (B3.out.trans (hb4.mono B3.out.size))
  clear hb4
  go_wp2_with fail
  go_ret
  exact ⟨rfl, B4.out⟩
end Go.Proofs.Ythhlimbaoenkkaa
