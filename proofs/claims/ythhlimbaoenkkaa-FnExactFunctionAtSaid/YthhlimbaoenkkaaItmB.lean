import Derived.Test.YthhlimbaoenkkaaItm
namespace Go.Proofs.Ythhlimbaoenkkaa
open Go.RowKit
set_option maxRecDepth 100000
theorem set_pre {α : Type} (p xs : List α) (u : α) (j : Nat) (e : p.length = j) (h : j < xs.length) : (p ++ xs.drop j).set j u = (p ++ [u]) ++ xs.drop (j + 1) := by
  subst e
  have := set_prefix p xs u h
  simpa using this
theorem set_seven {α : Type} (p xs : List α) (a b c d e f g : α) (j : Nat) (hp : p.length = j) (h : j + 7 ≤ xs.length) :
    (((((((p ++ xs.drop j).set j a).set (j + 1) b).set (j + 2) c).set (j + 3) d).set (j + 4) e).set (j + 5) f).set (j + 6) g = (p ++ [a, b, c, d, e, f, g]) ++ xs.drop (j + 7) := by
  rw [set_pre p xs a j hp (by omega), set_pre (p ++ [a]) xs b (j + 1) (by simp; omega) (by omega), set_pre (p ++ [a] ++ [b]) xs c (j + 2) (by simp; omega) (by omega), set_pre (p ++ [a] ++ [b] ++ [c]) xs d (j + 3) (by simp; omega) (by omega),
    set_pre (p ++ [a] ++ [b] ++ [c] ++ [d]) xs e (j + 4) (by simp; omega) (by omega), set_pre (p ++ [a] ++ [b] ++ [c] ++ [d] ++ [e]) xs f (j + 5) (by simp; omega) (by omega), set_pre (p ++ [a] ++ [b] ++ [c] ++ [d] ++ [e] ++ [f]) xs g (j + 6) (by simp; omega) (by omega)]
  simp
theorem InItems'.belowZ {w w' : World} {A : Option Addr} {n : Nat} {L : List It} (h : InItems' w A n L) (hb : Below w.heap.size w w') : InItems' w' A n L := h.below hb
theorem itC_flat_length (P : List IP) : (P.flatMap itC).length = P.length * 7 := flat_length itC 7 (fun _ => rfl) P
theorem Try.infoItem : (Try.prog.info? 97).map (fun i => (i.zero, i.size, i.bytes)) = some (some (.agg #[.int .i64 0, .int .i64 0, .int .i64 0, .bool false, .slice none 0 0, .int .i64 0, .bool false]), 7, 72) := by kernel_rfl
set_option maxHeartbeats 2000000 in
theorem l_toItemS (A : Option Addr) (n c : Nat) (l : List It) (w : World) (hn : n + itTot l ≤ 1048576) (h : InItems' w A n l) :
    Calls Try.prog 23 #[.slice A n c] w fun e w' => (∃ A', e = .returned (.slice A' n n) ∧ InItems' w' A' n l) ∧ Below w.heap.size w w' := by
  obtain ⟨i0, hi, hz0, hz1, hz2⟩ := info_parts Try.infoItem
  have H := hide h
  have HL := hide h.len
  clear h
  go_enter Try.func23, Try.ntmps23
  go_wp2_with (at_make; refine wpList_mk _ rfl _ _ 38 rfl 97 i0 _ 7 Try.underlying38 hi hz0 hz1 _ _ _ _ n rfl rfl ?c1 ?c2 ?c3 ?c4 ?_)
  case c1 => rfl
  case c2 => rfl
  case c3 => rw [hz2]; omega
  case c4 => unfold maxLen; omega
  intro w1 zs ha1 hb1
  have HZ := hide ha1.1
  go_wp2
  go_loopw [4] (fun i wr => ∃ (k : Nat) (P : List IP), k ≤ n ∧ i = .int .i64 k ∧ P.map Prod.fst = l.take k ∧ (∀ p ∈ P, p.2.2 = p.1.2.2.2.2.1.length ∧ Arr wr (w.heap.size + 1) wr.heap.size p.2.1 p.1.2.2.2.2.1.length 1 (intCells p.1.2.2.2.2.1)) ∧ Arr wr w.heap.size wr.heap.size (some ⟨w.heap.size, 0, none⟩) n 7 (P.flatMap itC ++ zs.drop (k * 7)) ∧ Below w.heap.size w wr) (fun i _ => n - (intOf i).toNat)
  case atStart => exact ⟨0, [], Nat.zero_le _, rfl, rfl, fun p h => by simp at h, by simpa using ha1, hb1⟩
  case round =>
    obtain ⟨k, P, hk, rfl, hP, hcap, hr, hb⟩ := hrel
    have hPl : P.length = k := by
      have := congrArg List.length hP
      rw [List.length_map, List.length_take, HL.out] at this
      omega
    have HP := hide hP
    have HC := hide hcap
    have R := hide hr
    have HB := hide hb
    have RI := hide (H.out.below hb)
    clear hr hb hP hcap
    by_cases hlt : k < n
    · have hkl : k < l.length := by rw [HL.out]; exact hlt
      have hm := itTot_mem l l[k] (List.getElem_mem hkl)
      obtain ⟨b, o, A1, c1, rfl, _, k0, k1, k2, k3, k4, k5, k6, hln⟩ := RI.out.at_ k hkl
      have HN := hide hln
      clear hln
      go_wp2_with fail
      refine (l_toItem l[k] A1 c1 _ (by omega) HN.out).mono ?_
      rintro e w2 ⟨⟨B1, rfl, r2⟩, hb2⟩
      clear k0 k1 k2 k3 k4 k5 k6
      have Z2 := hb2.size
      have R2 := hide (R.out.belowZ hb2)
      have Z1 := HB.out.size
      have HB2 := hide (HB.out.trans (hb2.mono HB.out.size))
      obtain ⟨g', eg, g1, g2, g3, hc⟩ := R2.out.2 (by omega)
      obtain rfl : w.heap.size = g' := by injection eg with eg; injection eg
      have O2 : Hid (Arr w2 (w.heap.size + 1) w2.heap.size B1 l[k].2.2.2.2.1.length 1 (intCells l[k].2.2.2.2.1)) := r2.more (by omega) (Nat.le_refl _) (Nat.le_refl _)
      have C2 : Hid (∀ p ∈ P, p.2.2 = p.1.2.2.2.2.1.length ∧ Arr w2 (w.heap.size + 1) w2.heap.size p.2.1 p.1.2.2.2.2.1.length 1 (intCells p.1.2.2.2.2.1)) := fun p hp => ⟨(HC.out p hp).1, ((HC.out p hp).2.belowZ hb2).more (Nat.le_refl _) Z2 (Nat.le_refl _)⟩
      clear r2 hb2
      have ar2 : Arr w2 w.heap.size wr.heap.size (some ⟨w.heap.size, 0, none⟩) n 7 (P.flatMap itC ++ zs.drop (k * 7)) := R2.out
      have hfl := itC_flat_length P
      have s4 := hide (set_seven (P.flatMap itC) zs (.int .i64 l[k].1) (.int .i64 l[k].2.1) (.int .i64 l[k].2.2.1) (.bool l[k].2.2.2.1) (.slice B1 l[k].2.2.2.2.1.length l[k].2.2.2.2.1.length) (.int .i64 l[k].2.2.2.2.2.1) (.bool l[k].2.2.2.2.2.2) (k * 7) (by omega) (by rw [HZ.out]; omega))
      have R3 := hide (((((((ar2.set_ (j := k * 7) (by omega) (.int .i64 l[k].1)).set_ (j := k * 7 + 1) (by omega) (.int .i64 l[k].2.1)).set_ (j := k * 7 + 2) (by omega) (.int .i64 l[k].2.2.1)).set_ (j := k * 7 + 3) (by omega) (.bool l[k].2.2.2.1)).set_ (j := k * 7 + 4) (by omega) (.slice B1 l[k].2.2.2.2.1.length l[k].2.2.2.2.1.length)).set_ (j := k * 7 + 5) (by omega) (.int .i64 l[k].2.2.2.2.2.1)).set_ (j := k * 7 + 6) (by omega) (.bool l[k].2.2.2.2.2.2))
      have hxl := ar2.1
      obtain ⟨u0, d0⟩ : ∃ u, w2.cell? ⟨w.heap.size, k * 7, none⟩ = some u := ⟨_, (hc (k * 7) (by omega)).1.trans (List.getElem?_eq_getElem (by rw [hxl]; omega))⟩
      obtain ⟨u1, d1⟩ : ∃ u, w2.cell? ⟨w.heap.size, k * 7 + 1, none⟩ = some u := ⟨_, (hc (k * 7 + 1) (by omega)).1.trans (List.getElem?_eq_getElem (by rw [hxl]; omega))⟩
      obtain ⟨u2, d2⟩ : ∃ u, w2.cell? ⟨w.heap.size, k * 7 + 2, none⟩ = some u := ⟨_, (hc (k * 7 + 2) (by omega)).1.trans (List.getElem?_eq_getElem (by rw [hxl]; omega))⟩
      obtain ⟨u3, d3⟩ : ∃ u, w2.cell? ⟨w.heap.size, k * 7 + 3, none⟩ = some u := ⟨_, (hc (k * 7 + 3) (by omega)).1.trans (List.getElem?_eq_getElem (by rw [hxl]; omega))⟩
      obtain ⟨u4, d4⟩ : ∃ u, w2.cell? ⟨w.heap.size, k * 7 + 4, none⟩ = some u := ⟨_, (hc (k * 7 + 4) (by omega)).1.trans (List.getElem?_eq_getElem (by rw [hxl]; omega))⟩
      obtain ⟨u5, d5⟩ : ∃ u, w2.cell? ⟨w.heap.size, k * 7 + 5, none⟩ = some u := ⟨_, (hc (k * 7 + 5) (by omega)).1.trans (List.getElem?_eq_getElem (by rw [hxl]; omega))⟩
      obtain ⟨u6, d6⟩ : ∃ u, w2.cell? ⟨w.heap.size, k * 7 + 6, none⟩ = some u := ⟨_, (hc (k * 7 + 6) (by omega)).1.trans (List.getElem?_eq_getElem (by rw [hxl]; omega))⟩
      have f0 := (hc (k * 7) (by omega)).2
      have f1 := (hc (k * 7 + 1) (by omega)).2
      have f2 := (hc (k * 7 + 2) (by omega)).2
      have f3 := (hc (k * 7 + 3) (by omega)).2
      have f4 := (hc (k * 7 + 4) (by omega)).2
      have f5 := (hc (k * 7 + 5) (by omega)).2
      have f6 := (hc (k * 7 + 6) (by omega)).2
      clear hc eg ar2 hxl
      have hlk : Hid (l.take (k + 1) = l.take k ++ [l[k]]) := List.take_succ_eq_append_getElem hkl
      go_wp2
      go_roundw
      case rel =>
        have W3 : Within w.heap.size (w.heap.size + 1) w2 (((((((w2.setCell ⟨w.heap.size, k * 7, none⟩ (.int .i64 l[k].1)).setCell ⟨w.heap.size, k * 7 + 1, none⟩ (.int .i64 l[k].2.1)).setCell ⟨w.heap.size, k * 7 + 2, none⟩ (.int .i64 l[k].2.2.1)).setCell ⟨w.heap.size, k * 7 + 3, none⟩ (.bool l[k].2.2.2.1)).setCell ⟨w.heap.size, k * 7 + 4, none⟩ (.slice B1 l[k].2.2.2.2.1.length l[k].2.2.2.2.1.length)).setCell ⟨w.heap.size, k * 7 + 5, none⟩ (.int .i64 l[k].2.2.2.2.2.1)).setCell ⟨w.heap.size, k * 7 + 6, none⟩ (.bool l[k].2.2.2.2.2.2)) := (((((((Within.setCell w2 (p := ⟨w.heap.size, k * 7, none⟩) (Nat.le_refl _) (Nat.lt_succ_self _) (.int .i64 l[k].1)).trans (Within.setCell _ (p := ⟨w.heap.size, k * 7 + 1, none⟩) (Nat.le_refl _) (Nat.lt_succ_self _) _)).trans (Within.setCell _ (p := ⟨w.heap.size, k * 7 + 2, none⟩) (Nat.le_refl _) (Nat.lt_succ_self _) _)).trans (Within.setCell _ (p := ⟨w.heap.size, k * 7 + 3, none⟩) (Nat.le_refl _) (Nat.lt_succ_self _) _)).trans (Within.setCell _ (p := ⟨w.heap.size, k * 7 + 4, none⟩) (Nat.le_refl _) (Nat.lt_succ_self _) _)).trans (Within.setCell _ (p := ⟨w.heap.size, k * 7 + 5, none⟩) (Nat.le_refl _) (Nat.lt_succ_self _) _)).trans (Within.setCell _ (p := ⟨w.heap.size, k * 7 + 6, none⟩) (Nat.le_refl _) (Nat.lt_succ_self _) _))
        refine ⟨k + 1, P ++ [(l[k], B1, l[k].2.2.2.2.1.length)], by omega, by go_num, by rw [hlk.out, List.map_append, HP.out]; rfl, fun p hp => ?_, ?_, ?_⟩
        · rcases List.mem_append.1 hp with hp | hp
          · exact ⟨(C2.out p hp).1, ((C2.out p hp).2.within W3 (.inr (Nat.le_refl _))).more (Nat.le_refl _) (by simp [World.setCell]) (Nat.le_refl _)⟩
          · obtain rfl := List.mem_singleton.1 hp
            exact ⟨rfl, (O2.out.within W3 (.inr (Nat.le_refl _))).more (Nat.le_refl _) (by simp [World.setCell]) (Nat.le_refl _)⟩
        · have := R3.out
          rw [s4.out] at this
          have t2 := this.more (Nat.le_refl _) (hi' := w2.heap.size) Z2 (by simp [World.setCell])
          simpa [itC, show (k + 1) * 7 = k * 7 + 7 by omega, World.setCell] using t2
        · exact HB2.out.trans (W3.below (Nat.le_refl _) HB2.out.size)
      case measure => simp [intOf]; omega
    · have hkn : k = n := by omega
      subst hkn
      have hP2 : P.map Prod.fst = l := by rw [HP.out, List.take_of_length_le (by rw [HL.out]; omega)]
      have R2 := R.out
      rw [List.drop_of_length_le (by rw [HZ.out]; omega), List.append_nil] at R2
      have hmm : ∀ p ∈ P, p.1.2.2.2.2.1.length ≤ 1048576 := by
        intro p hp
        have := itTot_mem l p.1 (by rw [← hP2]; exact List.mem_map_of_mem hp)
        omega
      have HF : Hid (InItems' wr (some ⟨w.heap.size, 0, none⟩) k l) := ⟨P, hP2, InRow.of_arr R2, fun p hp => ⟨InRow.of_arr (HC.out p hp).2, by rw [(HC.out p hp).1]; exact Nat.le_refl _, by rw [(HC.out p hp).1]; have := hmm p hp; unfold maxLen; omega⟩⟩
      clear R2 hP2 hmm
      go_wp2
      go_ret
      exact ⟨⟨_, rfl, HF.out⟩, HB.out⟩
set_option maxHeartbeats 1000000 in
theorem l_eqItem (x : It) (A B : Option Addr) (c d : Nat) (w : World) (hx : x.2.2.2.2.1.length ≤ 1099511627776) (h : ItIn w x A c) (h' : ItIn w x B d) :
    Calls Try.prog 70 #[.agg #[.int .i64 x.1, .int .i64 x.2.1, .int .i64 x.2.2.1, .bool x.2.2.2.1, .slice A x.2.2.2.2.1.length c, .int .i64 x.2.2.2.2.2.1, .bool x.2.2.2.2.2.2], .agg #[.int .i64 x.1, .int .i64 x.2.1, .int .i64 x.2.2.1, .bool x.2.2.2.1, .slice B x.2.2.2.2.1.length d, .int .i64 x.2.2.2.2.2.1, .bool x.2.2.2.2.2.2]] w fun e w' =>
      e = .returned (.bool true) ∧ Below w.heap.size w w' := by
  obtain ⟨k, a, ln, st, ch, dp, en⟩ := x
  obtain ⟨h1, _⟩ := h
  obtain ⟨h1', _⟩ := h'
  simp only at h1 h1' hx ⊢
  have B0 := hide (show Below w.heap.size w ((w.alloc (.cells #[.int .i64 k, .int .i64 a, .int .i64 ln, .bool st, .slice A ch.length c, .int .i64 dp, .bool en] 97)).alloc (.cells #[.int .i64 k, .int .i64 a, .int .i64 ln, .bool st, .slice B ch.length d, .int .i64 dp, .bool en] 97)) from by repeat (first | exact Below.refl _ _ | refine Below.alloc ?_ (by first | (simp; done) | (simp; omega)) _ | refine Below.drew ?_ | refine below_drewN ?_ _ | refine Below.setCell ?_ (by first | (simp; done) | (simp; omega)) _))
  have KA : Hid (Blk ((w.alloc (.cells #[.int .i64 k, .int .i64 a, .int .i64 ln, .bool st, .slice A ch.length c, .int .i64 dp, .bool en] 97)).alloc (.cells #[.int .i64 k, .int .i64 a, .int .i64 ln, .bool st, .slice B ch.length d, .int .i64 dp, .bool en] 97)) w.heap.size 97 #[.int .i64 k, .int .i64 a, .int .i64 ln, .bool st, .slice A ch.length c, .int .i64 dp, .bool en]) := (Blk.new w _ _).alloc _
  have KB : Hid (Blk ((w.alloc (.cells #[.int .i64 k, .int .i64 a, .int .i64 ln, .bool st, .slice A ch.length c, .int .i64 dp, .bool en] 97)).alloc (.cells #[.int .i64 k, .int .i64 a, .int .i64 ln, .bool st, .slice B ch.length d, .int .i64 dp, .bool en] 97)) (w.heap.size + 1) 97 #[.int .i64 k, .int .i64 a, .int .i64 ln, .bool st, .slice B ch.length d, .int .i64 dp, .bool en]) := by
    have := Blk.new (w.alloc (.cells #[.int .i64 k, .int .i64 a, .int .i64 ln, .bool st, .slice A ch.length c, .int .i64 dp, .bool en] 97)) 97 #[.int .i64 k, .int .i64 a, .int .i64 ln, .bool st, .slice B ch.length d, .int .i64 dp, .bool en]
    show Blk _ _ _ _
    simpa using this
  go_enter Try.func70, Try.ntmps70
  go_wp2_with fail
  refine (l_eqOp k a k a _).mono ?_
  rintro e w2 ⟨rfl, hb2⟩
  rw [decide_eq_true (show k = k ∧ a = a from ⟨rfl, rfl⟩)]
  have KA2 := hide (KA.out.below hb2 (Blk.lt KA.out))
  have KB2 := hide (KB.out.below hb2 (Blk.lt KB.out))
  have B2 := hide (B0.out.trans (hb2.mono B0.out.size))
  clear hb2 KA KB B0
  have a2 := KA2.out.cell 2
  have a3 := KA2.out.cell 3
  have a4 := KA2.out.cell 4
  have b2 := KB2.out.cell 2
  have b3 := KB2.out.cell 3
  have b4 := KB2.out.cell 4
  simp at a2 a3 a4 b2 b3 b4
  go_wp2_with fail
  refine (l_eqIntS A B _ _ c d ch ch _ hx hx (h1.below B2.out) (h1'.below B2.out)).mono ?_
  rintro e w3 ⟨rfl, hb3⟩
  rw [decide_eq_true (show ch = ch from rfl)]
  have KA3 := hide (KA2.out.below hb3 (Blk.lt KA2.out))
  have KB3 := hide (KB2.out.below hb3 (Blk.lt KB2.out))
  have B3 := hide (B2.out.trans (hb3.mono B2.out.size))
  clear hb3 KA2 KB2 B2 a2 a3 a4 b2 b3 b4
  have a5 := KA3.out.cell 5
  have a6 := KA3.out.cell 6
  have b5 := KB3.out.cell 5
  have b6 := KB3.out.cell 6
  simp at a5 a6 b5 b6
  go_wp2_with fail
  go_ret
  exact ⟨rfl, B3.out⟩
set_option maxHeartbeats 1000000 in
theorem l_eqItemS (A A' : Option Addr) (n c c' : Nat) (l : List It) (w : World) (hn : n + itTot l ≤ 1099511627776) (h : InItems' w A n l) (h' : InItems' w A' n l) :
    Calls Try.prog 25 #[.slice A n c, .slice A' n c'] w fun e w' => e = .returned (.bool true) ∧ Below w.heap.size w w' := by
  have hl : l.length = n := h.len
  have H := hide h
  have H' := hide h'
  have HL := hide hl
  clear h h' hl
  go_enter Try.func25, Try.ntmps25
  go_wp2
  go_loopw [5] (fun i wr => ∃ k : Nat, k ≤ n ∧ i = .int .i64 k ∧ Below w.heap.size w wr) (fun i _ => n - (intOf i).toNat)
  case atStart => exact ⟨0, Nat.zero_le _, rfl, Below.refl _ _⟩
  case round =>
    obtain ⟨k, hk, rfl, hb⟩ := hrel
    have HB := hide hb
    have R := hide (H.out.below hb)
    have R' := hide (H'.out.below hb)
    clear hb
    by_cases hlt : k < n
    · have hkl : k < l.length := by rw [HL.out]; exact hlt
      have m := itTot_mem l _ (List.getElem_mem hkl)
      obtain ⟨b, o, A1, c1, rfl, _, x0, x1, x2, x3, x4, x5, x6, hx⟩ := R.out.at_ k hkl
      obtain ⟨b', o', B1, d1, rfl, _, y0, y1, y2, y3, y4, y5, y6, hy⟩ := R'.out.at_ k hkl
      have X := hide hx
      have Y := hide hy
      clear hx hy
      go_wp2
      refine wp_region_still_tail 8 (by kernel_rfl) (by kernel_rfl) ?_
      simp only [List.take_succ_cons, List.take_zero, List.drop_succ_cons, List.drop_zero]
      repeat still_step
      refine wpStill_nil ?_
      change wpList _ _ _ _ _ wr.drew
      go_wp2_with fail
      refine (l_eqItem l[k] A1 B1 c1 d1 _ (by omega) X.out.drew Y.out.drew).mono ?_
      rintro e w2 ⟨rfl, hb2⟩
      go_wp2
      go_roundw
      case rel => exact ⟨k + 1, by omega, by go_num, HB.out.drew.trans (hb2.mono HB.out.size)⟩
      case measure => simp [intOf]; omega
    · go_wp2
      go_ret
      exact ⟨rfl, HB.out⟩
def vwF (l : List It) : Int := match l with
  | [] => -1
  | x :: _ => if x.1 = 13 ∨ x.1 = 15 then x.2.1 else -1
set_option maxHeartbeats 1000000 in
theorem i_variableWords (A : Option Addr) (n c : Nat) (l : List It) (w : World) (hn : n ≤ 1048576) (h : InItems' w A n l) :
    Calls Try.prog 24 #[.slice A n c] w fun e w' => e = .returned (.int .i64 (vwF l)) ∧ w = w' := by
  have hl := h.len
  by_cases h0 : 0 < n
  · obtain ⟨b, o, A1, c1, rfl, _, x0, x1, x2, x3, x4, x5, x6, hx⟩ := h.at_ 0 (by omega)
    simp only [Nat.zero_mul, Nat.add_zero] at x0 x1
    have hz : ((n : Int) == 0) = false := by rw [beq_eq_false_iff_ne]; omega
    have hF : Hid (vwF l = if l[0].1 = 13 ∨ l[0].1 = 15 then l[0].2.1 else -1) := by
      show _ = _
      cases l with
      | nil => simp at hl; omega
      | cons x l => rfl
    clear h hx x2 x3 x4 x5 x6
    generalize l[0].1 = q at *
    generalize l[0].2.1 = r at *
    clear hl
    by_cases h13 : q = 13
    · subst h13
      rw [if_pos (.inl rfl)] at hF
      go_enter Try.func24, Try.ntmps24
      go_wp2_with fail
      go_ret
      exact ⟨ret_int hF.out.symm, rfl⟩
    · by_cases h15 : q = 15
      · subst h15
        rw [if_pos (.inr rfl)] at hF
        clear h13
        go_enter Try.func24, Try.ntmps24
        go_wp2_with fail
        go_ret
        exact ⟨ret_int hF.out.symm, rfl⟩
      · rw [if_neg (by omega)] at hF
        have z1 : (q != 13) = true := by simpa using h13
        have z2 : (q != 15) = true := by simpa using h15
        clear h13 h15
        go_enter Try.func24, Try.ntmps24
        go_wp2_with fail
        go_ret
        exact ⟨ret_int hF.out.symm, rfl⟩
  · have hn0 : n = 0 := by omega
    subst hn0
    have hF : Hid (vwF l = -1) := by
      show _ = _
      rw [List.eq_nil_of_length_eq_zero hl]; rfl
    clear h hl h0
    go_enter Try.func24, Try.ntmps24
    go_wp2_with fail
    go_ret
    exact ⟨ret_int hF.out.symm, rfl⟩
set_option maxHeartbeats 1000000 in
theorem s_variableWords (A : Option Addr) (n c : Nat) (l : List It) (w : World) (hn : n ≤ 1048576) (h : InItems' w A n l) :
    Calls Try.prog 22 #[.slice A n c] w fun e w' => e = .returned (.int .i64 (vwF l)) ∧ w = w' := by
  have hl := h.len
  by_cases h0 : 0 < n
  · obtain ⟨b, o, A1, c1, rfl, _, x0, x1, x2, x3, x4, x5, x6, hx⟩ := h.at_ 0 (by omega)
    simp only [Nat.zero_mul, Nat.add_zero] at x0 x1
    have hz : ((n : Int) == 0) = false := by rw [beq_eq_false_iff_ne]; omega
    have hF : Hid (vwF l = if l[0].1 = 13 ∨ l[0].1 = 15 then l[0].2.1 else -1) := by
      show _ = _
      cases l with
      | nil => simp at hl; omega
      | cons x l => rfl
    clear h hx x2 x3 x4 x5 x6
    generalize l[0].1 = q at *
    generalize l[0].2.1 = r at *
    clear hl
    by_cases h13 : q = 13
    · subst h13
      rw [if_pos (.inl rfl)] at hF
      go_enter Try.func22, Try.ntmps22
      go_wp2_with fail
      go_ret
      exact ⟨ret_int hF.out.symm, rfl⟩
    · by_cases h15 : q = 15
      · subst h15
        rw [if_pos (.inr rfl)] at hF
        clear h13
        go_enter Try.func22, Try.ntmps22
        go_wp2_with fail
        go_ret
        exact ⟨ret_int hF.out.symm, rfl⟩
      · rw [if_neg (by omega)] at hF
        have z1 : (q != 13) = true := by simpa using h13
        have z2 : (q != 15) = true := by simpa using h15
        clear h13 h15
        go_enter Try.func22, Try.ntmps22
        go_wp2_with fail
        go_ret
        exact ⟨ret_int hF.out.symm, rfl⟩
  · have hn0 : n = 0 := by omega
    subst hn0
    have hF : Hid (vwF l = -1) := by
      show _ = _
      rw [List.eq_nil_of_length_eq_zero hl]; rfl
    clear h hl h0
    go_enter Try.func22, Try.ntmps22
    go_wp2_with fail
    go_ret
    exact ⟨ret_int hF.out.symm, rfl⟩
end Go.Proofs.Ythhlimbaoenkkaa
