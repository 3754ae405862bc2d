import Derived.Test.YtncpkhkdhckdkaaArr
import Derived.Test.YtncpkhkdhckdkaaOpD
namespace Go.Proofs.Ytncpkhkdhckdkaa
open Go.RowKit
def opCells (l : List (Int × Int)) : List Value := l.flatMap fun x => [.int .i64 x.1, .int .i64 x.2]
theorem opCells_length (l : List (Int × Int)) : (opCells l).length = l.length * 2 := by
  induction l with
  | nil => rfl
  | cons x l ih => simp only [opCells, List.flatMap_cons, List.length_append, List.length_cons, List.length_nil] at ih ⊢; omega
theorem opCells_snoc (l : List (Int × Int)) (x : Int × Int) : opCells (l ++ [x]) = opCells l ++ [.int .i64 x.1, .int .i64 x.2] := by simp [opCells]
theorem flat_at {α : Type} (f : α → List Value) (s : Nat) (hf : ∀ x, (f x).length = s) : ∀ (l : List α) (i j : Nat) (hi : i < l.length), j < s → (l.flatMap f)[i * s + j]? = (f l[i])[j]? := by
  intro l
  induction l with
  | nil => intro i j hi; simp at hi
  | cons x l ih =>
    intro i j hi hj
    rw [List.flatMap_cons]
    cases i with
    | zero => rw [List.getElem?_append_left (by rw [hf]; omega)]; simp
    | succ i =>
      rw [List.getElem?_append_right (by rw [hf, Nat.add_mul]; omega), hf, show (i + 1) * s + j - s = i * s + j by rw [Nat.add_mul]; omega]
      exact ih i j (by simpa using hi) hj
theorem opCells_at (l : List (Int × Int)) (i : Nat) (hi : i < l.length) : (opCells l)[i * 2]? = some (.int .i64 l[i].1) ∧ (opCells l)[i * 2 + 1]? = some (.int .i64 l[i].2) :=
  ⟨flat_at _ 2 (fun _ => rfl) l i 0 hi (by omega), flat_at _ 2 (fun _ => rfl) l i 1 hi (by omega)⟩
theorem take_eq_step {α : Type} (l l' : List α) (k : Nat) (h : k < l.length) (h' : k < l'.length) (ht : l.take k = l'.take k) (e : l[k] = l'[k]) : l.take (k + 1) = l'.take (k + 1) := by
  rw [List.take_succ_eq_append_getElem h, List.take_succ_eq_append_getElem h', ht, e]
set_option maxHeartbeats 400000 in
theorem l_eqOp (a b c d : Int) (w : World) :
    Calls Try.prog 39 #[.agg #[.int .i64 a, .int .i64 b], .agg #[.int .i64 c, .int .i64 d]] w fun e w' => e = .returned (.bool (decide (a = c ∧ b = d))) ∧ Below w.heap.size w w' := by
  go_enter Try.func39, Try.ntmps39
  go_wp2
  all_goals go_ret
  all_goals refine ⟨ret_bool ?_, by repeat (first | exact Below.refl _ _ | refine Below.alloc ?_ (by first | (simp; done) | (simp; omega)) _ | refine Below.drew ?_ | refine Below.setCell ?_ (by first | (simp; done) | (simp; omega)) _)⟩
  all_goals simp_all
set_option maxHeartbeats 400000 in
theorem l_eqOpS (A A' : Option Addr) (n n' c c' lo hi lo' hi' : Nat) (l l' : List (Int × Int)) (w : World) (hn : n ≤ 1099511627776) (hn' : n' ≤ 1099511627776)
    (h : Arr w lo hi A n 2 (opCells l)) (h' : Arr w lo' hi' A' n' 2 (opCells l')) :
    Calls Try.prog 43 #[.slice A n c, .slice A' n' c'] w fun e w' => e = .returned (.bool (decide (l = l'))) ∧ Below w.heap.size w w' := by
  have hl : l.length = n := by have := h.1; rw [opCells_length] at this; omega
  have hl' : l'.length = n' := by have := h'.1; rw [opCells_length] at this; omega
  by_cases hne : n = n'
  · subst hne
    have H := hide h
    have H' := hide h'
    have HL := hide hl
    have HL' := hide hl'
    clear h h' hl hl'
    go_enter Try.func43, Try.ntmps43
    go_wp2
    go_loopw [5] (fun i wr => ∃ k : Nat, k ≤ n ∧ i = .int .i64 k ∧ l.take k = l'.take k ∧ Below w.heap.size w wr) (fun i _ => n - (intOf i).toNat)
    case atStart => exact ⟨0, Nat.zero_le _, rfl, rfl, Below.refl _ _⟩
    case round =>
      obtain ⟨k, hk, rfl, ht, hb⟩ := hrel
      have HT := hide ht
      have HB := hide hb
      have R := hide (H.out.belowZ hb)
      have R' := hide (H'.out.belowZ hb)
      clear ht hb
      by_cases hlt : k < n
      · have hkl : k < l.length := by rw [HL.out]; exact hlt
        have hkl' : k < l'.length := by rw [HL'.out]; exact hlt
        obtain ⟨g, rfl, _, _, _, hc⟩ := R.out.2 (by omega)
        obtain ⟨g', rfl, _, _, _, hc'⟩ := R'.out.2 (by omega)
        have c0 := (hc (k * 2) (by omega)).1.trans (opCells_at l k hkl).1
        have c1 := (hc (k * 2 + 1) (by omega)).1.trans (opCells_at l k hkl).2
        have d0 := (hc' (k * 2) (by omega)).1.trans (opCells_at l' k hkl').1
        have d1 := (hc' (k * 2 + 1) (by omega)).1.trans (opCells_at l' k hkl').2
        clear hc hc'
        by_cases heq : l[k].1 = l'[k].1 ∧ l[k].2 = l'[k].2
        · have hdec := decide_eq_true heq
          have HN := hide (take_eq_step l l' k hkl hkl' HT.out (Prod.ext heq.1 heq.2))
          clear heq
          go_wp2
          refine wp_region_still_tail 8 (by kernel_rfl) (by kernel_rfl) ?_
          simp only [List.take_succ_cons, List.take_zero, List.drop_succ_cons, List.drop_zero]
          repeat still_step
          refine wpStill_nil ?_
          change wpList _ _ _ _ _ wr.drew
          go_wp2_with fail
          refine (l_eqOp _ _ _ _ _).mono ?_
          rintro e w2 ⟨rfl, hb2⟩
          go_wp2
          go_roundw
          case rel => exact ⟨k + 1, by omega, by go_num, HN.out, HB.out.drew.trans (hb2.mono HB.out.size)⟩
          case measure => simp [intOf]; omega
        · have hdec := decide_eq_false heq
          have HN : Hid (decide (l = l') = false) := decide_eq_false (fun e => heq (by subst e; exact ⟨rfl, rfl⟩))
          clear heq
          go_wp2
          refine wp_region_still_tail 8 (by kernel_rfl) (by kernel_rfl) ?_
          simp only [List.take_succ_cons, List.take_zero, List.drop_succ_cons, List.drop_zero]
          repeat still_step
          refine wpStill_nil ?_
          change wpList _ _ _ _ _ wr.drew
          go_wp2_with fail
          refine (l_eqOp _ _ _ _ _).mono ?_
          rintro e w2 ⟨rfl, hb2⟩
          go_wp2
          go_ret
          exact ⟨ret_bool HN.out.symm, HB.out.drew.trans (hb2.mono HB.out.size)⟩
      · have HN : Hid (decide (l = l') = true) := decide_eq_true (by
          have := HT.out
          rw [List.take_of_length_le (by rw [HL.out]; omega), List.take_of_length_le (by rw [HL'.out]; omega)] at this
          exact this)
        go_wp2
        go_ret
        exact ⟨ret_bool HN.out.symm, HB.out⟩
  · have hd : (((n : Nat) : Int) != (n' : Int)) = true := by rw [bne_iff_ne]; omega
    have hf : Hid (decide (l = l') = false) := decide_eq_false (fun e => hne (by rw [← hl, ← hl', e]))
    clear h h' hl hl' hne
    go_enter Try.func43, Try.ntmps43
    go_wp2
    go_ret
    exact ⟨ret_bool hf.out.symm, Below.refl _ _⟩
set_option maxHeartbeats 400000 in
theorem l_markOpS (A : Option Addr) (n c lo hi : Nat) (xs : List Value) (k0 : Int) (w : World) (hn : n ≤ 1099511627776) (hk0 : 0 ≤ k0 ∧ k0 ≤ 1099511627776)
    (h : Arr w lo hi A n 2 xs) :
    Calls Try.prog 44 #[.slice A n c, .int .i64 k0] w fun e w' => e = .returned (.int .i64 (k0 + ((n * 2 : Nat) : Int))) ∧ Arr w' lo hi A n 2 (markInts k0 (n * 2)) ∧ Within lo hi w w' := by
  have hx := hide h.1
  go_enter Try.func44, Try.ntmps44
  go_wp2
  go_loopw [1, 5] (fun m i wr => ∃ k q : Nat, k ≤ n ∧ q = k * 2 ∧ i = .int .i64 k ∧ m = .int .i64 (k0 + q) ∧ Arr wr lo hi A n 2 (markInts k0 q ++ xs.drop q) ∧ Within lo hi w wr) (fun _ i _ => n - (intOf i).toNat)
  case atStart => exact ⟨0, 0, Nat.zero_le _, rfl, rfl, by simp, h, Within.refl _ _ _⟩
  case round =>
    obtain ⟨k, q, hk, hq, rfl, rfl, hR, hW⟩ := hrel
    clear h
    have R := hide hR
    have W := hide hW
    have HQ := hide hq
    clear hR hW
    by_cases hlt : k < n
    · obtain ⟨g, rfl, g1, g2, _, hc⟩ := R.out.2 (by omega)
      have s1 := hide (mark_step k0 q xs (by have := hx.out; have := HQ.out; omega))
      have s2 := hide (mark_step k0 (q + 1) xs (by have := hx.out; have := HQ.out; omega))
      have R1 := hide (R.out.set_ (j := q) (by have := HQ.out; omega) (.int .i64 (k0 + q)))
      have R2 := hide (R1.out.set_ (j := q + 1) (by have := HQ.out; omega) (.int .i64 (k0 + (q + 1 : Nat))))
      obtain ⟨u0, c0⟩ : ∃ u, wr.cell? ⟨g, q, none⟩ = some u := ⟨_, (hc q (by omega)).1.trans (List.getElem?_eq_getElem (by rw [R.out.1]; omega))⟩
      obtain ⟨u1, c1⟩ : ∃ u, wr.cell? ⟨g, q + 1, none⟩ = some u := ⟨_, (hc (q + 1) (by omega)).1.trans (List.getElem?_eq_getElem (by rw [R.out.1]; omega))⟩
      have f0 := (hc q (by omega)).2
      have f1 := (hc (q + 1) (by omega)).2
      clear hc
      have hq2 : q ≤ 2199023255552 := by omega
      subst hq
      go_wp2
      go_roundw
      case rel =>
        refine ⟨k + 1, k * 2 + 2, by omega, by omega, by go_num, by go_num, ?_, ?_⟩
        · have e1 : k0 + (k : Int) * 2 = k0 + ((k * 2 : Nat) : Int) := by omega
          have e2 : k0 + (k : Int) * 2 + 1 = k0 + ((k * 2 + 1 : Nat) : Int) := by omega
          rw [← s2.out, ← s1.out, e2, e1]
          exact R2.out
        · exact (W.out.trans (Within.setCell wr (p := ⟨g, k * 2, none⟩) g1 g2 _)).trans (Within.setCell _ (p := ⟨g, k * 2 + 1, none⟩) g1 g2 _)
      case measure => simp [intOf]; omega
    · have hkn : k = n := by omega
      have HK := hide hkn
      clear hkn hq
      go_wp2
      go_ret
      refine ⟨?_, ?_, W.out⟩
      · rw [HQ.out, HK.out]
        rfl
      · have := R.out
        rw [HQ.out, HK.out, List.drop_of_length_le (by rw [hx.out]; exact Nat.le_refl _), List.append_nil] at this
        exact this
set_option maxHeartbeats 400000 in
theorem l_heldOpS (A : Option Addr) (n c lo hi : Nat) (k0 : Int) (w : World) (hn : n ≤ 1099511627776) (hk0 : 0 ≤ k0 ∧ k0 ≤ 1099511627776)
    (h : Arr w lo hi A n 2 (markInts k0 (n * 2))) :
    Calls Try.prog 45 #[.slice A n c, .int .i64 k0] w fun e w' => e = .returned (.int .i64 (k0 + ((n * 2 : Nat) : Int))) ∧ w = w' := by
  have H := hide h
  clear h
  go_enter Try.func45, Try.ntmps45
  go_wp2
  go_loop [1, 5] (fun m i => ∃ k q : Nat, k ≤ n ∧ q = k * 2 ∧ i = .int .i64 k ∧ m = .int .i64 (k0 + q)) (fun _ i => n - (intOf i).toNat)
  case atStart => exact ⟨0, 0, Nat.zero_le _, rfl, rfl, by simp⟩
  case round =>
    obtain ⟨k, q, hk, hq, rfl, rfl⟩ := hrel
    by_cases hlt : k < n
    · obtain ⟨g, rfl, _, _, _, hc⟩ := H.out.2 (by omega)
      have c0 := (hc (k * 2) (by omega)).1.trans (markInts_at k0 (n * 2) (k * 2) (by omega))
      have c1 := (hc (k * 2 + 1) (by omega)).1.trans (markInts_at k0 (n * 2) (k * 2 + 1) (by omega))
      clear hc
      have hq2 : q ≤ 2199023255552 := by omega
      subst hq
      have e0 : ((k0 + ((k * 2 : Nat) : Int)) != k0 + ((k * 2 : Nat) : Int)) = false := by simp
      have e1 : ((k0 + ((k * 2 + 1 : Nat) : Int)) != k0 + ((k * 2 : Nat) : Int) + 1) = false := by rw [bne_eq_false_iff_eq]; omega
      go_wp2
      go_round
      case rel => exact ⟨k + 1, k * 2 + 2, by omega, by omega, by go_num, by go_num⟩
      case measure => simp [intOf]; omega
    · have hkn : k = n := by omega
      have HK := hide hkn
      have HQ := hide hq
      clear hkn hq
      go_wp2
      go_ret
      exact ⟨by rw [HQ.out, HK.out]; rfl, rfl⟩
end Go.Proofs.Ytncpkhkdhckdkaa
