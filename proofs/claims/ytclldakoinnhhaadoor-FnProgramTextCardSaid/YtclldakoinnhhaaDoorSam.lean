import Derived.Test.YtclldakoinnhhaaDoorLinS2
import Derived.Laws.StructEq
namespace Go.Proofs.YtclldakoinnhhaaDoor
open Go.RowKit
set_option maxRecDepth 100000
theorem tkEqB (a b : Tk) : (a.1 == b.1 && (a.2.1 == b.2.1 && a.2.2.toList == b.2.2.toList)) = decide (a = b) := by
  obtain ⟨a1, a2, a3⟩ := a
  obtain ⟨b1, b2, b3⟩ := b
  by_cases h : (a1, a2, a3) = (b1, b2, b3)
  · rw [decide_eq_true h]; injection h with h1 h; injection h with h2 h3; subst h1 h2 h3; simp
  · rw [decide_eq_false h]
    by_cases h1 : a1 = b1
    · by_cases h2 : a2 = b2
      · have h3 : ¬ a3 = b3 := fun h3 => h (by rw [h1, h2, h3])
        simp only [beqF h3, Bool.and_false]
      · simp [h2]
    · simp [h1]
theorem Tryd.eqTk (a1 a2 b1 b2 : Int) (a3 b3 : ByteArray) (w : World) : (Op.equalIn 10000 32 (.agg #[.int .i64 a1, .int .i64 a2, .string a3]) (.agg #[.int .i64 b1, .int .i64 b2, .string b3])).run Tryd.prog w = .ok (decide ((a1, a2, a3) = (b1, b2, b3))) w := by
  have u3 := Tryd.underlying3
  have u9 := Tryd.underlying9
  have a3' := Tryd.isAgg3
  have z3 := Tryd.sizeOf3
  have a9' := Tryd.isAgg9
  have z9 := Tryd.sizeOf9
  have hS : Tryd.prog.underlying 32 = some (.struct (Tryd.prog.fieldsOf 32)) := by kernel_rfl
  rw [show (10000 : Nat) = 9999 + 1 from rfl, run_equalIn_agg w 9999 32 _ _ hS (by kernel_rfl), ← tkEqB (a1, a2, a3) (b1, b2, b3)]
  simp only [Program.fieldsOf, Tryd.underlying32]
  go_simp
  by_cases h1 : a1 = b1 <;> by_cases h2 : a2 = b2 <;> by_cases h3 : a3.toList = b3.toList <;> simp [h1, h2, h3]
set_option maxHeartbeats 400000 in
theorem s_texts (A A' : Option Addr) (n n' c c' : Nat) (l l' : List ByteArray) (w : World) (hn : n ≤ 1099511627776) (hn' : n' ≤ 1099511627776)
    (h : InRow w A n 1 (strCells l)) (h' : InRow w A' n' 1 (strCells l')) :
    Calls Tryd.prog 52 #[.slice A n c, .slice A' n' c'] w fun e w' => e = .returned (.bool (decide (l = l'))) ∧ ∃ q, w' = w.drewN q := by
  have hl : l.length = n := by have := h.1; rw [strCells_length] at this; omega
  have hl' : l'.length = n' := by have := h'.1; rw [strCells_length] at this; omega
  by_cases hne : n = n'
  · subst hne
    have H := hide h
    have H' := hide h'
    have HL := hide hl
    have HL' := hide hl'
    clear h h' hl hl'
    go_enter Tryd.func52, Tryd.ntmps52
    go_wp2
    go_loopw [5] (fun i wr => ∃ k nq : Nat, k ≤ n ∧ i = .int .i64 k ∧ l.take k = l'.take k ∧ wr = w.drewN nq) (fun i _ => n - (intOf i).toNat)
    case atStart => exact ⟨0, 0, Nat.zero_le _, rfl, rfl, rfl⟩
    case round =>
      obtain ⟨k, nq, hk, rfl, ht, rfl⟩ := hrel
      have HT := hide ht
      clear ht
      by_cases hlt : k < n
      · have hkl : k < l.length := by rw [HL.out]; exact hlt
        have hkl' : k < l'.length := by rw [HL'.out]; exact hlt
        obtain ⟨b, o, rfl, _, c0⟩ := H.out.str k hkl
        obtain ⟨b', o', rfl, _, d0⟩ := H'.out.str k hkl'
        by_cases heq : l[k] = l'[k]
        · have hd := bneF heq
          have HN := hide (take_eq_step1 l l' k hkl hkl' HT.out heq)
          clear heq
          go_wp2
          go_quiet (fail)
          go_wp2
          go_roundw
          case rel => exact ⟨k + 1, _, by omega, by go_num, HN.out, by first | rfl | exact World.drewN_drewN _ _ _⟩
          case measure => simp [intOf]; omega
        · have hd := bneT heq
          have HN : Hid (decide (l = l') = false) := decide_eq_false (fun e => heq (by subst e; rfl))
          clear heq
          go_wp2
          go_quiet (fail)
          go_wp2
          go_ret
          exact ⟨ret_bool HN.out.symm, _, by first | rfl | exact World.drewN_drewN _ _ _⟩
      · have HN : Hid (decide (l = l') = true) := decide_eq_true (by
          have := HT.out
          rw [List.take_of_length_le (by rw [HL.out]; omega), List.take_of_length_le (by rw [HL'.out]; omega)] at this
          exact this)
        go_wp2
        go_ret
        exact ⟨ret_bool HN.out.symm, _, rfl⟩
  · have hd : (((n : Nat) : Int) != (n' : Int)) = true := by rw [bne_iff_ne]; omega
    have hf : Hid (decide (l = l') = false) := decide_eq_false (fun e => hne (by rw [← hl, ← hl', e]))
    clear h h' hl hl' hne
    go_enter Tryd.func52, Tryd.ntmps52
    go_wp2
    go_ret
    exact ⟨ret_bool hf.out.symm, 0, rfl⟩
set_option maxHeartbeats 400000 in
theorem s_toks (A A' : Option Addr) (n n' c c' : Nat) (l l' : List Tk) (w : World) (hn : n ≤ 1099511627776) (hn' : n' ≤ 1099511627776)
    (h : InRow w A n 3 (tokCells l)) (h' : InRow w A' n' 3 (tokCells l')) :
    Calls Tryd.prog 53 #[.slice A n c, .slice A' n' c'] w fun e w' => e = .returned (.bool (decide (l = l'))) ∧ ∃ q, w' = w.drewN q := by
  have hl : l.length = n := by have := h.1; rw [tokCells_length] at this; omega
  have hl' : l'.length = n' := by have := h'.1; rw [tokCells_length] at this; omega
  by_cases hne : n = n'
  · subst hne
    have H := hide h
    have H' := hide h'
    have HL := hide hl
    have HL' := hide hl'
    clear h h' hl hl'
    go_enter Tryd.func53, Tryd.ntmps53
    go_wp2
    go_loopw [5] (fun i wr => ∃ k nq : Nat, k ≤ n ∧ i = .int .i64 k ∧ l.take k = l'.take k ∧ wr = w.drewN nq) (fun i _ => n - (intOf i).toNat)
    case atStart => exact ⟨0, 0, Nat.zero_le _, rfl, rfl, rfl⟩
    case round =>
      obtain ⟨k, nq, hk, rfl, ht, rfl⟩ := hrel
      have HT := hide ht
      clear ht
      by_cases hlt : k < n
      · have hkl : k < l.length := by rw [HL.out]; exact hlt
        have hkl' : k < l'.length := by rw [HL'.out]; exact hlt
        obtain ⟨b, o, rfl, _, c0, c1, c2⟩ := H.out.tok k hkl
        obtain ⟨b', o', rfl, _, d0, d1, d2⟩ := H'.out.tok k hkl'
        by_cases heq : l[k] = l'[k]
        · have hd := decide_eq_true heq
          have ne := Tryd.eqTk l[k].1 l[k].2.1 l'[k].1 l'[k].2.1 l[k].2.2 l'[k].2.2
          simp only [show ((l[k].1, l[k].2.1, l[k].2.2) = (l'[k].1, l'[k].2.1, l'[k].2.2)) = (l[k] = l'[k]) from rfl, hd] at ne
          have HN := hide (take_eq_step1 l l' k hkl hkl' HT.out heq)
          clear heq
          go_wp2
          go_quiet (fail)
          go_wp2
          go_roundw
          case rel => exact ⟨k + 1, _, by omega, by go_num, HN.out, by first | rfl | exact World.drewN_drewN _ _ _⟩
          case measure => simp [intOf]; omega
        · have hd := decide_eq_false heq
          have ne := Tryd.eqTk l[k].1 l[k].2.1 l'[k].1 l'[k].2.1 l[k].2.2 l'[k].2.2
          simp only [show ((l[k].1, l[k].2.1, l[k].2.2) = (l'[k].1, l'[k].2.1, l'[k].2.2)) = (l[k] = l'[k]) from rfl, hd] at ne
          have HN : Hid (decide (l = l') = false) := decide_eq_false (fun e => heq (by subst e; rfl))
          clear heq
          go_wp2
          go_quiet (fail)
          go_wp2
          go_ret
          exact ⟨ret_bool HN.out.symm, _, by first | rfl | exact World.drewN_drewN _ _ _⟩
      · have HN : Hid (decide (l = l') = true) := decide_eq_true (by
          have := HT.out
          rw [List.take_of_length_le (by rw [HL.out]; omega), List.take_of_length_le (by rw [HL'.out]; omega)] at this
          exact this)
        go_wp2
        go_ret
        exact ⟨ret_bool HN.out.symm, _, rfl⟩
  · have hd : (((n : Nat) : Int) != (n' : Int)) = true := by rw [bne_iff_ne]; omega
    have hf : Hid (decide (l = l') = false) := decide_eq_false (fun e => hne (by rw [← hl, ← hl', e]))
    clear h h' hl hl' hne
    go_enter Tryd.func53, Tryd.ntmps53
    go_wp2
    go_ret
    exact ⟨ret_bool hf.out.symm, 0, rfl⟩
set_option maxHeartbeats 400000 in
theorem i_equalS (A A' : Option Addr) (n n' c c' : Nat) (l l' : List ByteArray) (w : World) (hn : n ≤ 1099511627776) (hn' : n' ≤ 1099511627776)
    (h : InRow w A n 1 (strCells l)) (h' : InRow w A' n' 1 (strCells l')) :
    Calls Tryd.prog 33 #[.slice A n c, .slice A' n' c'] w fun e w' => e = .returned (.bool (decide (l = l'))) ∧ ∃ q, w' = w.drewN q := by
  have hl : l.length = n := by have := h.1; rw [strCells_length] at this; omega
  have hl' : l'.length = n' := by have := h'.1; rw [strCells_length] at this; omega
  by_cases hne : n = n'
  · subst hne
    have H := hide h
    have H' := hide h'
    have HL := hide hl
    have HL' := hide hl'
    clear h h' hl hl'
    go_enter Tryd.func33, Tryd.ntmps33
    go_wp2
    go_loopw [13] (fun i wr => ∃ k nq : Nat, k ≤ n ∧ i = .int .i64 k ∧ l.take k = l'.take k ∧ wr = w.drewN nq) (fun i _ => n - (intOf i).toNat)
    case atStart => exact ⟨0, 0, Nat.zero_le _, rfl, rfl, rfl⟩
    case round =>
      obtain ⟨k, nq, hk, rfl, ht, rfl⟩ := hrel
      have HT := hide ht
      clear ht
      by_cases hlt : k < n
      · have hkl : k < l.length := by rw [HL.out]; exact hlt
        have hkl' : k < l'.length := by rw [HL'.out]; exact hlt
        obtain ⟨b, o, rfl, _, c0⟩ := H.out.str k hkl
        obtain ⟨b', o', rfl, _, d0⟩ := H'.out.str k hkl'
        by_cases heq : l[k] = l'[k]
        · have hd := bneF heq
          have HN := hide (take_eq_step1 l l' k hkl hkl' HT.out heq)
          clear heq
          go_wp2
          go_quiet (fail)
          go_wp2
          go_roundw
          case rel => exact ⟨k + 1, _, by omega, by go_num, HN.out, by first | rfl | exact World.drewN_drewN _ _ _⟩
          case measure => simp [intOf]; omega
        · have hd := bneT heq
          have HN : Hid (decide (l = l') = false) := decide_eq_false (fun e => heq (by subst e; rfl))
          clear heq
          go_wp2
          go_quiet (fail)
          go_wp2
          go_ret
          exact ⟨ret_bool HN.out.symm, _, by first | rfl | exact World.drewN_drewN _ _ _⟩
      · have HN : Hid (decide (l = l') = true) := decide_eq_true (by
          have := HT.out
          rw [List.take_of_length_le (by rw [HL.out]; omega), List.take_of_length_le (by rw [HL'.out]; omega)] at this
          exact this)
        go_wp2
        go_ret
        exact ⟨ret_bool HN.out.symm, _, rfl⟩
  · have hd : (((n : Nat) : Int) != (n' : Int)) = true := by rw [bne_iff_ne]; omega
    have hf : Hid (decide (l = l') = false) := decide_eq_false (fun e => hne (by rw [← hl, ← hl', e]))
    clear h h' hl hl' hne
    go_enter Tryd.func33, Tryd.ntmps33
    go_wp2
    go_ret
    exact ⟨ret_bool hf.out.symm, 0, rfl⟩
set_option maxHeartbeats 400000 in
theorem i_equalT (A A' : Option Addr) (n n' c c' : Nat) (l l' : List Tk) (w : World) (hn : n ≤ 1099511627776) (hn' : n' ≤ 1099511627776)
    (h : InRow w A n 3 (tokCells l)) (h' : InRow w A' n' 3 (tokCells l')) :
    Calls Tryd.prog 34 #[.slice A n c, .slice A' n' c'] w fun e w' => e = .returned (.bool (decide (l = l'))) ∧ ∃ q, w' = w.drewN q := by
  have hl : l.length = n := by have := h.1; rw [tokCells_length] at this; omega
  have hl' : l'.length = n' := by have := h'.1; rw [tokCells_length] at this; omega
  by_cases hne : n = n'
  · subst hne
    have H := hide h
    have H' := hide h'
    have HL := hide hl
    have HL' := hide hl'
    clear h h' hl hl'
    go_enter Tryd.func34, Tryd.ntmps34
    go_wp2
    go_loopw [13] (fun i wr => ∃ k nq : Nat, k ≤ n ∧ i = .int .i64 k ∧ l.take k = l'.take k ∧ wr = w.drewN nq) (fun i _ => n - (intOf i).toNat)
    case atStart => exact ⟨0, 0, Nat.zero_le _, rfl, rfl, rfl⟩
    case round =>
      obtain ⟨k, nq, hk, rfl, ht, rfl⟩ := hrel
      have HT := hide ht
      clear ht
      by_cases hlt : k < n
      · have hkl : k < l.length := by rw [HL.out]; exact hlt
        have hkl' : k < l'.length := by rw [HL'.out]; exact hlt
        obtain ⟨b, o, rfl, _, c0, c1, c2⟩ := H.out.tok k hkl
        obtain ⟨b', o', rfl, _, d0, d1, d2⟩ := H'.out.tok k hkl'
        by_cases heq : l[k] = l'[k]
        · have hd := decide_eq_true heq
          have ne := Tryd.eqTk l[k].1 l[k].2.1 l'[k].1 l'[k].2.1 l[k].2.2 l'[k].2.2
          simp only [show ((l[k].1, l[k].2.1, l[k].2.2) = (l'[k].1, l'[k].2.1, l'[k].2.2)) = (l[k] = l'[k]) from rfl, hd] at ne
          have HN := hide (take_eq_step1 l l' k hkl hkl' HT.out heq)
          clear heq
          go_wp2
          go_quiet (fail)
          go_wp2
          go_roundw
          case rel => exact ⟨k + 1, _, by omega, by go_num, HN.out, by first | rfl | exact World.drewN_drewN _ _ _⟩
          case measure => simp [intOf]; omega
        · have hd := decide_eq_false heq
          have ne := Tryd.eqTk l[k].1 l[k].2.1 l'[k].1 l'[k].2.1 l[k].2.2 l'[k].2.2
          simp only [show ((l[k].1, l[k].2.1, l[k].2.2) = (l'[k].1, l'[k].2.1, l'[k].2.2)) = (l[k] = l'[k]) from rfl, hd] at ne
          have HN : Hid (decide (l = l') = false) := decide_eq_false (fun e => heq (by subst e; rfl))
          clear heq
          go_wp2
          go_quiet (fail)
          go_wp2
          go_ret
          exact ⟨ret_bool HN.out.symm, _, by first | rfl | exact World.drewN_drewN _ _ _⟩
      · have HN : Hid (decide (l = l') = true) := decide_eq_true (by
          have := HT.out
          rw [List.take_of_length_le (by rw [HL.out]; omega), List.take_of_length_le (by rw [HL'.out]; omega)] at this
          exact this)
        go_wp2
        go_ret
        exact ⟨ret_bool HN.out.symm, _, rfl⟩
  · have hd : (((n : Nat) : Int) != (n' : Int)) = true := by rw [bne_iff_ne]; omega
    have hf : Hid (decide (l = l') = false) := decide_eq_false (fun e => hne (by rw [← hl, ← hl', e]))
    clear h h' hl hl' hne
    go_enter Tryd.func34, Tryd.ntmps34
    go_wp2
    go_ret
    exact ⟨ret_bool hf.out.symm, 0, rfl⟩
set_option maxHeartbeats 400000 in
theorem s_sameLine (x y : Ln) (A1 A2 B1 B2 : Option Addr) (c1 c2 d1 d2 : Nat) (w : World) (hx1 : x.2.2.1.length ≤ 1099511627776) (hx2 : x.2.2.2.length ≤ 1099511627776) (hy1 : y.2.2.1.length ≤ 1099511627776) (hy2 : y.2.2.2.length ≤ 1099511627776)
    (h : LnIn w x A1 c1 A2 c2) (h' : LnIn w y B1 d1 B2 d2) :
    Calls Tryd.prog 38 #[.agg #[.int .i64 x.1, .string x.2.1, .slice A1 x.2.2.1.length c1, .slice A2 x.2.2.2.length c2], .agg #[.int .i64 y.1, .string y.2.1, .slice B1 y.2.2.1.length d1, .slice B2 y.2.2.2.length d2]] w fun e w' => e = .returned (.bool (same x y)) ∧ Below w.heap.size w w' := by
  obtain ⟨k, s, ar, ex⟩ := x
  obtain ⟨k', s', ar', ex'⟩ := y
  obtain ⟨h1, h2, _⟩ := h
  obtain ⟨h1', h2', _⟩ := h'
  simp only at h1 h2 h1' h2' hx1 hx2 hy1 hy2 ⊢
  by_cases e1 : k = k'
  · by_cases e2 : s = s'
    · have z1 : (k == k') = true := by simp [e1]
      have z2 := beqT e2
      have E1 := hide e1
      have E2 := hide e2
      clear e1 e2
      go_enter Tryd.func38, Tryd.ntmps38
      go_wp2_with fail
      refine (s_texts A1 B1 _ _ c1 d1 ar ar' _ hx1 hy1 (h1.below (by repeat (first | exact Below.refl _ _ | refine Below.alloc ?_ (by first | (simp; done) | (simp; omega)) _ | refine Below.drew ?_ | refine below_drewN ?_ _ | refine Below.setCell ?_ (by first | (simp; done) | (simp; omega)) _))) (h1'.below (by repeat (first | exact Below.refl _ _ | refine Below.alloc ?_ (by first | (simp; done) | (simp; omega)) _ | refine Below.drew ?_ | refine below_drewN ?_ _ | refine Below.setCell ?_ (by first | (simp; done) | (simp; omega)) _)))).mono ?_
      rintro e w2 ⟨rfl, q, rfl⟩
      by_cases e3 : ar = ar'
      · rw [decide_eq_true e3]
        have E3 := hide e3
        clear e3
        go_wp2_with fail
        refine (s_toks A2 B2 _ _ c2 d2 ex ex' _ hx2 hy2 (h2.below (by repeat (first | exact Below.refl _ _ | refine Below.alloc ?_ (by first | (simp; done) | (simp; omega)) _ | refine Below.drew ?_ | refine below_drewN ?_ _ | refine Below.setCell ?_ (by first | (simp; done) | (simp; omega)) _))) (h2'.below (by repeat (first | exact Below.refl _ _ | refine Below.alloc ?_ (by first | (simp; done) | (simp; omega)) _ | refine Below.drew ?_ | refine below_drewN ?_ _ | refine Below.setCell ?_ (by first | (simp; done) | (simp; omega)) _)))).mono ?_
        rintro e w3 ⟨rfl, q', rfl⟩
        have hd : Hid (same (k, s, ar, ex) (k', s', ar', ex') = decide (ex = ex')) := by
          show _ = _
          obtain rfl := E1.out
          obtain rfl := E2.out
          obtain rfl := E3.out
          by_cases e4 : ex = ex'
          · rw [same_of (by rw [e4]), decide_eq_true e4]
          · rw [same_not (fun e => e4 (by injection e with _ e; injection e with _ e; injection e)), decide_eq_false e4]
        clear z1 z2
        cases hq : decide (ex = ex')
        all_goals rw [hq] at hd
        all_goals clear hq
        all_goals go_wp2
        all_goals go_ret
        all_goals exact ⟨ret_bool hd.out.symm, by repeat (first | exact Below.refl _ _ | refine Below.alloc ?_ (by first | (simp; done) | (simp; omega)) _ | refine Below.drew ?_ | refine below_drewN ?_ _ | refine Below.setCell ?_ (by first | (simp; done) | (simp; omega)) _)⟩
      · have hd : Hid (same (k, s, ar, ex) (k', s', ar', ex') = false) := by
          show _ = _
          exact same_not (fun e => e3 (by injection e with _ e; injection e with _ e; injection e))
        rw [decide_eq_false e3]
        clear e3 z1 z2
        go_wp2
        go_ret
        exact ⟨ret_bool hd.out.symm, by repeat (first | exact Below.refl _ _ | refine Below.alloc ?_ (by first | (simp; done) | (simp; omega)) _ | refine Below.drew ?_ | refine below_drewN ?_ _ | refine Below.setCell ?_ (by first | (simp; done) | (simp; omega)) _)⟩
    · have z1 : (k == k') = true := by simp [e1]
      have z2 := beqF e2
      have hd : Hid (same (k, s, ar, ex) (k', s', ar', ex') = false) := by
        show _ = _
        exact same_not (fun e => e2 (by injection e with _ e; injection e))
      clear e1 e2
      go_enter Tryd.func38, Tryd.ntmps38
      go_wp2_with fail
      go_ret
      exact ⟨ret_bool hd.out.symm, by repeat (first | exact Below.refl _ _ | refine Below.alloc ?_ (by first | (simp; done) | (simp; omega)) _ | refine Below.drew ?_ | refine below_drewN ?_ _ | refine Below.setCell ?_ (by first | (simp; done) | (simp; omega)) _)⟩
  · have z1 : (k == k') = false := by simpa using e1
    have hd : Hid (same (k, s, ar, ex) (k', s', ar', ex') = false) := by
      show _ = _
      exact same_not (fun e => e1 (by injection e))
    clear e1
    go_enter Tryd.func38, Tryd.ntmps38
    go_wp2_with fail
    go_ret
    exact ⟨ret_bool hd.out.symm, by repeat (first | exact Below.refl _ _ | refine Below.alloc ?_ (by first | (simp; done) | (simp; omega)) _ | refine Below.drew ?_ | refine below_drewN ?_ _ | refine Below.setCell ?_ (by first | (simp; done) | (simp; omega)) _)⟩
set_option maxHeartbeats 400000 in
theorem i_sameLine (x y : Ln) (A1 A2 B1 B2 : Option Addr) (c1 c2 d1 d2 : Nat) (w : World) (hx1 : x.2.2.1.length ≤ 1099511627776) (hx2 : x.2.2.2.length ≤ 1099511627776) (hy1 : y.2.2.1.length ≤ 1099511627776) (hy2 : y.2.2.2.length ≤ 1099511627776)
    (h : LnIn w x A1 c1 A2 c2) (h' : LnIn w y B1 d1 B2 d2) :
    Calls Tryd.prog 18 #[.agg #[.int .i64 x.1, .string x.2.1, .slice A1 x.2.2.1.length c1, .slice A2 x.2.2.2.length c2], .agg #[.int .i64 y.1, .string y.2.1, .slice B1 y.2.2.1.length d1, .slice B2 y.2.2.2.length d2]] w fun e w' => e = .returned (.bool (same x y)) ∧ Below w.heap.size w w' := by
  obtain ⟨k, s, ar, ex⟩ := x
  obtain ⟨k', s', ar', ex'⟩ := y
  obtain ⟨h1, h2, _⟩ := h
  obtain ⟨h1', h2', _⟩ := h'
  simp only at h1 h2 h1' h2' hx1 hx2 hy1 hy2 ⊢
  by_cases e1 : k = k'
  · by_cases e2 : s = s'
    · have z1 : (k == k') = true := by simp [e1]
      have z2 := beqT e2
      have E1 := hide e1
      have E2 := hide e2
      clear e1 e2
      go_enter Tryd.func18, Tryd.ntmps18
      go_wp2_with fail
      refine (i_equalS A1 B1 _ _ c1 d1 ar ar' _ hx1 hy1 (h1.below (by repeat (first | exact Below.refl _ _ | refine Below.alloc ?_ (by first | (simp; done) | (simp; omega)) _ | refine Below.drew ?_ | refine below_drewN ?_ _ | refine Below.setCell ?_ (by first | (simp; done) | (simp; omega)) _))) (h1'.below (by repeat (first | exact Below.refl _ _ | refine Below.alloc ?_ (by first | (simp; done) | (simp; omega)) _ | refine Below.drew ?_ | refine below_drewN ?_ _ | refine Below.setCell ?_ (by first | (simp; done) | (simp; omega)) _)))).mono ?_
      rintro e w2 ⟨rfl, q, rfl⟩
      by_cases e3 : ar = ar'
      · rw [decide_eq_true e3]
        have E3 := hide e3
        clear e3
        go_wp2_with fail
        refine (i_equalT A2 B2 _ _ c2 d2 ex ex' _ hx2 hy2 (h2.below (by repeat (first | exact Below.refl _ _ | refine Below.alloc ?_ (by first | (simp; done) | (simp; omega)) _ | refine Below.drew ?_ | refine below_drewN ?_ _ | refine Below.setCell ?_ (by first | (simp; done) | (simp; omega)) _))) (h2'.below (by repeat (first | exact Below.refl _ _ | refine Below.alloc ?_ (by first | (simp; done) | (simp; omega)) _ | refine Below.drew ?_ | refine below_drewN ?_ _ | refine Below.setCell ?_ (by first | (simp; done) | (simp; omega)) _)))).mono ?_
        rintro e w3 ⟨rfl, q', rfl⟩
        have hd : Hid (same (k, s, ar, ex) (k', s', ar', ex') = decide (ex = ex')) := by
          show _ = _
          obtain rfl := E1.out
          obtain rfl := E2.out
          obtain rfl := E3.out
          by_cases e4 : ex = ex'
          · rw [same_of (by rw [e4]), decide_eq_true e4]
          · rw [same_not (fun e => e4 (by injection e with _ e; injection e with _ e; injection e)), decide_eq_false e4]
        clear z1 z2
        cases hq : decide (ex = ex')
        all_goals rw [hq] at hd
        all_goals clear hq
        all_goals go_wp2
        all_goals go_ret
        all_goals exact ⟨ret_bool hd.out.symm, by repeat (first | exact Below.refl _ _ | refine Below.alloc ?_ (by first | (simp; done) | (simp; omega)) _ | refine Below.drew ?_ | refine below_drewN ?_ _ | refine Below.setCell ?_ (by first | (simp; done) | (simp; omega)) _)⟩
      · have hd : Hid (same (k, s, ar, ex) (k', s', ar', ex') = false) := by
          show _ = _
          exact same_not (fun e => e3 (by injection e with _ e; injection e with _ e; injection e))
        rw [decide_eq_false e3]
        clear e3 z1 z2
        go_wp2
        go_ret
        exact ⟨ret_bool hd.out.symm, by repeat (first | exact Below.refl _ _ | refine Below.alloc ?_ (by first | (simp; done) | (simp; omega)) _ | refine Below.drew ?_ | refine below_drewN ?_ _ | refine Below.setCell ?_ (by first | (simp; done) | (simp; omega)) _)⟩
    · have z1 : (k == k') = true := by simp [e1]
      have z2 := beqF e2
      have hd : Hid (same (k, s, ar, ex) (k', s', ar', ex') = false) := by
        show _ = _
        exact same_not (fun e => e2 (by injection e with _ e; injection e))
      clear e1 e2
      go_enter Tryd.func18, Tryd.ntmps18
      go_wp2_with fail
      go_ret
      exact ⟨ret_bool hd.out.symm, by repeat (first | exact Below.refl _ _ | refine Below.alloc ?_ (by first | (simp; done) | (simp; omega)) _ | refine Below.drew ?_ | refine below_drewN ?_ _ | refine Below.setCell ?_ (by first | (simp; done) | (simp; omega)) _)⟩
  · have z1 : (k == k') = false := by simpa using e1
    have hd : Hid (same (k, s, ar, ex) (k', s', ar', ex') = false) := by
      show _ = _
      exact same_not (fun e => e1 (by injection e))
    clear e1
    go_enter Tryd.func18, Tryd.ntmps18
    go_wp2_with fail
    go_ret
    exact ⟨ret_bool hd.out.symm, by repeat (first | exact Below.refl _ _ | refine Below.alloc ?_ (by first | (simp; done) | (simp; omega)) _ | refine Below.drew ?_ | refine below_drewN ?_ _ | refine Below.setCell ?_ (by first | (simp; done) | (simp; omega)) _)⟩
end Go.Proofs.YtclldakoinnhhaaDoor
