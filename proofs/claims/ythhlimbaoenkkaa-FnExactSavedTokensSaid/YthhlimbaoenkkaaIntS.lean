import Derived.Test.YthhlimbaoenkkaaArr
import Derived.Test.YthhlimbaoenkkaaT3
namespace Go.Proofs.Ythhlimbaoenkkaa
open Go.RowKit
set_option maxRecDepth 100000
def intCells (l : List Int) : List Value := l.map (.int .i64)
theorem intCells_length (l : List Int) : (intCells l).length = l.length := by simp [intCells]
theorem intCells_at (l : List Int) (i : Nat) (hi : i < l.length) : (intCells l)[i]? = some (.int .i64 l[i]) := by simp [intCells, hi]
theorem intCells_snoc (l : List Int) (x : Int) : intCells (l ++ [x]) = intCells l ++ [.int .i64 x] := by simp [intCells]
theorem InRow.int {w : World} {A : Option Addr} {n : Nat} {l : List Int} (h : InRow w A n 1 (intCells l)) (k : Nat) (hk : k < l.length) : ∃ b o, A = some ⟨b, o, none⟩ ∧ b < w.heap.size ∧ w.cell? ⟨b, o + k, none⟩ = some (.int .i64 l[k]) := by
  have hl : l.length = n * 1 := by rw [← intCells_length]; exact h.1
  obtain ⟨b, o, e, hb, hc⟩ := h.2 (by omega)
  exact ⟨b, o, e, hb, (hc k (by omega)).trans (intCells_at l k hk)⟩
theorem take_eq_step1 {α : Type} (l l' : List α) (k : Nat) (h : k < l.length) (h' : k < l'.length) (ht : l.take k = l'.take k) (e : l[k] = l'[k]) : l.take (k + 1) = l'.take (k + 1) := by
  rw [List.take_succ_eq_append_getElem h, List.take_succ_eq_append_getElem h', ht, e]
theorem Try.infoInt : (Try.prog.info? 3).map (fun i => (i.zero, i.size, i.bytes)) = some (some (.int .i64 0), 1, 8) := by kernel_rfl
set_option maxHeartbeats 400000 in
theorem l_eqIntS (A A' : Option Addr) (n n' c c' : Nat) (l l' : List Int) (w : World) (hn : n ≤ 1099511627776) (hn' : n' ≤ 1099511627776)
    (h : InRow w A n 1 (intCells l)) (h' : InRow w A' n' 1 (intCells l')) :
    Calls Try.prog 90 #[.slice A n c, .slice A' n' c'] w fun e w' => e = .returned (.bool (decide (l = l'))) ∧ Below w.heap.size w w' := by
  have hl : l.length = n := by have := h.1; rw [intCells_length] at this; omega
  have hl' : l'.length = n' := by have := h'.1; rw [intCells_length] at this; omega
  by_cases hne : n = n'
  · subst hne
    have H := hide h
    have H' := hide h'
    have HL := hide hl
    have HL' := hide hl'
    clear h h' hl hl'
    go_enter Try.func90, Try.ntmps90
    go_wp2
    go_loopw [5] (fun i wr => ∃ k : Nat, k ≤ n ∧ i = .int .i64 k ∧ l.take k = l'.take k ∧ Below w.heap.size w wr) (fun i _ => n - (intOf i).toNat)
    case atStart => exact ⟨0, Nat.zero_le _, rfl, rfl, Below.refl _ _⟩
    case round =>
      obtain ⟨k, hk, rfl, ht, hb⟩ := hrel
      have HT := hide ht
      have HB := hide hb
      have R := hide (H.out.below hb)
      have R' := hide (H'.out.below hb)
      clear ht hb
      by_cases hlt : k < n
      · have hkl : k < l.length := by rw [HL.out]; exact hlt
        have hkl' : k < l'.length := by rw [HL'.out]; exact hlt
        obtain ⟨b, o, rfl, _, c0⟩ := R.out.int k hkl
        obtain ⟨b', o', rfl, _, d0⟩ := R'.out.int k hkl'
        by_cases heq : l[k] = l'[k]
        · have hd : (l[k] != l'[k]) = false := by simpa using heq
          have HN := hide (take_eq_step1 l l' k hkl hkl' HT.out heq)
          clear heq
          go_wp2
          go_quiet (fail)
          go_wp2
          go_roundw
          case rel => exact ⟨k + 1, by omega, by go_num, HN.out, below_drewN HB.out _⟩
          case measure => simp [intOf]; omega
        · have hd : (l[k] != l'[k]) = true := by simpa using heq
          have HN : Hid (decide (l = l') = false) := decide_eq_false (fun e => heq (by subst e; rfl))
          clear heq
          go_wp2
          go_quiet (fail)
          go_wp2
          go_ret
          exact ⟨ret_bool HN.out.symm, below_drewN HB.out _⟩
      · have HN : Hid (decide (l = l') = true) := decide_eq_true (by
          have := HT.out
          rw [List.take_of_length_le (by rw [HL.out]; omega), List.take_of_length_le (by rw [HL'.out]; omega)] at this
          exact this)
        go_wp2
        go_ret
        exact ⟨ret_bool HN.out.symm, HB.out⟩
  · have hd : (((n : Nat) : Int) != (n' : Int)) = true := by rw [bne_iff_ne]; omega
    have hf : Hid (decide (l = l') = false) := decide_eq_false (fun e => hne (by rw [← hl, ← hl', e]))
    clear h h' hl hl' hne
    go_enter Try.func90, Try.ntmps90
    go_wp2
    go_ret
    exact ⟨ret_bool hf.out.symm, Below.refl _ _⟩
end Go.Proofs.Ythhlimbaoenkkaa
