/- Rows: slices that lie whole in one block between two block numbers. No program in sight. -/
import Derived.Test.YtncpkhkdhckdkaaMem
namespace Go.Proofs.Ytncpkhkdhckdkaa
open Go.RowKit

/-- The n elements (size cells each) behind 'A' are the cells xs; they lie in one block g, lo ≤ g < hi, from its head on, and may be written. -/
def Arr (w : World) (lo hi : Nat) (A : Option Addr) (n size : Nat) (xs : List Value) : Prop :=
  xs.length = n * size ∧ (0 < n → ∃ g, A = some ⟨g, 0, none⟩ ∧ lo ≤ g ∧ g < hi ∧ hi ≤ w.heap.size ∧ ∀ j, j < n * size → w.cell? ⟨g, j, none⟩ = xs[j]? ∧ w.frozen? ⟨g, j, none⟩ = false)

section
variable {w w' : World} {lo hi n size : Nat} {A : Option Addr} {xs : List Value}
theorem Arr.keep (h : Arr w lo hi A n size xs) (hz : w.heap.size ≤ w'.heap.size) (hk : ∀ b, lo ≤ b → b < hi → w'.heap[b]? = w.heap[b]?) : Arr w' lo hi A n size xs :=
  ⟨h.1, fun hn => by
    obtain ⟨g, e, h1, h2, h3, hc⟩ := h.2 hn
    refine ⟨g, e, h1, h2, Nat.le_trans h3 hz, fun j hj => ?_⟩
    have hb := hk g h1 h2
    rw [World.cell?_of_block (w := w) (w' := w') (a := ⟨g, j, none⟩) hb, World.frozen?_of_block (w := w) (w' := w') (a := ⟨g, j, none⟩) hb]
    exact hc j hj⟩
theorem Arr.below (h : Arr w lo hi A n size xs) {B : Nat} (hb : Below B w w') (hB : hi ≤ B) : Arr w' lo hi A n size xs :=
  h.keep hb.size fun b _ h2 => hb.block b (by omega)
theorem Arr.belowZ (h : Arr w lo hi A n size xs) (hb : Below w.heap.size w w') : Arr w' lo hi A n size xs := by
  rcases Nat.eq_zero_or_pos n with h0 | h0
  · exact ⟨h.1, fun hn => by omega⟩
  · obtain ⟨_, _, _, _, h3, _⟩ := h.2 h0
    exact h.below hb h3
/-- Only block r has turned, and it lies outside. -/
theorem Arr.grown (h : Arr w lo hi A n size xs) {r : Nat} (hb : w.grownBy w' (some r)) (hr : r < lo ∨ hi ≤ r) : Arr w' lo hi A n size xs := by
  rcases Nat.eq_zero_or_pos n with h0 | h0
  · exact ⟨h.1, fun hn => by omega⟩
  · obtain ⟨_, _, _, _, h3, _⟩ := h.2 h0
    refine h.keep hb.size fun b h1 h2 => hb.block b (by omega) (by simp; omega)
theorem Arr.more (h : Arr w lo hi A n size xs) {lo' hi' : Nat} (h1 : lo' ≤ lo) (h2 : hi ≤ hi') (h3 : hi' ≤ w.heap.size) : Arr w lo' hi' A n size xs :=
  ⟨h.1, fun hn => by
    obtain ⟨g, e, a, b, c, hc⟩ := h.2 hn
    exact ⟨g, e, by omega, by omega, h3, hc⟩⟩
theorem Arr.drewN (h : Arr w lo hi A n size xs) (k : Nat) : Arr (w.drewN k) lo hi A n size xs := h
theorem Arr.drew (h : Arr w lo hi A n size xs) : Arr w.drew lo hi A n size xs := h
theorem Arr.alloc (h : Arr w lo hi A n size xs) (o : Obj) : Arr (w.alloc o) lo hi A n size xs := h.belowZ ((Below.refl _ _).alloc (Nat.le_refl _) o)
theorem Arr.nil_ (w : World) (lo hi size : Nat) (A : Option Addr) : Arr w lo hi A 0 size [] := ⟨by simp, fun h => by omega⟩
end

theorem own_belowZ {w w' : World} {base e size n : Nat} {v : Value} {xs : List Value} (h : w.ownsRow base e size v n xs) (hb : Below w.heap.size w w') : w'.ownsRow base e size v n xs := by
  refine h.kept (only_of_below hb none) ?_
  cases v.ownBlock with
  | none => exact .inl rfl
  | some k => exact .inr (by simp)
/-- What the call itself owns is such a row. -/
theorem Arr.of_own {w : World} {base e size n : Nat} {v : Value} {xs : List Value} (h : w.ownsRow base e size v n xs) : ∃ A c, v = .slice A n c ∧ n ≤ c ∧ Arr w base w.heap.size A n size xs := by
  rcases h.2 with ⟨rfl, rfl⟩ | ⟨g, cap, cur, rfl, hb, hh, hnc, _, hcs, htake⟩
  · exact ⟨none, 0, rfl, Nat.le_refl _, h.1, fun hn => by omega⟩
  · refine ⟨some ⟨g, 0, none⟩, cap, rfl, hnc, h.1, fun hn => ⟨g, rfl, hb, ?_, Nat.le_refl _, fun j hj => ⟨h.cellAt j hj, h.frozenAt j⟩⟩⟩
    exact (h.lt g rfl).2

/-- The marks from k0 on that fill a row of n integers. -/
def markInts (k0 : Int) (n : Nat) : List Value := (List.range n).map fun (j : Nat) => .int .i64 (k0 + (j : Int))
theorem markInts_length (k0 : Int) (n : Nat) : (markInts k0 n).length = n := by simp [markInts]
theorem markInts_at (k0 : Int) (n j : Nat) (h : j < n) : (markInts k0 n)[j]? = some (.int .i64 (k0 + j)) := by simp [markInts, h]
theorem markInts_succ (k0 : Int) (n : Nat) : markInts k0 (n + 1) = markInts k0 n ++ [.int .i64 (k0 + n)] := by simp [markInts, List.range_succ]
/-- One element more is set behind a prefix. -/
theorem set_prefix {α : Type} (p xs : List α) (u : α) (h : p.length < xs.length) : (p ++ xs.drop p.length).set p.length u = (p ++ [u]) ++ xs.drop (p ++ [u]).length := by
  rw [List.set_append_right _ _ (Nat.le_refl _), Nat.sub_self, List.drop_eq_getElem_cons h, List.set_cons_zero, List.append_assoc]
  simp
theorem mark_step (k0 : Int) (i : Nat) (xs : List Value) (h : i < xs.length) : (markInts k0 i ++ xs.drop i).set i (.int .i64 (k0 + i)) = markInts k0 (i + 1) ++ xs.drop (i + 1) := by
  have := set_prefix (markInts k0 i) xs (.int .i64 (k0 + i)) (by rw [markInts_length]; exact h)
  rw [markInts_length, ← markInts_succ, markInts_length] at this
  exact this

/-- Of what was there only the blocks from lo to hi (hi itself not) may have turned. -/
structure Within (lo hi : Nat) (w w' : World) : Prop where
  os : w'.os = w.os
  tape : w'.tape = w.tape
  output : w'.output = w.output
  size : w.heap.size ≤ w'.heap.size
  block : ∀ b, b < w.heap.size → (b < lo ∨ hi ≤ b) → w'.heap[b]? = w.heap[b]?
section
variable {w w' w'' : World} {lo hi : Nat}
theorem Within.refl (lo hi : Nat) (w : World) : Within lo hi w w := ⟨rfl, rfl, rfl, Nat.le_refl _, fun _ _ _ => rfl⟩
theorem Within.trans (h : Within lo hi w w') (k : Within lo hi w' w'') : Within lo hi w w'' :=
  ⟨k.os.trans h.os, k.tape.trans h.tape, k.output.trans h.output, Nat.le_trans h.size k.size, fun b hb ho => (k.block b (Nat.lt_of_lt_of_le hb h.size) ho).trans (h.block b hb ho)⟩
theorem Within.of_below (h : Below w.heap.size w w') (lo hi : Nat) : Within lo hi w w' := ⟨h.os, h.tape, h.output, h.size, fun b hb _ => h.block b hb⟩
theorem Within.setCell (w : World) {p : Addr} (h1 : lo ≤ p.block) (h2 : p.block < hi) (u : Value) : Within lo hi w (w.setCell p u) :=
  ⟨rfl, rfl, rfl, by simp [World.setCell], fun b _ ho => Below.heap_setCell w p u b (by omega)⟩
theorem Within.drew (h : Within lo hi w w') : Within lo hi w w'.drew := ⟨h.os, h.tape, h.output, h.size, h.block⟩
theorem Within.drewN (h : Within lo hi w w') (n : Nat) : Within lo hi w (w'.drewN n) := ⟨h.os, h.tape, h.output, h.size, h.block⟩
theorem Within.below (h : Within lo hi w w') {B : Nat} (hB : B ≤ lo) (hw : B ≤ w.heap.size) : Below B w w' := ⟨h.os, h.tape, h.output, h.size, fun b hb => h.block b (by omega) (by omega)⟩
theorem Within.mono (h : Within lo hi w w') {lo' hi' : Nat} (h1 : lo' ≤ lo) (h2 : hi ≤ hi') : Within lo' hi' w w' := ⟨h.os, h.tape, h.output, h.size, fun b hb ho => h.block b hb (by omega)⟩
theorem Arr.within {lo' hi' n size : Nat} {A : Option Addr} {xs : List Value} (h : Arr w lo' hi' A n size xs) (hb : Within lo hi w w') (ho : hi' ≤ lo ∨ hi ≤ lo') : Arr w' lo' hi' A n size xs := by
  rcases Nat.eq_zero_or_pos n with h0 | h0
  · exact ⟨h.1, fun hn => by omega⟩
  · obtain ⟨_, _, _, _, h3, _⟩ := h.2 h0
    exact h.keep hb.size fun b h1 h2 => hb.block b (by omega) (by omega)
/-- A store into the row. -/
theorem Arr.set_ {g n size : Nat} {xs : List Value} (h : Arr w lo hi (some ⟨g, 0, none⟩) n size xs) {j : Nat} (hj : j < n * size) (u : Value) : Arr (w.setCell ⟨g, j, none⟩ u) lo hi (some ⟨g, 0, none⟩) n size (xs.set j u) := by
  refine ⟨by simp [h.1], fun hn => ?_⟩
  obtain ⟨g', e, h1, h2, h3, hc⟩ := h.2 hn
  obtain rfl : g = g' := by injection e with e; injection e
  refine ⟨g, rfl, h1, h2, by simpa [World.setCell] using h3, fun i hi => ⟨?_, ?_⟩⟩
  · by_cases he : i = j
    · subst he
      rw [List.getElem?_set_self (by rw [h.1]; exact hj)]
      have := (hc i hi).1
      rw [List.getElem?_eq_getElem (by rw [h.1]; exact hj)] at this
      exact World.cell?_setCell_same _ _ _ this
    · rw [List.getElem?_set_ne (by omega), World.cell?_setCell_other _ _ _ _ (fun h => he (by injection h with _ h _; exact h.symm))]
      exact (hc i hi).1
  · rw [World.frozen?_setCell]
    exact (hc i hi).2
end

end Go.Proofs.Ytncpkhkdhckdkaa
