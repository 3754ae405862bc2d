/- Rows of rows: a list of rows that lie in blocks of their own. No program in sight. -/
import Derived.Test.YtcfjbaanahgpoaaArr
namespace Go.Proofs.Ytcfjbaanahgpoaa
open Go.RowKit

theorem Blk.within {w w' : World} {g lo hi : Nat} {t : TypeId} {cs : Array Value} (h : Blk w g t cs) (hb : Within lo hi w w') (ho : g < lo ∨ hi ≤ g) : Blk w' g t cs := (hb.block g h.lt ho).trans h
theorem Arr.far {w : World} {lo hi n size : Nat} {A : Option Addr} {xs : List Value} (h : Arr w lo hi A n size xs) {p : Addr} (hp : p.block < lo ∨ hi ≤ p.block) (u : Value) : Arr (w.setCell p u) lo hi A n size xs :=
  h.within (Within.setCell w (lo := p.block) (hi := p.block + 1) (Nat.le_refl _) (Nat.lt_succ_self _) u) (by omega)
/-- A row: where it begins, how many elements, how many cells each has, the cells. -/
abbrev Rw := Option Addr × Nat × Nat × List Value
def blkOf : Option Addr → Nat
  | some a => a.block
  | none => 0
def rwB (r : Rw) : List Nat := if 0 < r.2.1 then [blkOf r.1] else []
/-- Rows of the call's own: each in a block of its own. -/
structure Own (w : World) (lo hi : Nat) (rs : List Rw) : Prop where
  rows : ∀ r ∈ rs, Arr w lo hi r.1 r.2.1 r.2.2.1 r.2.2.2
  apart : (rs.flatMap rwB).Nodup
section
variable {w w' : World} {lo hi : Nat} {rs rs' : List Rw}
theorem Own.nil_ (w : World) (lo hi : Nat) : Own w lo hi [] := ⟨fun _ h => by simp at h, by simp⟩
theorem Own.belowZ (h : Own w lo hi rs) (hb : Below w.heap.size w w') : Own w' lo hi rs := ⟨fun r hr => (h.rows r hr).belowZ hb, h.apart⟩
theorem Own.below (h : Own w lo hi rs) {B : Nat} (hb : Below B w w') (hB : hi ≤ B) : Own w' lo hi rs := ⟨fun r hr => (h.rows r hr).below hb hB, h.apart⟩
theorem Own.within {lo' hi' : Nat} (h : Own w lo' hi' rs) (hb : Within lo hi w w') (ho : hi' ≤ lo ∨ hi ≤ lo') : Own w' lo' hi' rs := ⟨fun r hr => (h.rows r hr).within hb ho, h.apart⟩
theorem Own.more (h : Own w lo hi rs) {lo' hi' : Nat} (h1 : lo' ≤ lo) (h2 : hi ≤ hi') (h3 : hi' ≤ w.heap.size) : Own w lo' hi' rs := ⟨fun r hr => (h.rows r hr).more h1 h2 h3, h.apart⟩
theorem Own.drew (h : Own w lo hi rs) : Own w.drew lo hi rs := ⟨h.rows, h.apart⟩
theorem Own.drewN (h : Own w lo hi rs) (n : Nat) : Own (w.drewN n) lo hi rs := ⟨h.rows, h.apart⟩
theorem rwB_mem {r : Rw} {b : Nat} (h : b ∈ rwB r) : 0 < r.2.1 ∧ b = blkOf r.1 := by
  unfold rwB at h
  split at h
  · simp at h; exact ⟨‹_›, h⟩
  · simp at h
theorem Own.mem (h : Own w lo hi rs) {b : Nat} (hb : b ∈ rs.flatMap rwB) : lo ≤ b ∧ b < hi ∧ hi ≤ w.heap.size := by
  obtain ⟨r, hr, hb⟩ := List.mem_flatMap.1 hb
  obtain ⟨h0, rfl⟩ := rwB_mem hb
  obtain ⟨g, e, h1, h2, h3, _⟩ := (h.rows r hr).2 h0
  rw [e]
  exact ⟨h1, h2, h3⟩
theorem Own.one {A : Option Addr} {n size : Nat} {xs : List Value} (h : Arr w lo hi A n size xs) : Own w lo hi [(A, n, size, xs)] :=
  ⟨fun r hr => by obtain rfl := List.mem_singleton.1 hr; exact h, by simp [rwB]; split <;> simp⟩
/-- Rows of two ranges that lie apart. -/
theorem Own.join {a b c d : Nat} (h : Own w a b rs) (h' : Own w c d rs') (hd : b ≤ c ∨ d ≤ a) (h1 : lo ≤ a) (h2 : b ≤ hi) (h3 : lo ≤ c) (h4 : d ≤ hi) (h5 : hi ≤ w.heap.size) : Own w lo hi (rs ++ rs') := by
  refine ⟨fun r hr => ?_, ?_⟩
  · rcases List.mem_append.1 hr with hr | hr
    · exact (h.more h1 h2 h5).rows r hr
    · exact (h'.more h3 h4 h5).rows r hr
  · rw [List.flatMap_append, List.nodup_append]
    refine ⟨h.apart, h'.apart, fun x hx y hy e => ?_⟩
    have := h.mem hx
    have := h'.mem hy
    omega
theorem Own.left (h : Own w lo hi (rs ++ rs')) : Own w lo hi rs := by
  have := h.apart
  rw [List.flatMap_append, List.nodup_append] at this
  exact ⟨fun r hr => h.rows r (List.mem_append_left _ hr), this.1⟩
theorem Own.right (h : Own w lo hi (rs ++ rs')) : Own w lo hi rs' := by
  have := h.apart
  rw [List.flatMap_append, List.nodup_append] at this
  exact ⟨fun r hr => h.rows r (List.mem_append_right _ hr), this.2.1⟩
theorem Own.swap (h : Own w lo hi (rs ++ rs')) : Own w lo hi (rs' ++ rs) := by
  have := h.apart
  rw [List.flatMap_append, List.nodup_append] at this
  refine ⟨fun r hr => h.rows r (by simpa [or_comm] using hr), ?_⟩
  rw [List.flatMap_append, List.nodup_append]
  exact ⟨this.2.1, this.1, fun x hx y hy e => this.2.2 y hy x hx e.symm⟩
/-- A row as one of its block alone. -/
theorem Arr.focus {n size : Nat} {A : Option Addr} {xs : List Value} (h : Arr w lo hi A n size xs) (hn : 0 < n) : Arr w (blkOf A) (blkOf A + 1) A n size xs ∧ lo ≤ blkOf A ∧ blkOf A < hi ∧ hi ≤ w.heap.size := by
  obtain ⟨g, e, h1, h2, h3, hc⟩ := h.2 hn
  subst e
  exact ⟨⟨h.1, fun _ => ⟨g, rfl, Nat.le_refl _, Nat.lt_succ_self _, by show g + 1 ≤ _; omega, hc⟩⟩, h1, h2, h3⟩
/-- The first row is turned, the others stay. -/
theorem Own.turnHead {A : Option Addr} {n size : Nat} {xs xs' : List Value} (h : Own w lo hi ((A, n, size, xs) :: rs)) (hx : 0 < n → Arr w' (blkOf A) (blkOf A + 1) A n size xs' ∧ Within (blkOf A) (blkOf A + 1) w w') (h0 : n = 0 → xs' = [] ∧ Within 0 0 w w') :
    Own w' lo hi ((A, n, size, xs') :: rs) := by
  rcases Nat.eq_zero_or_pos n with hn | hn
  · obtain ⟨e, hw⟩ := h0 hn
    refine ⟨fun r hr => ?_, h.apart⟩
    rcases List.mem_cons.1 hr with rfl | hr
    · subst hn e; exact ⟨by simp, fun hn => by simp at hn⟩
    · exact (h.rows r (List.mem_cons_of_mem _ hr)).within hw (.inr (Nat.zero_le _))
  · obtain ⟨hx, hw⟩ := hx hn
    obtain ⟨_, f1, f2, f3⟩ := (h.rows _ List.mem_cons_self).focus hn
    refine ⟨fun r hr => ?_, h.apart⟩
    rcases List.mem_cons.1 hr with rfl | hr
    · exact hx.more f1 f2 (Nat.le_trans f3 hw.size)
    · rcases Nat.eq_zero_or_pos r.2.1 with hr0 | hr0
      · have := (h.rows r (List.mem_cons_of_mem _ hr)).1
        exact ⟨this, fun hn => by omega⟩
      · obtain ⟨g0, g1, g2, g3⟩ := (h.rows r (List.mem_cons_of_mem _ hr)).focus hr0
        have hne : blkOf A ≠ blkOf r.1 := by
          have := h.apart
          rw [List.flatMap_cons, List.nodup_append] at this
          exact this.2.2 _ (by simp [rwB, hn]) _ (List.mem_flatMap.2 ⟨r, hr, by simp [rwB, hr0]⟩)
        exact (g0.within hw (by omega)).more g1 g2 (Nat.le_trans g3 hw.size)
/-- A row in the middle is turned. -/
theorem Own.turn {pre post : List Rw} {A : Option Addr} {n size : Nat} {xs xs' : List Value} (h : Own w lo hi (pre ++ (A, n, size, xs) :: post))
    (hx : 0 < n → Arr w' (blkOf A) (blkOf A + 1) A n size xs' ∧ Within (blkOf A) (blkOf A + 1) w w') (h0 : n = 0 → xs' = [] ∧ Within 0 0 w w') : Own w' lo hi (pre ++ (A, n, size, xs') :: post) :=
  (Own.turnHead (rs := post ++ pre) h.swap hx h0).swap
theorem Own.at_ {pre post : List Rw} {r : Rw} (h : Own w lo hi (pre ++ r :: post)) : Arr w lo hi r.1 r.2.1 r.2.2.1 r.2.2.2 := h.rows r (by simp)
end
end Go.Proofs.Ytcfjbaanahgpoaa
