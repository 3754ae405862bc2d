import Derived.Test.YthhlimbaoenkkaaLin
namespace Go.Proofs.Ythhlimbaoenkkaa
open Go Go.RowKit
set_option maxRecDepth 100000
/-! Rows of a call's own, when one other block grows; a line put at the end of lines. -/
theorem Arr.grownBy {w w' : World} {lo hi : Nat} {A : Option Addr} {n size g : Nat} {xs : List Value} (h : Arr w lo hi A n size xs) (hg : w.grownBy w' (some g)) (hne : 0 < n → blkOf A ≠ g) : Arr w' lo hi A n size xs :=
  ⟨h.1, fun hn => by
    obtain ⟨b, e, h1, h2, h3, hc⟩ := h.2 hn
    have hb : b ≠ g := by have := hne hn; rw [e] at this; exact this
    have hk := hg.block b (by omega) (fun e => by injection e with e; exact hb e)
    exact ⟨b, e, h1, h2, Nat.le_trans h3 hg.size, fun j hj => ⟨(World.cell?_of_block hk).trans (hc j hj).1, (World.frozen?_of_block hk).trans (hc j hj).2⟩⟩⟩
theorem Own.grownBy {w w' : World} {lo hi g : Nat} {rs : List Rw} (h : Own w lo hi rs) (hg : w.grownBy w' (some g)) (hn : g ∉ rs.flatMap rwB) : Own w' lo hi rs :=
  ⟨fun r hr => (h.rows r hr).grownBy hg (fun h0 e => hn (List.mem_flatMap.2 ⟨r, hr, by unfold rwB; rw [if_pos h0, e]; simp⟩)), h.apart⟩
/-- Lines that are being put one after another at the end of a row of the call's own. -/
def OwnL (w : World) (lo : Nat) (T : TypeId) (v : Value) (P : List LP) (Q : List LP) : Prop :=
  w.ownsRow lo T 4 v P.length (P.flatMap lnC) ∧ Own w lo w.heap.size (Q.flatMap lnRows) ∧ (∀ g, v.ownBlock = some g → g ∉ (Q.flatMap lnRows).flatMap rwB) ∧ ∀ p ∈ Q, lnCap p
section
variable {w w' u : World} {lo : Nat} {T : TypeId} {v v' : Value} {P Q : List LP} {p : LP}
theorem own_any (h : Own w lo w.heap.size (Q.flatMap lnRows)) {row : Option Nat} (hg : w.grownBy w' row) (hn : ∀ g, row = some g → g ∉ (Q.flatMap lnRows).flatMap rwB) : Own w' lo w'.heap.size (Q.flatMap lnRows) := by
  cases row with
  | none => exact (h.belowZ ⟨hg.os, hg.tape, hg.output, hg.size, fun b hb => hg.block b hb (by simp)⟩).more (Nat.le_refl _) hg.size (Nat.le_refl _)
  | some g => exact (h.grownBy hg (hn g rfl)).more (Nat.le_refl _) hg.size (Nat.le_refl _)
/-- A call that answers a line with rows of its own. -/
theorem OwnL.line (h : OwnL w lo T v P P) (hb : Below w.heap.size w w') (hlo : lo ≤ w.heap.size) (ho : Own w' w.heap.size w'.heap.size (lnRows p)) (hc : lnCap p) : OwnL w' lo T v P (P ++ [p]) := by
  obtain ⟨h1, h2, h3, h4⟩ := h
  have e : (P ++ [p]).flatMap lnRows = P.flatMap lnRows ++ lnRows p := by simp
  refine ⟨own_belowZ h1 hb, ?_, ?_, ?_⟩
  · rw [e]
    exact Own.join (h2.belowZ hb) ho (.inl (Nat.le_refl _)) (Nat.le_refl _) hb.size hlo (Nat.le_refl _) (Nat.le_refl _)
  · intro g hg hm
    rw [e, List.flatMap_append] at hm
    rcases List.mem_append.1 hm with hm | hm
    · exact h3 g hg hm
    · have := (ho.mem hm).1
      have := (h1.lt g hg).2
      omega
  · intro q hq
    rcases List.mem_append.1 hq with hq | hq
    · exact h4 q hq
    · obtain rfl := List.mem_singleton.1 hq; exact hc
theorem OwnL.belowZ (h : OwnL w lo T v P Q) (hb : Below w.heap.size w w') : OwnL w' lo T v P Q :=
  ⟨own_belowZ h.1 hb, (h.2.1.belowZ hb).more (Nat.le_refl _) hb.size (Nat.le_refl _), h.2.2.1, h.2.2.2⟩
/-- The line is put at the end: after wpList_app. -/
theorem OwnL.app (h : OwnL w lo T v P (P ++ [p])) (hown : w'.ownsRow lo T 4 v' (P.length + 1) (P.flatMap lnC ++ lnC p)) (hg : w.grownBy w' v.ownBlock) (hv : v'.ownBlock = v.ownBlock ∨ v'.ownBlock = some (w.heap.size + 1)) : OwnL w' lo T v' (P ++ [p]) (P ++ [p]) := by
  obtain ⟨_, h2, h3, h4⟩ := h
  refine ⟨by simpa using hown, own_any h2 hg h3, ?_, h4⟩
  intro g hg' hm
  rcases hv with hv | hv
  · exact h3 g (hv ▸ hg') hm
  · rw [hv] at hg'
    injection hg' with hg'
    have := h2.mem hm
    omega
theorem OwnL.nil_ (h : w.ownsRow lo T 4 v 0 []) : OwnL w lo T v [] [] :=
  ⟨h, Own.nil_ _ _ _, fun _ _ hm => by simp at hm, fun _ hp => by simp at hp⟩
/-- What a call answers. -/
theorem OwnL.lines (h : OwnL w lo T v P P) : ∃ A c, v = .slice A P.length c ∧ OwnLines w lo w.heap.size A (P.map Prod.fst) := by
  obtain ⟨h1, h2, h3, h4⟩ := h
  obtain ⟨A, c, rfl, _, ha⟩ := Arr.of_own h1
  refine ⟨A, c, rfl, P, rfl, ⟨fun r hr => ?_, ?_⟩, h4⟩
  · rcases List.mem_cons.1 hr with rfl | hr
    · exact ha
    · exact h2.rows r hr
  · rw [List.flatMap_cons]
    unfold rwB
    split
    · rename_i hn
      obtain ⟨g, e, _⟩ := ha.2 hn
      rw [e] at h3 ⊢
      refine List.nodup_cons.2 ⟨h3 g rfl, h2.apart⟩
    · exact h2.apart
end
end Go.Proofs.Ythhlimbaoenkkaa
