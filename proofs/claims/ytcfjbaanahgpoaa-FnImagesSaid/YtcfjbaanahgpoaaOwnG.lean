import Derived.Test.YtcfjbaanahgpoaaLin
namespace Go.Proofs.Ytcfjbaanahgpoaa
open Go Go.RowKit
set_option maxRecDepth 100000
/-! Rows of a call's own, when one other block grows; a line put at the end of lines. -/
theorem Arr.grownBy {w w' : World} {lo hi : Nat} {A : Option Addr} {n size g : Nat} {xs : List Value} (h : Arr w lo hi A n size xs) (hg : w.grownBy w' (some g)) (hne : 0 < n → blkOf A ≠ g) : Arr w' lo hi A n size xs :=
  ⟨h.1, fun hn => by
    obtain ⟨b, e, h1, h2, h3, hc⟩ := h.2 hn
    have hb : b ≠ g := by have := hne hn; rw [e] at this; exact this
    have hk := hg.block b (by omega) (fun e => by injection e with e; exact hb e)
    exact ⟨b, e, h1, h2, Nat.le_trans h3 hg.size, fun j hj => ⟨(World.cell?_of_block hk).trans (hc j hj).1, (World.frozen?_of_block hk).trans (hc j hj).2⟩⟩⟩
theorem Own.grownBy {w w' : World} {lo hi g : Nat} {rs : List Rw} (h : Own w lo hi rs) (hg : w.grownBy w' (some g)) (hn : g ∉ rs.flatMap rwB) : Own w' lo hi rs :=
  ⟨fun r hr => (h.rows r hr).grownBy hg (fun h0 e => hn (List.mem_flatMap.2 ⟨r, hr, by unfold rwB; rw [if_pos h0, e]; simp⟩)), h.apart⟩
/-- Lines that are being put one after another at the end of a row of the call's own. -/
def OwnL (w : World) (lo : Nat) (T : TypeId) (v : Value) (P : List LP) (Q : List LP) : Prop :=
  w.ownsRow lo T 4 v P.length (P.flatMap lnC) ∧ Own w lo w.heap.size (Q.flatMap lnRows) ∧ (∀ g, v.ownBlock = some g → g ∉ (Q.flatMap lnRows).flatMap rwB) ∧ ∀ p ∈ Q, lnCap p
section
variable {w w' u : World} {lo : Nat} {T : TypeId} {v v' : Value} {P Q : List LP} {p : LP}
theorem own_any (h : Own w lo w.heap.size (Q.flatMap lnRows)) {row : Option Nat} (hg : w.grownBy w' row) (hn : ∀ g, row = some g → g ∉ (Q.flatMap lnRows).flatMap rwB) : Own w' lo w'.heap.size (Q.flatMap lnRows) := by
  cases row with
  | none => exact (h.belowZ ⟨hg.os, hg.tape, hg.output, hg.size, fun b hb => hg.block b hb (by simp)⟩).more (Nat.le_refl _) hg.size (Nat.le_refl _)
  | some g => exact (h.grownBy hg (hn g rfl)).more (Nat.le_refl _) hg.size (Nat.le_refl _)
/-- A call that answers a line with rows of its own. -/
theorem OwnL.line (h : OwnL w lo T v P P) (hb : Below w.heap.size w w') (hlo : lo ≤ w.heap.size) (ho : Own w' w.heap.size w'.heap.size (lnRows p)) (hc : lnCap p) : OwnL w' lo T v P (P ++ [p]) := by
  obtain ⟨h1, h2, h3, h4⟩ := h
  have e : (P ++ [p]).flatMap lnRows = P.flatMap lnRows ++ lnRows p := by simp
  refine ⟨own_belowZ h1 hb, ?_, ?_, ?_⟩
  · rw [e]
    exact Own.join (h2.belowZ hb) ho (.inl (Nat.le_refl _)) (Nat.le_refl _) hb.size hlo (Nat.le_refl _) (Nat.le_refl _)
  · intro g hg hm
    rw [e, List.flatMap_append] at hm
    rcases List.mem_append.1 hm with hm | hm
    · exact h3 g hg hm
    · have := (ho.mem hm).1
      have := (h1.lt g hg).2
      omega
  · intro q hq
    rcases List.mem_append.1 hq with hq | hq
    · exact h4 q hq
    · obtain rfl := List.mem_singleton.1 hq; exact hc
theorem OwnL.belowZ (h : OwnL w lo T v P Q) (hb : Below w.heap.size w w') : OwnL w' lo T v P Q :=
  ⟨own_belowZ h.1 hb, (h.2.1.belowZ hb).more (Nat.le_refl _) hb.size (Nat.le_refl _), h.2.2.1, h.2.2.2⟩
/-- The line is put at the end: after wpList_app. -/
theorem OwnL.app (h : OwnL w lo T v P (P ++ [p])) (hown : w'.ownsRow lo T 4 v' (P.length + 1) (P.flatMap lnC ++ lnC p)) (hg : w.grownBy w' v.ownBlock) (hv : v'.ownBlock = v.ownBlock ∨ v'.ownBlock = some (w.heap.size + 1)) : OwnL w' lo T v' (P ++ [p]) (P ++ [p]) := by
  obtain ⟨_, h2, h3, h4⟩ := h
  refine ⟨by simpa using hown, own_any h2 hg h3, ?_, h4⟩
  intro g hg' hm
  rcases hv with hv | hv
  · exact h3 g (hv ▸ hg') hm
  · rw [hv] at hg'
    injection hg' with hg'
    have := h2.mem hm
    omega
theorem OwnL.nil_ (h : w.ownsRow lo T 4 v 0 []) : OwnL w lo T v [] [] :=
  ⟨h, Own.nil_ _ _ _, fun _ _ hm => by simp at hm, fun _ hp => by simp at hp⟩
/-- What a call answers. -/
theorem OwnL.lines (h : OwnL w lo T v P P) : ∃ A c, v = .slice A P.length c ∧ OwnLines w lo w.heap.size A (P.map Prod.fst) := by
  obtain ⟨h1, h2, h3, h4⟩ := h
  obtain ⟨A, c, rfl, _, ha⟩ := Arr.of_own h1
  refine ⟨A, c, rfl, P, rfl, ⟨fun r hr => ?_, ?_⟩, h4⟩
  · rcases List.mem_cons.1 hr with rfl | hr
    · exact ha
    · exact h2.rows r hr
  · rw [List.flatMap_cons]
    unfold rwB
    split
    · rename_i hn
      obtain ⟨g, e, _⟩ := ha.2 hn
      rw [e] at h3 ⊢
      refine List.nodup_cons.2 ⟨h3 g rfl, h2.apart⟩
    · exact h2.apart
end
theorem Arr.own2 {w : World} {base e size n : Nat} {v : Value} {xs : List Value} (h : w.ownsRow base e size v n xs) : ∃ A c, v = .slice A n c ∧ n ≤ c ∧ c ≤ maxLen ∧ Arr w base w.heap.size A n size xs ∧ (0 < n → v.ownBlock = some (blkOf A)) := by
  rcases h.2 with ⟨rfl, rfl⟩ | ⟨g, cap, cur, rfl, hb, hh, hnc, hc, hcs, htake⟩
  · exact ⟨none, 0, rfl, Nat.le_refl _, Nat.zero_le _, ⟨h.1, fun hn => by omega⟩, fun hn => by omega⟩
  · refine ⟨some ⟨g, 0, none⟩, cap, rfl, hnc, hc, ⟨h.1, fun hn => ⟨g, rfl, hb, ?_, Nat.le_refl _, fun j hj => ⟨h.cellAt j hj, h.frozenAt j⟩⟩⟩, fun _ => rfl⟩
    exact (h.lt g rfl).2
/-- Two rows of the call's own in blocks that differ. -/
theorem Own.two {w : World} {lo hi : Nat} {A B : Option Addr} {n m s t : Nat} {xs ys : List Value} (h : Arr w lo hi A n s xs) (k : Arr w lo hi B m t ys) (hne : 0 < n → 0 < m → blkOf A ≠ blkOf B) : Own w lo hi [(A, n, s, xs), (B, m, t, ys)] := by
  refine ⟨fun r hr => ?_, ?_⟩
  · simp only [List.mem_cons, List.not_mem_nil, or_false] at hr
    rcases hr with rfl | rfl
    · exact h
    · exact k
  · simp only [List.flatMap_cons, List.flatMap_nil, List.append_nil]
    unfold rwB
    simp only
    by_cases hn : 0 < n
    · by_cases hm : 0 < m
      · rw [if_pos hn, if_pos hm]; simp; exact hne hn hm
      · rw [if_pos hn, if_neg hm]; simp
    · by_cases hm : 0 < m
      · rw [if_neg hn, if_pos hm]; simp
      · rw [if_neg hn, if_neg hm]; simp
theorem own_grown {w w' : World} {base e size n : Nat} {v : Value} {xs : List Value} {row : Option Nat} (h : w.ownsRow base e size v n xs) (hg : w.grownBy w' row) (hne : ∀ g, v.ownBlock = some g → row ≠ some g) : w'.ownsRow base e size v n xs := by
  refine h.kept hg ?_
  cases hv : v.ownBlock with
  | none => exact .inl rfl
  | some k => exact .inr (fun e => hne k hv e.symm)
section
variable {w w' : World} {lo g : Nat} {T : TypeId} {v v' u : Value} {P Q : List LP}
theorem OwnL.notIn (h : OwnL w lo T v P Q) (hg : g < lo) : g ∉ (Q.flatMap lnRows).flatMap rwB := fun hm => by have := h.2.1.mem hm; omega
/-- Another block turns, below the rows. -/
theorem OwnL.cur (h : OwnL w lo T v P Q) (hg : w.grownBy w' (some g)) (hl : g < lo) : OwnL w' lo T v P Q :=
  ⟨own_grown h.1 hg (fun b e => by have := (h.1.lt b e).1; simp; omega), own_any h.2.1 hg (fun b e => by injection e with e; subst e; exact h.notIn hl), h.2.2.1, h.2.2.2⟩
/-- New rows of a callee, while another block has turned. -/
theorem OwnL.more (h : OwnL w lo T v P P) (hg : w.grownBy w' (some g)) (hl : g < lo) (hlo : lo ≤ w.heap.size) (ho : Own w' w.heap.size w'.heap.size (Q.flatMap lnRows)) (hc : ∀ p ∈ Q, lnCap p) : OwnL w' lo T v P (P ++ Q) := by
  have hk := h.cur hg hl
  have hlt : ∀ b ∈ (P.flatMap lnRows).flatMap rwB, b < w.heap.size := fun b hb => (h.2.1.mem hb).2.1
  refine ⟨hk.1, ?_, ?_, ?_⟩
  · rw [List.flatMap_append]
    refine ⟨fun r hr => ?_, ?_⟩
    · rcases List.mem_append.1 hr with hr | hr
      · exact hk.2.1.rows r hr
      · exact (ho.rows r hr).more hlo (Nat.le_refl _) (Nat.le_refl _)
    · rw [List.flatMap_append, List.nodup_append]
      refine ⟨hk.2.1.apart, ho.apart, fun x hx y hy e => ?_⟩
      have h1 := hlt x hx
      have h2 := ho.mem hy
      omega
  · intro b hb hm
    rw [List.flatMap_append, List.flatMap_append] at hm
    rcases List.mem_append.1 hm with hm | hm
    · exact hk.2.2.1 b hb hm
    · have h1 := (ho.mem hm).1
      have h2 := (h.1.lt b hb).2
      omega
  · intro p hp
    rcases List.mem_append.1 hp with hp | hp
    · exact h.2.2.2 p hp
    · exact hc p hp
/-- Lines put at the end: after wpList_apps. -/
theorem OwnL.apps (h : OwnL w lo T v P (P ++ Q)) (hown : w'.ownsRow lo T 4 v' (P.length + Q.length) (P.flatMap lnC ++ Q.flatMap lnC)) (hg : w.grownBy w' v.ownBlock) (hv : v'.ownBlock = v.ownBlock ∨ v'.ownBlock = some w.heap.size) : OwnL w' lo T v' (P ++ Q) (P ++ Q) := by
  obtain ⟨_, h2, h3, h4⟩ := h
  refine ⟨by simpa using hown, own_any h2 hg h3, ?_, h4⟩
  intro b hb hm
  rcases hv with hv | hv
  · exact h3 b (hv ▸ hb) hm
  · rw [hv] at hb
    injection hb with hb
    have := h2.mem hm
    omega
end
end Go.Proofs.Ytcfjbaanahgpoaa
