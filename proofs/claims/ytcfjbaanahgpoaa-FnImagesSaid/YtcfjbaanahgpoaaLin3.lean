import Derived.Test.YtcfjbaanahgpoaaLinSX
namespace Go.Proofs.Ytcfjbaanahgpoaa
open Go.RowKit
set_option maxRecDepth 100000
/-! Rows turned by a callee. -/
def rlo (A : Option Addr) (n : Nat) : Nat := if 0 < n then blkOf A else 0
def rhi (A : Option Addr) (n : Nat) : Nat := if 0 < n then blkOf A + 1 else 0
section
variable {w w' : World} {lo hi : Nat} {rs : List Rw}
theorem Within.any {a b : Nat} (h : Within 0 0 w w') : Within a b w w' := ⟨h.os, h.tape, h.output, h.size, fun x hx _ => h.block x hx (.inr (Nat.zero_le _))⟩
theorem Own.row {pre post : List Rw} {A : Option Addr} {n size : Nat} {xs : List Value} (h : Own w lo hi (pre ++ (A, n, size, xs) :: post)) : Arr w (rlo A n) (rhi A n) A n size xs := by
  rcases Nat.eq_zero_or_pos n with hn | hn
  · subst hn
    exact ⟨(h.at_).1, fun hn => by omega⟩
  · unfold rlo rhi
    rw [if_pos hn, if_pos hn]
    exact (h.at_.focus hn).1
theorem Own.rowIn {pre post : List Rw} {A : Option Addr} {n size : Nat} {xs : List Value} (h : Own w lo hi (pre ++ (A, n, size, xs) :: post)) (hb : Within (rlo A n) (rhi A n) w w') : Within lo hi w w' := by
  rcases Nat.eq_zero_or_pos n with hn | hn
  · subst hn
    exact Within.any hb
  · unfold rlo rhi at hb
    rw [if_pos hn, if_pos hn] at hb
    obtain ⟨_, f1, f2, _⟩ := h.at_.focus hn
    exact hb.mono f1 f2
theorem Own.rowTurn {pre post : List Rw} {A : Option Addr} {n size : Nat} {xs xs' : List Value} (h : Own w lo hi (pre ++ (A, n, size, xs) :: post))
    (hx : Arr w' (rlo A n) (rhi A n) A n size xs') (hb : Within (rlo A n) (rhi A n) w w') : Own w' lo hi (pre ++ (A, n, size, xs') :: post) := by
  refine h.turn (fun hn => ?_) (fun hn => ?_)
  · unfold rlo rhi at hx hb
    rw [if_pos hn, if_pos hn] at hx hb
    exact ⟨hx, hb⟩
  · subst hn
    exact ⟨List.eq_nil_of_length_eq_zero (by rw [hx.1]; omega), hb⟩
theorem Own.cellHead {g n size : Nat} {xs : List Value} (h : Own w lo hi ((some ⟨g, 0, none⟩, n, size, xs) :: rs)) {j : Nat} (hj : j < n * size) :
    w.cell? ⟨g, j, none⟩ = xs[j]? ∧ w.frozen? ⟨g, j, none⟩ = false ∧ lo ≤ g ∧ g < hi ∧ hi ≤ w.heap.size := by
  have hn : 0 < n := by rcases Nat.eq_zero_or_pos n with hn | hn; · subst hn; omega
                        · exact hn
  obtain ⟨g', e, g1, g2, g3, hc⟩ := (h.rows _ List.mem_cons_self).2 hn
  obtain rfl : g = g' := by injection e with e; injection e
  exact ⟨(hc j hj).1, (hc j hj).2, g1, g2, g3⟩
theorem Own.headAt {A : Option Addr} {n size : Nat} {xs : List Value} (h : Own w lo hi ((A, n, size, xs) :: rs)) (hn : 0 < n) : ∃ g, A = some ⟨g, 0, none⟩ := by
  obtain ⟨g', e, _⟩ := (h.rows _ List.mem_cons_self).2 hn
  exact ⟨g', e⟩
theorem Own.setHead {g n size : Nat} {xs : List Value} (h : Own w lo hi ((some ⟨g, 0, none⟩, n, size, xs) :: rs)) {j : Nat} (hj : j < n * size) (u : Value) :
    Own (w.setCell ⟨g, j, none⟩ u) lo hi ((some ⟨g, 0, none⟩, n, size, xs.set j u) :: rs) := by
  refine h.turnHead (fun hn => ?_) (fun hn => by subst hn; omega)
  have hf := ((h.rows _ List.mem_cons_self).focus hn).1
  exact ⟨hf.set_ hj u, Within.setCell w (p := ⟨g, j, none⟩) (Nat.le_refl _) (Nat.lt_succ_self _) u⟩
end
theorem mid_at {α : Type} (a b c : List α) (k j : Nat) (ha : a.length = k) (hj : j < b.length) : (a ++ (b ++ c))[k + j]? = b[j]? := by
  subst ha
  rw [List.getElem?_append_right (by omega), Nat.add_sub_cancel_left, List.getElem?_append_left hj]
theorem mid_set {α : Type} (a b c : List α) (k j : Nat) (u : α) (ha : a.length = k) (hj : j < b.length) : (a ++ (b ++ c)).set (k + j) u = a ++ (b.set j u ++ c) := by
  subst ha; exact set_mid a b c j u hj
theorem drop_step' {α : Type} (l : List α) (k : Nat) (h : k < l.length) : l.drop k = l[k] :: l.drop (k + 1) := List.drop_eq_getElem_cons h
theorem lnsCnt_le (L : List Ln) : lnsCnt L ≤ 3 * lnTot L + 2 * L.length := sumLn L
theorem mkLn_cells (q : Int) (p : LP) : lnC (mkLn q p.1, p.2) = [.int .i64 q, .string (markT (q + 1)), .slice p.2.1 p.1.2.2.1.length p.2.2.1, .slice p.2.2.2.1 p.1.2.2.2.length p.2.2.2.2] := by
  unfold lnC mkLn
  simp only [mkStrL_length, mkTokL_length]
theorem mkLn_rows (q : Int) (p : LP) : lnRows (mkLn q p.1, p.2) = [(p.2.1, p.1.2.2.1.length, 1, markStrs (q + 2) p.1.2.2.1.length), (p.2.2.2.1, p.1.2.2.2.length, 3, markToks (q + 2 + p.1.2.2.1.length) p.1.2.2.2.length)] := by
  unfold lnRows mkLn
  simp only [mkStrL_length, mkTokL_length, ← markStrs_cells, ← markToks_cells]
theorem mkP_cap (P : List LP) (h : ∀ p ∈ P, lnCap p) : ∀ k0, ∀ p ∈ mkP k0 P, lnCap p := by
  induction P with
  | nil => intro k0 p hp; simp [mkP] at hp
  | cons p P ih =>
    intro k0 q hq
    rw [mkP] at hq
    rcases List.mem_cons.1 hq with rfl | hq
    · have := h p List.mem_cons_self
      unfold lnCap mkLn
      simp only [mkStrL_length, mkTokL_length]
      exact this
    · exact ih (fun x hx => h x (List.mem_cons_of_mem _ hx)) _ q hq
end Go.Proofs.Ytcfjbaanahgpoaa
