import Derived.Test.YtcfjbaanahgpoaaDrBX
import Derived.Deep.RegionHeld3
import Derived.Test.YtcfjbaanahgpoaaLinSX
namespace Go.Proofs.Ytcfjbaanahgpoaa
open Go Go.RowKit
set_option maxRecDepth 100000
set_option linter.unusedVariables false
set_option linter.unusedSimpArgs false
/-! Drawn programs. -/
theorem RowX.sub {α : Type} {w : World} {g b o N i m : Nat} {l : List α} {f : α → Value} (h : RowX w g (some ⟨b, o, none⟩) N 1 (l.map f)) (him : i + m ≤ N) : RowX w g (some ⟨b, o + i, none⟩) m 1 (((l.drop i).take m).map f) := by
  have hl : l.length = N := by have := h.1.1; simpa using this
  refine ⟨⟨by simp; omega, fun hm => ?_⟩, fun hm ad e => by cases e; exact (show b ≠ g from h.2 (by omega) ⟨b, o, none⟩ rfl)⟩
  obtain ⟨b', o', e, hb, hc⟩ := h.1.2 (by omega)
  cases e
  refine ⟨b, o + i, rfl, hb, fun j hj => ?_⟩
  have := hc (i + j) (by omega)
  rw [Nat.add_assoc, this]
  have hj' : j < m := by omega
  simp [List.getElem?_take, hj', List.getElem?_drop]
def nmL : List ByteArray := [⟨#[109, 97, 105, 110]⟩, ⟨#[102]⟩, ⟨#[103, 103]⟩, ⟨#[104]⟩]
def arL : List Int := [0, 1, 2, 1]
def xyL : List ByteArray := [⟨#[120]⟩, ⟨#[121]⟩]
def izL : List ByteArray := [⟨#[105]⟩, ⟨#[122]⟩]
theorem nmL_ok : ∀ s ∈ nmL, nameOkF s.data.toList = true := by decide
theorem arL_ok : ∀ a ∈ arL, 0 ≤ a ∧ a ≤ 2 := by decide
theorem xyL_ok : ∀ s ∈ xyL, nameOkF s.data.toList = true := by decide
theorem izL_ok : ∀ s ∈ izL, nameOkF s.data.toList = true := by decide
/-- A row just laid. -/
theorem RowX.new {w : World} {g : Nat} {t : TypeId} {n : Nat} {l : List Value} (hl : l.length = n) (hg : g < w.heap.size) : RowX (w.alloc (.cells l.toArray t)) g (some ⟨w.heap.size, 0, none⟩) n 1 l :=
  ⟨⟨by omega, fun _ => ⟨w.heap.size, 0, rfl, by simp, fun j hj => by rw [Nat.zero_add, (Blk.new w t l.toArray).cell j]; simp⟩⟩, fun _ ad e => by cases e; show w.heap.size ≠ g; omega⟩
theorem RowX.alloc {w : World} {g n size : Nat} {A : Option Addr} {xs : List Value} (h : RowX w g A n size xs) (o : Obj) : RowX (w.alloc o) g A n size xs := h.below ((Below.refl _ _).alloc (Nat.le_refl _) o)
/-- A smaller base. -/
theorem BSt.base {w w0 w' : World} {B g m : Nat} {v : Value} (h : BSt w0 w' B g v m) (hz : w.heap.size ≤ w0.heap.size) (hg : w.grownBy w' (some g)) : BSt w w' B g v m := by
  obtain ⟨A, P, c, h1, ⟨q1, q2, q3, q4⟩, h3, h4, h5, _⟩ := h
  refine ⟨A, P, c, h1, ⟨?_, q2.more hz (Nat.le_refl _) (Nat.le_refl _), q3, q4⟩, h3, h4, h5, hg⟩
  refine ⟨q1.1, ?_⟩
  rcases q1.2 with hn | ⟨b, cap, cur, e, hb, rest⟩
  · exact .inl hn
  · exact .inr ⟨b, cap, cur, e, Nat.le_trans hz hb, rest⟩
theorem BSt.lt {w0 w : World} {B g m : Nat} {v : Value} (h : BSt w0 w B g v m) : ∀ b, v.ownBlock = some b → w0.heap.size ≤ b ∧ b < w.heap.size := by
  obtain ⟨A, P, c, rfl, h2, _⟩ := h
  exact h2.1.lt
theorem BLn.lt {w0 w : World} {B g m : Nat} {v : Value} {p : LP} (h : BLn w0 w B g v m p) : ∀ b, v.ownBlock = some b → w0.heap.size ≤ b ∧ b < w.heap.size := by
  obtain ⟨P, h2, _⟩ := h
  exact h2.1.lt
/-- How many elements a slice has. -/
def vLen : Value → Nat
  | .slice _ n _ => n
  | _ => 0
/-- append of the line that is made: what has turned is told. -/
theorem wpList_line2 {w0 w : World} {B g m : Nat} {v : Value} {p : LP} {ops : Array Oper} {rest : List Oper} {o : Oper} {a : Act} {Q : Exit → Act → World → Prop} {gN : Nat} (hgd : o.guard = none) (s x : Operand)
    (ho : o.op = .call { callee := .builtin .append, args := #[s, x], argTypes := #[24, 24] }) (hB : BLn w0 w B g v m p) (hs : a.eval s = v) (hx : a.eval x = .slice (some ⟨gN, 0, none⟩) 1 1) (hgN : gN = w.heap.size) (hm : m ≤ 1000000) (hgl : g < w0.heap.size)
    (h : ∀ v' w', BSt w0 w' B g v' (m + 1) → w.grownBy w' v.ownBlock → (v'.ownBlock = v.ownBlock ∨ ∃ b, v'.ownBlock = some b ∧ w.heap.size ≤ b) → 1 ≤ vLen v' → wpList Try.prog ops Q rest (a.put o.dst v') w') : wpList Try.prog ops Q (o :: rest) a (w.alloc (.cells (lnC p).toArray 34)) := by
  obtain ⟨i0, hi, hz0, hz1, hz2⟩ := info_parts Try.infoLnD
  obtain ⟨P, h2, h3, hk, h4, h5, h6⟩ := hB
  refine wpList_appN w hgd s x _ ho w0.heap.size 34 i0 _ 4 72 Try.underlying24 hi hz0 hz1 hz2 rfl (by decide) v _ _ hs h2.1 1 (lnC p) hx hgN rfl ?_ ?_ (by decide) h6.size ?_
  · intro u hu; simp [lnC] at hu; rcases hu with rfl | rfl | rfl | rfl <;> rfl
  · omega
  intro v' w' hown hb hg hv
  have hO := h2.app hown hg hv
  obtain ⟨A', c', rfl, _⟩ := Arr.of_own hown
  refine h _ _ ⟨A', P ++ [p], c', by simp, hO, ?_, by simp; omega, h5.own hg (fun b e => by have := (h2.1.lt b e).1; omega), ev_own h6 hg (fun b e => (h2.1.lt b e).1)⟩ hg ?_ ?_
  · intro q hq
    rcases List.mem_append.1 hq with hq | hq
    · exact h3 q hq
    · obtain rfl := List.mem_singleton.1 hq; exact hk
  · rcases hv with hv | hv
    · exact .inl hv
    · exact .inr ⟨_, hv, by omega⟩
  · show 1 ≤ P.length + 1
    omega
/-- The line put at the end, as a step of a region that draws its order. -/
theorem step_line2 {w0 w : World} {B g m : Nat} {v : Value} {p : LP} {cs : List Value} (hcs : cs = lnC p) {ops : Array Oper} {o : Oper} {a : Act} {K : Act → World → Prop} {Q : Exit → Act → World → Prop} {E : Prop} {gN : Nat} (hgd : o.guard = none) (s x : Operand)
    (ho : o.op = .call { callee := .builtin .append, args := #[s, x], argTypes := #[24, 24] }) (hB : BLn w0 w B g v m p) (hs : a.eval s = v) (hx : a.eval x = .slice (some ⟨gN, 0, none⟩) 1 1) (hgN : gN = w.heap.size) (hm : m ≤ 1000000) (hgl : g < w0.heap.size)
    (h : ∀ v' w', BSt w0 w' B g v' (m + 1) → w.grownBy w' v.ownBlock → (v'.ownBlock = v.ownBlock ∨ ∃ b, v'.ownBlock = some b ∧ w.heap.size ≤ b) → 1 ≤ vLen v' → K (a.put o.dst v') w') : if Region.wanted o (yielded ops a.tmps) = true then Oper.wp Try.prog o a (w.alloc (.cells cs.toArray 34)) K Q else E := by
  subst hcs
  obtain ⟨i0, hi, hz0, hz1, hz2⟩ := info_parts Try.infoLnD
  obtain ⟨P, h2, h3, hk, h4, h5, h6⟩ := hB
  refine step_appN w hgd s x _ ho w0.heap.size 34 i0 _ 4 72 Try.underlying24 hi hz0 hz1 hz2 rfl (by decide) v _ _ hs h2.1 1 (lnC p) hx hgN rfl ?_ ?_ (by decide) h6.size ?_
  · intro u hu; simp [lnC] at hu; rcases hu with rfl | rfl | rfl | rfl <;> rfl
  · omega
  intro v' w' hown hb hg hv
  have hO := h2.app hown hg hv
  obtain ⟨A', c', rfl, _⟩ := Arr.of_own hown
  refine h _ _ ⟨A', P ++ [p], c', by simp, hO, ?_, by simp; omega, h5.own hg (fun b e => by have := (h2.1.lt b e).1; omega), ev_own h6 hg (fun b e => (h2.1.lt b e).1)⟩ hg ?_ ?_
  · intro q hq
    rcases List.mem_append.1 hq with hq | hq
    · exact h3 q hq
    · obtain rfl := List.mem_singleton.1 hq; exact hk
  · rcases hv with hv | hv
    · exact .inl hv
    · exact .inr ⟨_, hv, by omega⟩
  · show 1 ≤ P.length + 1
    omega
theorem wpList_lines2 {w0 w w' : World} {B g m q : Nat} {v u : Value} {ops : Array Oper} {rest : List Oper} {o : Oper} {a : Act} {Q : Exit → Act → World → Prop} (hgd : o.guard = none) (s x : Operand)
    (ho : o.op = .call { callee := .builtin .append, args := #[s, x], argTypes := #[24, 24] }) (hB : BSt w0 w B g v m) (hU : BSt w w' B g u q) (hs : a.eval s = v) (hx : a.eval x = u) (hm : m + q ≤ 1000000) (hgl : g < w0.heap.size)
    (h : ∀ v' w'', BSt w0 w'' B g v' (m + q) → w'.grownBy w'' v.ownBlock → (v'.ownBlock = v.ownBlock ∨ ∃ b, v'.ownBlock = some b ∧ w.heap.size ≤ b) → vLen v ≤ vLen v' → wpList Try.prog ops Q rest (a.put o.dst v') w'') : wpList Try.prog ops Q (o :: rest) a w' := by
  obtain ⟨i0, hi, hz0, hz1, hz2⟩ := info_parts Try.infoLnD
  obtain ⟨A, P, c, hv, h2, h3, h4, h5, h6⟩ := hB
  obtain ⟨A', P', c', rfl, k2, k3, k4, k5, k6⟩ := hU
  have hO := h2.more k6 hgl h6.size (k2.2.1) k2.2.2.2
  obtain ⟨A2, c2, e2, _, r2⟩ := Arr.of_own k2.1
  cases e2
  have hG := only_trans h6 k6
  refine wpList_apps w' hgd s x _ ho w0.heap.size 34 i0 _ 4 72 Try.underlying24 hi hz0 hz1 hz2 rfl (by decide) v _ _ hs hO.1 A' P'.length c' (P'.flatMap lnC) hx (InRow.of_arr r2) ?_ (by omega) (by decide) hG.size ?_
  · intro u hu
    obtain ⟨p, _, h⟩ := List.mem_flatMap.1 hu
    simp [lnC] at h
    rcases h with rfl | rfl | rfl | rfl <;> rfl
  intro v' w'' hown hb hg hv'
  have hO2 := hO.apps hown hg hv'
  obtain ⟨A3, c3, rfl, _⟩ := Arr.of_own hown
  refine h _ _ ⟨A3, P ++ P', c3, by simp, hO2, ?_, by simp; omega, k5.own hg (fun b e => by have := (hO.1.lt b e).1; omega), ev_own hG hg (fun b e => (hO.1.lt b e).1)⟩ hg ?_ ?_
  · intro p hp
    rcases List.mem_append.1 hp with hp | hp
    · exact h3 p hp
    · exact k3 p hp
  · rcases hv' with hv' | hv'
    · exact .inl hv'
    · exact .inr ⟨_, hv', k6.size⟩
  · rw [hv]
    show P.length ≤ P.length + P'.length
    omega
/-- The maker of a function's lines, with what is known of its blocks. -/
def GenP (Pb : Nat → Prop) (w : World) (gb g : Nat) (vars names : List ByteArray) (ars : List Int) : Prop :=
  gb ≠ g ∧ Pb gb ∧ (∀ s ∈ vars, nameOkF s.data.toList = true) ∧ (∀ s ∈ names, nameOkF s.data.toList = true) ∧ (∀ a ∈ ars, 0 ≤ a ∧ a ≤ 2) ∧
  ∃ (Av An Aa : Option Addr) (nv cv nn cn ca : Nat), Blk w gb 93 #[.pointer (some ⟨g, 0, none⟩), .slice Av nv cv, .slice An nn cn, .slice Aa nn ca] ∧ vars.length = nv ∧ names.length = nn ∧ ars.length = nn ∧ nv ≤ 100 ∧ nn ≤ 100 ∧
    (RowX w g Av nv 1 (strCells vars) ∧ (0 < nv → ∀ ad, Av = some ad → Pb ad.block ∧ ad.block ≠ gb)) ∧ (RowX w g An nn 1 (strCells names) ∧ (0 < nn → ∀ ad, An = some ad → Pb ad.block ∧ ad.block ≠ gb)) ∧ (RowX w g Aa nn 1 (intCells ars) ∧ (0 < nn → ∀ ad, Aa = some ad → Pb ad.block ∧ ad.block ≠ gb))
theorem GenP.gen {Pb : Nat → Prop} {w : World} {gb g : Nat} {vars names : List ByteArray} {ars : List Int} (h : GenP Pb w gb g vars names ars) : Gen w gb g vars names ars := by
  obtain ⟨h1, _, h2, h3, h4, Av, An, Aa, nv, cv, nn, cn, ca, a, b, c, d, e, f, x, y, z⟩ := h
  exact ⟨⟨Av, An, Aa, nv, cv, nn, cn, ca, a, b, c, d, e, f, x.1, y.1, z.1⟩, h1, h2, h3, h4⟩
theorem RowX.own {w w' : World} {g n size : Nat} {A : Option Addr} {xs : List Value} {row : Option Nat} (h : RowX w g A n size xs) (hg : w.grownBy w' row) (hr : 0 < n → ∀ ad, A = some ad → row ≠ some ad.block) : RowX w' g A n size xs :=
  ⟨⟨h.1.1, fun hn => by
    obtain ⟨b, o, e, hb, hc⟩ := h.1.2 hn
    have hk := hg.block b hb (fun e' => hr hn _ e e'.symm)
    exact ⟨b, o, e, Nat.lt_of_lt_of_le hb hg.size, fun j hj => (World.cell?_of_block hk).trans (hc j hj)⟩⟩, h.2⟩
theorem GenP.own {Pb : Nat → Prop} {w w' : World} {gb g : Nat} {vars names : List ByteArray} {ars : List Int} {row : Option Nat} (h : GenP Pb w gb g vars names ars) (hg : w.grownBy w' row) (hr : ∀ b, row = some b → b = g ∨ ¬ Pb b) : GenP Pb w' gb g vars names ars := by
  obtain ⟨h1, hp, h2, h3, h4, Av, An, Aa, nv, cv, nn, cn, ca, a, b, c, d, e, f, x, y, z⟩ := h
  have key : ∀ (n : Nat) (A : Option Addr) (xs : List Value), RowX w g A n 1 xs → (0 < n → ∀ ad, A = some ad → Pb ad.block ∧ ad.block ≠ gb) → RowX w' g A n 1 xs := fun n A xs hx hb => hx.own hg (fun hn ad e e' => by
    rcases hr _ e' with h | h
    · exact hx.2 hn ad e h
    · exact h (hb hn ad e).1)
  refine ⟨h1, hp, h2, h3, h4, Av, An, Aa, nv, cv, nn, cn, ca, a.grown hg (fun e => ?_), b, c, d, e, f, ⟨key _ _ _ x.1 x.2, x.2⟩, ⟨key _ _ _ y.1 y.2, y.2⟩, ⟨key _ _ _ z.1 z.2, z.2⟩⟩
  rcases hr gb e.symm with h | h
  · exact h1 h
  · exact h hp
/-- Its block, to be written in. -/
theorem GenP.blk {Pb : Nat → Prop} {w : World} {gb g : Nat} {vars names : List ByteArray} {ars : List Int} (h : GenP Pb w gb g vars names ars) : ∃ x y z u : Value, Blk w gb 93 #[x, y, z, u] := by
  obtain ⟨_, _, _, _, _, Av, An, Aa, nv, cv, nn, cn, ca, a, _⟩ := h
  exact ⟨_, _, _, _, a⟩
theorem kd_le (d N : Nat) (hd : d ≤ 2) (hN : N ≤ 4) : KD d * N ≤ 84 := by
  have : KD d ≤ 21 := by
    have : d = 0 ∨ d = 1 ∨ d = 2 := by omega
    rcases this with rfl | rfl | rfl <;> decide
  exact Nat.le_trans (Nat.mul_le_mul this hN) (by decide)
/-- Other names, other numbers of arguments. -/
theorem GenP.store {Pb : Nat → Prop} {w wx : World} {gb g nn cn ca : Nat} {vars names names' : List ByteArray} {ars ars' : List Int} {An Aa : Option Addr} (h : GenP Pb w gb g vars names ars) (hg : w.grownBy wx (some gb))
    (hk : ∀ x y z u : Value, Blk w gb 93 #[x, y, z, u] → Blk wx gb 93 #[x, y, .slice An nn cn, .slice Aa nn ca])
    (hN : RowX w g An nn 1 (strCells names')) (hNb : 0 < nn → ∀ ad, An = some ad → Pb ad.block ∧ ad.block ≠ gb) (hA : RowX w g Aa nn 1 (intCells ars')) (hAb : 0 < nn → ∀ ad, Aa = some ad → Pb ad.block ∧ ad.block ≠ gb)
    (hl1 : names'.length = nn) (hl2 : ars'.length = nn) (hnn : nn ≤ 100) (ok1 : ∀ s ∈ names', nameOkF s.data.toList = true) (ok2 : ∀ a ∈ ars', 0 ≤ a ∧ a ≤ 2) :
    GenP Pb wx gb g vars names' ars' := by
  obtain ⟨h1, hp, h2, _, _, Av, _, _, nv, cv, _, _, _, a, b, _, _, e, _, x, _, _⟩ := h
  have key : ∀ (n : Nat) (A : Option Addr) (xs : List Value), RowX w g A n 1 xs → (0 < n → ∀ ad, A = some ad → Pb ad.block ∧ ad.block ≠ gb) → RowX wx g A n 1 xs := fun n A xs hx hb => hx.own hg (fun hn ad e e' => by injection e' with e'; exact (hb hn ad e).2 e'.symm)
  exact ⟨h1, hp, h2, ok1, ok2, Av, An, Aa, nv, cv, nn, cn, ca, hk _ _ _ _ a, b, hl1, hl2, e, hnn, ⟨key _ _ _ x.1 x.2, x.2⟩, ⟨key _ _ _ hN hNb, hNb⟩, ⟨key _ _ _ hA hAb, hAb⟩⟩
theorem two_grown (w : World) (gb : Nat) (p q : Value) : w.grownBy ((w.setCell ⟨gb, 2, none⟩ p).setCell ⟨gb, 3, none⟩ q) (some gb) := by
  have h1 : w.grownBy (w.setCell ⟨gb, 2, none⟩ p) (some gb) := only_setCell (p := ⟨gb, 2, none⟩) (World.grownBy.refl w (some gb)) (Or.inl rfl) p
  exact only_setCell (p := ⟨gb, 3, none⟩) h1 (Or.inl rfl) q
theorem blk_two {w : World} {gb : Nat} {T : TypeId} {p q : Value} (x y z u : Value) (h : Blk w gb T #[x, y, z, u]) : Blk ((w.setCell ⟨gb, 2, none⟩ p).setCell ⟨gb, 3, none⟩ q) gb T #[x, y, p, q] := by
  have := (h.set_ 2 p).set_ 3 q
  simpa using this
/-- The maker, just made. -/
theorem genP_mk {WB W8 w6 : World} {g m d2 nn cn ca : Nat} {D2 An Aa : Option Addr} {vars nms : List ByteArray} {ars : List Int} {xs : List Value} (hg : g < WB.heap.size) (hgr : WB.grownBy W8 (some g)) (hb : Below W8.heap.size W8 w6)
    (hD : w6.ownsRow W8.heap.size 9 1 (.slice D2 m d2) m xs) (hxs : xs = strCells vars) (hm : vars.length = m) (hm4 : m ≤ 100) (hv : ∀ s ∈ vars, nameOkF s.data.toList = true)
    (hN : RowX WB g An nn 1 (strCells nms)) (hNb : 0 < nn → ∀ ad, An = some ad → ad.block < WB.heap.size) (hA : RowX WB g Aa nn 1 (intCells ars)) (hAb : 0 < nn → ∀ ad, Aa = some ad → ad.block < WB.heap.size)
    (hl1 : nms.length = nn) (hl2 : ars.length = nn) (hnn : nn ≤ 100) (ok1 : ∀ s ∈ nms, nameOkF s.data.toList = true) (ok2 : ∀ a ∈ ars, 0 ≤ a ∧ a ≤ 2) :
    ∃ (gb H : Nat) (nms : List ByteArray) (ars : List Int), Value.pointer (some ⟨w6.heap.size, 0, none⟩) = .pointer (some ⟨gb, 0, none⟩) ∧ Below W8.heap.size W8 (w6.alloc (.cells #[.pointer (some ⟨g, 0, none⟩), .slice D2 m d2, .slice An nn cn, .slice Aa nn ca] 93)) ∧ H ≤ (w6.alloc (.cells #[.pointer (some ⟨g, 0, none⟩), .slice D2 m d2, .slice An nn cn, .slice Aa nn ca] 93)).heap.size ∧ W8.heap.size ≤ gb ∧ gb < H ∧
      GenP (fun b => b < WB.heap.size ∨ (W8.heap.size ≤ b ∧ b < H)) (w6.alloc (.cells #[.pointer (some ⟨g, 0, none⟩), .slice D2 m d2, .slice An nn cn, .slice Aa nn ca] 93)) gb g vars nms ars := by
  subst hxs
  have hz := hb.size
  have hz2 := hgr.size
  refine ⟨w6.heap.size, w6.heap.size + 1, nms, ars, rfl, hb.alloc hb.size _, by simp, hz, by omega, ?_⟩
  have hG : WB.grownBy (w6.alloc (.cells #[.pointer (some ⟨g, 0, none⟩), .slice D2 m d2, .slice An nn cn, .slice Aa nn ca] 93)) (some g) := only_trans hgr (only_of_below (hb.alloc hb.size _) _)
  obtain ⟨A', c', e, _, _, ha, _⟩ := Arr.own2 hD
  cases e
  refine ⟨by omega, .inr ⟨hz, by omega⟩, hv, ok1, ok2, _, _, _, _, _, _, _, _, Blk.new w6 _ _, hm, hl1, hl2, hm4, hnn, ⟨⟨(InRow.of_arr ha).below ((Below.refl _ _).alloc (Nat.le_refl _) _), fun hn ad e => ?_⟩, fun hn ad e => ?_⟩, ⟨hN.own hG (fun hn ad e e' => hN.2 hn ad e (by injection e' with e'; exact e'.symm)), fun hn ad e => ?_⟩, ⟨hA.own hG (fun hn ad e e' => hA.2 hn ad e (by injection e' with e'; exact e'.symm)), fun hn ad e => ?_⟩⟩
  · obtain ⟨b, e', h1, h2, _⟩ := ha.2 hn
    rw [e] at e'
    cases e'
    show b ≠ g
    omega
  · obtain ⟨b, e', h1, h2, _⟩ := ha.2 hn
    rw [e] at e'
    cases e'
    exact ⟨.inr ⟨h1, by show b < _; omega⟩, by show b ≠ _; omega⟩
  · have := hNb hn ad e
    exact ⟨.inl this, by omega⟩
  · have := hAb hn ad e
    exact ⟨.inl this, by omega⟩
/-- Where the lines lie, as against the maker's blocks. -/
def NB (B0 B1 H : Nat) (v : Value) : Prop := ∀ b, v.ownBlock = some b → B0 ≤ b ∧ (b < B1 ∨ H ≤ b)
theorem NB.step {B0 B1 H m : Nat} {v v' : Value} (h : NB B0 B1 H v) (hv : v'.ownBlock = v.ownBlock ∨ ∃ b, v'.ownBlock = some b ∧ m ≤ b) (hm : H ≤ m) (hB : B0 ≤ m) : NB B0 B1 H v' := by
  intro b hb
  rcases hv with hv | ⟨b', hv, hb'⟩
  · exact h b (hv ▸ hb)
  · rw [hv] at hb
    injection hb with hb
    omega
theorem NB.not {B0 B1 H : Nat} {v : Value} (h : NB B0 B1 H v) (g : Nat) : ∀ b, v.ownBlock = some b → b = g ∨ ¬ (b < B0 ∨ (B1 ≤ b ∧ b < H)) := fun b hb => .inr (by have := h b hb; omega)
/-- A line with arguments. -/
theorem BSt.args {w0 w w' : World} {B g m a d : Nat} {v : Value} {D : Option Addr} {s : ByteArray} {l : List ByteArray} (h : BSt w0 w B g v m) (hl : g < w0.heap.size) (hb : Below w.heap.size w w') (ha : l.length = a)
    (ho : w'.ownsRow w.heap.size 9 1 (.slice D a d) a (strCells l)) (hk : lineOkF (0, s, l, []) = true) : BLn w0 w' B g v m ((0, s, l, []), D, d, none, 0) := by
  subst ha
  have hc := h.cur.below hb
  have hg : w.grownBy w' (some g) := only_of_below hb _
  obtain ⟨A, P, c, h1, h2, h3, h4, h5, h6⟩ := h
  obtain ⟨_, _, e1, q1, q2, q3, _⟩ := Arr.own2 ho
  cases e1
  refine ⟨P, h2.more hg hl h6.size ?_ ?_, h3, hk, h4, hc, only_trans h6 hg⟩
  · show Own _ _ _ ([_, _] ++ [])
    rw [List.append_nil]
    exact Own.two q3 (Arr.nil_ _ _ _ _ _) (fun _ hn => by simp at hn)
  · intro p hp
    obtain rfl := List.mem_singleton.1 hp
    exact ⟨q1, q2, Nat.le_refl _, Nat.zero_le _⟩
theorem xy_args (a : Nat) (ha : a ≤ 2) : argsF (xyL.take a) = true := by
  refine yes_of ⟨by simp [xyL]; omega, fun i hi h => ⟨xyL_ok _ (List.mem_of_mem_take (List.getElem_mem h)), ?_⟩⟩
  have : a = 0 ∨ a = 1 ∨ a = 2 := by omega
  rcases this with rfl | rfl | rfl
  · simp at h
  · have h' : i < 1 := h
    obtain rfl : i = 0 := by omega
    simp
  · have h' : i < 2 := h
    have : i = 0 ∨ i = 1 := by omega
    rcases this with rfl | rfl
    · simp
    · simp [xyL]
theorem xy_len (a : Nat) (ha : a ≤ 2) : (xyL.take a).length = a := by simp [xyL]; omega
theorem line_fun {s : ByteArray} {l : List ByteArray} (hs : nameOkF s.data.toList = true) (hl : argsF l = true) : lineOkF (0, s, l, []) = true := by
  unfold lineOkF; simp [btw, hasExprF, hs, hl]
theorem iz_cells (a : Nat) : strCells (xyL.take a) ++ [.string ⟨#[105]⟩, .string ⟨#[122]⟩] = strCells (xyL.take a ++ izL) := by
  unfold strCells; rw [List.map_append]; rfl
theorem vars_ok (a : Nat) : ∀ s ∈ xyL.take a ++ izL, nameOkF s.data.toList = true := by
  intro s hs
  rcases List.mem_append.1 hs with hs | hs
  · exact xyL_ok s (List.mem_of_mem_take hs)
  · exact izL_ok s hs
theorem RowX.zero {w : World} {g : Nat} {A : Option Addr} : RowX w g A 0 1 [] := ⟨⟨rfl, fun h => by omega⟩, fun h => by omega⟩
theorem sub_ok {α : Type} {P : α → Prop} {l : List α} (h : ∀ x ∈ l, P x) (i m : Nat) : ∀ x ∈ (l.drop i).take m, P x := fun x hx => h x (List.mem_of_mem_drop (List.mem_of_mem_take hx))
/-- append of a row that may be read, as one step of a region that draws its order. -/
theorem step_appsD {P : Program} (w : World) {ops : Array Oper} {o : Oper} {a : Act} {K : Act → World → Prop} {Q : Exit → Act → World → Prop} {E : Prop} (hgd : o.guard = none) (s x : Operand) (t : TypeId)
    (ho : o.op = .call { callee := .builtin .append, args := #[s, x], argTypes := #[t, t] })
    (base : Nat) (e : TypeId) (i : TypeInfo) (z : Value) (size bytes : Nat) (ht : P.underlying t = some (.slice e)) (hi : P.info? e = some i) (hz : i.zero = some z)
    (hsize : i.size = size) (hby : i.bytes = bytes) (hzs : z.cells.size = size) (hsz : 0 < size)
    (v : Value) (n : Nat) (xs : List Value) (hs : a.eval s = v) (hown : w.ownsRow base e size v n xs)
    (A : Option Addr) (m c : Nat) (news : List Value) (hx : a.eval x = .slice A m c) (hr : InRow w A m size news) (h1 : ∀ u ∈ news, u.oneCell' = true)
    (hbytes : (n + m) * bytes ≤ 140737488355328) (hbp : 0 < bytes) (hbase : base ≤ w.heap.size)
    (h : ∀ v' w', w'.ownsRow base e size v' (n + m) (xs ++ news) → Below base w w' → w.grownBy w' v.ownBlock → (v'.ownBlock = v.ownBlock ∨ v'.ownBlock = some w.heap.size) → K (a.put o.dst v') w') :
    if Region.wanted o (yielded ops a.tmps) = true then Oper.wp P o a w K Q else E := by
  have hw : Region.wanted o (yielded ops a.tmps) = true := by simp [Region.wanted, hgd]
  rw [if_pos hw]
  obtain ⟨v', w', hrun, h2, h3, h4⟩ := run_apps (P := P) w base t o.type e i z size bytes ht hi hz hsize hby hzs hsz v n xs hown A m c news hr h1 hbytes hbp hbase
  unfold Oper.wp execOp
  simp only [ho, resolve, invoke, builtin, Sem.run_bind, Sem.run_pure, Result.andThen_ok, List.map_toArray, List.map_cons, List.map_nil, hs, hx, hrun]
  exact h v' w' h2 ((Below.refl _ _).grown h3 hbase (fun k hk => (hown.lt k hk).1)) h3 h4
theorem strCells_oneD (l : List ByteArray) : ∀ u ∈ strCells l, u.oneCell' = true := by
  intro u hu
  obtain ⟨b, _, rfl⟩ := List.mem_map.1 hu
  rfl
theorem below_transD {B : Nat} {a b c : World} (k : Below B b c) (h : Below B a b) : Below B a c := h.trans k
theorem blk_new' {w : World} {b : Nat} {t : TypeId} {cs : Array Value} (hb : b = w.heap.size) : Blk (w.alloc (.cells cs t)) b t cs := hb ▸ Blk.new w t cs
theorem below_sizeD {B n : Nat} {a b : World} (h : Below B a b) (hn : n ≤ a.heap.size) : n ≤ b.heap.size := Nat.le_trans hn h.size
theorem inRow_blk {w : World} {b : Nat} {t : TypeId} {x y : Value} (h : Blk w b t #[x, y]) : InRow w (some ⟨b, 0, none⟩) 2 1 [x, y] :=
  ⟨rfl, fun _ => ⟨b, 0, rfl, h.lt, fun j hj => by rw [Nat.zero_add, h.cell j]; simp⟩⟩
theorem le_a1 (w : World) (o : Obj) : w.heap.size ≤ (w.alloc o).heap.size := by simp
theorem ne_some {a b : Nat} {row : Option Nat} (hr : row = some b) (h : a ≠ b) : some a ≠ row := by rw [hr]; simpa using h
theorem ownsRow_blk {w : World} {b base size : Nat} {e : TypeId} (h : Blk w b e #[]) (hb : base ≤ b) : w.ownsRow base e size (.slice (some ⟨b, 0, none⟩) 0 0) 0 [] :=
  ⟨by simp, .inr ⟨b, 0, #[], rfl, hb, h, Nat.le_refl _, Nat.zero_le _, by simp, by simp⟩⟩
end Go.Proofs.Ytcfjbaanahgpoaa
namespace Go.Proofs.Ytcfjbaanahgpoaa
open Go Go.RowKit
set_option maxRecDepth 100000
set_option linter.unusedVariables false
set_option linter.unusedSimpArgs false
theorem arL_at (k : Nat) (hk : k < 4) : ∃ a : Nat, a ≤ 2 ∧ (intCells arL)[k]? = some (.int .i64 a) ∧ arL[k]? = some (a : Int) := by
  have : k = 0 ∨ k = 1 ∨ k = 2 ∨ k = 3 := by omega
  rcases this with rfl | rfl | rfl | rfl
  · exact ⟨0, by omega, rfl, rfl⟩
  · exact ⟨1, by omega, rfl, rfl⟩
  · exact ⟨2, by omega, rfl, rfl⟩
  · exact ⟨1, by omega, rfl, rfl⟩
set_option maxHeartbeats 4000000 in
theorem s_l03Program (B g : Nat) (w : World) (hc : Cur B w g) :
    Calls Try.prog 30 #[.pointer (some ⟨g, 0, none⟩)] w fun e w' => ∃ v, e = .returned v ∧ BSt w w' B g v 400 ∧ 1 ≤ vLen v := by
  obtain ⟨i0, hi, hz0, hz1, hz2⟩ := info_parts Try.infoStr
  have HI := hide hi
  clear hi
  have hgl0 := hc.lt
  have N0 := hide (RowX.new (t := 9) (l := strCells nmL) (n := 4) rfl hgl0)
  have A0 := hide (RowX.new (w := w.alloc (.cells (strCells nmL).toArray 9)) (t := 3) (l := intCells arL) (n := 4) rfl (Nat.lt_of_lt_of_le hgl0 (by simp)))
  have N1 := hide (N0.out.alloc (.cells (intCells arL).toArray 3))
  have C1 := hide ((hc.alloc (.cells (strCells nmL).toArray 9)).alloc (.cells (intCells arL).toArray 3))
  have G1 := hide (only_alloc (only_alloc (World.grownBy.refl w (some g)) (.cells (strCells nmL).toArray 9)) (.cells (intCells arL).toArray 3))
  have hbz : w.heap.size + 2 = ((w.alloc (.cells (strCells nmL).toArray 9)).alloc (.cells (intCells arL).toArray 3)).heap.size := by simp
  have hab : (w.alloc (.cells (strCells nmL).toArray 9)).heap.size = w.heap.size + 1 := by simp
  rw [hab] at A0
  clear hc N0 hab
  go_enter Try.func30, Try.ntmps30
  go_upto_region 3 with fail
  have hWB : ∃ WB, WB = ((w.alloc (.cells (strCells nmL).toArray 9)).alloc (.cells (intCells arL).toArray 3)) := ⟨_, rfl⟩
  obtain ⟨WB, hWB⟩ := hWB
  rw [← hWB] at N1 A0 C1 G1 hbz
  change Code.wp _ _ _ _ ((w.alloc (.cells (strCells nmL).toArray 9)).alloc (.cells (intCells arL).toArray 3))
  rw [← hWB]
  clear hWB
  have hgl : g < WB.heap.size := by omega
  have HBZ := hide hbz
  clear hbz
  go_wp2_with fail
  refine (s_l01Below B g _ _ C1.out).mono ?_
  rintro e w1 ⟨⟨x, rfl, hx0, hx1, _⟩, hc1, hg1⟩
  have hx1 := hx1 (by omega)
  obtain ⟨n, rfl⟩ := Int.eq_ofNat_of_zero_le hx0
  have hn3 : n < 4 := by omega
  have S0 := hide (BSt.nil_ (w0 := WB) (hc1.alloc (.cells #[] 34)) (World.ownsRow_lit w1 #[] 0 hg1.size (Nat.zero_le _) rfl) (only_alloc hg1 _))
  clear hc1 hg1 C1 hx0 hx1
  obtain ⟨q, hq⟩ : ∃ q : Nat, q = 1 + n := ⟨_, rfl⟩
  have HQ : Hid ((1 : Int) + (n : Int) = (q : Int)) := by show _ = _; omega
  have hq4 : 1 ≤ q ∧ q ≤ 4 := by omega
  clear hq
  go_wp2_with fail
  rw [HQ.out]
  go_loopw [6, 7] (fun ov kv wr => ∃ k : Nat, k ≤ q ∧ kv = .int .i64 k ∧ BSt WB wr B g ov (90 * k) ∧ (0 < k → 1 ≤ vLen ov)) (fun _ kv _ => q - (intOf kv).toNat)
  case atStart => exact ⟨0, Nat.zero_le _, rfl, S0.out, fun h => by omega⟩
  case round =>
    obtain ⟨k, hk, rfl, hst, hvl⟩ := hrel
    have ST := hide hst
    clear hst S0
    by_cases hlt : k < q
    · have hk4 : k < 4 := by omega
      obtain ⟨a, ha2, hac, hal⟩ := arL_at k hk4
      have AR := hide (A0.out.grown ST.out.ev)
      have ca : ∀ w', Below wr.heap.size wr w' → w'.cell? ⟨w.heap.size + 1, 0 + k, none⟩ = some (.int .i64 a) := fun w' hb => by
        have hb2 : Below wr.heap.size wr w' := hb
        obtain ⟨b', o', e', _, hc'⟩ := (AR.out.below hb2).1.2 (by omega)
        cases e'
        rw [hc' k (by omega), hac]
      have ca1 := ca _ ((Below.refl _ _).alloc (Nat.le_refl _) (.cells #[.string ⟨#[120]⟩, .string ⟨#[121]⟩] 9))
      simp only [Nat.zero_add] at ca1
      clear ca hac
      go_upto_region 9 with fail
      obtain ⟨W8, hW8⟩ : ∃ W8, W8 = wr.alloc (.cells #[.string ⟨#[120]⟩, .string ⟨#[121]⟩] 9) := ⟨_, rfl⟩
      have hz8 : Hid (W8.heap.size = wr.heap.size + 1) := by show _ = _; rw [hW8]; simp
      have hrl : g < wr.heap.size := by have := ST.out.ev.size; omega
      have XY : Hid (RowX W8 g (some ⟨wr.heap.size, 0, none⟩) a 1 (strCells (xyL.take a))) := by
        show RowX _ _ _ _ _ _
        have := RowX.sub (i := 0) (m := a) (l := xyL) (f := Value.string) (RowX.new (w := wr) (g := g) (t := 9) (l := strCells xyL) (n := 2) rfl hrl) (by omega)
        rw [hW8]
        rw [show strCells (xyL.take a) = List.take a (List.drop 0 (xyL.map Value.string)) by simp [strCells, List.map_take]]
        exact (show RowX _ _ _ _ _ _ from by simpa [strCells] using this : RowX (wr.alloc (Obj.cells (List.map Value.string xyL).toArray 9)) g (some ⟨wr.heap.size, 0, none⟩) a 1 (List.take a (List.drop 0 (xyL.map Value.string))))
      have S8 : Hid (BSt WB W8 B g u6 (90 * k)) := by
        show BSt _ _ _ _ _ _
        rw [hW8]
        exact ST.out.drew (ST.out.cur.alloc _) (only_alloc (World.grownBy.refl wr _) _) hgl
      rw [← hW8]
      clear hW8 ca1
      have NK : Hid (∀ i m : Nat, i + m ≤ 4 → RowX WB g (some ⟨w.heap.size, i, none⟩) m 1 (strCells ((nmL.drop i).take m)) ∧ ((nmL.drop i).take m).length = m) := fun i m h => by
        have := RowX.sub (i := i) (m := m) (l := nmL) (f := Value.string) N1.out h
        rw [Nat.zero_add] at this
        exact ⟨this, by simp [nmL]; omega⟩
      have AK : Hid (∀ i m : Nat, i + m ≤ 4 → RowX WB g (some ⟨w.heap.size + 1, i, none⟩) m 1 (intCells ((arL.drop i).take m)) ∧ ((arL.drop i).take m).length = m) := fun i m h => by
        have := RowX.sub (i := i) (m := m) (l := arL) (f := Value.int .i64) A0.out h
        rw [Nat.zero_add] at this
        exact ⟨this, by simp [arL]; omega⟩
      go_cut [9] from 27 to 44 (fun s9 wx => ∃ (gb H : Nat) (nms : List ByteArray) (ars : List Int), s9 = .pointer (some ⟨gb, 0, none⟩) ∧ Below W8.heap.size W8 wx ∧ H ≤ wx.heap.size ∧ W8.heap.size ≤ gb ∧ gb < H ∧ GenP (fun b => b < WB.heap.size ∨ (W8.heap.size ≤ b ∧ b < H)) wx gb g (xyL.take a ++ izL) nms ars)
      case first =>
        have hk1 : (k : Int) + 1 ≤ q := by omega
        have hk2 : (0 : Int) ≤ (k : Int) + 1 := by omega
        have hk3 : IntKind.i64.wrap ((k : Int) + 1) = (k : Int) + 1 := IntWalk.i64_in _ (by omega)
        have hk4' : (q : Int) ≤ 4 := by omega
        have hk5 : (k : Int) + 1 ≤ 4 := by omega
        have AX : (9 : TypeId) = 9 := rfl
        go_region_held3 (fun _ => True) (trivial) (first
          | (refine step_appsD _ rfl (.tmp 28) (.tmp 29) _ rfl W8.heap.size 9 i0 _ 1 16 Try.underlying31 HI.out hz0 hz1 hz2 rfl (by decide) (.slice (some ⟨_, 0, none⟩) 0 0) 0 [] rfl (ownsRow_blk (by first | with_reducible exact (blk_new' (by first | rfl | (simp; done))).drew | with_reducible exact ((Blk.new W8 _ _).alloc _).drew) (by simp)) (some ⟨wr.heap.size, 0, none⟩) a 2 (strCells (xyL.take a)) rfl (XY.out.1.below (by first | with_reducible exact ((Below.refl W8.heap.size W8).alloc (Nat.le_refl _) _).drew | with_reducible exact (((Below.refl W8.heap.size W8).alloc (Nat.le_refl _) _).alloc (le_a1 _ _) _).drew | with_reducible exact (Below.refl W8.heap.size W8).alloc (Nat.le_refl _) _ | with_reducible exact ((Below.refl W8.heap.size W8).alloc (Nat.le_refl _) _).alloc (le_a1 _ _) _)) (strCells_oneD _) (by omega) (by decide) (below_sizeD (B := W8.heap.size) (a := W8) (by first | with_reducible exact ((Below.refl W8.heap.size W8).alloc (Nat.le_refl _) _).drew | with_reducible exact (((Below.refl W8.heap.size W8).alloc (Nat.le_refl _) _).alloc (le_a1 _ _) _).drew | with_reducible exact (Below.refl W8.heap.size W8).alloc (Nat.le_refl _) _ | with_reducible exact ((Below.refl W8.heap.size W8).alloc (Nat.le_refl _) _).alloc (le_a1 _ _) _) (Nat.le_refl _)) ?_; intro v5 w5 hown5 hb5 hg5 hv5; have hown5 : w5.ownsRow W8.heap.size 9 1 v5 a (strCells (xyL.take a)) := (by simpa only [Nat.zero_add, List.nil_append] using hown5); obtain ⟨D1, d1, rfl, _⟩ := Arr.own2 hown5; have HO5 := hide hown5; have HB5 := hide (below_transD (B := W8.heap.size) (a := W8) hb5 (by first | with_reducible exact ((Below.refl W8.heap.size W8).alloc (Nat.le_refl _) _).drew | with_reducible exact (((Below.refl W8.heap.size W8).alloc (Nat.le_refl _) _).alloc (le_a1 _ _) _).drew | with_reducible exact (Below.refl W8.heap.size W8).alloc (Nat.le_refl _) _ | with_reducible exact ((Below.refl W8.heap.size W8).alloc (Nat.le_refl _) _).alloc (le_a1 _ _) _)); first | (have IZ := hide (Blk.grown (g := W8.heap.size + 1) (t := 9) (cs := #[.string ⟨#[105]⟩, .string ⟨#[122]⟩]) (by with_reducible exact (blk_new' (by simp)).drew) hg5 (ne_some (a := W8.heap.size + 1) (b := W8.heap.size) rfl (by omega)))) | (have IZQ : (W8.alloc (.cells #[] 9)).drew.grownBy w5 _ := hg5) | (have IZ := hide (Blk.grown (g := W8.heap.size) (((Blk.new W8 9 #[.string ⟨#[105]⟩, .string ⟨#[122]⟩]).alloc (.cells #[] 9)).drew) hg5 (ne_some (a := W8.heap.size) rfl (by first | omega | (simp; done) | (simp; omega))))))
          | (refine step_appsD _ rfl (.tmp 30) (.tmp 31) _ rfl W8.heap.size 9 i0 _ 1 16 Try.underlying31 HI.out hz0 hz1 hz2 rfl (by decide) _ a (strCells (xyL.take a)) rfl (own_belowZ HO5.out (by first | with_reducible exact ((Below.refl w5.heap.size w5).alloc (Nat.le_refl _) _).drew | with_reducible exact (Below.refl w5.heap.size w5).drew | with_reducible exact Below.refl _ _ | with_reducible exact (Below.refl w5.heap.size w5).alloc (Nat.le_refl _) _)) _ 2 2 [.string ⟨#[105]⟩, .string ⟨#[122]⟩] rfl (inRow_blk (t := 9) (by first | with_reducible exact IZ.out | with_reducible exact IZ.out.drew | with_reducible exact (blk_new' (by first | rfl | (simp; done))).drew | with_reducible exact blk_new' (by first | rfl | (simp; done)))) (by simp [Value.oneCell']) (by omega) (by decide) (below_sizeD (B := W8.heap.size) (a := W8) (by first | with_reducible exact HB5.out | with_reducible exact HB5.out.drew | with_reducible exact (HB5.out.alloc HB5.out.size _).drew | with_reducible exact HB5.out.alloc HB5.out.size _) (Nat.le_refl _)) ?_; intro v6 w6 hown6 hb6 hg6 hv6; obtain ⟨D2, d2, rfl, _⟩ := Arr.own2 hown6; have HB6 := hide (below_transD (B := W8.heap.size) (a := W8) hb6 (by first | with_reducible exact HB5.out | with_reducible exact HB5.out.drew | with_reducible exact (HB5.out.alloc HB5.out.size _).drew | with_reducible exact HB5.out.alloc HB5.out.size _))))
        all_goals
          go_wp2_with fail
        all_goals (try subst_vars)
        all_goals
          go_meet
          first
            | exact genP_mk (nms := []) (ars := []) hgl S8.out.ev HB6.out hown6 (iz_cells a) (by rw [List.length_append, xy_len a ha2]; rfl) (by omega) (vars_ok a) RowX.zero (fun h => by omega) RowX.zero (fun h => by omega) rfl rfl (by omega) (fun _ h => by cases h) (fun _ h => by cases h)
            | exact genP_mk hgl S8.out.ev HB6.out hown6 (iz_cells a) (by rw [List.length_append, xy_len a ha2]; rfl) (by omega) (vars_ok a) (NK.out _ _ (by omega)).1 (fun _ ad e => by cases e; have := HBZ.out; show w.heap.size < _; omega) (AK.out _ _ (by omega)).1 (fun _ ad e => by cases e; have := HBZ.out; show w.heap.size + 1 < _; omega) (NK.out _ _ (by omega)).2 (AK.out _ _ (by omega)).2 (by omega) (sub_ok nmL_ok _ _) (sub_ok arL_ok _ _)
      case rest =>
        obtain ⟨gb, H, nms, ars, rfl, hbel, hH, hgb1, hgb2, hgen⟩ := hcut
        have GP := hide hgen
        have GW := hide (only_of_below hbel (some g))
        have CW := hide (S8.out.cur.below hbel)
        clear hbel hgen
        go_upto_region 10 with fail
        go_cut [50] from 45 to 49 (fun s50 wx => ∃ bo : Bool, s50 = .bool bo ∧ Cur B wx g ∧ wc.grownBy wx (some g))
        case first =>
          by_cases h0 : 0 < k
          · have z0 : decide (0 < k) = true := decide_eq_true h0
            go_wp2_with fail
            refine (s_l01Once B g _ _ CW.out).mono ?_
            rintro e w2 ⟨⟨bo, rfl⟩, hc2, hg2⟩
            go_wp2_with fail
            go_meet
            exact ⟨bo, rfl, hc2, hg2⟩
          · have z0 : decide (0 < k) = false := decide_eq_false h0
            go_wp2_with fail
            go_meet
            exact ⟨false, rfl, CW.out, World.grownBy.refl _ _⟩
        case rest =>
          obtain ⟨bo, rfl, hc2, hg2⟩ := hcut
          have GP2 := hide (GP.out.own hg2 (fun b e => .inl (by injection e with e; exact e.symm)))
          have GW2 := hide (only_trans GW.out hg2)
          have C2 := hide hc2
          have hH2 := Nat.le_trans hH hg2.size
          clear hc2 hg2 GP GW CW hH
          go_upto_if 50 with fail
          go_cut [51] from 52 to 64 (fun s51 wx => ∃ (nms : List ByteArray) (ars : List Int), Cur B wx g ∧ W8.grownBy wx (some g) ∧ H ≤ wx.heap.size ∧ GenP (fun b => b < WB.heap.size ∨ (W8.heap.size ≤ b ∧ b < H)) wx gb g (xyL.take a ++ izL) nms ars)
          case first =>
            cases bo
            · go_wp2_with fail
              go_meet
              exact ⟨nms, ars, C2.out, GW2.out, hH2, GP2.out⟩
            · obtain ⟨x, y, z, u, hblk⟩ := GP2.out.blk
              have k2 := hblk.cell 2
              have f2 := hblk.frozen 2
              have k3 := hblk.cell 3
              have f3 := hblk.frozen 3
              simp at k2 k3
              have hkq1 : (k : Int) ≤ q := by omega
              have hkq2 : (0 : Int) ≤ (k : Int) := by omega
              have hkq3 : (q : Int) ≤ 4 := by omega
              have hkq4 : (k : Int) ≤ 4 := by omega
              have hkne : k ≠ 4 := by omega
              clear hblk
              go_wp2_with fail
              go_meet
              have hbz := HBZ.out
              have hes := S8.out.ev.size
              have hgW : g < W8.heap.size := S8.out.cur.lt
              refine ⟨_, _, (C2.out.setCell (show gb ≠ g by omega) (show B ≤ gb by have := C2.out.1; omega) _).setCell (show gb ≠ g by omega) (show B ≤ gb by have := C2.out.1; omega) _, only_setCell (p := ⟨gb, 3, none⟩) (only_setCell (p := ⟨gb, 2, none⟩) GW2.out (Or.inr hgb1) _) (Or.inr hgb1) _, by simpa [World.setCell] using hH2, GP2.out.store (two_grown _ _ _ _) blk_two ((NK.out k (q - k) (by omega)).1.grown (only_trans S8.out.ev GW2.out)) ?_ ((AK.out k (q - k) (by omega)).1.grown (only_trans S8.out.ev GW2.out)) ?_ (NK.out k (q - k) (by omega)).2 (AK.out k (q - k) (by omega)).2 (by omega) (sub_ok nmL_ok _ _) (sub_ok arL_ok _ _)⟩
              · intro _ ad e
                cases e
                exact ⟨.inl (by show w.heap.size < _; omega), by show w.heap.size ≠ _; omega⟩
              · intro _ ad e
                cases e
                exact ⟨.inl (by show w.heap.size + 1 < _; omega), by show w.heap.size + 1 ≠ _; omega⟩
          case rest =>
            obtain ⟨nms', ars', hc3, hg3, hH3, hgen3⟩ := hcut
            have GP3 := hide hgen3
            have S3 := hide (S8.out.drew hc3 hg3 hgl)
            have XY3 := hide (XY.out.grown hg3)
            have NB3 : Hid (NB WB.heap.size W8.heap.size H u6) := fun b e => by have := S8.out.lt b e; omega
            have hnk : k < nmL.length := hk4
            have CN : Hid (∀ w', WB.grownBy w' (some g) → w'.cell? ⟨w.heap.size, k, none⟩ = some (.string nmL[k])) := fun w' hb => by
              obtain ⟨b', o', e', _, cn⟩ := (N1.out.grown hb).1.strAt k hnk
              cases e'
              rw [Nat.zero_add] at cn
              exact cn
            have cn := CN.out _ S3.out.ev
            have HNM := hide (nmL_ok _ (List.getElem_mem hnk))
            generalize nmL[k] = nm at *
            clear hc3 hg3 hgen3 GP2 GW2 C2 hH2 XY S8
            have hkq2 : (0 : Int) ≤ (k : Int) := by omega
            have hkq3 : (k : Int) < 4 := by omega
            go_upto_region 13 with fail
            go_cut [6] from 65 to 75 (fun s6 wx => BSt WB wx B g s6 (90 * k + 1) ∧ NB WB.heap.size W8.heap.size H s6 ∧ H ≤ wx.heap.size ∧ 1 ≤ vLen s6 ∧ GenP (fun b => b < WB.heap.size ∨ (W8.heap.size ≤ b ∧ b < H)) wx gb g (xyL.take a ++ izL) nms' ars')
            case first =>
              go_region_held3 (fun w' => w'.cell? ⟨w.heap.size, k, none⟩ = some (.string nm)) (first | exact CN.out _ (by with_reducible exact only_drew S3.out.ev) | exact CN.out _ (by with_reducible exact only_drew (only_alloc S3.out.ev _)) | exact CN.out _ (by with_reducible exact only_alloc S3.out.ev _) | exact CN.out _ (by with_reducible exact S3.out.ev) | exact CN.out _ (by with_reducible exact G5.out) | exact CN.out _ (by with_reducible exact only_alloc G5.out _) | exact CN.out _ (by with_reducible exact G8.out)) (first
                | (refine step_appsD _ rfl (.tmp 70) (.tmp 71) _ rfl wc.heap.size 9 i0 _ 1 16 Try.underlying31 HI.out hz0 hz1 hz2 rfl (by decide) (.slice (some ⟨_, 0, none⟩) 0 0) 0 [] rfl (ownsRow_blk (by first | with_reducible exact (blk_new' (by first | rfl | (simp; done))).drew | with_reducible exact blk_new' (by first | rfl | (simp; done))) (by simp)) (some ⟨wr.heap.size, 0, none⟩) a 2 (strCells (xyL.take a)) rfl (XY3.out.1.below (by first | with_reducible exact (Below.refl _ _).drew | with_reducible exact ((Below.refl _ _).alloc (Nat.le_refl _) _).drew | with_reducible exact (Below.refl _ _).alloc (Nat.le_refl _) _ | with_reducible exact Below.refl _ _)) (strCells_oneD _) (by omega) (by decide) (below_sizeD (B := wc.heap.size) (a := wc) (by first | with_reducible exact (Below.refl _ _).drew | with_reducible exact ((Below.refl _ _).alloc (Nat.le_refl _) _).drew | with_reducible exact (Below.refl _ _).alloc (Nat.le_refl _) _ | with_reducible exact Below.refl _ _) (Nat.le_refl _)) ?_; intro v5 w5 hown5 hb5 hg5 hv5; have hown5 : w5.ownsRow wc.heap.size 9 1 v5 a (strCells (xyL.take a)) := (by simpa only [Nat.zero_add, List.nil_append] using hown5); obtain ⟨D1, d1, rfl, _⟩ := Arr.own2 hown5; have HO5 := hide hown5; have HB5 := hide (below_transD (B := wc.heap.size) (a := wc) hb5 (by first | with_reducible exact (Below.refl _ _).drew | with_reducible exact ((Below.refl _ _).alloc (Nat.le_refl _) _).drew | with_reducible exact (Below.refl _ _).alloc (Nat.le_refl _) _ | with_reducible exact Below.refl _ _)); have G5 := hide (only_trans S3.out.ev (only_of_below HB5.out (some g))); have X5 := hide (S3.out.args hgl HB5.out (xy_len a ha2) HO5.out (line_fun HNM.out (xy_args a ha2))))
                | (refine step_line2 (cs := [.int .i64 0, .string nm, .slice D1 a d1, .slice none 0 0]) (by simp [lnC, xy_len a ha2]) rfl (.tmp 65) (.tmp 74) rfl X5.out rfl rfl (by first | rfl | (simp; done)) (by omega) hgl ?_; intro v7 w7 hst7 hg7 hv7 hl7; have S7 := hide hst7; have G8 := hide hst7.ev; have G7 := hide hg7; have V7 := hide hv7; have L7 := hide hl7))
              all_goals
                go_wp2_with fail
              all_goals
                go_meet
                have h5 := HB5.out.size
                have h7 := G7.out.size
                have hes := S3.out.ev.size
                exact ⟨S7.out, NB3.out.step V7.out (by omega) (by omega), by omega, L7.out, (GP3.out.own (only_of_below HB5.out (some g)) (fun b e => .inl (by injection e with e; exact e.symm))).own G7.out (NB3.out.not g)⟩
            case rest =>
              obtain ⟨hst7, hnb7, hH7, hvl7, hgen7⟩ := hcut
              have S7 := hide hst7
              have NB7 := hide hnb7
              have GP7 := hide hgen7
              clear hst7 hnb7 hgen7 CN cn XY3 S3 GP3 NB3 hH3
              go_wp2_with fail
              refine (s_l01Below B g _ _ S7.out.cur).mono ?_
              rintro e w8 ⟨⟨x, rfl, hx0, hx1, _⟩, hc8, hg8⟩
              have hx1 := hx1 (by omega)
              obtain ⟨x, rfl⟩ := Int.eq_ofNat_of_zero_le hx0
              have hx4 : x < 4 := by omega
              have S8 := hide (S7.out.drew hc8 hg8 hgl)
              have GP8 := hide (GP7.out.own hg8 (fun b e => .inl (by injection e with e; exact e.symm)))
              have hH8 := Nat.le_trans hH7 hg8.size
              obtain ⟨N, hN⟩ : ∃ N : Nat, N = 1 + x := ⟨_, rfl⟩
              have HN : Hid ((1 : Int) + (x : Int) = (N : Int)) := by show _ = _; omega
              have hN4 : N ≤ 4 := by omega
              clear hc8 hg8 hx0 hx1 S7 GP7 hH7 hN
              go_wp2_with fail
              refine (s_l01Below B g _ _ S8.out.cur).mono ?_
              rintro e w9 ⟨⟨y, rfl, hy0, hy1, _⟩, hc9, hg9⟩
              have hy1 := hy1 (by omega)
              obtain ⟨y, rfl⟩ := Int.eq_ofNat_of_zero_le hy0
              have S9 := hide (S8.out.drew hc9 hg9 hgl)
              have GP9 := hide (GP8.out.own hg9 (fun b e => .inl (by injection e with e; exact e.symm)))
              have hH9 := Nat.le_trans hH8 hg9.size
              obtain ⟨dd, hdd⟩ : ∃ dd : Nat, dd = 1 + y := ⟨_, rfl⟩
              have HD : Hid ((1 : Int) + (y : Int) = (dd : Int)) := by show _ = _; omega
              have hd2 : dd ≤ 2 := by omega
              have hKN := kd_le dd N hd2 hN4
              clear hc9 hg9 hy0 hy1 S8 GP8 hH8 hdd hx4
              go_wp2_with fail
              rw [HN.out, HD.out]
              refine (s_gbody B g gb _ nms' ars' (by simp [izL]) dd hd2 N _ hN4 S9.out.cur GP9.out.gen).mono ?_
              rintro e w10 ⟨v10, rfl, hst10⟩
              generalize KD dd * N = M at *
              have U := hide hst10
              clear hst10
              go_wp2_with (first | (at_builtin; refine wpList_lines2 rfl (.tmp 76) (.tmp 84) rfl S9.out U.out rfl rfl ?hm (show g < WB.heap.size from hgl) ?_) | fail)
              try case hm => omega
              intro v11 w11 hst11 hg11 hv11 hl11
              have S11 := hide hst11
              have GP11 := hide ((GP9.out.own U.out.ev (fun b e => .inl (by injection e with e; exact e.symm))).own hg11 (NB7.out.not g))
              have hl11' : 1 ≤ vLen v11 := Nat.le_trans hvl7 hl11
              clear hst11 hg11 hv11 hl11 U GP9 S9 NB7 hvl7 hH9
              go_wp2_with fail
              refine (s_gexpr B g gb _ nms' ars' 3 (by omega) (by omega) _ S11.out.cur GP11.out.gen).mono ?_
              rintro e w12 ⟨⟨D, dc, l, rfl, own, full, len⟩, hc12, hg12⟩
              have X12 := hide (S11.out.expr hgl hc12 hg12 own (k := 6) (s := ⟨#[]⟩) (line_ex (.inr (.inr (.inr rfl))) (fullK_ok full (by omega))))
              clear hc12 hg12 own full len S11 GP11
              go_wp2_with (first | (at_builtin; refine wpList_line2 rfl (.tmp 86) (.tmp 90) rfl X12.out rfl rfl ?h13 ?h13b (show g < WB.heap.size from hgl) ?_) | fail)
              try case h13 => first | rfl | (simp; done)
              try case h13b => omega
              intro v13 w13 hst13 hg13 hv13 hl13
              have X14 := hide (hst13.bare hgl (k := 7) (s := ⟨#[]⟩) (line_no (.inr rfl)))
              clear hst13 hg13 hv13 X12
              go_wp2_with (first | (at_builtin; refine wpList_line2 rfl (.tmp 92) (.tmp 94) rfl X14.out rfl rfl ?h15 ?h15b (show g < WB.heap.size from hgl) ?_) | fail)
              try case h15 => first | rfl | (simp; done)
              try case h15b => omega
              intro v15 w15 hst15 hg15 hv15 hl15
              have S15 := hide hst15
              clear hst15 hg15 hv15 X14
              go_wp2_with fail
              go_roundw
              case rel => exact ⟨k + 1, by omega, by go_num, S15.out.mono (by omega), fun _ => hl15⟩
              case measure => simp [intOf]; omega
    · have hkq : k = q := by omega
      go_wp2_with fail
      go_ret
      exact ⟨_, rfl, (ST.out.base (by have := HBZ.out; omega) (only_trans G1.out ST.out.ev)).mono (by omega), hvl (by omega)⟩
end Go.Proofs.Ytcfjbaanahgpoaa
namespace Go.Proofs.Ytcfjbaanahgpoaa
open Go Go.RowKit
set_option maxRecDepth 100000
set_option linter.unusedVariables false
/-- A drawn program: good lines, at least one, at most 400. -/
theorem s_drawProgram (A : Option Addr) (n c : Nat) (w : World) (hc : CodeAt w.heap.size w A n) :
    Calls Try.prog 8 #[.slice A n c] w fun e w' => (∃ (A' : Option Addr) (c' : Nat) (L : List Ln), e = .returned (.slice A' L.length c') ∧ OwnLines w' w.heap.size w'.heap.size A' L ∧ (∀ x ∈ L, lineOkF x = true) ∧ 1 ≤ L.length ∧ L.length ≤ 400) ∧ Below w.heap.size w w' := by
  go_enter Try.func8, Try.ntmps8
  go_wp2_with fail
  refine (s_l01New A n c w hc).mono ?_
  rintro e w1 ⟨rfl, hc1, hb1⟩
  go_wp2_with fail
  refine (s_l03Program _ _ _ hc1).mono ?_
  rintro e w2 ⟨v, rfl, ⟨A', P, c', rfl, hO, hok, hlen, hc2, hg2⟩, hv⟩
  go_wp2_with fail
  go_ret
  have hz := hb1.size
  obtain ⟨A2, c2, e2, hL⟩ := hO.lines
  cases e2
  obtain ⟨P2, e3, hP⟩ := hL
  refine ⟨⟨A', c', P.map Prod.fst, by rw [List.length_map]; rfl, ⟨P2, e3, hP.1.more hz (Nat.le_refl _) (Nat.le_refl _), hP.2⟩, ?_, ?_, ?_⟩, below_only hb1 hg2 hz (Nat.le_refl _)⟩
  · intro x hx
    obtain ⟨p, hp, rfl⟩ := List.mem_map.1 hx
    exact hok p hp
  · rw [List.length_map]; exact hv
  · rw [List.length_map]; exact hlen
theorem endL_allQ (l : List Tk) : ∀ (m p need : Nat), l.length - p ≤ m → endL l p need = l.length → ∀ i, p ≤ i → (h : i < l.length) → tkOk l[i] = true := by
  intro m
  induction m with
  | zero => intro p need hm _ i hi h; omega
  | succ m ih =>
    intro p need hm he i hi h
    have hp : p < l.length := by omega
    by_cases h0 : need = 0
    · subst h0; rw [endL_zero] at he; omega
    · cases hok : tkOk l[p]
      · rw [endL_bad l p need (by omega) hp hok] at he; omega
      · rw [endL_step l p need (by omega) hp hok] at he
        by_cases e : i = p
        · subst e; exact hok
        · exact ih (p + 1) _ (by omega) he i (by omega) h
theorem exprOk_toksQ {l : List Tk} (h : exprOkF l = true) : ∀ t ∈ l, tkOk t = true := by
  intro t ht
  obtain ⟨i, hi, rfl⟩ := List.mem_iff_getElem.1 ht
  unfold exprOkF at h
  simp only [Bool.and_eq_true, decide_eq_true_eq] at h
  obtain ⟨⟨_, h1⟩, h2⟩ := h
  unfold exprEndF at h2
  rw [if_pos (by omega)] at h2
  exact endL_allQ l _ 0 1 (Nat.le_refl _) h2 i (by omega) hi
/-- What a good line is made of. -/
theorem lineOk_partsQ {x : Ln} (h : lineOkF x = true) : (∃ m : Nat, x.1 = m ∧ m < 8) ∧ ((x.1 = 0 ∨ x.1 = 1) → nameOkF x.2.1.data.toList = true) ∧ (¬ (x.1 = 0 ∨ x.1 = 1) → x.2.1 = ⟨#[]⟩) ∧
    (x.1 = 0 → ArgsP x.2.2.1) ∧ (x.1 ≠ 0 → x.2.2.1 = []) ∧ (hasExprF x.1 = true → exprOkF x.2.2.2 = true) ∧ (hasExprF x.1 = false → x.2.2.2 = []) := by
  unfold lineOkF at h
  simp only [Bool.and_eq_true] at h
  obtain ⟨⟨⟨h1, h2⟩, h3⟩, h4⟩ := h
  have hk : 0 ≤ x.1 ∧ x.1 ≤ 7 := by simpa [btw] using h1
  refine ⟨⟨x.1.toNat, by omega, by omega⟩, fun hq => by rwa [if_pos hq] at h2, fun hq => ?_, fun hq => ?_, fun hq => ?_, fun hq => by rwa [if_pos hq] at h4, fun hq => ?_⟩
  · rw [if_neg hq] at h2
    have : x.2.1.data.toList = [] := by simpa using h2
    apply ByteArray.ext; apply Array.ext'; rw [this]
  · rw [if_pos hq] at h3
    rcases Classical.em (ArgsP x.2.2.1) with h | h
    · exact h
    · rw [argsF, yes_not h] at h3; cases h3
  · rw [if_neg hq] at h3
    exact List.eq_nil_of_length_eq_zero (of_decide_eq_true h3)
  · rw [if_neg (by rw [hq]; simp)] at h4
    exact List.eq_nil_of_length_eq_zero (of_decide_eq_true h4)
theorem nameOk_sizeQ {s : ByteArray} (h : nameOkF s.data.toList = true) : s.size ≤ 8 := by
  unfold nameOkF at h
  simp [btw] at h
  have : s.data.toList.length = s.size := rfl
  simp at this
  omega
theorem tkOk_sizeQ {t : Tk} (h : tkOk t = true) : t.2.2.size ≤ 8 := by
  have h' : tokOkF t.1 t.2.1 t.2.2.data.toList = true := h
  unfold tokOkF at h'
  have em : t.2.2.data.toList.isEmpty = true → t.2.2.size ≤ 8 := fun e => by
    have h0 : t.2.2.data.toList.length = t.2.2.size := rfl
    rw [List.isEmpty_iff.1 e] at h0
    rw [← h0]; exact Nat.zero_le _
  split at h'
  · rw [Bool.and_eq_true] at h'; exact em h'.2
  · split at h'
    · rw [Bool.and_eq_true] at h'; exact nameOk_sizeQ h'.2
    · split at h'
      · rw [Bool.and_eq_true] at h'; exact nameOk_sizeQ h'.2
      · rw [Bool.and_eq_true] at h'; exact em h'.2
/-- What a good line takes. -/
theorem lineOk_szQ {x : Ln} (h : lineOkF x = true) : LnSz x ∧ x.2.2.1.length + x.2.2.2.length ≤ 24 := by
  obtain ⟨_, h1, h2, h3, h4, h5, h6⟩ := lineOk_partsQ h
  have hx : (∀ t ∈ x.2.2.2, t.2.2.size ≤ 8) ∧ x.2.2.2.length ≤ 20 := by
    cases hq : hasExprF x.1
    · rw [h6 hq]; exact ⟨fun t ht => (by cases ht), Nat.zero_le _⟩
    · have he := h5 hq
      refine ⟨fun t ht => tkOk_sizeQ (exprOk_toksQ he t ht), ?_⟩
      unfold exprOkF at he
      simp only [Bool.and_eq_true, decide_eq_true_eq] at he
      exact he.1.1
  have ha : (∀ s ∈ x.2.2.1, s.size ≤ 8) ∧ x.2.2.1.length ≤ 4 := by
    by_cases hk : x.1 = 0
    · refine ⟨fun s hs => ?_, (h3 hk).1⟩
      obtain ⟨i, hi, rfl⟩ := List.mem_iff_getElem.1 hs
      exact nameOk_sizeQ ((h3 hk).2 i hi hi).1
    · rw [h4 hk]; exact ⟨fun s hs => (by cases hs), Nat.zero_le _⟩
  have hn : x.2.1.size ≤ 8 := by
    by_cases hk : x.1 = 0 ∨ x.1 = 1
    · exact nameOk_sizeQ (h1 hk)
    · rw [h2 hk]; exact Nat.zero_le _
  unfold LnSz maxLen
  exact ⟨⟨by omega, fun s hs => by have := ha.1 s hs; omega, fun t ht => by have := hx.1 t ht; omega⟩, by omega⟩
theorem lnTot_leQ (L : List Ln) (h : ∀ x ∈ L, x.2.2.1.length + x.2.2.2.length ≤ 24) : lnTot L ≤ 24 * L.length := by
  induction L with
  | nil => simp [lnTot]
  | cons x L ih =>
    have h1 := h x List.mem_cons_self
    have h2 := ih (fun y hy => h y (List.mem_cons_of_mem _ hy))
    have e : lnTot (x :: L) = (x.2.2.1.length + x.2.2.2.length) + lnTot L := by simp [lnTot]
    rw [e, List.length_cons]
    omega
end Go.Proofs.Ytcfjbaanahgpoaa
