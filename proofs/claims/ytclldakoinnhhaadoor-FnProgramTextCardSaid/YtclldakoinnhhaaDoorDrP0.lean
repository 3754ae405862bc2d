import Derived.Test.YtclldakoinnhhaaDoorDrB2
import Derived.Deep.RegionHeld3
namespace Go.Proofs.YtclldakoinnhhaaDoor
open Go Go.RowKit
set_option maxRecDepth 100000
set_option linter.unusedVariables false
set_option linter.unusedSimpArgs false
/-! Drawn programs. -/
theorem RowX.sub {α : Type} {w : World} {g b o N i m : Nat} {l : List α} {f : α → Value} (h : RowX w g (some ⟨b, o, none⟩) N 1 (l.map f)) (him : i + m ≤ N) : RowX w g (some ⟨b, o + i, none⟩) m 1 (((l.drop i).take m).map f) := by
  have hl : l.length = N := by have := h.1.1; simpa using this
  refine ⟨⟨by simp; omega, fun hm => ?_⟩, fun hm ad e => by cases e; exact (show b ≠ g from h.2 (by omega) ⟨b, o, none⟩ rfl)⟩
  obtain ⟨b', o', e, hb, hc⟩ := h.1.2 (by omega)
  cases e
  refine ⟨b, o + i, rfl, hb, fun j hj => ?_⟩
  have := hc (i + j) (by omega)
  rw [Nat.add_assoc, this]
  have hj' : j < m := by omega
  simp [List.getElem?_take, hj', List.getElem?_drop]
def nmL : List ByteArray := [⟨#[109, 97, 105, 110]⟩, ⟨#[102]⟩, ⟨#[103, 103]⟩, ⟨#[104]⟩]
def arL : List Int := [0, 1, 2, 1]
def xyL : List ByteArray := [⟨#[120]⟩, ⟨#[121]⟩]
def izL : List ByteArray := [⟨#[105]⟩, ⟨#[122]⟩]
theorem nmL_ok : ∀ s ∈ nmL, nameOkF s.data.toList = true := by decide
theorem arL_ok : ∀ a ∈ arL, 0 ≤ a ∧ a ≤ 2 := by decide
theorem xyL_ok : ∀ s ∈ xyL, nameOkF s.data.toList = true := by decide
theorem izL_ok : ∀ s ∈ izL, nameOkF s.data.toList = true := by decide
/-- A row just laid. -/
theorem RowX.new {w : World} {g : Nat} {t : TypeId} {n : Nat} {l : List Value} (hl : l.length = n) (hg : g < w.heap.size) : RowX (w.alloc (.cells l.toArray t)) g (some ⟨w.heap.size, 0, none⟩) n 1 l :=
  ⟨⟨by omega, fun _ => ⟨w.heap.size, 0, rfl, by simp, fun j hj => by rw [Nat.zero_add, (Blk.new w t l.toArray).cell j]; simp⟩⟩, fun _ ad e => by cases e; show w.heap.size ≠ g; omega⟩
theorem RowX.alloc {w : World} {g n size : Nat} {A : Option Addr} {xs : List Value} (h : RowX w g A n size xs) (o : Obj) : RowX (w.alloc o) g A n size xs := h.below ((Below.refl _ _).alloc (Nat.le_refl _) o)
/-- A smaller base. -/
theorem BSt.base {w w0 w' : World} {B g m : Nat} {v : Value} (h : BSt w0 w' B g v m) (hz : w.heap.size ≤ w0.heap.size) (hg : w.grownBy w' (some g)) : BSt w w' B g v m := by
  obtain ⟨A, P, c, h1, ⟨q1, q2, q3, q4⟩, h3, h4, h5, _⟩ := h
  refine ⟨A, P, c, h1, ⟨?_, q2.more hz (Nat.le_refl _) (Nat.le_refl _), q3, q4⟩, h3, h4, h5, hg⟩
  refine ⟨q1.1, ?_⟩
  rcases q1.2 with hn | ⟨b, cap, cur, e, hb, rest⟩
  · exact .inl hn
  · exact .inr ⟨b, cap, cur, e, Nat.le_trans hz hb, rest⟩
theorem BSt.lt {w0 w : World} {B g m : Nat} {v : Value} (h : BSt w0 w B g v m) : ∀ b, v.ownBlock = some b → w0.heap.size ≤ b ∧ b < w.heap.size := by
  obtain ⟨A, P, c, rfl, h2, _⟩ := h
  exact h2.1.lt
theorem BLn.lt {w0 w : World} {B g m : Nat} {v : Value} {p : LP} (h : BLn w0 w B g v m p) : ∀ b, v.ownBlock = some b → w0.heap.size ≤ b ∧ b < w.heap.size := by
  obtain ⟨P, h2, _⟩ := h
  exact h2.1.lt
/-- How many elements a slice has. -/
def vLen : Value → Nat
  | .slice _ n _ => n
  | _ => 0
/-- append of the line that is made: what has turned is told. -/
theorem wpList_line2 {w0 w : World} {B g m : Nat} {v : Value} {p : LP} {ops : Array Oper} {rest : List Oper} {o : Oper} {a : Act} {Q : Exit → Act → World → Prop} {gN : Nat} (hgd : o.guard = none) (s x : Operand)
    (ho : o.op = .call { callee := .builtin .append, args := #[s, x], argTypes := #[24, 24] }) (hB : BLn w0 w B g v m p) (hs : a.eval s = v) (hx : a.eval x = .slice (some ⟨gN, 0, none⟩) 1 1) (hgN : gN = w.heap.size) (hm : m ≤ 1000000) (hgl : g < w0.heap.size)
    (h : ∀ v' w', BSt w0 w' B g v' (m + 1) → w.grownBy w' v.ownBlock → (v'.ownBlock = v.ownBlock ∨ ∃ b, v'.ownBlock = some b ∧ w.heap.size ≤ b) → 1 ≤ vLen v' → wpList Tryd.prog ops Q rest (a.put o.dst v') w') : wpList Tryd.prog ops Q (o :: rest) a (w.alloc (.cells (lnC p).toArray 29)) := by
  obtain ⟨i0, hi, hz0, hz1, hz2⟩ := info_parts Tryd.infoLnD
  obtain ⟨P, h2, h3, hk, h4, h5, h6⟩ := hB
  refine wpList_appN w hgd s x _ ho w0.heap.size 29 i0 _ 4 72 Tryd.underlying24 hi hz0 hz1 hz2 rfl (by decide) v _ _ hs h2.1 1 (lnC p) hx hgN rfl ?_ ?_ (by decide) h6.size ?_
  · intro u hu; simp [lnC] at hu; rcases hu with rfl | rfl | rfl | rfl <;> rfl
  · omega
  intro v' w' hown hb hg hv
  have hO := h2.app hown hg hv
  obtain ⟨A', c', rfl, _⟩ := Arr.of_own hown
  refine h _ _ ⟨A', P ++ [p], c', by simp, hO, ?_, by simp; omega, h5.own hg (fun b e => by have := (h2.1.lt b e).1; omega), ev_own h6 hg (fun b e => (h2.1.lt b e).1)⟩ hg ?_ ?_
  · intro q hq
    rcases List.mem_append.1 hq with hq | hq
    · exact h3 q hq
    · obtain rfl := List.mem_singleton.1 hq; exact hk
  · rcases hv with hv | hv
    · exact .inl hv
    · exact .inr ⟨_, hv, by omega⟩
  · show 1 ≤ P.length + 1
    omega
/-- The line put at the end, as a step of a region that draws its order. -/
theorem step_line2 {w0 w : World} {B g m : Nat} {v : Value} {p : LP} {cs : List Value} (hcs : cs = lnC p) {ops : Array Oper} {o : Oper} {a : Act} {K : Act → World → Prop} {Q : Exit → Act → World → Prop} {E : Prop} {gN : Nat} (hgd : o.guard = none) (s x : Operand)
    (ho : o.op = .call { callee := .builtin .append, args := #[s, x], argTypes := #[24, 24] }) (hB : BLn w0 w B g v m p) (hs : a.eval s = v) (hx : a.eval x = .slice (some ⟨gN, 0, none⟩) 1 1) (hgN : gN = w.heap.size) (hm : m ≤ 1000000) (hgl : g < w0.heap.size)
    (h : ∀ v' w', BSt w0 w' B g v' (m + 1) → w.grownBy w' v.ownBlock → (v'.ownBlock = v.ownBlock ∨ ∃ b, v'.ownBlock = some b ∧ w.heap.size ≤ b) → 1 ≤ vLen v' → K (a.put o.dst v') w') : if Region.wanted o (yielded ops a.tmps) = true then Oper.wp Tryd.prog o a (w.alloc (.cells cs.toArray 29)) K Q else E := by
  subst hcs
  obtain ⟨i0, hi, hz0, hz1, hz2⟩ := info_parts Tryd.infoLnD
  obtain ⟨P, h2, h3, hk, h4, h5, h6⟩ := hB
  refine step_appN w hgd s x _ ho w0.heap.size 29 i0 _ 4 72 Tryd.underlying24 hi hz0 hz1 hz2 rfl (by decide) v _ _ hs h2.1 1 (lnC p) hx hgN rfl ?_ ?_ (by decide) h6.size ?_
  · intro u hu; simp [lnC] at hu; rcases hu with rfl | rfl | rfl | rfl <;> rfl
  · omega
  intro v' w' hown hb hg hv
  have hO := h2.app hown hg hv
  obtain ⟨A', c', rfl, _⟩ := Arr.of_own hown
  refine h _ _ ⟨A', P ++ [p], c', by simp, hO, ?_, by simp; omega, h5.own hg (fun b e => by have := (h2.1.lt b e).1; omega), ev_own h6 hg (fun b e => (h2.1.lt b e).1)⟩ hg ?_ ?_
  · intro q hq
    rcases List.mem_append.1 hq with hq | hq
    · exact h3 q hq
    · obtain rfl := List.mem_singleton.1 hq; exact hk
  · rcases hv with hv | hv
    · exact .inl hv
    · exact .inr ⟨_, hv, by omega⟩
  · show 1 ≤ P.length + 1
    omega
theorem wpList_lines2 {w0 w w' : World} {B g m q : Nat} {v u : Value} {ops : Array Oper} {rest : List Oper} {o : Oper} {a : Act} {Q : Exit → Act → World → Prop} (hgd : o.guard = none) (s x : Operand)
    (ho : o.op = .call { callee := .builtin .append, args := #[s, x], argTypes := #[24, 24] }) (hB : BSt w0 w B g v m) (hU : BSt w w' B g u q) (hs : a.eval s = v) (hx : a.eval x = u) (hm : m + q ≤ 1000000) (hgl : g < w0.heap.size)
    (h : ∀ v' w'', BSt w0 w'' B g v' (m + q) → w'.grownBy w'' v.ownBlock → (v'.ownBlock = v.ownBlock ∨ ∃ b, v'.ownBlock = some b ∧ w.heap.size ≤ b) → vLen v ≤ vLen v' → wpList Tryd.prog ops Q rest (a.put o.dst v') w'') : wpList Tryd.prog ops Q (o :: rest) a w' := by
  obtain ⟨i0, hi, hz0, hz1, hz2⟩ := info_parts Tryd.infoLnD
  obtain ⟨A, P, c, hv, h2, h3, h4, h5, h6⟩ := hB
  obtain ⟨A', P', c', rfl, k2, k3, k4, k5, k6⟩ := hU
  have hO := h2.more k6 hgl h6.size (k2.2.1) k2.2.2.2
  obtain ⟨A2, c2, e2, _, r2⟩ := Arr.of_own k2.1
  cases e2
  have hG := only_trans h6 k6
  refine wpList_apps w' hgd s x _ ho w0.heap.size 29 i0 _ 4 72 Tryd.underlying24 hi hz0 hz1 hz2 rfl (by decide) v _ _ hs hO.1 A' P'.length c' (P'.flatMap lnC) hx (InRow.of_arr r2) ?_ (by omega) (by decide) hG.size ?_
  · intro u hu
    obtain ⟨p, _, h⟩ := List.mem_flatMap.1 hu
    simp [lnC] at h
    rcases h with rfl | rfl | rfl | rfl <;> rfl
  intro v' w'' hown hb hg hv'
  have hO2 := hO.apps hown hg hv'
  obtain ⟨A3, c3, rfl, _⟩ := Arr.of_own hown
  refine h _ _ ⟨A3, P ++ P', c3, by simp, hO2, ?_, by simp; omega, k5.own hg (fun b e => by have := (hO.1.lt b e).1; omega), ev_own hG hg (fun b e => (hO.1.lt b e).1)⟩ hg ?_ ?_
  · intro p hp
    rcases List.mem_append.1 hp with hp | hp
    · exact h3 p hp
    · exact k3 p hp
  · rcases hv' with hv' | hv'
    · exact .inl hv'
    · exact .inr ⟨_, hv', k6.size⟩
  · rw [hv]
    show P.length ≤ P.length + P'.length
    omega
/-- The maker of a function's lines, with what is known of its blocks. -/
def GenP (Pb : Nat → Prop) (w : World) (gb g : Nat) (vars names : List ByteArray) (ars : List Int) : Prop :=
  gb ≠ g ∧ Pb gb ∧ (∀ s ∈ vars, nameOkF s.data.toList = true) ∧ (∀ s ∈ names, nameOkF s.data.toList = true) ∧ (∀ a ∈ ars, 0 ≤ a ∧ a ≤ 2) ∧
  ∃ (Av An Aa : Option Addr) (nv cv nn cn ca : Nat), Blk w gb 72 #[.pointer (some ⟨g, 0, none⟩), .slice Av nv cv, .slice An nn cn, .slice Aa nn ca] ∧ vars.length = nv ∧ names.length = nn ∧ ars.length = nn ∧ nv ≤ 100 ∧ nn ≤ 100 ∧
    (RowX w g Av nv 1 (strCells vars) ∧ (0 < nv → ∀ ad, Av = some ad → Pb ad.block ∧ ad.block ≠ gb)) ∧ (RowX w g An nn 1 (strCells names) ∧ (0 < nn → ∀ ad, An = some ad → Pb ad.block ∧ ad.block ≠ gb)) ∧ (RowX w g Aa nn 1 (intCells ars) ∧ (0 < nn → ∀ ad, Aa = some ad → Pb ad.block ∧ ad.block ≠ gb))
theorem GenP.gen {Pb : Nat → Prop} {w : World} {gb g : Nat} {vars names : List ByteArray} {ars : List Int} (h : GenP Pb w gb g vars names ars) : Gen w gb g vars names ars := by
  obtain ⟨h1, _, h2, h3, h4, Av, An, Aa, nv, cv, nn, cn, ca, a, b, c, d, e, f, x, y, z⟩ := h
  exact ⟨⟨Av, An, Aa, nv, cv, nn, cn, ca, a, b, c, d, e, f, x.1, y.1, z.1⟩, h1, h2, h3, h4⟩
theorem RowX.own {w w' : World} {g n size : Nat} {A : Option Addr} {xs : List Value} {row : Option Nat} (h : RowX w g A n size xs) (hg : w.grownBy w' row) (hr : 0 < n → ∀ ad, A = some ad → row ≠ some ad.block) : RowX w' g A n size xs :=
  ⟨⟨h.1.1, fun hn => by
    obtain ⟨b, o, e, hb, hc⟩ := h.1.2 hn
    have hk := hg.block b hb (fun e' => hr hn _ e e'.symm)
    exact ⟨b, o, e, Nat.lt_of_lt_of_le hb hg.size, fun j hj => (World.cell?_of_block hk).trans (hc j hj)⟩⟩, h.2⟩
theorem GenP.own {Pb : Nat → Prop} {w w' : World} {gb g : Nat} {vars names : List ByteArray} {ars : List Int} {row : Option Nat} (h : GenP Pb w gb g vars names ars) (hg : w.grownBy w' row) (hr : ∀ b, row = some b → b = g ∨ ¬ Pb b) : GenP Pb w' gb g vars names ars := by
  obtain ⟨h1, hp, h2, h3, h4, Av, An, Aa, nv, cv, nn, cn, ca, a, b, c, d, e, f, x, y, z⟩ := h
  have key : ∀ (n : Nat) (A : Option Addr) (xs : List Value), RowX w g A n 1 xs → (0 < n → ∀ ad, A = some ad → Pb ad.block ∧ ad.block ≠ gb) → RowX w' g A n 1 xs := fun n A xs hx hb => hx.own hg (fun hn ad e e' => by
    rcases hr _ e' with h | h
    · exact hx.2 hn ad e h
    · exact h (hb hn ad e).1)
  refine ⟨h1, hp, h2, h3, h4, Av, An, Aa, nv, cv, nn, cn, ca, a.grown hg (fun e => ?_), b, c, d, e, f, ⟨key _ _ _ x.1 x.2, x.2⟩, ⟨key _ _ _ y.1 y.2, y.2⟩, ⟨key _ _ _ z.1 z.2, z.2⟩⟩
  rcases hr gb e.symm with h | h
  · exact h1 h
  · exact h hp
/-- Its block, to be written in. -/
theorem GenP.blk {Pb : Nat → Prop} {w : World} {gb g : Nat} {vars names : List ByteArray} {ars : List Int} (h : GenP Pb w gb g vars names ars) : ∃ x y z u : Value, Blk w gb 72 #[x, y, z, u] := by
  obtain ⟨_, _, _, _, _, Av, An, Aa, nv, cv, nn, cn, ca, a, _⟩ := h
  exact ⟨_, _, _, _, a⟩
theorem kd_le (d N : Nat) (hd : d ≤ 2) (hN : N ≤ 4) : KD d * N ≤ 84 := by
  have : KD d ≤ 21 := by
    have : d = 0 ∨ d = 1 ∨ d = 2 := by omega
    rcases this with rfl | rfl | rfl <;> decide
  exact Nat.le_trans (Nat.mul_le_mul this hN) (by decide)
/-- Other names, other numbers of arguments. -/
theorem GenP.store {Pb : Nat → Prop} {w wx : World} {gb g nn cn ca : Nat} {vars names names' : List ByteArray} {ars ars' : List Int} {An Aa : Option Addr} (h : GenP Pb w gb g vars names ars) (hg : w.grownBy wx (some gb))
    (hk : ∀ x y z u : Value, Blk w gb 72 #[x, y, z, u] → Blk wx gb 72 #[x, y, .slice An nn cn, .slice Aa nn ca])
    (hN : RowX w g An nn 1 (strCells names')) (hNb : 0 < nn → ∀ ad, An = some ad → Pb ad.block ∧ ad.block ≠ gb) (hA : RowX w g Aa nn 1 (intCells ars')) (hAb : 0 < nn → ∀ ad, Aa = some ad → Pb ad.block ∧ ad.block ≠ gb)
    (hl1 : names'.length = nn) (hl2 : ars'.length = nn) (hnn : nn ≤ 100) (ok1 : ∀ s ∈ names', nameOkF s.data.toList = true) (ok2 : ∀ a ∈ ars', 0 ≤ a ∧ a ≤ 2) :
    GenP Pb wx gb g vars names' ars' := by
  obtain ⟨h1, hp, h2, _, _, Av, _, _, nv, cv, _, _, _, a, b, _, _, e, _, x, _, _⟩ := h
  have key : ∀ (n : Nat) (A : Option Addr) (xs : List Value), RowX w g A n 1 xs → (0 < n → ∀ ad, A = some ad → Pb ad.block ∧ ad.block ≠ gb) → RowX wx g A n 1 xs := fun n A xs hx hb => hx.own hg (fun hn ad e e' => by injection e' with e'; exact (hb hn ad e).2 e'.symm)
  exact ⟨h1, hp, h2, ok1, ok2, Av, An, Aa, nv, cv, nn, cn, ca, hk _ _ _ _ a, b, hl1, hl2, e, hnn, ⟨key _ _ _ x.1 x.2, x.2⟩, ⟨key _ _ _ hN hNb, hNb⟩, ⟨key _ _ _ hA hAb, hAb⟩⟩
theorem two_grown (w : World) (gb : Nat) (p q : Value) : w.grownBy ((w.setCell ⟨gb, 2, none⟩ p).setCell ⟨gb, 3, none⟩ q) (some gb) := by
  have h1 : w.grownBy (w.setCell ⟨gb, 2, none⟩ p) (some gb) := only_setCell (p := ⟨gb, 2, none⟩) (World.grownBy.refl w (some gb)) (Or.inl rfl) p
  exact only_setCell (p := ⟨gb, 3, none⟩) h1 (Or.inl rfl) q
theorem blk_two {w : World} {gb : Nat} {T : TypeId} {p q : Value} (x y z u : Value) (h : Blk w gb T #[x, y, z, u]) : Blk ((w.setCell ⟨gb, 2, none⟩ p).setCell ⟨gb, 3, none⟩ q) gb T #[x, y, p, q] := by
  have := (h.set_ 2 p).set_ 3 q
  simpa using this
/-- The maker, just made. -/
theorem genP_mk {WB W8 w6 : World} {g m d2 nn cn ca : Nat} {D2 An Aa : Option Addr} {vars nms : List ByteArray} {ars : List Int} {xs : List Value} (hg : g < WB.heap.size) (hgr : WB.grownBy W8 (some g)) (hb : Below W8.heap.size W8 w6)
    (hD : w6.ownsRow W8.heap.size 9 1 (.slice D2 m d2) m xs) (hxs : xs = strCells vars) (hm : vars.length = m) (hm4 : m ≤ 100) (hv : ∀ s ∈ vars, nameOkF s.data.toList = true)
    (hN : RowX WB g An nn 1 (strCells nms)) (hNb : 0 < nn → ∀ ad, An = some ad → ad.block < WB.heap.size) (hA : RowX WB g Aa nn 1 (intCells ars)) (hAb : 0 < nn → ∀ ad, Aa = some ad → ad.block < WB.heap.size)
    (hl1 : nms.length = nn) (hl2 : ars.length = nn) (hnn : nn ≤ 100) (ok1 : ∀ s ∈ nms, nameOkF s.data.toList = true) (ok2 : ∀ a ∈ ars, 0 ≤ a ∧ a ≤ 2) :
    ∃ (gb H : Nat) (nms : List ByteArray) (ars : List Int), Value.pointer (some ⟨w6.heap.size, 0, none⟩) = .pointer (some ⟨gb, 0, none⟩) ∧ Below W8.heap.size W8 (w6.alloc (.cells #[.pointer (some ⟨g, 0, none⟩), .slice D2 m d2, .slice An nn cn, .slice Aa nn ca] 72)) ∧ H ≤ (w6.alloc (.cells #[.pointer (some ⟨g, 0, none⟩), .slice D2 m d2, .slice An nn cn, .slice Aa nn ca] 72)).heap.size ∧ W8.heap.size ≤ gb ∧ gb < H ∧
      GenP (fun b => b < WB.heap.size ∨ (W8.heap.size ≤ b ∧ b < H)) (w6.alloc (.cells #[.pointer (some ⟨g, 0, none⟩), .slice D2 m d2, .slice An nn cn, .slice Aa nn ca] 72)) gb g vars nms ars := by
  subst hxs
  have hz := hb.size
  have hz2 := hgr.size
  refine ⟨w6.heap.size, w6.heap.size + 1, nms, ars, rfl, hb.alloc hb.size _, by simp, hz, by omega, ?_⟩
  have hG : WB.grownBy (w6.alloc (.cells #[.pointer (some ⟨g, 0, none⟩), .slice D2 m d2, .slice An nn cn, .slice Aa nn ca] 72)) (some g) := only_trans hgr (only_of_below (hb.alloc hb.size _) _)
  obtain ⟨A', c', e, _, _, ha, _⟩ := Arr.own2 hD
  cases e
  refine ⟨by omega, .inr ⟨hz, by omega⟩, hv, ok1, ok2, _, _, _, _, _, _, _, _, Blk.new w6 _ _, hm, hl1, hl2, hm4, hnn, ⟨⟨(InRow.of_arr ha).below ((Below.refl _ _).alloc (Nat.le_refl _) _), fun hn ad e => ?_⟩, fun hn ad e => ?_⟩, ⟨hN.own hG (fun hn ad e e' => hN.2 hn ad e (by injection e' with e'; exact e'.symm)), fun hn ad e => ?_⟩, ⟨hA.own hG (fun hn ad e e' => hA.2 hn ad e (by injection e' with e'; exact e'.symm)), fun hn ad e => ?_⟩⟩
  · obtain ⟨b, e', h1, h2, _⟩ := ha.2 hn
    rw [e] at e'
    cases e'
    show b ≠ g
    omega
  · obtain ⟨b, e', h1, h2, _⟩ := ha.2 hn
    rw [e] at e'
    cases e'
    exact ⟨.inr ⟨h1, by show b < _; omega⟩, by show b ≠ _; omega⟩
  · have := hNb hn ad e
    exact ⟨.inl this, by omega⟩
  · have := hAb hn ad e
    exact ⟨.inl this, by omega⟩
/-- Where the lines lie, as against the maker's blocks. -/
def NB (B0 B1 H : Nat) (v : Value) : Prop := ∀ b, v.ownBlock = some b → B0 ≤ b ∧ (b < B1 ∨ H ≤ b)
theorem NB.step {B0 B1 H m : Nat} {v v' : Value} (h : NB B0 B1 H v) (hv : v'.ownBlock = v.ownBlock ∨ ∃ b, v'.ownBlock = some b ∧ m ≤ b) (hm : H ≤ m) (hB : B0 ≤ m) : NB B0 B1 H v' := by
  intro b hb
  rcases hv with hv | ⟨b', hv, hb'⟩
  · exact h b (hv ▸ hb)
  · rw [hv] at hb
    injection hb with hb
    omega
theorem NB.not {B0 B1 H : Nat} {v : Value} (h : NB B0 B1 H v) (g : Nat) : ∀ b, v.ownBlock = some b → b = g ∨ ¬ (b < B0 ∨ (B1 ≤ b ∧ b < H)) := fun b hb => .inr (by have := h b hb; omega)
/-- A line with arguments. -/
theorem BSt.args {w0 w w' : World} {B g m a d : Nat} {v : Value} {D : Option Addr} {s : ByteArray} {l : List ByteArray} (h : BSt w0 w B g v m) (hl : g < w0.heap.size) (hb : Below w.heap.size w w') (ha : l.length = a)
    (ho : w'.ownsRow w.heap.size 9 1 (.slice D a d) a (strCells l)) (hk : lineOkF (0, s, l, []) = true) : BLn w0 w' B g v m ((0, s, l, []), D, d, none, 0) := by
  subst ha
  have hc := h.cur.below hb
  have hg : w.grownBy w' (some g) := only_of_below hb _
  obtain ⟨A, P, c, h1, h2, h3, h4, h5, h6⟩ := h
  obtain ⟨_, _, e1, q1, q2, q3, _⟩ := Arr.own2 ho
  cases e1
  refine ⟨P, h2.more hg hl h6.size ?_ ?_, h3, hk, h4, hc, only_trans h6 hg⟩
  · show Own _ _ _ ([_, _] ++ [])
    rw [List.append_nil]
    exact Own.two q3 (Arr.nil_ _ _ _ _ _) (fun _ hn => by simp at hn)
  · intro p hp
    obtain rfl := List.mem_singleton.1 hp
    exact ⟨q1, q2, Nat.le_refl _, Nat.zero_le _⟩
theorem xy_args (a : Nat) (ha : a ≤ 2) : argsF (xyL.take a) = true := by
  refine yes_of ⟨by simp [xyL]; omega, fun i hi h => ⟨xyL_ok _ (List.mem_of_mem_take (List.getElem_mem h)), ?_⟩⟩
  have : a = 0 ∨ a = 1 ∨ a = 2 := by omega
  rcases this with rfl | rfl | rfl
  · simp at h
  · have h' : i < 1 := h
    obtain rfl : i = 0 := by omega
    simp
  · have h' : i < 2 := h
    have : i = 0 ∨ i = 1 := by omega
    rcases this with rfl | rfl
    · simp
    · simp [xyL]
theorem xy_len (a : Nat) (ha : a ≤ 2) : (xyL.take a).length = a := by simp [xyL]; omega
theorem line_fun {s : ByteArray} {l : List ByteArray} (hs : nameOkF s.data.toList = true) (hl : argsF l = true) : lineOkF (0, s, l, []) = true := by
  unfold lineOkF; simp [btw, hasExprF, hs, hl]
theorem iz_cells (a : Nat) : strCells (xyL.take a) ++ [.string ⟨#[105]⟩, .string ⟨#[122]⟩] = strCells (xyL.take a ++ izL) := by
  unfold strCells; rw [List.map_append]; rfl
theorem vars_ok (a : Nat) : ∀ s ∈ xyL.take a ++ izL, nameOkF s.data.toList = true := by
  intro s hs
  rcases List.mem_append.1 hs with hs | hs
  · exact xyL_ok s (List.mem_of_mem_take hs)
  · exact izL_ok s hs
theorem RowX.zero {w : World} {g : Nat} {A : Option Addr} : RowX w g A 0 1 [] := ⟨⟨rfl, fun h => by omega⟩, fun h => by omega⟩
theorem sub_ok {α : Type} {P : α → Prop} {l : List α} (h : ∀ x ∈ l, P x) (i m : Nat) : ∀ x ∈ (l.drop i).take m, P x := fun x hx => h x (List.mem_of_mem_drop (List.mem_of_mem_take hx))
/-- append of a row that may be read, as one step of a region that draws its order. -/
theorem step_appsD {P : Program} (w : World) {ops : Array Oper} {o : Oper} {a : Act} {K : Act → World → Prop} {Q : Exit → Act → World → Prop} {E : Prop} (hgd : o.guard = none) (s x : Operand) (t : TypeId)
    (ho : o.op = .call { callee := .builtin .append, args := #[s, x], argTypes := #[t, t] })
    (base : Nat) (e : TypeId) (i : TypeInfo) (z : Value) (size bytes : Nat) (ht : P.underlying t = some (.slice e)) (hi : P.info? e = some i) (hz : i.zero = some z)
    (hsize : i.size = size) (hby : i.bytes = bytes) (hzs : z.cells.size = size) (hsz : 0 < size)
    (v : Value) (n : Nat) (xs : List Value) (hs : a.eval s = v) (hown : w.ownsRow base e size v n xs)
    (A : Option Addr) (m c : Nat) (news : List Value) (hx : a.eval x = .slice A m c) (hr : InRow w A m size news) (h1 : ∀ u ∈ news, u.oneCell' = true)
    (hbytes : (n + m) * bytes ≤ 140737488355328) (hbp : 0 < bytes) (hbase : base ≤ w.heap.size)
    (h : ∀ v' w', w'.ownsRow base e size v' (n + m) (xs ++ news) → Below base w w' → w.grownBy w' v.ownBlock → (v'.ownBlock = v.ownBlock ∨ v'.ownBlock = some w.heap.size) → K (a.put o.dst v') w') :
    if Region.wanted o (yielded ops a.tmps) = true then Oper.wp P o a w K Q else E := by
  have hw : Region.wanted o (yielded ops a.tmps) = true := by simp [Region.wanted, hgd]
  rw [if_pos hw]
  obtain ⟨v', w', hrun, h2, h3, h4⟩ := run_apps (P := P) w base t o.type e i z size bytes ht hi hz hsize hby hzs hsz v n xs hown A m c news hr h1 hbytes hbp hbase
  unfold Oper.wp execOp
  simp only [ho, resolve, invoke, builtin, Sem.run_bind, Sem.run_pure, Result.andThen_ok, List.map_toArray, List.map_cons, List.map_nil, hs, hx, hrun]
  exact h v' w' h2 ((Below.refl _ _).grown h3 hbase (fun k hk => (hown.lt k hk).1)) h3 h4
theorem strCells_oneD (l : List ByteArray) : ∀ u ∈ strCells l, u.oneCell' = true := by
  intro u hu
  obtain ⟨b, _, rfl⟩ := List.mem_map.1 hu
  rfl
theorem below_transD {B : Nat} {a b c : World} (k : Below B b c) (h : Below B a b) : Below B a c := h.trans k
theorem blk_new' {w : World} {b : Nat} {t : TypeId} {cs : Array Value} (hb : b = w.heap.size) : Blk (w.alloc (.cells cs t)) b t cs := hb ▸ Blk.new w t cs
theorem below_sizeD {B n : Nat} {a b : World} (h : Below B a b) (hn : n ≤ a.heap.size) : n ≤ b.heap.size := Nat.le_trans hn h.size
theorem inRow_blk {w : World} {b : Nat} {t : TypeId} {x y : Value} (h : Blk w b t #[x, y]) : InRow w (some ⟨b, 0, none⟩) 2 1 [x, y] :=
  ⟨rfl, fun _ => ⟨b, 0, rfl, h.lt, fun j hj => by rw [Nat.zero_add, h.cell j]; simp⟩⟩
theorem le_a1 (w : World) (o : Obj) : w.heap.size ≤ (w.alloc o).heap.size := by simp
theorem ne_some {a b : Nat} {row : Option Nat} (hr : row = some b) (h : a ≠ b) : some a ≠ row := by rw [hr]; simpa using h
theorem ownsRow_blk {w : World} {b base size : Nat} {e : TypeId} (h : Blk w b e #[]) (hb : base ≤ b) : w.ownsRow base e size (.slice (some ⟨b, 0, none⟩) 0 0) 0 [] :=
  ⟨by simp, .inr ⟨b, 0, #[], rfl, hb, h, Nat.le_refl _, Nat.zero_le _, by simp, by simp⟩⟩
end Go.Proofs.YtclldakoinnhhaaDoor
