import Derived.Test.YtclldakoinnhhaaDoorDrE
import Derived.Test.YtclldakoinnhhaaDoorOwnG
import Derived.Test.YtclldakoinnhhaaDoorLnOk2
namespace Go.Proofs.YtclldakoinnhhaaDoor
open Go Go.RowKit
set_option maxRecDepth 100000
set_option linter.unusedVariables false
set_option linter.unusedSimpArgs false
/-! Drawn lines. -/
structure Gen (w : World) (gb g : Nat) (vars names : List ByteArray) (ars : List Int) : Prop where
  env : ∃ (Av An Aa : Option Addr) (nv cv nn cn ca : Nat), Blk w gb 72 #[.pointer (some ⟨g, 0, none⟩), .slice Av nv cv, .slice An nn cn, .slice Aa nn ca] ∧ vars.length = nv ∧ names.length = nn ∧ ars.length = nn ∧ nv ≤ 100 ∧ nn ≤ 100 ∧
    RowX w g Av nv 1 (strCells vars) ∧ RowX w g An nn 1 (strCells names) ∧ RowX w g Aa nn 1 (intCells ars)
  ne : gb ≠ g
  vok : ∀ s ∈ vars, nameOkF s.data.toList = true
  nok : ∀ s ∈ names, nameOkF s.data.toList = true
  aok : ∀ a ∈ ars, 0 ≤ a ∧ a ≤ 2
theorem Gen.grown {w w' : World} {gb g : Nat} {vars names : List ByteArray} {ars : List Int} (h : Gen w gb g vars names ars) (hg : w.grownBy w' (some g)) : Gen w' gb g vars names ars := by
  obtain ⟨⟨Av, An, Aa, nv, cv, nn, cn, ca, h1, h2, h3, h4, h5, h6, h7, h8, h9⟩, hne, a, b, c⟩ := h
  exact ⟨⟨Av, An, Aa, nv, cv, nn, cn, ca, h1.grown hg (by simpa using hne), h2, h3, h4, h5, h6, h7.grown hg, h8.grown hg, h9.grown hg⟩, hne, a, b, c⟩
set_option maxHeartbeats 2000000 in
theorem s_gexpr (B g gb : Nat) (vars names : List ByteArray) (ars : List Int) (n : Int) (hn0 : 0 ≤ n) (hn1 : n ≤ 1000) (w : World) (hc : Cur B w g) (h : Gen w gb g vars names ars) :
    Calls Tryd.prog 42 #[.pointer (some ⟨gb, 0, none⟩), .int .i64 n] w fun e w' => ExRet n w e w' ∧ Cur B w' g ∧ w.grownBy w' (some g) := by
  obtain ⟨⟨Av, An, Aa, nv, cv, nn, cn, ca, hk, h2, h3, h4, h5, h6, h7, h8, h9⟩, hne, a, b, c⟩ := h
  have k0 := hk.cell 0
  have k1 := hk.cell 1
  have k2 := hk.cell 2
  have k3 := hk.cell 3
  simp at k0 k1 k2 k3
  have HC : Hid (∀ w', w' = w ∨ w' = w.drew → Calls Tryd.prog 55 #[.pointer (some ⟨g, 0, none⟩), .int .i64 n, .slice Av nv cv, .slice An nn cn, .slice Aa nn ca] w' fun e w'' => ExRet n w' e w'' ∧ Cur B w'' g ∧ w'.grownBy w'' (some g)) := by
    intro w' hw
    rcases hw with rfl | rfl
    · exact s_expr B g nv cv nn cn ca Av An Aa vars names ars h2 h3 h4 h5 h6 a b c _ n _ hn0 hn1 rfl hc h7 h8 h9
    · exact s_expr B g nv cv nn cn ca Av An Aa vars names ars h2 h3 h4 h5 h6 a b c _ n _ hn0 hn1 rfl hc h7 h8 h9
  clear hk a b c hc h7 h8 h9
  go_enter Tryd.func42, Tryd.ntmps42
  go_upto_region 1 with fail
  go_still_tail 17, (by kernel_rfl)
  change wpList _ _ _ _ _ w.drew
  go_wp2_with fail
  refine (HC.out _ (.inr rfl)).mono ?_
  rintro e w2 ⟨⟨D, d, l, rfl, own, full, len⟩, hc2, hg2⟩
  go_wp2_with fail
  go_ret
  exact ⟨⟨D, d, l, rfl, own, full, len⟩, hc2, ⟨hg2.os, hg2.tape, hg2.output, hg2.size, hg2.block⟩⟩
theorem Tryd.infoLnD : (Tryd.prog.info? 29).map (fun i => (i.zero, i.size, i.bytes)) = some (some (.agg #[.int .i64 0, .string ByteArray.empty, .slice none 0 0, .slice none 0 0]), 4, 72) := by kernel_rfl
/-- Lines put one after another, while a draw goes on. -/
def BSt (w0 w : World) (B g : Nat) (v : Value) (m : Nat) : Prop := ∃ (A : Option Addr) (P : List LP) (c : Nat), v = .slice A P.length c ∧ OwnL w w0.heap.size 29 v P P ∧ (∀ p ∈ P, lineOkF p.1 = true) ∧ P.length ≤ m ∧ Cur B w g ∧ w0.grownBy w (some g)
/-- .. and one line more, that is made but not yet put. -/
def BLn (w0 w : World) (B g : Nat) (v : Value) (m : Nat) (p : LP) : Prop := ∃ P : List LP, OwnL w w0.heap.size 29 v P (P ++ [p]) ∧ (∀ p ∈ P, lineOkF p.1 = true) ∧ lineOkF p.1 = true ∧ P.length ≤ m ∧ Cur B w g ∧ w0.grownBy w (some g)
section
variable {w0 w w' : World} {B g m m' q : Nat} {v u : Value} {p : LP}
theorem BSt.mono (h : BSt w0 w B g v m) (hm : m ≤ m') : BSt w0 w B g v m' := by
  obtain ⟨A, P, c, h1, h2, h3, h4, h5⟩ := h
  exact ⟨A, P, c, h1, h2, h3, Nat.le_trans h4 hm, h5⟩
theorem BSt.cur (h : BSt w0 w B g v m) : Cur B w g := by obtain ⟨_, _, _, _, _, _, _, h5, _⟩ := h; exact h5
theorem BSt.ev (h : BSt w0 w B g v m) : w0.grownBy w (some g) := by obtain ⟨_, _, _, _, _, _, _, _, h6⟩ := h; exact h6
theorem BSt.slice (h : BSt w0 w B g v m) : ∃ A n c, v = .slice A n c := by obtain ⟨A, P, c, h1, _⟩ := h; exact ⟨A, _, c, h1⟩
theorem BSt.nil_ (hc : Cur B w g) (ho : w.ownsRow w0.heap.size 29 4 v 0 []) (hg : w0.grownBy w (some g)) : BSt w0 w B g v 0 := by
  obtain ⟨A, c, rfl, _⟩ := Arr.of_own ho
  exact ⟨A, [], c, rfl, OwnL.nil_ ho, (fun p hp => by cases hp), Nat.le_refl _, hc, hg⟩
/-- The cursor turns. -/
theorem BSt.drew (h : BSt w0 w B g v m) (hc : Cur B w' g) (hg : w.grownBy w' (some g)) (hl : g < w0.heap.size) : BSt w0 w' B g v m := by
  obtain ⟨A, P, c, h1, h2, h3, h4, h5, h6⟩ := h
  exact ⟨A, P, c, h1, h2.cur hg hl, h3, h4, hc, only_trans h6 hg⟩
theorem own_rows_none {w : World} {lo hi : Nat} {k : Int} {s : ByteArray} : Own w lo hi ([(((k, s, [], []), none, 0, none, 0) : LP)].flatMap lnRows) :=
  Own.two (Arr.nil_ _ _ _ _ _) (Arr.nil_ _ _ _ _ _) (fun h => by simp at h)
theorem BSt.bare (h : BSt w0 w B g v m) (hl : g < w0.heap.size) {k : Int} {s : ByteArray} (hk : lineOkF (k, s, [], []) = true) : BLn w0 w B g v m ((k, s, [], []), none, 0, none, 0) := by
  obtain ⟨A, P, c, h1, h2, h3, h4, h5, h6⟩ := h
  refine ⟨P, h2.more (World.grownBy.refl w _) hl h6.size own_rows_none ?_, h3, hk, h4, h5, h6⟩
  intro p hp
  obtain rfl := List.mem_singleton.1 hp
  exact ⟨Nat.le_refl _, Nat.zero_le _, Nat.le_refl _, Nat.zero_le _⟩
theorem BSt.expr (h : BSt w0 w B g v m) (hl : g < w0.heap.size) (hc : Cur B w' g) (hg : w.grownBy w' (some g)) {D : Option Addr} {d : Nat} {l : List Tk}
    (ho : w'.ownsRow w.heap.size 32 3 (.slice D l.length d) l.length (tokCells l)) {k : Int} {s : ByteArray} (hk : lineOkF (k, s, [], l) = true) : BLn w0 w' B g v m ((k, s, [], l), none, 0, D, d) := by
  obtain ⟨A, P, c, h1, h2, h3, h4, h5, h6⟩ := h
  obtain ⟨_, _, e1, q1, q2, q3, _⟩ := Arr.own2 ho
  cases e1
  refine ⟨P, h2.more hg hl h6.size ?_ ?_, h3, hk, h4, hc, only_trans h6 hg⟩
  · show Own _ _ _ ([_, _] ++ [])
    rw [List.append_nil]
    exact Own.two (Arr.nil_ _ _ _ _ _) q3 (fun hn => by simp at hn)
  · intro p hp
    obtain rfl := List.mem_singleton.1 hp
    exact ⟨Nat.le_refl _, Nat.zero_le _, q1, q2⟩
theorem line_set {s : ByteArray} {l : List Tk} (hs : nameOkF s.data.toList = true) (hl : exprOkF l = true) : lineOkF (1, s, [], l) = true := by
  unfold lineOkF; simp [btw, hasExprF, hs, hl]
theorem line_ex {k : Int} {l : List Tk} (hk : k = 2 ∨ k = 3 ∨ k = 5 ∨ k = 6) (hl : exprOkF l = true) : lineOkF (k, ⟨#[]⟩, [], l) = true := by
  unfold lineOkF
  rcases hk with rfl | rfl | rfl | rfl <;> simp [btw, hasExprF, hl]
theorem line_no {k : Int} (hk : k = 4 ∨ k = 7) : lineOkF (k, ⟨#[]⟩, [], []) = true := by
  unfold lineOkF
  rcases hk with rfl | rfl <;> simp [btw, hasExprF]
/-- append of the line that is made. -/
theorem wpList_line {ops : Array Oper} {rest : List Oper} {o : Oper} {a : Act} {Q : Exit → Act → World → Prop} {gN : Nat} (hgd : o.guard = none) (s x : Operand)
    (ho : o.op = .call { callee := .builtin .append, args := #[s, x], argTypes := #[24, 24] }) (hB : BLn w0 w B g v m p) (hs : a.eval s = v) (hx : a.eval x = .slice (some ⟨gN, 0, none⟩) 1 1) (hgN : gN = w.heap.size) (hm : m ≤ 1000000) (hgl : g < w0.heap.size)
    (h : ∀ v' w', BSt w0 w' B g v' (m + 1) → wpList Tryd.prog ops Q rest (a.put o.dst v') w') : wpList Tryd.prog ops Q (o :: rest) a (w.alloc (.cells (lnC p).toArray 29)) := by
  obtain ⟨i0, hi, hz0, hz1, hz2⟩ := info_parts Tryd.infoLnD
  obtain ⟨P, h2, h3, hk, h4, h5, h6⟩ := hB
  refine wpList_appN w hgd s x _ ho w0.heap.size 29 i0 _ 4 72 Tryd.underlying24 hi hz0 hz1 hz2 rfl (by decide) v _ _ hs h2.1 1 (lnC p) hx hgN rfl ?_ ?_ (by decide) h6.size ?_
  · intro u hu; simp [lnC] at hu; rcases hu with rfl | rfl | rfl | rfl <;> rfl
  · omega
  intro v' w' hown hb hg hv
  have hO := h2.app hown hg hv
  obtain ⟨A', c', rfl, _⟩ := Arr.of_own hown
  refine h _ _ ⟨A', P ++ [p], c', by simp, hO, ?_, by simp; omega, h5.own hg (fun b e => by have := (h2.1.lt b e).1; omega), ev_own h6 hg (fun b e => (h2.1.lt b e).1)⟩
  intro q hq
  rcases List.mem_append.1 hq with hq | hq
  · exact h3 q hq
  · obtain rfl := List.mem_singleton.1 hq; exact hk
/-- append of the lines that a callee has answered. -/
theorem wpList_lines {ops : Array Oper} {rest : List Oper} {o : Oper} {a : Act} {Q : Exit → Act → World → Prop} (hgd : o.guard = none) (s x : Operand)
    (ho : o.op = .call { callee := .builtin .append, args := #[s, x], argTypes := #[24, 24] }) (hB : BSt w0 w B g v m) (hU : BSt w w' B g u q) (hs : a.eval s = v) (hx : a.eval x = u) (hm : m + q ≤ 1000000) (hgl : g < w0.heap.size)
    (h : ∀ v' w'', BSt w0 w'' B g v' (m + q) → wpList Tryd.prog ops Q rest (a.put o.dst v') w'') : wpList Tryd.prog ops Q (o :: rest) a w' := by
  obtain ⟨i0, hi, hz0, hz1, hz2⟩ := info_parts Tryd.infoLnD
  obtain ⟨A, P, c, hv, h2, h3, h4, h5, h6⟩ := hB
  obtain ⟨A', P', c', rfl, k2, k3, k4, k5, k6⟩ := hU
  have hO := h2.more k6 hgl h6.size (k2.2.1) k2.2.2.2
  obtain ⟨A2, c2, e2, _, r2⟩ := Arr.of_own k2.1
  cases e2
  have hG := only_trans h6 k6
  refine wpList_apps w' hgd s x _ ho w0.heap.size 29 i0 _ 4 72 Tryd.underlying24 hi hz0 hz1 hz2 rfl (by decide) v _ _ hs hO.1 A' P'.length c' (P'.flatMap lnC) hx (InRow.of_arr r2) ?_ (by omega) (by decide) hG.size ?_
  · intro u hu
    obtain ⟨p, _, h⟩ := List.mem_flatMap.1 hu
    simp [lnC] at h
    rcases h with rfl | rfl | rfl | rfl <;> rfl
  intro v' w'' hown hb hg hv'
  have hO2 := hO.apps hown hg hv'
  obtain ⟨A3, c3, rfl, _⟩ := Arr.of_own hown
  refine h _ _ ⟨A3, P ++ P', c3, by simp, hO2, ?_, by simp; omega, k5.own hg (fun b e => by have := (hO.1.lt b e).1; omega), ev_own hG hg (fun b e => (hO.1.lt b e).1)⟩
  intro p hp
  rcases List.mem_append.1 hp with hp | hp
  · exact h3 p hp
  · exact k3 p hp
end
end Go.Proofs.YtclldakoinnhhaaDoor
