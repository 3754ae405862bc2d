/- Rows: slices that lie whole in one block between two block numbers. No program in sight. -/
import Derived.Test.YtcfjbaanahgpoaaMem
namespace Go.Proofs.Ytcfjbaanahgpoaa
open Go.RowKit

/-- The n elements (size cells each) behind 'A' are the cells xs; they lie in one block g, lo ≤ g < hi, from its head on, and may be written. -/
def Arr (w : World) (lo hi : Nat) (A : Option Addr) (n size : Nat) (xs : List Value) : Prop :=
  xs.length = n * size ∧ (0 < n → ∃ g, A = some ⟨g, 0, none⟩ ∧ lo ≤ g ∧ g < hi ∧ hi ≤ w.heap.size ∧ ∀ j, j < n * size → w.cell? ⟨g, j, none⟩ = xs[j]? ∧ w.frozen? ⟨g, j, none⟩ = false)

section
variable {w w' : World} {lo hi n size : Nat} {A : Option Addr} {xs : List Value}
theorem Arr.keep (h : Arr w lo hi A n size xs) (hz : w.heap.size ≤ w'.heap.size) (hk : ∀ b, lo ≤ b → b < hi → w'.heap[b]? = w.heap[b]?) : Arr w' lo hi A n size xs :=
  ⟨h.1, fun hn => by
    obtain ⟨g, e, h1, h2, h3, hc⟩ := h.2 hn
    refine ⟨g, e, h1, h2, Nat.le_trans h3 hz, fun j hj => ?_⟩
    have hb := hk g h1 h2
    rw [World.cell?_of_block (w := w) (w' := w') (a := ⟨g, j, none⟩) hb, World.frozen?_of_block (w := w) (w' := w') (a := ⟨g, j, none⟩) hb]
    exact hc j hj⟩
theorem Arr.below (h : Arr w lo hi A n size xs) {B : Nat} (hb : Below B w w') (hB : hi ≤ B) : Arr w' lo hi A n size xs :=
  h.keep hb.size fun b _ h2 => hb.block b (by omega)
theorem Arr.belowZ (h : Arr w lo hi A n size xs) (hb : Below w.heap.size w w') : Arr w' lo hi A n size xs := by
  rcases Nat.eq_zero_or_pos n with h0 | h0
  · exact ⟨h.1, fun hn => by omega⟩
  · obtain ⟨_, _, _, _, h3, _⟩ := h.2 h0
    exact h.below hb h3
/-- Only block r has turned, and it lies outside. -/
theorem Arr.grown (h : Arr w lo hi A n size xs) {r : Nat} (hb : w.grownBy w' (some r)) (hr : r < lo ∨ hi ≤ r) : Arr w' lo hi A n size xs := by
  rcases Nat.eq_zero_or_pos n with h0 | h0
  · exact ⟨h.1, fun hn => by omega⟩
  · obtain ⟨_, _, _, _, h3, _⟩ := h.2 h0
    refine h.keep hb.size fun b h1 h2 => hb.block b (by omega) (by simp; omega)
theorem Arr.more (h : Arr w lo hi A n size xs) {lo' hi' : Nat} (h1 : lo' ≤ lo) (h2 : hi ≤ hi') (h3 : hi' ≤ w.heap.size) : Arr w lo' hi' A n size xs :=
  ⟨h.1, fun hn => by
    obtain ⟨g, e, a, b, c, hc⟩ := h.2 hn
    exact ⟨g, e, by omega, by omega, h3, hc⟩⟩
theorem Arr.drewN (h : Arr w lo hi A n size xs) (k : Nat) : Arr (w.drewN k) lo hi A n size xs := h
theorem Arr.drew (h : Arr w lo hi A n size xs) : Arr w.drew lo hi A n size xs := h
theorem Arr.alloc (h : Arr w lo hi A n size xs) (o : Obj) : Arr (w.alloc o) lo hi A n size xs := h.belowZ ((Below.refl _ _).alloc (Nat.le_refl _) o)
theorem Arr.nil_ (w : World) (lo hi size : Nat) (A : Option Addr) : Arr w lo hi A 0 size [] := ⟨by simp, fun h => by omega⟩
end

theorem own_belowZ {w w' : World} {base e size n : Nat} {v : Value} {xs : List Value} (h : w.ownsRow base e size v n xs) (hb : Below w.heap.size w w') : w'.ownsRow base e size v n xs := by
  refine h.kept (only_of_below hb none) ?_
  cases v.ownBlock with
  | none => exact .inl rfl
  | some k => exact .inr (by simp)
/-- What the call itself owns is such a row. -/
theorem Arr.of_own {w : World} {base e size n : Nat} {v : Value} {xs : List Value} (h : w.ownsRow base e size v n xs) : ∃ A c, v = .slice A n c ∧ n ≤ c ∧ Arr w base w.heap.size A n size xs := by
  rcases h.2 with ⟨rfl, rfl⟩ | ⟨g, cap, cur, rfl, hb, hh, hnc, _, hcs, htake⟩
  · exact ⟨none, 0, rfl, Nat.le_refl _, h.1, fun hn => by omega⟩
  · refine ⟨some ⟨g, 0, none⟩, cap, rfl, hnc, h.1, fun hn => ⟨g, rfl, hb, ?_, Nat.le_refl _, fun j hj => ⟨h.cellAt j hj, h.frozenAt j⟩⟩⟩
    exact (h.lt g rfl).2

/-- A slice that came in: its cells may be read (its block may be shared, and it may begin anywhere). -/
def InRow (w : World) (A : Option Addr) (n size : Nat) (xs : List Value) : Prop :=
  xs.length = n * size ∧ (0 < n → ∃ b o, A = some ⟨b, o, none⟩ ∧ b < w.heap.size ∧ ∀ j, j < n * size → w.cell? ⟨b, o + j, none⟩ = xs[j]?)
theorem InRow.below {w w' : World} {n size : Nat} {A : Option Addr} {xs : List Value} (h : InRow w A n size xs) (hb : Below w.heap.size w w') : InRow w' A n size xs :=
  ⟨h.1, fun hn => by
    obtain ⟨b, o, e, hl, hc⟩ := h.2 hn
    exact ⟨b, o, e, Nat.lt_of_lt_of_le hl hb.size, fun j hj => (hb.cell (p := ⟨b, o + j, none⟩) hl).trans (hc j hj)⟩⟩
theorem InRow.nil_ (w : World) (size : Nat) (A : Option Addr) : InRow w A 0 size [] := ⟨by simp, fun h => by omega⟩
theorem InRow.of_arr {w : World} {lo hi n size : Nat} {A : Option Addr} {xs : List Value} (h : Arr w lo hi A n size xs) : InRow w A n size xs :=
  ⟨h.1, fun hn => by
    obtain ⟨g, e, _, h2, h3, hc⟩ := h.2 hn
    exact ⟨g, 0, e, by omega, fun j hj => by rw [Nat.zero_add]; exact (hc j hj).1⟩⟩
theorem list_of {α : Type} {P : Nat → α → Prop} : ∀ (n : Nat), (∀ i, i < n → ∃ x, P i x) → ∃ l : List α, l.length = n ∧ ∀ i (h : i < l.length), P i l[i] := by
  intro n
  induction n with
  | zero => intro _; exact ⟨[], rfl, fun i h => by simp at h⟩
  | succ n ih =>
    intro h
    obtain ⟨l, hl, hp⟩ := ih fun i hi => h i (by omega)
    obtain ⟨x, hx⟩ := h n (by omega)
    refine ⟨l ++ [x], by simp [hl], fun i hi => ?_⟩
    rcases Nat.lt_or_ge i l.length with h1 | h1
    · rw [List.getElem_append_left h1]; exact hp i h1
    · have : i = n := by simp at hi; omega
      subst this
      rw [List.getElem_append_right h1]
      simp [hl, hx]
theorem flat_length {α : Type} (f : α → List Value) (s : Nat) (hf : ∀ x, (f x).length = s) (l : List α) : (l.flatMap f).length = l.length * s := by
  induction l with
  | nil => simp
  | cons x l ih => rw [List.flatMap_cons, List.length_append, ih, hf, List.length_cons, Nat.add_mul]; omega
theorem flat_at {α : Type} (f : α → List Value) (s : Nat) (hf : ∀ x, (f x).length = s) : ∀ (l : List α) (i j : Nat) (hi : i < l.length), j < s → (l.flatMap f)[i * s + j]? = (f l[i])[j]? := by
  intro l
  induction l with
  | nil => intro i j hi; simp at hi
  | cons x l ih =>
    intro i j hi hj
    rw [List.flatMap_cons]
    cases i with
    | zero => rw [List.getElem?_append_left (by rw [hf]; omega)]; simp
    | succ i =>
      rw [List.getElem?_append_right (by rw [hf, Nat.add_mul]; omega), hf, show (i + 1) * s + j - s = i * s + j by rw [Nat.add_mul]; omega]
      exact ih i j (by simpa using hi) hj
/-- A row whose elements' cells are known one by one. -/
theorem InRow.of_each {α : Type} {w : World} {A : Option Addr} {n s : Nat} (f : α → List Value) (hf : ∀ x, (f x).length = s) (l : List α) (hl : l.length = n)
    (hs : 0 < s) (h : 0 < n → ∃ ad, A = some ad ∧ ∀ i (hi : i < l.length) j, j < s → w.cell? (ad.add (i * s + j)) = (f l[i])[j]?) : InRow w A n s (l.flatMap f) :=
  ⟨by rw [flat_length f s hf, hl], fun hn => by
    obtain ⟨⟨b, o, spot⟩, e, hc⟩ := h hn
    have hl0 : 0 < l.length := by omega
    have h00 := hc 0 hl0 0 hs
    rw [List.getElem?_eq_getElem (by rw [hf]; exact hs)] at h00
    have hspot : spot = none := by simpa [Addr.add] using World.cell?_spot h00
    subst hspot
    have hlt : b < w.heap.size := by
      rcases Nat.lt_or_ge b w.heap.size with hlt | hge
      · exact hlt
      · exfalso
        have : w.heap[b]? = none := Array.getElem?_eq_none hge
        rw [add_off] at h00
        simp [World.cell?, this] at h00
    refine ⟨b, o, e, hlt, fun j hj => ?_⟩
    · have h0 : 0 < s := hs
      have h1 : j / s < l.length := by rw [hl]; exact Nat.div_lt_of_lt_mul (by rw [Nat.mul_comm]; exact hj)
      have h2 : j % s < s := Nat.mod_lt _ h0
      have h3 : j / s * s + j % s = j := by rw [Nat.mul_comm]; exact Nat.div_add_mod j s
      have := hc (j / s) h1 (j % s) h2
      rw [← flat_at f s hf l (j / s) (j % s) h1 h2, h3, add_off] at this
      exact this⟩
abbrev Tk := Int × Int × ByteArray
def tokC (t : Tk) : List Value := [.int .i64 t.1, .int .i64 t.2.1, .string t.2.2]
def tokCells (l : List Tk) : List Value := l.flatMap tokC
theorem tokCells_length (l : List Tk) : (tokCells l).length = l.length * 3 := flat_length _ 3 (fun _ => rfl) l
theorem tokCells_at (l : List Tk) (i : Nat) (hi : i < l.length) : (tokCells l)[i * 3]? = some (.int .i64 l[i].1) ∧ (tokCells l)[i * 3 + 1]? = some (.int .i64 l[i].2.1) ∧ (tokCells l)[i * 3 + 2]? = some (.string l[i].2.2) :=
  ⟨flat_at _ 3 (fun _ => rfl) l i 0 hi (by omega), flat_at _ 3 (fun _ => rfl) l i 1 hi (by omega), flat_at _ 3 (fun _ => rfl) l i 2 hi (by omega)⟩
theorem InRow.tok {w : World} {A : Option Addr} {n : Nat} {l : List Tk} (h : InRow w A n 3 (tokCells l)) (k : Nat) (hk : k < l.length) : ∃ b o, A = some ⟨b, o, none⟩ ∧ b < w.heap.size ∧
    w.cell? ⟨b, o + k * 3, none⟩ = some (.int .i64 l[k].1) ∧ w.cell? ⟨b, o + k * 3 + 1, none⟩ = some (.int .i64 l[k].2.1) ∧ w.cell? ⟨b, o + k * 3 + 2, none⟩ = some (.string l[k].2.2) := by
  have hl : l.length * 3 = n * 3 := by rw [← tokCells_length]; exact h.1
  obtain ⟨b, o, e, hb, hc⟩ := h.2 (by omega)
  have t := tokCells_at l k hk
  exact ⟨b, o, e, hb, (hc (k * 3) (by omega)).trans t.1, (hc (k * 3 + 1) (by omega)).trans t.2.1, (hc (k * 3 + 2) (by omega)).trans t.2.2⟩
def strCells (l : List ByteArray) : List Value := l.map .string

/-- The marks from k0 on that fill a row of n integers. -/
def markInts (k0 : Int) (n : Nat) : List Value := (List.range n).map fun (j : Nat) => .int .i64 (k0 + (j : Int))
theorem markInts_length (k0 : Int) (n : Nat) : (markInts k0 n).length = n := by simp [markInts]
theorem markInts_at (k0 : Int) (n j : Nat) (h : j < n) : (markInts k0 n)[j]? = some (.int .i64 (k0 + j)) := by simp [markInts, h]
theorem markInts_succ (k0 : Int) (n : Nat) : markInts k0 (n + 1) = markInts k0 n ++ [.int .i64 (k0 + n)] := by simp [markInts, List.range_succ]
/-- One element more is set behind a front part. -/
theorem set_prefix {α : Type} (p xs : List α) (u : α) (h : p.length < xs.length) : (p ++ xs.drop p.length).set p.length u = (p ++ [u]) ++ xs.drop (p ++ [u]).length := by
  rw [List.set_append_right _ _ (Nat.le_refl _), Nat.sub_self, List.drop_eq_getElem_cons h, List.set_cons_zero, List.append_assoc]
  simp
theorem mark_step (k0 : Int) (i : Nat) (xs : List Value) (h : i < xs.length) : (markInts k0 i ++ xs.drop i).set i (.int .i64 (k0 + i)) = markInts k0 (i + 1) ++ xs.drop (i + 1) := by
  have := set_prefix (markInts k0 i) xs (.int .i64 (k0 + i)) (by rw [markInts_length]; exact h)
  rw [markInts_length, ← markInts_succ, markInts_length] at this
  exact this

/-- make([]T, n): a new row. -/
theorem wpList_mk {P : Program} (w : World) {ops : Array Oper} {rest : List Oper} {o : Oper} {a : Act} {Q : Exit → Act → World → Prop}
    (hg : o.guard = none) (l c : Operand) (t : TypeId) (hop : o.op = Op.makeSlice t l c)
    (e : TypeId) (i : TypeInfo) (z : Value) (size : Nat) (h1 : P.underlying t = some (.slice e)) (h2 : P.info? e = some i) (h3 : i.zero = some z) (h4 : i.size = size)
    (kl kc : IntKind) (L C : Int) (n : Nat) (hl : a.eval l = .int kl L) (hc : a.eval c = .int kc C) (hL : L = (n : Int)) (hC : C = (n : Int)) (b2 : i.bytes * n ≤ 281474976710656) (b3 : n ≤ maxLen)
    (hK : ∀ w' zs, Arr w' w.heap.size w'.heap.size (some ⟨w.heap.size, 0, none⟩) n size zs → Below w.heap.size w w' → wpList P ops Q rest (a.put o.dst (.slice (some ⟨w.heap.size, 0, none⟩) n n)) w') :
    wpList P ops Q (o :: rest) a w := by
  refine wpList_make_full w hg l c t hop w.heap.size e i z size h1 h2 h3 h4 kl kc L C n hl hc hL hC b2 b3 (Nat.le_refl _) fun w' hown hgr => ?_
  obtain ⟨A1, c1, e1, _, ha1⟩ := Arr.of_own hown
  obtain rfl : A1 = some ⟨w.heap.size, 0, none⟩ := by injection e1 with e1 _ _; exact e1.symm
  exact hK w' _ ha1 ((Below.refl _ _).grown hgr (Nat.le_refl _) (by simp))

/-- Of what was there only the blocks from lo to hi (hi itself not) may have turned. -/
structure Within (lo hi : Nat) (w w' : World) : Prop where
  os : w'.os = w.os
  tape : w'.tape = w.tape
  output : w'.output = w.output
  size : w.heap.size ≤ w'.heap.size
  block : ∀ b, b < w.heap.size → (b < lo ∨ hi ≤ b) → w'.heap[b]? = w.heap[b]?
section
variable {w w' w'' : World} {lo hi : Nat}
theorem Within.refl (lo hi : Nat) (w : World) : Within lo hi w w := ⟨rfl, rfl, rfl, Nat.le_refl _, fun _ _ _ => rfl⟩
theorem Within.trans (h : Within lo hi w w') (k : Within lo hi w' w'') : Within lo hi w w'' :=
  ⟨k.os.trans h.os, k.tape.trans h.tape, k.output.trans h.output, Nat.le_trans h.size k.size, fun b hb ho => (k.block b (Nat.lt_of_lt_of_le hb h.size) ho).trans (h.block b hb ho)⟩
theorem Within.of_below (h : Below w.heap.size w w') (lo hi : Nat) : Within lo hi w w' := ⟨h.os, h.tape, h.output, h.size, fun b hb _ => h.block b hb⟩
theorem Within.setCell (w : World) {p : Addr} (h1 : lo ≤ p.block) (h2 : p.block < hi) (u : Value) : Within lo hi w (w.setCell p u) :=
  ⟨rfl, rfl, rfl, by simp [World.setCell], fun b _ ho => Below.heap_setCell w p u b (by omega)⟩
theorem Within.drew (h : Within lo hi w w') : Within lo hi w w'.drew := ⟨h.os, h.tape, h.output, h.size, h.block⟩
theorem Within.drewN (h : Within lo hi w w') (n : Nat) : Within lo hi w (w'.drewN n) := ⟨h.os, h.tape, h.output, h.size, h.block⟩
theorem Within.below (h : Within lo hi w w') {B : Nat} (hB : B ≤ lo) (hw : B ≤ w.heap.size) : Below B w w' := ⟨h.os, h.tape, h.output, h.size, fun b hb => h.block b (by omega) (by omega)⟩
theorem Within.mono (h : Within lo hi w w') {lo' hi' : Nat} (h1 : lo' ≤ lo) (h2 : hi ≤ hi') : Within lo' hi' w w' := ⟨h.os, h.tape, h.output, h.size, fun b hb ho => h.block b hb (by omega)⟩
theorem Arr.within {lo' hi' n size : Nat} {A : Option Addr} {xs : List Value} (h : Arr w lo' hi' A n size xs) (hb : Within lo hi w w') (ho : hi' ≤ lo ∨ hi ≤ lo') : Arr w' lo' hi' A n size xs := by
  rcases Nat.eq_zero_or_pos n with h0 | h0
  · exact ⟨h.1, fun hn => by omega⟩
  · obtain ⟨_, _, _, _, h3, _⟩ := h.2 h0
    exact h.keep hb.size fun b h1 h2 => hb.block b (by omega) (by omega)
/-- A store into the row. -/
theorem Arr.set_ {g n size : Nat} {xs : List Value} (h : Arr w lo hi (some ⟨g, 0, none⟩) n size xs) {j : Nat} (hj : j < n * size) (u : Value) : Arr (w.setCell ⟨g, j, none⟩ u) lo hi (some ⟨g, 0, none⟩) n size (xs.set j u) := by
  refine ⟨by simp [h.1], fun hn => ?_⟩
  obtain ⟨g', e, h1, h2, h3, hc⟩ := h.2 hn
  obtain rfl : g = g' := by injection e with e; injection e
  refine ⟨g, rfl, h1, h2, by simpa [World.setCell] using h3, fun i hi => ⟨?_, ?_⟩⟩
  · by_cases he : i = j
    · subst he
      rw [List.getElem?_set_self (by rw [h.1]; exact hj)]
      have := (hc i hi).1
      rw [List.getElem?_eq_getElem (by rw [h.1]; exact hj)] at this
      exact World.cell?_setCell_same _ _ _ this
    · rw [List.getElem?_set_ne (by omega), World.cell?_setCell_other _ _ _ _ (fun h => he (by injection h with _ h _; exact h.symm))]
      exact (hc i hi).1
  · rw [World.frozen?_setCell]
    exact (hc i hi).2
end

end Go.Proofs.Ytcfjbaanahgpoaa
