/- Lines: what a slice of lines holds, read and owned. No program in sight. -/
import Derived.Test.YtcfjbaanahgpoaaOwn
import Derived.Test.YtcfjbaanahgpoaaStrS
namespace Go.Proofs.Ytcfjbaanahgpoaa
open Go.RowKit
set_option maxRecDepth 100000

/-- Whether two are the same. -/
noncomputable def same {α : Type} (a b : α) : Bool := @decide (a = b) (Classical.propDecidable _)
theorem same_of {α : Type} {a b : α} (h : a = b) : same a b = true := @decide_eq_true _ (Classical.propDecidable _) h
theorem same_not {α : Type} {a b : α} (h : a ≠ b) : same a b = false := @decide_eq_false _ (Classical.propDecidable _) h
/-- Kind, name, arguments, expression. -/
abbrev Ln := Int × ByteArray × List ByteArray × List Tk
/-- Where the two slices of a line lie, with their capacities. -/
abbrev Ad2 := Option Addr × Nat × Option Addr × Nat
abbrev LP := Ln × Ad2
def lnC (p : LP) : List Value := [.int .i64 p.1.1, .string p.1.2.1, .slice p.2.1 p.1.2.2.1.length p.2.2.1, .slice p.2.2.2.1 p.1.2.2.2.length p.2.2.2.2]
def LnIn (w : World) (x : Ln) (A1 : Option Addr) (c1 : Nat) (A2 : Option Addr) (c2 : Nat) : Prop :=
  InRow w A1 x.2.2.1.length 1 (strCells x.2.2.1) ∧ InRow w A2 x.2.2.2.length 3 (tokCells x.2.2.2) ∧ x.2.2.1.length ≤ c1 ∧ c1 ≤ maxLen ∧ x.2.2.2.length ≤ c2 ∧ c2 ≤ maxLen
def LnSz (x : Ln) : Prop := x.2.1.size ≤ maxLen ∧ (∀ s ∈ x.2.2.1, s.size ≤ maxLen) ∧ ∀ t ∈ x.2.2.2, t.2.2.size ≤ maxLen
def InLines (w : World) (A : Option Addr) (n : Nat) (L : List Ln) : Prop :=
  ∃ P : List LP, P.map Prod.fst = L ∧ InRow w A n 4 (P.flatMap lnC) ∧ ∀ p ∈ P, LnIn w p.1 p.2.1 p.2.2.1 p.2.2.2.1 p.2.2.2.2
section
variable {w w' : World} {A : Option Addr} {n : Nat} {L : List Ln}
theorem LnIn.below {x : Ln} {A1 A2 : Option Addr} {c1 c2 : Nat} (h : LnIn w x A1 c1 A2 c2) (hb : Below w.heap.size w w') : LnIn w' x A1 c1 A2 c2 := ⟨h.1.below hb, h.2.1.below hb, h.2.2⟩
theorem LnIn.drew {x : Ln} {A1 A2 : Option Addr} {c1 c2 : Nat} (h : LnIn w x A1 c1 A2 c2) : LnIn w.drew x A1 c1 A2 c2 := h
theorem InLines.below (h : InLines w A n L) (hb : Below w.heap.size w w') : InLines w' A n L := by
  obtain ⟨P, e, h1, h2⟩ := h
  exact ⟨P, e, h1.below hb, fun p hp => (h2 p hp).below hb⟩
theorem InLines.len (h : InLines w A n L) : L.length = n := by
  obtain ⟨P, rfl, h1, _⟩ := h
  have := h1.1
  rw [flat_length lnC 4 (fun _ => rfl)] at this
  simp; omega
theorem InLines.nil_ (w : World) (A : Option Addr) : InLines w A 0 [] := ⟨[], rfl, InRow.nil_ _ _ _, fun p h => by simp at h⟩
theorem InLines.ln (h : InLines w A n L) (k : Nat) (hk : k < L.length) : ∃ b o A1 c1 A2 c2, A = some ⟨b, o, none⟩ ∧ b < w.heap.size ∧ w.cell? ⟨b, o + k * 4, none⟩ = some (.int .i64 L[k].1) ∧
    w.cell? ⟨b, o + k * 4 + 1, none⟩ = some (.string L[k].2.1) ∧ w.cell? ⟨b, o + k * 4 + 2, none⟩ = some (.slice A1 L[k].2.2.1.length c1) ∧ w.cell? ⟨b, o + k * 4 + 3, none⟩ = some (.slice A2 L[k].2.2.2.length c2) ∧ LnIn w L[k] A1 c1 A2 c2 := by
  have hl := h.len
  obtain ⟨P, rfl, h1, h2⟩ := h
  have hk' : k < P.length := by simpa using hk
  obtain ⟨b, o, e, hb, hc⟩ := h1.2 (by omega)
  have t := fun j hj => flat_at lnC 4 (fun _ => rfl) P k j hk' hj
  have hn : k * 4 + 3 < n * 4 := by omega
  simp only [List.getElem_map]
  exact ⟨b, o, P[k].2.1, P[k].2.2.1, P[k].2.2.2.1, P[k].2.2.2.2, e, hb, (hc (k * 4) (by omega)).trans (t 0 (by omega)), (hc (k * 4 + 1) (by omega)).trans (t 1 (by omega)), (hc (k * 4 + 2) (by omega)).trans (t 2 (by omega)), (hc (k * 4 + 3) (by omega)).trans (t 3 (by omega)), h2 _ (List.getElem_mem hk')⟩
end
/-- The rows of a line's own. -/
def lnRows (p : LP) : List Rw := [(p.2.1, p.1.2.2.1.length, 1, strCells p.1.2.2.1), (p.2.2.2.1, p.1.2.2.2.length, 3, tokCells p.1.2.2.2)]
def lnCap (p : LP) : Prop := p.1.2.2.1.length ≤ p.2.2.1 ∧ p.2.2.1 ≤ maxLen ∧ p.1.2.2.2.length ≤ p.2.2.2.2 ∧ p.2.2.2.2 ≤ maxLen
def OwnP (w : World) (lo hi : Nat) (A : Option Addr) (P : List LP) : Prop := Own w lo hi ((A, P.length, 4, P.flatMap lnC) :: P.flatMap lnRows) ∧ ∀ p ∈ P, lnCap p
def OwnLines (w : World) (lo hi : Nat) (A : Option Addr) (L : List Ln) : Prop := ∃ P : List LP, P.map Prod.fst = L ∧ OwnP w lo hi A P
section
variable {w w' : World} {A : Option Addr} {lo hi : Nat} {L : List Ln} {P : List LP}
theorem OwnP.belowZ (h : OwnP w lo hi A P) (hb : Below w.heap.size w w') : OwnP w' lo hi A P := ⟨h.1.belowZ hb, h.2⟩
theorem OwnP.below (h : OwnP w lo hi A P) {B : Nat} (hb : Below B w w') (hB : hi ≤ B) : OwnP w' lo hi A P := ⟨h.1.below hb hB, h.2⟩
theorem OwnP.within {a b : Nat} (h : OwnP w lo hi A P) (hb : Within a b w w') (ho : hi ≤ a ∨ b ≤ lo) : OwnP w' lo hi A P := ⟨h.1.within hb ho, h.2⟩
theorem OwnLines.belowZ (h : OwnLines w lo hi A L) (hb : Below w.heap.size w w') : OwnLines w' lo hi A L := by
  obtain ⟨P, e, h⟩ := h; exact ⟨P, e, h.belowZ hb⟩
theorem OwnLines.within {a b : Nat} (h : OwnLines w lo hi A L) (hb : Within a b w w') (ho : hi ≤ a ∨ b ≤ lo) : OwnLines w' lo hi A L := by
  obtain ⟨P, e, h⟩ := h; exact ⟨P, e, h.within hb ho⟩
theorem lnIn_of_own {p : LP} (h : ∀ r ∈ lnRows p, Arr w lo hi r.1 r.2.1 r.2.2.1 r.2.2.2) (hc : lnCap p) : LnIn w p.1 p.2.1 p.2.2.1 p.2.2.2.1 p.2.2.2.2 :=
  ⟨.of_arr (h (p.2.1, p.1.2.2.1.length, 1, strCells p.1.2.2.1) (by simp [lnRows])), .of_arr (h (p.2.2.2.1, p.1.2.2.2.length, 3, tokCells p.1.2.2.2) (by simp [lnRows])), hc⟩
theorem OwnP.in_ (h : OwnP w lo hi A P) : InLines w A P.length (P.map Prod.fst) :=
  ⟨P, rfl, .of_arr (h.1.rows _ List.mem_cons_self), fun p hp => lnIn_of_own (fun r hr => h.1.rows r (List.mem_cons_of_mem _ (List.mem_flatMap.2 ⟨p, hp, hr⟩))) (h.2 p hp)⟩
theorem OwnLines.in_ (h : OwnLines w lo hi A L) {n : Nat} (hn : L.length = n) : InLines w A n L := by
  obtain ⟨P, rfl, h⟩ := h
  have := h.in_
  rw [List.length_map] at hn
  rwa [hn] at this
end
/-! Marks. -/
def mkStrL (k0 : Int) (n : Nat) : List ByteArray := (List.range n).map fun (j : Nat) => markT (k0 + (j : Int))
def mkTokL (k0 : Int) (n : Nat) : List Tk := (List.range n).map fun (j : Nat) => (k0 + (j * 3 : Nat), k0 + (j * 3 : Nat) + 1, markT (k0 + (j * 3 : Nat) + 2))
theorem mkStrL_length (k0 : Int) (n : Nat) : (mkStrL k0 n).length = n := by simp [mkStrL]
theorem mkTokL_length (k0 : Int) (n : Nat) : (mkTokL k0 n).length = n := by simp [mkTokL]
theorem markStrs_cells (k0 : Int) (n : Nat) : markStrs k0 n = strCells (mkStrL k0 n) := by simp [markStrs, strCells, mkStrL]
theorem flatMap_map' {α β γ : Type} (f : α → β) (g : β → List γ) (l : List α) : (l.map f).flatMap g = l.flatMap fun a => g (f a) := by
  induction l with
  | nil => rfl
  | cons a l ih => simp [ih]
theorem markToks_cells (k0 : Int) (n : Nat) : markToks k0 n = tokCells (mkTokL k0 n) := by
  unfold markToks tokCells mkTokL
  rw [flatMap_map']
  rfl
def lnCnt (x : Ln) : Nat := 2 + x.2.2.1.length + x.2.2.2.length * 3
def lnsCnt (L : List Ln) : Nat := (L.map lnCnt).sum
def mkLn (k0 : Int) (x : Ln) : Ln := (k0, markT (k0 + 1), mkStrL (k0 + 2) x.2.2.1.length, mkTokL (k0 + 2 + x.2.2.1.length) x.2.2.2.length)
def mkLns (k0 : Int) : List Ln → List Ln
  | [] => []
  | x :: L => mkLn k0 x :: mkLns (k0 + lnCnt x) L
def mkP (k0 : Int) : List LP → List LP
  | [] => []
  | p :: P => (mkLn k0 p.1, p.2) :: mkP (k0 + lnCnt p.1) P
theorem mkP_map (P : List LP) : ∀ k0, (mkP k0 P).map Prod.fst = mkLns k0 (P.map Prod.fst) := by
  induction P with
  | nil => intro k0; rfl
  | cons p P ih => intro k0; simp [mkP, mkLns, ih]
theorem mkP_length (P : List LP) : ∀ k0, (mkP k0 P).length = P.length := by
  induction P with
  | nil => intro k0; rfl
  | cons p P ih => intro k0; simp [mkP, ih]
theorem mkLns_length (L : List Ln) : ∀ k0, (mkLns k0 L).length = L.length := by
  induction L with
  | nil => intro k0; rfl
  | cons x L ih => intro k0; simp [mkLns, ih]
theorem lnsCnt_snoc (L : List Ln) (x : Ln) : lnsCnt (L ++ [x]) = lnsCnt L + lnCnt x := by simp [lnsCnt]
theorem lnsCnt_take_le (L : List Ln) (k : Nat) : lnsCnt (L.take k) ≤ lnsCnt L := by
  have : lnsCnt L = lnsCnt (L.take k) + lnsCnt (L.drop k) := by
    unfold lnsCnt
    rw [← List.sum_append, ← List.map_append, List.take_append_drop]
  omega
theorem mkP_snoc (P : List LP) (p : LP) : ∀ k0, mkP k0 (P ++ [p]) = mkP k0 P ++ [(mkLn (k0 + lnsCnt (P.map Prod.fst)) p.1, p.2)] := by
  induction P with
  | nil => intro k0; simp [mkP, lnsCnt]
  | cons q P ih =>
    intro k0
    simp only [List.cons_append, mkP, ih, List.map_cons]
    congr 5
    unfold lnsCnt
    simp
    omega
theorem mkLns_at (L : List Ln) : ∀ (k0 : Int) (k : Nat) (h : k < L.length), (mkLns k0 L)[k]'(by rw [mkLns_length]; exact h) = mkLn (k0 + lnsCnt (L.take k)) L[k] := by
  induction L with
  | nil => intro k0 k h; simp at h
  | cons x L ih =>
    intro k0 k h
    cases k with
    | zero => simp [mkLns, lnsCnt]
    | succ k =>
      simp only [mkLns, List.getElem_cons_succ, List.take_succ_cons]
      rw [ih _ k (by simpa using h)]
      congr 1
      unfold lnsCnt
      simp
      omega
/-- A cell within a middle part is set. -/
theorem set_mid {α : Type} (a b c : List α) (j : Nat) (u : α) (hj : j < b.length) : (a ++ (b ++ c)).set (a.length + j) u = a ++ (b.set j u ++ c) := by
  rw [List.set_append_right _ _ (by omega), Nat.add_sub_cancel_left, List.set_append_left _ _ hj]
theorem set_four {α : Type} (p xs : List α) (a b c d : α) (j : Nat) (e : p.length = j) (h : j + 4 ≤ xs.length) :
    ((((p ++ xs.drop j).set j a).set (j + 1) b).set (j + 2) c).set (j + 3) d = p ++ [a, b, c, d] ++ xs.drop (j + 4) := by
  subst e
  have s1 := set_prefix p xs a (by omega)
  have s2 := set_prefix (p ++ [a]) xs b (by simp; omega)
  have s3 := set_prefix (p ++ [a] ++ [b]) xs c (by simp; omega)
  have s4 := set_prefix (p ++ [a] ++ [b] ++ [c]) xs d (by simp; omega)
  simp only [List.length_append, List.length_cons, List.length_nil, Nat.zero_add] at s1 s2 s3 s4
  rw [s1, s2, s3, s4]
  simp
end Go.Proofs.Ytcfjbaanahgpoaa
