import Derived.Test.YtcfjbaanahgpoaaCnPX
import Derived.Test.YtcfjbaanahgpoaaFold0
import Derived.Test.YtcfjbaanahgpoaaPokY
import Derived.Test.YtcfjbaanahgpoaaOwnG
import Derived.Test.YtcfjbaanahgpoaaApp
import Derived.Test.YtcfjbaanahgpoaaDrE
import Derived.Deep.RegionHeld3
namespace Go.Proofs.Ytcfjbaanahgpoaa
open Go Go.RowKit
set_option maxRecDepth 100000
set_option linter.unusedVariables false
/-! What the compiler puts, as functions of what it reads. No program in sight. -/
/-- Of a compiler: its instructions, the most words, the depth. -/
structure Sg where
  ops : List (Int × Int)
  m : Int
  d : Int
/-- Of a scope. -/
structure Sp where
  fu : Int
  en : Int
  ar : Int
  fi : Int
  ba : Int
  xs : List ByteArray
  nl : Nat
  nc : Nat
/-- What does not turn while a function is compiled. -/
structure Cp where
  fr : Bool
  inl : Int
  words : Int
  L : List Ln
/-- A walk over lines: what is put, the tests and jumps still open, where lines begin, the jumps to the end. -/
structure Ls where
  g : Sg
  z : Nat → Option Nat
  o : Nat → Option Nat
  f : Nat → Nat
  J : List Int
def addF (g : Sg) (code arg change : Int) : Sg := ⟨g.ops ++ [(code, arg)], g.m, wrap64 (g.d + change)⟩
def accF (fr : Bool) (sp : Sp) (g : Sg) (i : Int) (st : Bool) : Sg :=
  addF g ((if fr then 1 else 3) + (if st then 1 else 0))
    (if sp.nc = 0 then (if i < sp.ar then (if fr then 1 + sp.ar - i else g.d + sp.ar - i) else (if fr then -1 - (i - sp.ar) else g.d - 1 - (i - sp.ar))) else (if fr then -1 - (sp.fi + i) else g.d - 1 - (sp.fi + i)))
    (if st then -1 else 1)
def wordF (fr : Bool) (fi : Int) (g : Sg) (i : Int) : Sg := addF g (if fr then 2 else 4) (if fr then -1 - (fi + i) else g.d - 1 - (fi + i)) (-1)
def leaF (fr : Bool) (words : Int) (sp : Sp) (g : Sg) : Sg := if fr then addF g 14 sp.ar (-1) else addF g 16 (sp.ar + 16 * words) (-1)
def patchF (g : Sg) (j : Nat) : Sg := { g with ops := g.ops.set j ((g.ops.getD j (0, 0)).1, (g.ops.length : Int)) }
def repbF (c : Cp) (ns : List Int) (nc : Nat) (k : Int) (len : Nat) : Bool := decide ((nc : Int) < c.inl) && (!decide (k ∈ ns) && (decide (endOfF c.L k - k ≤ 9) && decide (len < 200)))
/-- An instruction for a token, when its operands are there. -/
def exprT (c : Cp) (ns : List Int) (sp : Sp) (rep : Nat → Nat → Sg → Sg) (begin : Nat) (kd num : Int) (nm : ByteArray) (g1 : Sg) : Sg :=
  if kd = 0 then addF g1 0 num 1
  else if kd = 1 then accF c.fr sp g1 (idxF sp.xs nm) false
  else if kd = 7 then
    (if repbF c ns sp.nc (findF c.L nm) g1.ops.length = true then rep (findF c.L nm).toNat begin g1
    else addF g1 12 (ixF (funsF c.L) (findF c.L nm)) (1 - num))
  else addF g1 (3 + kd) 0 (-1)
def exprF (c : Cp) (ns : List Int) (sp : Sp) (rep : Nat → Nat → Sg → Sg) (e : List Tk) (begin : Nat) : Nat → Nat → Sg → Sg
  | 0, _, g => g
  | m + 1, p, g => exprT c ns sp rep begin (tkAt e p).1 (tkAt e p).2.1 (tkAt e p).2.2 ((opsL e (tkAr (tkAt e p)).toNat ((p + 1 : Nat) : Int)).foldl (fun g o => exprF c ns sp rep e begin m o.toNat g) g)
def wordsDn (fr : Bool) (fi : Int) : Nat → Sg → Sg
  | 0, g => g
  | n + 1, g => wordsDn fr fi n (wordF fr fi g (n : Int))
def wordsUp (fr : Bool) (fi : Int) : Nat → Nat → Sg → Sg
  | 0, _, g => g
  | n + 1, i, g => wordsUp fr fi n (i + 1) (wordF fr fi (addF g 0 0 1) (i : Int))
def spcF (begin : Nat) (g : Sg) : Sg := if g.ops.length = begin then addF g 15 0 0 else g
def fiF (sp : Sp) : Int := if sp.nc = 0 then sp.fi + (sp.nl : Int) - sp.ar else sp.fi + (sp.nl : Int)
/-- Where the words of a replaced call's variables are stored, and what comes ahead of its lines. -/
noncomputable def headF (c : Cp) (sp : Sp) (k begin : Nat) (g : Sg) : Sg :=
  spcF begin (wordsUp c.fr (fiF sp) ((locF c.L (k : Int)).length - (lnAtD c.L k).2.2.1.length) (lnAtD c.L k).2.2.1.length (wordsDn c.fr (fiF sp) (lnAtD c.L k).2.2.1.length { g with m := max g.m (fiF sp + ((locF c.L (k : Int)).length : Nat)) }))
noncomputable def inSp (c : Cp) (sp : Sp) (k : Nat) (d : Int) : Sp := ⟨k, endOfF c.L k, ((lnAtD c.L k).2.2.1.length : Nat), fiF sp, d, locF c.L (k : Int), (locF c.L (k : Int)).length, sp.nc + 1⟩
noncomputable def replaceF (lin : List Int → Sp → Sg → Sg × List Int) (c : Cp) (ns : List Int) (sp : Sp) (k begin : Nat) (g : Sg) : Sg :=
  let g4 := headF c sp k begin g
  let r := lin (ns ++ [(k : Int)]) (inSp c sp k g4.d) g4
  let g5 := r.2.foldl (fun g j => patchF g j.toNat) r.1
  { g5 with d := wrap64 (g4.d + 1) }
def setO (z : Nat → Option Nat) (k v : Nat) : Nat → Option Nat := fun j => if j = k then some v else z j
def delO (z : Nat → Option Nat) (k : Nat) : Nat → Option Nat := fun j => if j = k then none else z j
def setN (f : Nat → Nat) (k v : Nat) : Nat → Nat := fun j => if j = k then v else f j
/-- A jump that may be open is led here. -/
def patchO (g : Sg) (j : Option Nat) : Sg := match j with | some j => patchF g j | none => g
def endLn (c : Cp) (sp : Sp) (k : Nat) (st : Ls) : Sg :=
  if (lnAtD c.L k).1 = 0 then (if sp.nc = 0 then leaF c.fr c.words sp (addF st.g 0 0 1) else addF st.g 0 0 1)
  else patchO (patchO (if (lnAtD c.L k).1 = 5 then addF st.g 10 (st.f k) 0 else st.g) (st.z k)) (st.o k)
/-- Whose end or else a line is. -/
def ownF (L : List Ln) : Nat → List Int
  | 0 => List.replicate L.length 0
  | k + 1 =>
    let xs := if 0 ≤ endOfF L (k : Int) then (ownF L k).set (endOfF L (k : Int)).toNat (k : Int) else ownF L k
    if 0 ≤ elseOfF L (k : Int) then xs.set (elseOfF L (k : Int)).toNat (k : Int) else xs
def ownAt (L : List Ln) (i : Nat) : Nat := ((ownF L L.length).getD i 0).toNat
/-- A line's expression. -/
def lineE (c : Cp) (ns : List Int) (rep : Nat → Nat → Sg → Sg) (sp : Sp) (i : Nat) (st : Ls) : Ls :=
  { st with
    g := if hasExprF (lnAtD c.L i).1 then exprF c ns sp rep (lnAtD c.L i).2.2.2 st.g.ops.length (lnAtD c.L i).2.2.2.length 0 { st.g with d := sp.ba } else { st.g with d := sp.ba }
    f := setN st.f i st.g.ops.length }
def lineK (c : Cp) (sp : Sp) (i : Nat) (s : Ls) : Ls :=
  if (lnAtD c.L i).1 = 1 then { s with g := accF c.fr sp s.g (idxF sp.xs (lnAtD c.L i).2.1) true }
  else if (lnAtD c.L i).1 = 2 then { s with g := addF s.g 17 0 (-1) }
  else if (lnAtD c.L i).1 = 3 ∨ (lnAtD c.L i).1 = 5 then { s with g := addF s.g 11 0 (-1), z := setO s.z i s.g.ops.length }
  else if (lnAtD c.L i).1 = 4 then { s with g := patchO (addF s.g 10 0 0) (s.z (ownAt c.L i)), z := delO s.z (ownAt c.L i), o := setO s.o (ownAt c.L i) s.g.ops.length }
  else if (lnAtD c.L i).1 = 6 then (if sp.nc = 0 then { s with g := leaF c.fr c.words sp s.g } else { s with g := addF s.g 10 0 (-1), J := s.J ++ [(s.g.ops.length : Int)] })
  else if (lnAtD c.L i).1 = 7 then { s with g := endLn c sp (ownAt c.L i) s }
  else s
def linesN (c : Cp) (ns : List Int) (rep : Nat → Nat → Sg → Sg) (sp : Sp) (fu : Nat) (s0 : Ls) : Nat → Ls
  | 0 => s0
  | n + 1 => lineK c sp (fu + 1 + n) (lineE c ns rep sp (fu + 1 + n) (linesN c ns rep sp fu s0 n))
def ls0 (g : Sg) : Ls := ⟨g, fun _ => none, fun _ => none, fun _ => 0, []⟩
def linesF (c : Cp) (ns : List Int) (rep : Nat → Nat → Sg → Sg) (sp : Sp) (g : Sg) : Sg × List Int :=
  ((linesN c ns rep sp sp.fu.toNat (ls0 g) (sp.en - sp.fu).toNat).g, (linesN c ns rep sp sp.fu.toNat (ls0 g) (sp.en - sp.fu).toNat).J)
/-- Lines, when calls may be replaced so many times within each other. -/
noncomputable def linK (c : Cp) : Nat → List Int → Sp → Sg → Sg × List Int
  | 0 => fun ns sp g => linesF c ns (fun _ _ g => g) sp g
  | m + 1 => fun ns sp g => linesF c ns (fun k b g => replaceF (linK c m) c ns sp k b g) sp g
/-- A whole function. -/
noncomputable def compF (c : Cp) (k : Nat) : Sg :=
  (linK c c.inl.toNat [(k : Int)] ⟨k, endOfF c.L (k : Int), ((lnAtD c.L k).2.2.1.length : Nat), 0, c.words, locF c.L (k : Int), (locF c.L (k : Int)).length, 0⟩
    (addF ⟨[], ((locF c.L (k : Int)).length : Int) - ((lnAtD c.L k).2.2.1.length : Nat), 0⟩ (if c.fr then 13 else 15) c.words c.words)).1
theorem wordsDn_step (fr : Bool) (fi : Int) (g : Sg) (i : Int) (h : 0 ≤ i) : wordsDn fr fi (i + 1).toNat g = wordsDn fr fi (i - 1 + 1).toNat (wordF fr fi g i) := by
  obtain ⟨n, rfl⟩ := Int.eq_ofNat_of_zero_le h
  rw [show ((n : Int) + 1).toNat = n + 1 by omega, show ((n : Int) - 1 + 1).toNat = n by omega, wordsDn]
theorem wordsUp_step (fr : Bool) (fi : Int) (g : Sg) (n i : Nat) (h : i < n) : wordsUp fr fi (n - i) i g = wordsUp fr fi (n - (i + 1)) (i + 1) (wordF fr fi (addF g 0 0 1) (i : Int)) := by
  rw [show n - i = n - (i + 1) + 1 by omega, wordsUp]
theorem addF_len (g : Sg) (a b c : Int) : (addF g a b c).ops.length = g.ops.length + 1 := by simp [addF]
end Go.Proofs.Ytcfjbaanahgpoaa
namespace Go.Proofs.Ytcfjbaanahgpoaa
open Go Go.RowKit
set_option maxRecDepth 100000
set_option linter.unusedVariables false
/-! What a compiler holds: calls may be replaced; all numbers are bounded. -/
structure It where
  code : Int
  arg : Int
  line : Int
  start : Bool
  A : Option Addr
  n : Nat
  c : Nat
  dep : Int
  ent : Bool
def itC (x : It) : List Value := [.int .i64 x.code, .int .i64 x.arg, .int .i64 x.line, .bool x.start, .slice x.A x.n x.c, .int .i64 x.dep, .bool x.ent]
structure Prm where
  A : Option Addr
  n : Nat
  c : Nat
  fr : Int
  inl : Int
  fold : Bool
  split : Bool
  framed : Bool
  words : Int
  ins : Nat
  ns : List Int
  tb : List Nat
/-- Only the compiler's block and some rows have turned; a row may be a new one. -/
structure Ev (gc : Nat) (R : List Nat) (w : World) (R' : List Nat) (w' : World) : Prop where
  os : w'.os = w.os
  tape : w'.tape = w.tape
  output : w'.output = w.output
  size : w.heap.size ≤ w'.heap.size
  block : ∀ b, b < w.heap.size → b ≠ gc → b ∉ R → w'.heap[b]? = w.heap[b]?
  row : ∀ b, b ∈ R' → b ∈ R ∨ w.heap.size ≤ b
section
variable {gc B : Nat} {R R1 R2 : List Nat} {w w1 w2 : World}
theorem Ev.refl (gc : Nat) (R : List Nat) (w : World) : Ev gc R w R w := ⟨rfl, rfl, rfl, Nat.le_refl _, fun _ _ _ _ => rfl, fun _ h => .inl h⟩
theorem Ev.ne {g : Nat} (h : Ev gc R w R1 w1) (hg : g < w.heap.size) (h2 : g ∉ R) : g ∉ R1 := fun e => by
  rcases h.row g e with h1 | h1
  · exact h2 h1
  · omega
theorem Ev.trans (h : Ev gc R w R1 w1) (k : Ev gc R1 w1 R2 w2) : Ev gc R w R2 w2 := by
  refine ⟨k.os.trans h.os, k.tape.trans h.tape, k.output.trans h.output, Nat.le_trans h.size k.size, fun b hb h1 h2 => (k.block b (Nat.lt_of_lt_of_le hb h.size) h1 (h.ne hb h2)).trans (h.block b hb h1 h2), fun b hb => ?_⟩
  rcases k.row b hb with h1 | h1
  · exact h.row b h1
  · exact .inr (Nat.le_trans h.size h1)
theorem Ev.of_below (h : Below w.heap.size w w1) (gc : Nat) (R : List Nat) : Ev gc R w R w1 := ⟨h.os, h.tape, h.output, h.size, fun b hb _ _ => h.block b hb, fun _ h => .inl h⟩
theorem Ev.of_cell (h : w.grownBy w1 (some gc)) (R : List Nat) : Ev gc R w R w1 := ⟨h.os, h.tape, h.output, h.size, fun b hb h1 _ => h.block b hb (by simpa using h1), fun _ h => .inl h⟩
theorem Ev.of_row {row : Option Nat} (h : w.grownBy w1 row) (gc : Nat) (hr : ∀ b, row = some b → b < w.heap.size → b ∈ R) (hr' : ∀ b, b ∈ R1 → b ∈ R ∨ w.heap.size ≤ b) : Ev gc R w R1 w1 :=
  ⟨h.os, h.tape, h.output, h.size, fun b hb _ h2 => h.block b hb (fun e => h2 (hr b e.symm hb)), hr'⟩
theorem Ev.blk {g : Nat} {t : TypeId} {cs : Array Value} (h : Ev gc R w R1 w1) (k : Blk w g t cs) (h1 : g ≠ gc) (h2 : g ∉ R) : Blk w1 g t cs := (h.block g k.lt h1 h2).trans k
theorem Ev.below (h : Ev gc R w R1 w1) (hg : B ≤ gc) (hi : ∀ b, b ∈ R → B ≤ b) (hB : B ≤ w.heap.size) : Below B w w1 :=
  ⟨h.os, h.tape, h.output, h.size, fun b hb => h.block b (by omega) (by omega) (fun e => by have := hi b e; omega)⟩
/-- Seen with more rows. -/
theorem Ev.more (X : List Nat) (h : Ev gc R w R1 w1) : Ev gc (X ++ R) w (X ++ R1) w1 :=
  ⟨h.os, h.tape, h.output, h.size, fun b hb h1 h2 => h.block b hb h1 (fun e => h2 (List.mem_append_right _ e)), fun b hb => by
    rcases List.mem_append.1 hb with h1 | h1
    · exact .inl (List.mem_append_left _ h1)
    · rcases h.row b h1 with h2 | h2
      · exact .inl (List.mem_append_right _ h2)
      · exact .inr h2⟩
/-- New rows are forgotten. -/
theorem Ev.less {X : List Nat} (h : Ev gc R w R1 w1) (hX : ∀ b ∈ X, b ∈ R1) : Ev gc R w X w1 := ⟨h.os, h.tape, h.output, h.size, h.block, fun b hb => h.row b (hX b hb)⟩
/-- Rows that were not there at first. -/
theorem Ev.fresh {X : List Nat} (h : Ev gc (X ++ R) w R1 w1) (hX : ∀ b ∈ X, w.heap.size ≤ b) : Ev gc R w R1 w1 :=
  ⟨h.os, h.tape, h.output, h.size, fun b hb h1 h2 => h.block b hb h1 (fun e => (List.mem_append.1 e).elim (fun h3 => by have := hX b h3; omega) h2), fun b hb => by
    rcases h.row b hb with h1 | h1
    · rcases List.mem_append.1 h1 with h2 | h2
      · exact .inr (hX b h2)
      · exact .inl h2
    · exact .inr h1⟩
end
/-- A row that the compiler does not write in. -/
def RowG (w : World) (gc : Nat) (R : List Nat) (A : Option Addr) (n : Nat) (xs : List Value) : Prop := InRow w A n 1 xs ∧ (0 < n → ∀ ad, A = some ad → ad.block ≠ gc ∧ ad.block ∉ R)
theorem RowG.ev {gc n : Nat} {R R1 : List Nat} {w w1 : World} {A : Option Addr} {xs : List Value} (h : RowG w gc R A n xs) (k : Ev gc R w R1 w1) : RowG w1 gc R1 A n xs :=
  ⟨⟨h.1.1, fun hn => by
    obtain ⟨b, o, e, hb, hc⟩ := h.1.2 hn
    have hne := h.2 hn _ e
    have hk := k.block b hb hne.1 hne.2
    exact ⟨b, o, e, Nat.lt_of_lt_of_le hb k.size, fun j hj => (World.cell?_of_block hk).trans (hc j hj)⟩⟩, fun hn ad e => by
    obtain ⟨b, o, e', hb, _⟩ := h.1.2 hn
    have hne := h.2 hn ad e
    refine ⟨hne.1, k.ne ?_ hne.2⟩
    rw [e] at e'
    cases e'
    exact hb⟩
theorem RowG.far {gc n : Nat} {R : List Nat} {w : World} {A : Option Addr} {xs : List Value} {p : Addr} (h : RowG w gc R A n xs) (hp : p.block ∈ R) (u : Value) : RowG (w.setCell p u) gc R A n xs :=
  ⟨⟨h.1.1, fun hn => by
    obtain ⟨b, o, e, hb, hc⟩ := h.1.2 hn
    have hne := h.2 hn _ e
    have hk := Below.heap_setCell w p u b (fun e => hne.2 (by show b ∈ R; rw [e]; exact hp))
    exact ⟨b, o, e, by simpa [World.setCell] using hb, fun j hj => (World.cell?_of_block hk).trans (hc j hj)⟩⟩, h.2⟩
theorem RowG.nil_ (w : World) (gc : Nat) (R : List Nat) (A : Option Addr) : RowG w gc R A 0 [] := ⟨⟨rfl, fun h => by omega⟩, fun h => by omega⟩
theorem RowG.sub {gc n : Nat} {R R1 : List Nat} {w : World} {A : Option Addr} {xs : List Value} (h : RowG w gc R A n xs) (hs : ∀ b ∈ R1, b ∈ R) : RowG w gc R1 A n xs := ⟨h.1, fun hn ad e => ⟨(h.2 hn ad e).1, fun e' => (h.2 hn ad e).2 (hs _ e')⟩⟩
/-- The blocks of two rows. -/
def rws (a b : Value) : List Nat := a.ownBlock.toList ++ b.ownBlock.toList
theorem mem_rws {a b : Value} {k : Nat} : k ∈ rws a b ↔ a.ownBlock = some k ∨ b.ownBlock = some k := by
  unfold rws
  rw [List.mem_append, Option.mem_toList, Option.mem_toList]
/-- A jump stands there. -/
def IsJ (I : List It) (j : Nat) : Prop := ∃ x, I[j]? = some x ∧ (x.code = 10 ∨ x.code = 11)
theorem IsJ.app {I M : List It} {j : Nat} (h : IsJ I j) : IsJ (I ++ M) j := by
  obtain ⟨x, h1, h2⟩ := h
  exact ⟨x, by rw [List.getElem?_append_left (List.getElem?_eq_some_iff.1 h1).1]; exact h1, h2⟩
theorem IsJ.last {I : List It} {x : It} (h : x.code = 10 ∨ x.code = 11) : IsJ (I ++ [x]) I.length := ⟨x, by simp, h⟩
theorem IsJ.at_ {I : List It} {j : Nat} (h : IsJ I j) : ∃ hj : j < I.length, I[j].code = 10 ∨ I[j].code = 11 := by
  obtain ⟨x, h1, h2⟩ := h
  obtain ⟨h3, h4⟩ := List.getElem?_eq_some_iff.1 h1
  exact ⟨h3, by rw [h4]; exact h2⟩
/-- The argument of an instruction is in its range. -/
def ArgOk (code arg : Int) : Prop := 0 ≤ code ∧ code ≤ 17 ∧ (code = 0 → -2147483648 ≤ arg ∧ arg ≤ 2147483647) ∧ (1 ≤ code ∧ code ≤ 4 → -32768 ≤ arg ∧ arg ≤ 32767) ∧ (5 ≤ code ∧ code ≤ 9 ∨ code = 17 → arg = 0) ∧ (12 ≤ code ∧ code ≤ 15 → 0 ≤ arg ∧ arg ≤ 255) ∧ (code = 16 → 0 ≤ arg ∧ arg ≤ 65535)
/-- Bounds of a compiler's numbers. -/
def MD (most depth : Int) (n : Nat) : Prop := 0 ≤ most ∧ most ≤ 100 ∧ -(200 + 8 * (n : Int)) ≤ depth ∧ depth ≤ 200 + 8 * (n : Int)
def PrOk (pr : Prm) : Prop := pr.ins ≤ 100 ∧ 0 ≤ pr.words ∧ pr.words ≤ 100
/-- Bounds of a scope's numbers. -/
def SB (ar fi : Int) (nl nc : Nat) : Prop := nl ≤ 8 ∧ 0 ≤ ar ∧ ar ≤ (nl : Int) ∧ 0 ≤ fi ∧ fi ≤ 64 ∧ nc ≤ 3
/-- The chains of the items can be read, and lie where nothing turns. -/
def ChR (w : World) (gc : Nat) (Q : List Nat) (I : List It) : Prop := ∀ x ∈ I, ∃ ch : List Int, RowG w gc Q x.A x.n (intCells ch)
theorem ChR.ev {w w' : World} {gc : Nat} {Q Q' : List Nat} {I : List It} (h : ChR w gc Q I) (k : Ev gc Q w Q' w') : ChR w' gc Q' I := fun x hx => by
  obtain ⟨ch, h1⟩ := h x hx
  exact ⟨ch, h1.ev k⟩
theorem ChR.sub {w : World} {gc : Nat} {Q Q' : List Nat} {I : List It} (h : ChR w gc Q I) (hs : ∀ b ∈ Q', b ∈ Q) : ChR w gc Q' I := fun x hx => by
  obtain ⟨ch, h1⟩ := h x hx
  exact ⟨ch, h1.sub hs⟩
theorem ChR.set {w : World} {gc j : Nat} {Q : List Nat} {I : List It} {y : It} (h : ChR w gc Q I) (hj : j < I.length) (h1 : y.A = I[j].A) (h2 : y.n = I[j].n) : ChR w gc Q (I.set j y) := fun x hx => by
  rcases List.mem_or_eq_of_mem_set hx with h3 | h3
  · exact h x h3
  · subst h3
    rw [h1, h2]
    exact h _ (List.getElem_mem hj)
/-- What the compiler knows of its parameters and of the chains. -/
def PrC (w : World) (gc : Nat) (pr : Prm) (I : List It) (ib : List Nat) : Prop := PrOk pr ∧ (∀ b ∈ pr.tb, b < w.heap.size) ∧ ChR w gc (pr.tb ++ ib) I
/-- The compiler at work. -/
def CSt (w : World) (B gc : Nat) (pr : Prm) (I : List It) (ib : List Nat) : Prop :=
  B ≤ gc ∧ gc ∉ ib ∧ PrC w gc pr I ib ∧ ∃ (most depth : Int) (Ai : Option Addr) (ci : Nat) (An : Option Addr) (cn : Nat), MD most depth I.length ∧ Blk w gc 111 #[.slice pr.A pr.n pr.c, .int .i64 pr.fr, .int .i64 pr.inl, .bool pr.fold, .bool pr.split, .bool pr.framed, .int .i64 pr.words, .int .i64 most, .slice Ai I.length ci, .int .i64 depth, .slice An pr.ins cn] ∧
    w.ownsRow B 49 7 (.slice Ai I.length ci) I.length (I.flatMap itC) ∧ w.ownsRow B 3 1 (.slice An pr.ins cn) pr.ins (intCells pr.ns) ∧ (∀ b, (Value.slice Ai I.length ci).ownBlock = some b → (Value.slice An pr.ins cn).ownBlock ≠ some b) ∧ rws (.slice Ai I.length ci) (.slice An pr.ins cn) = ib
/-- The number in a cell. -/
def ivA (w : World) (g i : Nat) : Int := match w.cell? ⟨g, i, none⟩ with
  | some (.int _ x) => x
  | _ => 0
theorem ivA_of {w : World} {g i : Nat} {k : IntKind} {x : Int} (h : w.cell? ⟨g, i, none⟩ = some (.int k x)) : ivA w g i = x := by unfold ivA; rw [h]
theorem ivA_same {w w' : World} {g : Nat} (h : w'.heap[g]? = w.heap[g]?) (i : Nat) : ivA w' g i = ivA w g i := by
  unfold ivA
  rw [World.cell?_of_block (w := w) (w' := w') (a := ⟨g, i, none⟩) h]
def opL (I : List It) : List (Int × Int) := I.map fun x => (x.code, x.arg)
theorem opL_app (I : List It) (x : It) : opL (I ++ [x]) = opL I ++ [(x.code, x.arg)] := by simp [opL]
theorem opL_length (I : List It) : (opL I).length = I.length := by simp [opL]
/-- What a compiler has put, seen from its block. -/
def Vw (w : World) (gc : Nat) (I : List It) : Sg := ⟨opL I, ivA w gc 7, ivA w gc 9⟩
theorem Vw_same {w w' : World} {gc : Nat} (h : w'.heap[gc]? = w.heap[gc]?) (I : List It) : Vw w' gc I = Vw w gc I := by
  unfold Vw
  rw [ivA_same h, ivA_same h]
theorem Vw_below {w w' : World} {gc : Nat} (h : Below w.heap.size w w') (hg : gc < w.heap.size) (I : List It) : Vw w' gc I = Vw w gc I := Vw_same (h.block gc hg) I
theorem Vw_len (w : World) (gc : Nat) (I : List It) : (Vw w gc I).ops.length = I.length := opL_length I
theorem Vw_far (w : World) {gc : Nat} {p : Addr} (hp : p.block ≠ gc) (u : Value) (I : List It) : Vw (w.setCell p u) gc I = Vw w gc I := Vw_same (Below.heap_setCell w p u gc (fun e => hp e.symm)) I
theorem Vw_of {w : World} {gc : Nat} {t : TypeId} {a0 a1 a2 a3 a4 a5 a6 a8 a10 : Value} {most depth : Int} (h : Blk w gc t #[a0, a1, a2, a3, a4, a5, a6, .int .i64 most, a8, .int .i64 depth, a10]) (I : List It) : Vw w gc I = ⟨opL I, most, depth⟩ := by
  have h7 := h.cell 7
  have h9 := h.cell 9
  simp at h7 h9
  unfold Vw
  rw [ivA_of h7, ivA_of h9]
/-- The scope of what is compiled. -/
def Scp (w : World) (gc : Nat) (R : List Nat) (gs : Nat) (fu en ar fi ba : Int) (Al : Option Addr) (nl cl : Nat) (xs : List ByteArray) (Ac : Option Addr) (nc cc : Nat) (ch : List Int) (vj : Value) : Prop :=
  Blk w gs 114 #[.int .i64 fu, .int .i64 en, .slice Al nl cl, .int .i64 ar, .int .i64 fi, .slice Ac nc cc, .int .i64 ba, vj] ∧ gs ≠ gc ∧ gs ∉ R ∧ SB ar fi nl nc ∧ nc ≤ 100000 ∧ RowG w gc R Al nl (strCells xs) ∧ RowG w gc R Ac nc (intCells ch)
section
variable {gc B gs nl cl nc cc : Nat} {R R1 ib ib1 : List Nat} {w w1 : World} {fu en ar fi ba : Int} {Al Ac : Option Addr} {xs : List ByteArray} {ch : List Int} {vj : Value} {pr : Prm} {I : List It}
theorem Scp.ev (h : Scp w gc R gs fu en ar fi ba Al nl cl xs Ac nc cc ch vj) (k : Ev gc R w R1 w1) : Scp w1 gc R1 gs fu en ar fi ba Al nl cl xs Ac nc cc ch vj := by
  obtain ⟨h1, h2, h3, h4, h5, h6, h7⟩ := h
  exact ⟨k.blk h1 h2 h3, h2, k.ne h1.lt h3, h4, h5, h6.ev k, h7.ev k⟩
theorem CSt.lt (h : CSt w B gc pr I ib) : gc < w.heap.size := by
  obtain ⟨_, _, _, _, _, _, _, _, _, _, k, _⟩ := h; exact k.lt
theorem CSt.rows (h : CSt w B gc pr I ib) : ∀ b, b ∈ ib → B ≤ b ∧ b < w.heap.size := by
  obtain ⟨_, _, _, _, _, _, _, _, _, _, _, k, k', _, e⟩ := h
  intro b hb
  rw [← e] at hb
  rcases mem_rws.1 hb with h1 | h1
  · exact k.lt b h1
  · exact k'.lt b h1
theorem CSt.below (h : CSt w B gc pr I ib) (k : Ev gc ib w ib1 w1) (hB : B ≤ w.heap.size) : Below B w w1 := k.below h.1 (fun b e => (h.rows b e).1) hB
/-- Nothing of the compiler's has turned. -/
theorem CSt.kept (h : CSt w B gc pr I ib) (k : Below w.heap.size w w1) : CSt w1 B gc pr I ib := by
  obtain ⟨h1, h2, ⟨p1, p2, p3⟩, m, d, Ai, ci, An, cn, h0, h3, h4, h5, h6, h7⟩ := h
  exact ⟨h1, h2, ⟨p1, fun b hb => Nat.lt_of_lt_of_le (p2 b hb) k.size, p3.ev (Ev.of_below k gc _)⟩, m, d, Ai, ci, An, cn, h0, h3.below k h3.lt, own_belowZ h4 k, own_belowZ h5 k, h6, h7⟩
end
theorem own_setFar {w : World} {base size n : Nat} {e : TypeId} {v : Value} {xs : List Value} {p : Addr} (h : w.ownsRow base e size v n xs) (hp : ∀ b, v.ownBlock = some b → b ≠ p.block) (u : Value) : (w.setCell p u).ownsRow base e size v n xs :=
  own_grown h (only_setCell (p := p) (World.grownBy.refl w (some p.block)) (Or.inl rfl) u) (fun g hg e => by injection e with e; exact hp g hg e.symm)
/-- A scope's data. -/
structure Scd where
  fu : Int
  en : Int
  ar : Int
  fi : Int
  ba : Int
  Al : Option Addr
  nl : Nat
  cl : Nat
  xs : List ByteArray
  Ac : Option Addr
  nc : Nat
  cc : Nat
  ch : List Int
  vj : Value
def Scd.sp (s : Scd) : Sp := ⟨s.fu, s.en, s.ar, s.fi, s.ba, s.xs, s.nl, s.nc⟩
def Prm.cp (pr : Prm) (L : List Ln) : Cp := ⟨pr.framed, pr.inl, pr.words, L⟩
abbrev ScP (w : World) (gc : Nat) (R : List Nat) (gs : Nat) (s : Scd) : Prop := Scp w gc R gs s.fu s.en s.ar s.fi s.ba s.Al s.nl s.cl s.xs s.Ac s.nc s.cc s.ch s.vj
theorem ScP.sub {w : World} {gc gs : Nat} {R R1 : List Nat} {s : Scd} (h : ScP w gc R gs s) (hs : ∀ b ∈ R1, b ∈ R) : ScP w gc R1 gs s := by
  obtain ⟨h1, h2, h3, h4, h5, h6, h7⟩ := h
  exact ⟨h1, h2, fun e => h3 (hs _ e), h4, h5, h6.sub hs, h7.sub hs⟩
/-- A call that has put one item more. -/
def OneX (Q : It → Prop) (F : Sg → Sg) (w : World) (B gc : Nat) (pr : Prm) (I : List It) (ib : List Nat) (w' : World) : Prop :=
  ∃ (x : It) (ib' : List Nat), Q x ∧ CSt w' B gc pr (I ++ [x]) ib' ∧ Ev gc ib w ib' w' ∧ Vw w' gc (I ++ [x]) = F (Vw w gc I)
def One (Q : It → Prop) (F : Sg → Sg) (w : World) (B gc : Nat) (pr : Prm) (I : List It) (ib : List Nat) (e : Ending) (w' : World) : Prop :=
  e = .returned (.tuple #[]) ∧ OneX Q F w B gc pr I ib w'
/-- An item that is no jump and no call. -/
def Plain (line : Int) (nc : Nat) (x : It) : Prop := x.line = line ∧ x.start = false ∧ x.n = nc ∧ x.code ≠ 10 ∧ x.code ≠ 11 ∧ x.code ≠ 12 ∧ ArgOk x.code x.arg
theorem one_cell6 {Q : It → Prop} {F : Sg → Sg} {w w' : World} {B gc : Nat} {pr : Prm} {I : List It} {ib : List Nat} (h : OneX Q F w B gc pr I ib w') : w'.cell? ⟨gc, 6, none⟩ = some (.int .i64 pr.words) := by
  obtain ⟨x, ib', _, ⟨_, _, _, _, _, _, _, _, _, _, hk, _⟩, _⟩ := h
  have := hk.cell 6
  simpa using this
theorem one_cell3 {Q : It → Prop} {F : Sg → Sg} {w w' : World} {B gc gs : Nat} {pr : Prm} {I : List It} {ib : List Nat} {s : Scd} (hc : CSt w B gc pr I ib) (hs : ScP w gc ib gs s) (h : OneX Q F w B gc pr I ib w') : w'.cell? ⟨gs, 3, none⟩ = some (.int .i64 s.ar) := by
  obtain ⟨x, ib', _, _, hv, _⟩ := h
  have hk := (Scp.ev hs hv).1
  have := hk.cell 3
  simpa using this
theorem itC_flat_length (I : List It) : (I.flatMap itC).length = I.length * 7 := flat_length itC 7 (fun _ => rfl) I
end Go.Proofs.Ytcfjbaanahgpoaa
namespace Go.Proofs.Ytcfjbaanahgpoaa
open Go Go.RowKit
set_option maxRecDepth 100000
set_option linter.unusedVariables false
set_option linter.unusedSimpArgs false
theorem Try.infoItm : (Try.prog.info? 49).map (fun i => (i.zero, i.size, i.bytes)) = some (some (.agg #[.int .i64 0, .int .i64 0, .int .i64 0, .bool false, .slice none 0 0, .int .i64 0, .bool false]), 7, 72) := by kernel_rfl
theorem Try.infoIntC : (Try.prog.info? 3).map (fun i => (i.zero, i.size, i.bytes)) = some (some (.int .i64 0), 1, 8) := by kernel_rfl
theorem cw_wrap {n : Nat} {x : Int} (hn : n ≤ 1000000000000) (h : -(200 + 8 * ((n + 1 : Nat) : Int)) ≤ x ∧ x ≤ 200 + 8 * ((n + 1 : Nat) : Int)) : wrap64 x = x ∧ -(200 + 8 * ((n + 1 : Nat) : Int)) ≤ x ∧ x ≤ 200 + 8 * ((n + 1 : Nat) : Int) := by
  obtain ⟨h1, h2⟩ := h
  exact ⟨IntWalk.wrap64_in _ (by omega), h1, h2⟩
set_option maxHeartbeats 4000000 in
theorem i_add (w : World) (B gc gs nl cl nc cc : Nat) (ib : List Nat) (pr : Prm) (I : List It) (fu en ar fi ba : Int) (Al Ac : Option Addr) (xs : List ByteArray) (ch : List Int) (vj : Value) (line code arg change : Int)
    (h : CSt w B gc pr I ib) (hs : Scp w gc ib gs fu en ar fi ba Al nl cl xs Ac nc cc ch vj) (hI : I.length ≤ 1000000000000) (hB : B ≤ w.heap.size) (hch : ∀ most depth : Int, MD most depth I.length → w.cell? ⟨gc, 9, none⟩ = some (.int .i64 depth) → -(200 + 8 * ((I.length + 1 : Nat) : Int)) ≤ depth + change ∧ depth + change ≤ 200 + 8 * ((I.length + 1 : Nat) : Int)) :
    Calls Try.prog 80 #[.pointer (some ⟨gc, 0, none⟩), .pointer (some ⟨gs, 0, none⟩), .int .i64 line, .int .i64 code, .int .i64 arg, .int .i64 change] w fun e w' => e = .returned (.tuple #[]) ∧ ∃ (x : It) (ib' : List Nat), x.code = code ∧ x.arg = arg ∧ x.line = line ∧ x.start = false ∧ x.n = nc ∧ CSt w' B gc pr (I ++ [x]) ib' ∧ Ev gc ib w ib' w' ∧ Vw w' gc (I ++ [x]) = addF (Vw w gc I) code arg change := by
  obtain ⟨i0, hi, hz0, hz1, hz2⟩ := info_parts Try.infoItm
  have HI := hide hi
  clear hi
  obtain ⟨i1, hi1, hy0, hy1, hy2⟩ := info_parts Try.infoIntC
  have HI1 := hide hi1
  clear hi1
  have HS := hide hs
  have HC := hide h
  have HCS := hide h
  obtain ⟨q1, q2, q3, most, depth, Ai, ci, An, cn, hm0, hk, hown, hin, hdis, hib⟩ := h
  have hgi : ∀ b, (Value.slice Ai I.length ci).ownBlock = some b → b ≠ gc := fun b hb e => q2 (by rw [← hib, ← e]; exact mem_rws.2 (.inl hb))
  have hgn : ∀ b, (Value.slice An pr.ins cn).ownBlock = some b → b ≠ gc := fun b hb e => q2 (by rw [← hib, ← e]; exact mem_rws.2 (.inr hb))
  have HVW := hide (Vw_of hk I)
  have hd9 := hk.cell 9
  simp at hd9
  have hcd := hch most depth hm0 hd9
  have HM0 := hide hm0
  have hsz := cw_wrap hI hcd
  have HWR := hide hsz
  have HD := hide hdis
  have HIB := hide hib
  have HGI := hide hgi
  have HGN := hide hgn
  have HQ3 := hide q3
  have hibl : ∀ b ∈ ib, b < w.heap.size := fun b hb => (HCS.out.rows b hb).2
  have HIBL := hide hibl
  clear hibl
  obtain ⟨s1, s2, s3, _, s5, s6, s7⟩ := hs
  have CH := hide s7.1
  have m5 := (s1.alloc (.cells #[] 3)).cell 5
  simp at m5
  have HK := hide hk
  have HO := hide hown
  have HN := hide hin
  have hgl := hk.lt
  have hrow : ∀ b, (Value.slice Ai I.length ci).ownBlock = some b → b < w.heap.size := fun b hb => (hown.lt b hb).2
  have hrowN : ∀ b, (Value.slice An pr.ins cn).ownBlock = some b → b < w.heap.size := fun b hb => (hin.lt b hb).2
  clear hk s1 s6 s7 hown hin hdis hib hgi hgn hd9 hch hsz hcd
  go_enter Try.func80, Try.ntmps80
  go_wp2_with (first | (at_builtin; refine wpList_apps _ rfl (.tmp 17) (.tmp 21) _ rfl w.heap.size 3 i1 _ 1 8 Try.underlying28 HI1.out hy0 hy1 hy2 rfl (by decide) (.slice (some ⟨_, 0, none⟩) 0 0) 0 [] rfl (World.ownsRow_lit w #[] 0 (Nat.le_refl _) (Nat.zero_le _) rfl) Ac nc cc (intCells ch) rfl (CH.out.below ((Below.refl _ _).alloc (Nat.le_refl _) _)) ?c1 ?c2 ?c3 ?c4 ?_) | fail)
  case c1 => intro u hu; obtain ⟨a, _, rfl⟩ := List.mem_map.1 hu; rfl
  case c2 => omega
  try case c3 => decide
  case c4 => simp
  intro v' w1 hown1 hb1 hg1 _
  try rw [Nat.zero_add] at hown1
  obtain ⟨D, d, rfl, _, _, harD, _⟩ := Arr.own2 hown1
  have XD1 : Hid (RowG w1 gc (pr.tb ++ ib) D nc (intCells ch)) := ⟨InRow.of_arr (by simpa using harD), fun hn ad e1 => by
    obtain ⟨bb, e2, g1, g2, _⟩ := harD.2 hn
    rw [e1] at e2
    cases e2
    refine ⟨by show bb ≠ gc; omega, fun e3 => ?_⟩
    rcases List.mem_append.1 e3 with e3 | e3
    · have := HQ3.out.2.1 bb e3; omega
    · have := HIBL.out bb e3; omega⟩
  have XDb : Hid (0 < nc → ∀ ad, D = some ad → ad.block < w1.heap.size) := fun hn ad e1 => by
    obtain ⟨bb, e2, g1, g2, _⟩ := harD.2 hn
    rw [e1] at e2
    cases e2
    exact g2
  clear harD
  have BW := hide (((Below.refl w.heap.size w).alloc (Nat.le_refl _) (.cells #[] 3)).trans hb1)
  have hzw := BW.out.size
  clear hown1 hb1 hg1 m5
  have K1 := hide (HK.out.below BW.out hgl)
  have O1 := hide (own_belowZ HO.out BW.out)
  have N1 := hide (own_belowZ HN.out BW.out)
  have K2 := hide (K1.out.alloc (.cells #[.int .i64 code, .int .i64 arg, .int .i64 line, .bool false, .slice D nc d, .int .i64 0, .bool false] 49))
  have X2 := hide (Blk.new w1 49 #[.int .i64 code, .int .i64 arg, .int .i64 line, .bool false, .slice D nc d, .int .i64 0, .bool false])
  have O2 := hide (O1.out.alloc (.cells #[.int .i64 code, .int .i64 arg, .int .i64 line, .bool false, .slice D nc d, .int .i64 0, .bool false] 49))
  have N2 := hide (N1.out.alloc (.cells #[.int .i64 code, .int .i64 arg, .int .i64 line, .bool false, .slice D nc d, .int .i64 0, .bool false] 49))
  have B2 := hide (BW.out.alloc BW.out.size (.cells #[.int .i64 code, .int .i64 arg, .int .i64 line, .bool false, .slice D nc d, .int .i64 0, .bool false] 49))
  have XD2 : Hid (RowG (w1.alloc (.cells #[.int .i64 code, .int .i64 arg, .int .i64 line, .bool false, .slice D nc d, .int .i64 0, .bool false] 49)) gc (w1.heap.size :: (pr.tb ++ ib)) D nc (intCells ch)) := by
    have h1 := XD1.out.ev (Ev.of_below ((Below.refl w1.heap.size w1).alloc (Nat.le_refl _) (.cells #[.int .i64 code, .int .i64 arg, .int .i64 line, .bool false, .slice D nc d, .int .i64 0, .bool false] 49)) gc (pr.tb ++ ib))
    exact ⟨h1.1, fun hn ad e1 => ⟨(h1.2 hn ad e1).1, fun e3 => by
      rcases List.mem_cons.1 e3 with e3 | e3
      · have := XDb.out hn ad e1; omega
      · exact (h1.2 hn ad e1).2 e3⟩⟩
  go_upto_region 1 with fail
  generalize w1.alloc (.cells #[.int .i64 code, .int .i64 arg, .int .i64 line, .bool false, .slice D nc d, .int .i64 0, .bool false] 49) = w2 at *
  have hxg : w1.heap.size ≠ gc := by omega
  have hzx := X2.out.lt
  generalize hxb : w1.heap.size = xb at *
  have k5 := K2.out.cell 5
  have k8 := K2.out.cell 8
  have k9 := K2.out.cell 9
  simp at k5 k8 k9
  have x5 := X2.out.cell 5
  have x6 := X2.out.cell 6
  simp at x5 x6
  have fx := X2.out.frozen
  have fx5 := fx 5
  have fx6 := fx 6
  clear fx hxb K1 O1 N1 BW HK HO HN CH
  have hw2 : Hid (w2 = w2) := rfl
  go_cut [35] from 23 to 34 (fun s35 wx => ∃ bo : Bool, s35 = .bool bo ∧ wx = w2)
  case first =>
    cases hfr : pr.framed
    · go_wp2_with fail
      go_meet
      exact ⟨_, rfl, rfl⟩
    · by_cases hln : 0 < I.length
      · have z : decide (0 < I.length) = true := decide_eq_true hln
        go_wp2_with fail
        go_meet
        exact ⟨_, rfl, rfl⟩
      · have z : decide (0 < I.length) = false := decide_eq_false hln
        go_wp2_with fail
        go_meet
        exact ⟨_, rfl, rfl⟩
  case rest =>
    obtain ⟨bo, rfl, rfl⟩ := hcut
    go_upto_if 35 with fail
    go_cut [36] from 37 to 41 (fun s36 wx => ∃ (dep : Int) (ent : Bool), Blk wx xb 49 #[.int .i64 code, .int .i64 arg, .int .i64 line, .bool false, .slice D nc d, .int .i64 dep, .bool ent] ∧ Blk wx gc 111 #[.slice pr.A pr.n pr.c, .int .i64 pr.fr, .int .i64 pr.inl, .bool pr.fold, .bool pr.split, .bool pr.framed, .int .i64 pr.words, .int .i64 most, .slice Ai I.length ci, .int .i64 depth, .slice An pr.ins cn] ∧ wx.ownsRow B 49 7 (.slice Ai I.length ci) I.length (I.flatMap itC) ∧ wx.ownsRow B 3 1 (.slice An pr.ins cn) pr.ins (intCells pr.ns) ∧ Below w.heap.size w wx ∧ RowG wx gc (xb :: (pr.tb ++ ib)) D nc (intCells ch))
    case first =>
      cases bo
      · go_wp2_with fail
        go_meet
        refine ⟨depth, false, ?_, K2.out.far (by show gc ≠ xb; omega) _, ?_, ?_, B2.out.setCell (p := ⟨xb, 5, none⟩) hzw _, XD2.out.far (p := ⟨xb, 5, none⟩) List.mem_cons_self _⟩
        · have := X2.out.set_ 5 (.int .i64 depth)
          simpa using this
        · refine own_setFar O2.out ?_ _
          intro b hb
          have := hrow b hb
          show b ≠ xb
          omega
        · refine own_setFar N2.out ?_ _
          intro b hb
          have := hrowN b hb
          show b ≠ xb
          omega
      · go_wp2_with fail
        go_meet
        refine ⟨0, true, ?_, K2.out.far (by show gc ≠ xb; omega) _, ?_, ?_, B2.out.setCell (p := ⟨xb, 6, none⟩) hzw _, XD2.out.far (p := ⟨xb, 6, none⟩) List.mem_cons_self _⟩
        · have := X2.out.set_ 6 (.bool true)
          simpa using this
        · refine own_setFar O2.out ?_ _
          intro b hb
          have := hrow b hb
          show b ≠ xb
          omega
        · refine own_setFar N2.out ?_ _
          intro b hb
          have := hrowN b hb
          show b ≠ xb
          omega
    case rest =>
      obtain ⟨dep, ent, hx3, hk3, ho3, hn3, hb3, hd3⟩ := hcut
      have XD3 : Hid (RowG wc gc (pr.tb ++ ib) D nc (intCells ch)) := hd3.sub (fun b hb => List.mem_cons_of_mem _ hb)
      have X3 := hide hx3
      have K3 := hide hk3
      have O3 := hide ho3
      have N3 := hide hn3
      have B3 := hide hb3
      have x0 := hx3.cell 0
      have x1 := hx3.cell 1
      have x2 := hx3.cell 2
      have x3 := hx3.cell 3
      have x4 := hx3.cell 4
      have x5' := hx3.cell 5
      have x6' := hx3.cell 6
      have k8' := hk3.cell 8
      simp at x0 x1 x2 x3 x4 x5' x6' k8'
      clear hx3 hk3 ho3 hn3 hb3 hd3 K2 X2 O2 N2 B2 k5 k8 k9 x5 x6 fx5 fx6 hw2
      have k8a := (K3.out.drew.alloc (.cells #[.int .i64 code, .int .i64 arg, .int .i64 line, .bool false, .slice D nc d, .int .i64 dep, .bool ent] 49)).cell 8
      simp at k8a
      have hgx := K3.out.lt
      have O3d : Hid (wc.drew.ownsRow B 49 7 (.slice Ai I.length ci) I.length (I.flatMap itC)) := O3.out
      have hzc := B3.out.size
      go_upto_region 4 with fail
      go_cut [46] from 47 to 51 (fun s46 wx => ∃ (A7 : Option Addr) (c7 : Nat), Blk wx gc 111 #[.slice pr.A pr.n pr.c, .int .i64 pr.fr, .int .i64 pr.inl, .bool pr.fold, .bool pr.split, .bool pr.framed, .int .i64 pr.words, .int .i64 most, .slice A7 (I.length + 1) c7, .int .i64 depth, .slice An pr.ins cn] ∧ wx.ownsRow B 49 7 (.slice A7 (I.length + 1) c7) (I.length + 1) (I.flatMap itC ++ [.int .i64 code, .int .i64 arg, .int .i64 line, .bool false, .slice D nc d, .int .i64 dep, .bool ent]) ∧ wx.ownsRow B 3 1 (.slice An pr.ins cn) pr.ins (intCells pr.ns) ∧ (Ev gc ib w (rws (.slice A7 (I.length + 1) c7) (.slice An pr.ins cn)) wx ∧ RowG wx gc (pr.tb ++ rws (.slice A7 (I.length + 1) c7) (.slice An pr.ins cn)) D nc (intCells ch)) ∧ (∀ b, (Value.slice A7 (I.length + 1) c7).ownBlock = some b → b ≠ gc ∧ (Value.slice An pr.ins cn).ownBlock ≠ some b))
      case first =>
        go_region_law (refine step_appN wc.drew rfl (.tmp 46) (.tmp 48) _ rfl B 49 i0 _ 7 72 Try.underlying57 HI.out hz0 hz1 hz2 rfl (by decide) (.slice Ai I.length ci) I.length (I.flatMap itC) rfl O3d.out 1 [.int .i64 code, .int .i64 arg, .int .i64 line, .bool false, .slice D nc d, .int .i64 dep, .bool ent] rfl rfl rfl (by intro u hu; simp at hu; rcases hu with rfl | rfl | rfl | rfl | rfl | rfl | rfl <;> rfl) (by omega) (by decide) (show B ≤ wc.drew.heap.size from Nat.le_trans hB hzc) ?_; intro v7 w7 hown7 hb7 hg7 hv7; obtain ⟨A7, c7, rfl, _⟩ := Arr.own2 hown7; have K7 := hide (K3.out.drew.grown hg7 (by intro e; exact HGI.out _ e.symm rfl)); have N7 := hide (own_grown (w := wc.drew) (show wc.drew.ownsRow B 3 1 (.slice An pr.ins cn) pr.ins (intCells pr.ns) from N3.out) hg7 (fun b hb e => HD.out b e hb)); have kk8 := K7.out.cell 8; have ff8 := K7.out.frozen 8; simp at kk8; have O7 := hide hown7; have G7 := hide hg7; have V7 := hide hv7)
        all_goals
          go_wp2_with fail
        all_goals
          go_meet
          have hzz : wc.drew.heap.size = wc.heap.size := rfl
          have hne7 : ∀ b, (Value.slice A7 (I.length + 1) c7).ownBlock = some b → b ≠ gc ∧ (Value.slice An pr.ins cn).ownBlock ≠ some b := fun b hb => by
            rcases V7.out with h1 | h1
            · rw [h1] at hb; exact ⟨HGI.out b hb, HD.out b hb⟩
            · rw [h1] at hb; injection hb with hb
              exact ⟨by omega, fun e => by have := hrowN b e; omega⟩
          refine ⟨A7, c7, ?_, own_setFar O7.out (fun b hb => (hne7 b hb).1) _, own_setFar N7.out HGN.out _, ?_, hne7⟩
          · have := K7.out.set_ 8 (.slice A7 (I.length + 1) c7)
            simpa using this
          · have EW : Ev gc ib wc (rws (.slice A7 (I.length + 1) c7) (.slice An pr.ins cn)) (w7.setCell ⟨gc, 8, none⟩ (.slice A7 (I.length + 1) c7)) := ?_
            · exact ⟨(Ev.of_below B3.out _ _).trans EW, XD3.out.ev (EW.more pr.tb)⟩
            refine ((Ev.of_row (w := wc) (w1 := w7) ⟨G7.out.os, G7.out.tape, G7.out.output, G7.out.size, G7.out.block⟩ _ (fun b hb _ => by rw [← HIB.out]; exact mem_rws.2 (.inl hb)) (fun b hb => ?_))).trans (Ev.of_cell (only_setCell (p := ⟨gc, 8, none⟩) (World.grownBy.refl w7 (some gc)) (Or.inl rfl) _) _)
            rcases mem_rws.1 hb with h2 | h2
            · rcases V7.out with h1 | h1
              · exact .inl (by rw [← HIB.out]; exact mem_rws.2 (.inl (h1 ▸ h2)))
              · rw [h1] at h2; injection h2 with h2; exact .inr (by omega)
            · exact .inl (by rw [← HIB.out]; exact mem_rws.2 (.inr h2))
      case rest =>
        obtain ⟨A7, c7, hk7, ho7, hn7, ⟨hev, hd7⟩, hne⟩ := hcut
        have XD7 := hide hd7
        have K7 := hide hk7
        have O7 := hide ho7
        have N7 := hide hn7
        have EV := hide hev
        have k9 := hk7.cell 9
        have f9 := hk7.frozen 9
        simp at k9
        clear hk7 ho7 hn7 hev hd7 x0 x1 x2 x3 x4 x5' x6' k8' k8a
        go_wp2_with fail
        go_end0
        have e1 : ∀ x : It, (I ++ [x]).length = I.length + 1 := fun x => by simp
        have e2 : ∀ x : It, (I ++ [x]).flatMap itC = I.flatMap itC ++ itC x := fun x => by simp
        refine ⟨rfl, ⟨code, arg, line, false, D, nc, d, dep, ent⟩, rws (.slice A7 (I.length + 1) c7) (.slice An pr.ins cn), rfl, rfl, rfl, rfl, rfl, ⟨q1, fun e => ?_, ?_, most, wrap64 (depth + change), A7, c7, An, cn, ⟨HM0.out.1, HM0.out.2.1, by rw [e1, HWR.out.1]; exact HWR.out.2.1, by rw [e1, HWR.out.1]; exact HWR.out.2.2⟩, ?_, ?_, ?_, ?_, ?_⟩, ?_, ?_⟩
        · rcases mem_rws.1 e with h1 | h1
          · exact (hne _ h1).1 rfl
          · exact HGN.out _ h1 rfl
        · have EC : ∀ Q, Ev gc Q wc Q (wc.setCell ⟨gc, 9, none⟩ (.int .i64 (wrap64 (depth + change)))) := fun Q => Ev.of_cell (only_setCell (p := ⟨gc, 9, none⟩) (World.grownBy.refl _ (some gc)) (Or.inl rfl) _) Q
          have EA := (EV.out.trans (EC _)).more pr.tb
          refine ⟨HQ3.out.1, fun b hb => Nat.lt_of_lt_of_le (HQ3.out.2.1 b hb) (EV.out.trans (EC _)).size, fun y hy => ?_⟩
          rcases List.mem_append.1 hy with hy | hy
          · obtain ⟨ch', hc'⟩ := HQ3.out.2.2 y hy
            exact ⟨ch', hc'.ev EA⟩
          · obtain rfl := List.mem_singleton.1 hy
            exact ⟨ch, XD7.out.ev (EC _)⟩
        · rw [e1]
          have := K7.out.set_ 9 (.int .i64 (wrap64 (depth + change)))
          simpa using this
        · rw [e1, e2]
          exact own_setFar O7.out (fun b hb => (hne b hb).1) _
        · exact own_setFar N7.out HGN.out _
        · rw [e1]; exact fun b hb => (hne b hb).2
        · rw [e1]
        · exact EV.out.trans (Ev.of_cell (only_setCell (p := ⟨gc, 9, none⟩) (World.grownBy.refl _ (some gc)) (Or.inl rfl) _) _)
        · have h9 := K7.out.set_ 9 (.int .i64 (wrap64 (depth + change)))
          simp at h9
          rw [Vw_of h9, HVW.out, opL_app]
          rfl
theorem i_addS (w : World) (B gc gs : Nat) (ib : List Nat) (pr : Prm) (I : List It) (s : Scd) (line code arg change : Int) (h : CSt w B gc pr I ib) (hs : ScP w gc ib gs s) (hI : I.length ≤ 1000000000000) (hB : B ≤ w.heap.size) (hch : -8 ≤ change ∧ change ≤ 8) :
    Calls Try.prog 80 #[.pointer (some ⟨gc, 0, none⟩), .pointer (some ⟨gs, 0, none⟩), .int .i64 line, .int .i64 code, .int .i64 arg, .int .i64 change] w fun e w' => One (fun x => x.code = code ∧ x.arg = arg ∧ x.line = line ∧ x.start = false ∧ x.n = s.nc) (fun g => addF g code arg change) w B gc pr I ib e w' :=
  (i_add w B gc gs s.nl s.cl s.nc s.cc ib pr I s.fu s.en s.ar s.fi s.ba s.Al s.Ac s.xs s.ch s.vj line code arg change h hs hI hB (fun m d hm _ => by obtain ⟨_, _, h1, h2⟩ := hm; omega)).mono fun e w' h => by
    obtain ⟨h0, x, ib', h1, h2, h3, h4, h5, h6, h7⟩ := h
    exact ⟨h0, x, ib', ⟨h1, h2, h3, h4, h5⟩, h6, h7⟩
end Go.Proofs.Ytcfjbaanahgpoaa
namespace Go.Proofs.Ytcfjbaanahgpoaa
open Go Go.RowKit
set_option maxRecDepth 100000
set_option linter.unusedVariables false
set_option linter.unusedSimpArgs false
set_option maxHeartbeats 4000000 in
theorem i_access (w : World) (B gc gs : Nat) (ib : List Nat) (pr : Prm) (I : List It) (s : Scd) (line i : Int) (store : Bool) (h : CSt w B gc pr I ib) (hs : ScP w gc ib gs s) (hI : I.length ≤ 3000) (hi8 : -1 ≤ i ∧ i ≤ 8) (hB : B ≤ w.heap.size) :
    Calls Try.prog 91 #[.pointer (some ⟨gc, 0, none⟩), .pointer (some ⟨gs, 0, none⟩), .int .i64 line, .int .i64 i, .bool store] w fun e w' => One (Plain line s.nc) (fun g => accF pr.framed s.sp g i store) w B gc pr I ib e w' := by
  obtain ⟨F, hFe⟩ : ∃ F : Sg → Sg, F = fun g => accF pr.framed s.sp g i store := ⟨_, rfl⟩
  rw [← hFe]
  have HFE := hide hFe
  clear hFe
  have HC := hide h
  have HS := hide hs
  obtain ⟨_, _, _, most, depth, Ai, ci, An, cn, ⟨_, _, hd1, hd2⟩, hk, _, _, _, _⟩ := h
  obtain ⟨s1, _, _, ⟨hb1, hb2, hb3, hb4, hb5⟩, hb6, _⟩ := hs
  have HV := hide (Vw_of hk I)
  have k5 := hk.cell 5
  have k9 := hk.cell 9
  have m3 := s1.cell 3
  have m4 := s1.cell 4
  have m5 := s1.cell 5
  simp at k5 k9 m3 m4 m5
  clear hk s1
  have fin : Hid (∀ (w' : World) (code arg change : Int), w' = w ∨ (∃ n, w' = w.drewN n) → code = 3 ∨ code = 4 ∨ code = 1 ∨ code = 2 → -32768 ≤ arg ∧ arg ≤ 32767 → -1 ≤ change ∧ change ≤ 1 → addF (Vw w gc I) code arg change = F (Vw w gc I) → Calls Try.prog 80 #[.pointer (some ⟨gc, 0, none⟩), .pointer (some ⟨gs, 0, none⟩), .int .i64 line, .int .i64 code, .int .i64 arg, .int .i64 change] w' fun e w'' => One (Plain line s.nc) F w B gc pr I ib e w'') := by
    intro w' code arg change hw hcode harg hchg hF
    have hb : Below w.heap.size w w' := by
      rcases hw with rfl | ⟨n, rfl⟩
      · exact Below.refl _ _
      · exact below_drewN (Below.refl _ _) n
    refine (i_addS w' B gc gs ib pr I s line code arg change (HC.out.kept hb) (HS.out.ev (Ev.of_below hb gc ib)) (by omega) (Nat.le_trans hB hb.size) (by omega)).mono ?_
    rintro e w'' ⟨he, x, ib', ⟨h1, h2, h3, h4, h5⟩, h6, h7, h8⟩
    exact ⟨he, x, ib', ⟨h3, h4, h5, by omega, by omega, by omega, by unfold ArgOk; omega⟩, h6, (Ev.of_below hb gc ib).trans h7, by rw [h8, Vw_below hb HC.out.lt]; exact hF⟩
  by_cases hz : s.nc = 0
  · rw [hz] at m5
    have HZ := hide hz
    clear hz
    by_cases hlt : i < s.ar
    · have z : decide (i < s.ar) = true := decide_eq_true hlt
      have HLT := hide hlt
      clear hlt
      cases store
      all_goals cases hfr : pr.framed
      all_goals
        go_enter Try.func91, Try.ntmps91
        go_wp2_with fail
        go_quiet (fail)
        go_wp2_with fail
        go_quiet (fail)
        go_wp2_with fail
        refine (fin.out _ _ _ _ (by first | exact .inl rfl | exact .inr ⟨_, rfl⟩) (by omega) (by omega) (by omega) (by rw [HFE.out, HV.out]; simp [accF, Scd.sp, hfr, HZ.out, HLT.out])).mono ?_
        rintro e w' ⟨rfl, hx⟩
        go_wp2_with fail
        go_end0
        exact ⟨rfl, hx⟩
    · have z : decide (i < s.ar) = false := decide_eq_false hlt
      have HLT := hide hlt
      clear hlt
      cases store
      all_goals cases hfr : pr.framed
      all_goals
        go_enter Try.func91, Try.ntmps91
        go_wp2_with fail
        go_quiet (fail)
        go_wp2_with fail
        refine (fin.out _ _ _ _ (by first | exact .inl rfl | exact .inr ⟨_, rfl⟩) (by omega) (by omega) (by omega) (by rw [HFE.out, HV.out]; simp [accF, Scd.sp, hfr, HZ.out]; rw [if_neg (by have := HLT.out; omega)])).mono ?_
        rintro e w' ⟨rfl, hx⟩
        go_wp2_with fail
        go_end0
        exact ⟨rfl, hx⟩
  · have z : ((s.nc : Int) == 0) = false := by simpa using hz
    have HZ := hide hz
    clear hz
    cases store
    all_goals cases hfr : pr.framed
    all_goals
      go_enter Try.func91, Try.ntmps91
      go_wp2_with fail
      go_quiet (fail)
      go_wp2_with fail
      refine (fin.out _ _ _ _ (by first | exact .inl rfl | exact .inr ⟨_, rfl⟩) (by omega) (by omega) (by omega) (by rw [HFE.out, HV.out]; simp [accF, Scd.sp, hfr, HZ.out])).mono ?_
      rintro e w' ⟨rfl, hx⟩
      go_wp2_with fail
      go_end0
      exact ⟨rfl, hx⟩
end Go.Proofs.Ytcfjbaanahgpoaa
namespace Go.Proofs.Ytcfjbaanahgpoaa
open Go Go.RowKit
set_option maxRecDepth 100000
set_option linter.unusedVariables false
set_option linter.unusedSimpArgs false
/-- An own row whose block has not turned. -/
theorem own_same {w w' : World} {base e size n : Nat} {v : Value} {xs : List Value} (h : w.ownsRow base e size v n xs) (hk : ∀ b, v.ownBlock = some b → w'.heap[b]? = w.heap[b]?) : w'.ownsRow base e size v n xs := by
  refine ⟨h.1, ?_⟩
  rcases h.2 with h0 | ⟨g, cap, cur, e1, hb, hh, r⟩
  · exact .inl h0
  · exact .inr ⟨g, cap, cur, e1, hb, (hk g (by rw [e1]; rfl)).trans hh, r⟩
/-- Nothing of the compiler's has turned. -/
theorem RowG.same {w w' : World} {gc n : Nat} {R : List Nat} {A : Option Addr} {xs : List Value} (h : RowG w gc R A n xs) (hs : w.heap.size ≤ w'.heap.size) (hk : ∀ b, b < w.heap.size → b ≠ gc → b ∉ R → w'.heap[b]? = w.heap[b]?) : RowG w' gc R A n xs :=
  ⟨⟨h.1.1, fun hn => by
    obtain ⟨b, o, e, hb, hc⟩ := h.1.2 hn
    have hne := h.2 hn _ e
    exact ⟨b, o, e, Nat.lt_of_lt_of_le hb hs, fun j hj => (World.cell?_of_block (hk b hb hne.1 hne.2)).trans (hc j hj)⟩⟩, h.2⟩
theorem CSt.same {w w' : World} {B gc : Nat} {pr : Prm} {I : List It} {ib : List Nat} (h : CSt w B gc pr I ib) (hk : ∀ b, b = gc ∨ b ∈ ib → w'.heap[b]? = w.heap[b]?) (hs : w.heap.size ≤ w'.heap.size) (hm : ∀ b, b < w.heap.size → b ∉ pr.tb → w'.heap[b]? = w.heap[b]?) : CSt w' B gc pr I ib := by
  obtain ⟨h1, h2, ⟨p1, p2, p3⟩, m, d, Ai, ci, An, cn, h0, h3, h4, h5, h6, h7⟩ := h
  have h2' : PrC w' gc pr I ib := ⟨p1, fun b hb => Nat.lt_of_lt_of_le (p2 b hb) hs, fun x hx => by
    obtain ⟨ch, hc⟩ := p3 x hx
    exact ⟨ch, hc.same hs (fun b hb _ hn => hm b hb (fun e => hn (List.mem_append_left _ e)))⟩⟩
  exact ⟨h1, h2, h2', m, d, Ai, ci, An, cn, h0, (hk gc (.inl rfl)).trans h3, own_same h4 (fun b hb => hk b (.inr (by rw [← h7]; exact mem_rws.2 (.inl hb)))), own_same h5 (fun b hb => hk b (.inr (by rw [← h7]; exact mem_rws.2 (.inr hb)))), h6, h7⟩
/-- Blocks that have come since, or that might turn already, are set among those that may turn. -/
theorem CSt.grow {w w' : World} {B gc : Nat} {pr : Prm} {I : List It} {ib ib' : List Nat} (h0 : CSt w B gc pr I ib) (h : CSt w' B gc pr I ib') (T : List Nat) (hT : ∀ b ∈ T, (b ∈ pr.tb ∨ w.heap.size ≤ b) ∧ b < w'.heap.size) : CSt w' B gc { pr with tb := T ++ pr.tb } I ib' := by
  obtain ⟨_, _, ⟨_, _, q3⟩, _⟩ := h0
  obtain ⟨h1, h2, ⟨p1, p2, p3⟩, m, d, Ai, ci, An, cn, h0, h3, h4, h5, h6, h7⟩ := h
  refine ⟨h1, h2, ⟨p1, fun b hb => ?_, fun x hx => ?_⟩, m, d, Ai, ci, An, cn, h0, h3, h4, h5, h6, h7⟩
  · rcases List.mem_append.1 hb with hb | hb
    · exact (hT b hb).2
    · exact p2 b hb
  · obtain ⟨ch, hc⟩ := p3 x hx
    obtain ⟨_, hq⟩ := q3 x hx
    refine ⟨ch, hc.1, fun hn ad e => ⟨(hc.2 hn ad e).1, fun e2 => ?_⟩⟩
    have hno := (hc.2 hn ad e).2
    change ad.block ∈ (T ++ pr.tb) ++ ib' at e2
    rcases List.mem_append.1 e2 with e2 | e2
    · rcases List.mem_append.1 e2 with e2 | e2
      · rcases (hT _ e2).1 with e3 | e3
        · exact hno (List.mem_append_left _ e3)
        · obtain ⟨b, o, e4, hb, _⟩ := hq.1.2 hn
          rw [e] at e4
          injection e4 with e4
          rw [e4] at e3
          have e5 : w.heap.size ≤ b := e3
          omega
      · exact hno (List.mem_append_left _ e2)
    · exact hno (List.mem_append_right _ e2)
/-- Fewer blocks are known to turn. -/
theorem CSt.shrink {w : World} {B gc : Nat} {pr : Prm} {I : List It} {ib T : List Nat} (h : CSt w B gc pr I ib) (hT : ∀ b ∈ T, b ∈ pr.tb) : CSt w B gc { pr with tb := T } I ib := by
  obtain ⟨h1, h2, ⟨p1, p2, p3⟩, m, d, Ai, ci, An, cn, h0, h3, h4, h5, h6, h7⟩ := h
  exact ⟨h1, h2, ⟨p1, fun b hb => p2 b (hT b hb), p3.sub (fun b hb => (List.mem_append.1 hb).elim (fun e => List.mem_append_left _ (hT b e)) (fun e => List.mem_append_right _ e))⟩, m, d, Ai, ci, An, cn, h0, h3, h4, h5, h6, h7⟩
/-- A scope with its row of jumps. -/
structure ScJ (w : World) (B gc : Nat) (ib : List Nat) (gs : Nat) (s : Scd) (jb : List Nat) (J : List Int) (N : Nat → Prop) : Prop where
  k : Blk w gs 114 #[.int .i64 s.fu, .int .i64 s.en, .slice s.Al s.nl s.cl, .int .i64 s.ar, .int .i64 s.fi, .slice s.Ac s.nc s.cc, .int .i64 s.ba, s.vj]
  ne : gs ≠ gc
  ni : gs ∉ jb ++ ib
  l1 : SB s.ar s.fi s.nl s.nc
  l2 : s.nc ≤ 100000
  rl : RowG w gc (gs :: (jb ++ ib)) s.Al s.nl (strCells s.xs)
  rc : RowG w gc (gs :: (jb ++ ib)) s.Ac s.nc (intCells s.ch)
  sl : ∃ Aj cj, s.vj = .slice Aj J.length cj
  ow : w.ownsRow B 3 1 s.vj J.length (intCells J)
  ob : s.vj.ownBlock.toList = jb
  jd : ∀ b ∈ jb, b ≠ gc ∧ b ∉ ib
  jn : ∀ j ∈ J, ∃ c : Nat, j = (c : Int) ∧ N c
section
variable {w w' w1 w2 : World} {B gc gs : Nat} {N N' : Nat → Prop} {ib ib' jb jb' : List Nat} {s : Scd} {J : List Int} {pr : Prm} {I : List It}
theorem ScJ.scp (h : ScJ w B gc ib gs s jb J N) : ScP w gc ib gs s :=
  ⟨h.k, h.ne, fun e => h.ni (List.mem_append_right _ e), h.l1, h.l2, h.rl.sub (fun b hb => List.mem_cons_of_mem _ (List.mem_append_right _ hb)), h.rc.sub (fun b hb => List.mem_cons_of_mem _ (List.mem_append_right _ hb))⟩
theorem ScJ.jlt (h : ScJ w B gc ib gs s jb J N) : ∀ b ∈ jb, B ≤ b ∧ b < w.heap.size := fun b hb => h.ow.lt b (by rw [← h.ob] at hb; exact Option.mem_toList.1 hb)
theorem ScJ.ev (h : ScJ w B gc ib gs s jb J N) (k : Ev gc ib w ib' w') (hN : ∀ c, N c → N' c) : ScJ w' B gc ib' gs s jb J N' := by
  have hgi : gs ∉ ib := fun e => h.ni (List.mem_append_right _ e)
  have hgj : gs ∉ jb := fun e => h.ni (List.mem_append_left _ e)
  have hj : ∀ b ∈ jb, b < w.heap.size := fun b hb => (h.jlt b hb).2
  have km := k.more (gs :: jb)
  exact ⟨k.blk h.k h.ne hgi, h.ne, fun e => (List.mem_append.1 e).elim hgj (k.ne h.k.lt hgi), h.l1, h.l2, h.rl.ev km, h.rc.ev km, h.sl,
    own_same h.ow (fun b hb => by
      have hb' : b ∈ jb := by rw [← h.ob]; exact Option.mem_toList.2 hb
      exact k.block b (hj b hb') (h.jd b hb').1 (h.jd b hb').2), h.ob, fun b hb => ⟨(h.jd b hb).1, k.ne (hj b hb) (h.jd b hb).2⟩, fun j hj' => by obtain ⟨c, h1, h2⟩ := h.jn j hj'; exact ⟨c, h1, hN c h2⟩⟩
/-- The frame of a scope's own turns, seen as the compiler's. -/
theorem Ev.turn (h : Ev gs jb w jb' w') : Ev gc (gs :: (jb ++ ib)) w (gs :: (jb' ++ ib)) w' :=
  ⟨h.os, h.tape, h.output, h.size, fun b hb _ h2 => h.block b hb (fun e => h2 (by rw [e]; exact List.mem_cons_self)) (fun e => h2 (List.mem_cons_of_mem _ (List.mem_append_left _ e))), fun b hb => by
    rcases List.mem_cons.1 hb with rfl | hb
    · exact .inl List.mem_cons_self
    · rcases List.mem_append.1 hb with hb | hb
      · rcases h.row b hb with h1 | h1
        · exact .inl (List.mem_cons_of_mem _ (List.mem_append_left _ h1))
        · exact .inr h1
      · exact .inl (List.mem_cons_of_mem _ (List.mem_append_right _ hb))⟩
theorem Ev.big (h : Ev gc ib w ib' w') : Ev gc (gs :: (jb ++ ib)) w (gs :: (jb ++ ib')) w' := h.more (gs :: jb)
end
set_option maxHeartbeats 4000000 in
theorem i_leave0 (w : World) (B gc gs : Nat) (ib : List Nat) (pr : Prm) (I : List It) (s : Scd) (line : Int) (atEnd : Bool) (h : CSt w B gc pr I ib) (hs : ScP w gc ib gs s) (hnc : s.nc = 0) (hI : I.length ≤ 1000000000000) (hB : B ≤ w.heap.size) :
    Calls Try.prog 92 #[.pointer (some ⟨gc, 0, none⟩), .pointer (some ⟨gs, 0, none⟩), .int .i64 line, .bool atEnd] w fun e w' => One (Plain line s.nc) (fun g => leaF pr.framed pr.words s.sp g) w B gc pr I ib e w' := by
  obtain ⟨F, hFe⟩ : ∃ F : Sg → Sg, F = fun g => leaF pr.framed pr.words s.sp g := ⟨_, rfl⟩
  rw [← hFe]
  have HFE := hide hFe
  clear hFe
  have HC := hide h
  have HS := hide hs
  obtain ⟨_, _, ⟨⟨_, hw0, hw1⟩, _, _⟩, most, depth, Ai, ci, An, cn, _, hk, _, _, _, _⟩ := h
  obtain ⟨s1, _, _, ⟨hb1, hb2, hb3, _⟩, _⟩ := hs
  have k5 := hk.cell 5
  have k6 := hk.cell 6
  have m3 := s1.cell 3
  have m5 := s1.cell 5
  simp at k5 k6 m3 m5
  rw [hnc] at m5
  clear hk s1 hnc
  have fin : Hid (∀ (w' : World) (code arg change : Int), w' = w ∨ (∃ n, w' = w.drewN n) ∨ w' = w.drew → code = 14 ∨ code = 16 → ArgOk code arg → change = -1 → addF (Vw w gc I) code arg change = F (Vw w gc I) → Calls Try.prog 80 #[.pointer (some ⟨gc, 0, none⟩), .pointer (some ⟨gs, 0, none⟩), .int .i64 line, .int .i64 code, .int .i64 arg, .int .i64 change] w' fun e w'' => One (Plain line s.nc) F w B gc pr I ib e w'') := by
    intro w' code arg change hw hcode harg hchg hF
    have hb : Below w.heap.size w w' := by
      rcases hw with rfl | ⟨n, rfl⟩ | rfl
      · exact Below.refl _ _
      · exact below_drewN (Below.refl _ _) n
      · exact (Below.refl _ _).drew
    refine (i_addS w' B gc gs ib pr I s line code arg change (HC.out.kept hb) (HS.out.ev (Ev.of_below hb gc ib)) hI (Nat.le_trans hB hb.size) (by omega)).mono ?_
    rintro e w'' ⟨he, x, ib', ⟨h1, h2, h3, h4, h5⟩, h6, h7, h8⟩
    exact ⟨he, x, ib', ⟨h3, h4, h5, by omega, by omega, by omega, by rw [h1, h2]; exact harg⟩, h6, (Ev.of_below hb gc ib).trans h7, by rw [h8, Vw_below hb HC.out.lt]; exact hF⟩
  cases hfr : pr.framed
  · go_enter Try.func92, Try.ntmps92
    go_wp2_with fail
    have zw1 : IntKind.i64.wrap (16 * pr.words) = 16 * pr.words := IntWalk.i64_in _ (by omega)
    have zw2 : IntKind.i64.wrap (s.ar + 16 * pr.words) = s.ar + 16 * pr.words := IntWalk.i64_in _ (by omega)
    go_region_held3 (fun w' => w'.cell? ⟨gs, 3, none⟩ = some (.int .i64 s.ar) ∧ w'.cell? ⟨gc, 6, none⟩ = some (.int .i64 pr.words)) (first | exact ⟨m3, k6⟩ | exact ⟨HM.out, HW.out⟩) (first | (go_at_call 80; refine (fin.out _ _ _ _ (by first | exact .inl rfl | exact .inr (.inr rfl)) (by omega) (by unfold ArgOk; omega) rfl (by rw [HFE.out]; simp [leaF, Scd.sp, hfr])).mono ?_; rintro e w5 ⟨rfl, hx⟩; have HX := hide hx; have HM := hide (one_cell3 HC.out HS.out hx); have HW := hide (one_cell6 hx); clear hx))
    all_goals
      go_wp2_with fail
      go_end0
      exact ⟨rfl, HX.out⟩
  · go_enter Try.func92, Try.ntmps92
    go_wp2_with fail
    refine (fin.out _ _ _ _ (by first | exact .inl rfl | exact .inr (.inl ⟨_, rfl⟩)) (by omega) (by unfold ArgOk; omega) rfl (by rw [HFE.out]; simp [leaF, Scd.sp, hfr])).mono ?_
    rintro e w' ⟨rfl, hx⟩
    go_wp2_with fail
    go_end0
    exact ⟨rfl, hx⟩
set_option maxHeartbeats 4000000 in
theorem i_leaveE (w : World) (gc gs : Nat) (ib : List Nat) (s : Scd) (line : Int) (hs : ScP w gc ib gs s) (hnc : 0 < s.nc) :
    Calls Try.prog 92 #[.pointer (some ⟨gc, 0, none⟩), .pointer (some ⟨gs, 0, none⟩), .int .i64 line, .bool true] w fun e w' => e = .returned (.tuple #[]) ∧ Below w.heap.size w w' := by
  obtain ⟨s1, _⟩ := hs
  have m5 := s1.cell 5
  simp at m5
  have z : decide ((0 : Nat) < s.nc) = true := decide_eq_true hnc
  have z2 : decide ((0 : Int) < (s.nc : Int)) = true := decide_eq_true (by omega)
  clear s1
  go_enter Try.func92, Try.ntmps92
  go_wp2_with fail
  go_end0
  exact ⟨rfl, by first | exact Below.refl _ _ | exact below_drewN (Below.refl _ _) _ | exact (Below.refl _ _).drew⟩
set_option maxHeartbeats 4000000 in
theorem i_leaveJ (w : World) (B gc gs : Nat) (ib jb : List Nat) (pr : Prm) (I : List It) (s : Scd) (J : List Int) (line : Int) (h : CSt w B gc pr I ib) (hs : ScJ w B gc ib gs s jb J (IsJ I)) (hnc : 0 < s.nc) (hI : I.length ≤ 1000000000000) (hJ : J.length ≤ 1000000000000) (hgt : gs ∈ pr.tb) (hjt : ∀ b ∈ jb, b ∈ pr.tb) (hB : B ≤ w.heap.size) :
    Calls Try.prog 92 #[.pointer (some ⟨gc, 0, none⟩), .pointer (some ⟨gs, 0, none⟩), .int .i64 line, .bool false] w fun e w' => e = .returned (.tuple #[]) ∧ ∃ (x : It) (ib' jb' : List Nat) (vj : Value), (x.code = 10 ∧ x.arg = 0 ∧ x.line = line ∧ x.start = false ∧ x.n = s.nc) ∧ CSt w' B gc { pr with tb := jb' ++ pr.tb } (I ++ [x]) ib' ∧ ScJ w' B gc ib' gs { s with vj := vj } jb' (J ++ [(I.length : Int)]) (IsJ (I ++ [x])) ∧ Ev gc (gs :: (jb ++ ib)) w (gs :: (jb' ++ ib')) w' ∧ Vw w' gc (I ++ [x]) = addF (Vw w gc I) 10 0 (-1) := by
  obtain ⟨i1, hi1, hy0, hy1, hy2⟩ := info_parts Try.infoIntC
  have HI1 := hide hi1
  clear hi1
  have HC := hide h
  have HS := hide hs
  obtain ⟨_, q2, _, most, depth, Ai, ci, An, cn, _, hk, _, _, _, _⟩ := h
  obtain ⟨s1, sne, sni, _, _, _, _, ⟨Aj, cj, hvj⟩, how, hob, hjd, hjn⟩ := hs
  have k8 := hk.cell 8
  have m5 := s1.cell 5
  have m7 := s1.cell 7
  have f7 := s1.frozen 7
  simp at k8 m5 m7
  have S1 := hide s1
  rw [hvj] at m7 how hob
  have z : decide ((0 : Nat) < s.nc) = true := decide_eq_true hnc
  have z2 : decide ((0 : Int) < (s.nc : Int)) = true := decide_eq_true (by omega)
  have hgs := s1.lt
  have hgl := hk.lt
  have OW : Hid (w.drew.ownsRow B 3 1 (.slice Aj J.length cj) J.length (intCells J)) := how
  have OBJ := hide hob
  have JD := hide hjd
  have JN := hide hjn
  have HVJ := hide hvj
  have hnj : gs ∉ jb := fun e => sni (List.mem_append_left _ e)
  have hni : gs ∉ ib := fun e => sni (List.mem_append_right _ e)
  have hjlt : ∀ b ∈ jb, b < w.heap.size := fun b hb => (HS.out.jlt b hb).2
  have k8a := (hk.drew.alloc (.cells #[.int .i64 (I.length : Int)] 3)).cell 8
  have m7a := (s1.drew.alloc (.cells #[.int .i64 (I.length : Int)] 3)).cell 7
  simp at k8a m7a
  rw [hvj] at m7a
  have KK := hide hk
  clear hk s1 how hob hjd hjn hvj sni hnc
  go_enter Try.func92, Try.ntmps92
  go_upto_region 3 with fail
  go_cut [50] from 39 to 52 (fun s50 wx => ∃ (A7 : Option Addr) (c7 : Nat), Blk wx gs 114 #[.int .i64 s.fu, .int .i64 s.en, .slice s.Al s.nl s.cl, .int .i64 s.ar, .int .i64 s.fi, .slice s.Ac s.nc s.cc, .int .i64 s.ba, .slice A7 (J.length + 1) c7] ∧ wx.ownsRow B 3 1 (.slice A7 (J.length + 1) c7) (J.length + 1) (intCells J ++ [.int .i64 (I.length : Int)]) ∧ Ev gs jb w (Value.slice A7 (J.length + 1) c7).ownBlock.toList wx)
  case first =>
    go_region_law (refine step_appN w.drew rfl (.tmp 43) (.tmp 49) _ rfl B 3 i1 _ 1 8 Try.underlying28 HI1.out hy0 hy1 hy2 rfl (by decide) (.slice Aj J.length cj) J.length (intCells J) rfl OW.out 1 [.int .i64 (I.length : Int)] rfl rfl rfl (by intro u hu; simp at hu; subst hu; rfl) (by omega) (by decide) (show B ≤ w.drew.heap.size from hB) ?_; intro v7 w7 hown7 hb7 hg7 hv7; obtain ⟨A7, c7, rfl, _⟩ := Arr.own2 hown7; have K7 := hide (S1.out.drew.grown hg7 (by intro e; exact hnj (by rw [← OBJ.out]; exact Option.mem_toList.2 e.symm))); have C7 := hide (KK.out.drew.grown hg7 (by intro e; exact (JD.out gc (by rw [← OBJ.out]; exact Option.mem_toList.2 e.symm)).1 rfl)); have kk7 := K7.out.cell 7; have ff7 := K7.out.frozen 7; have kc8 := C7.out.cell 8; simp at kk7 kc8; have O7 := hide hown7; have G7 := hide hg7; have V7 := hide hv7)
    all_goals
      go_wp2_with fail
    all_goals
      go_meet
      have hzz : w.drew.heap.size = w.heap.size := rfl
      have hne7 : ∀ b, (Value.slice A7 (J.length + 1) c7).ownBlock = some b → b ≠ gs := fun b hb => by
        rcases V7.out with h1 | h1
        · rw [h1] at hb; exact fun e => hnj (by rw [← OBJ.out, ← e]; exact Option.mem_toList.2 hb)
        · rw [h1] at hb; injection hb with hb; omega
      refine ⟨A7, c7, ?_, own_setFar O7.out hne7 _, ?_⟩
      · have := K7.out.set_ 7 (.slice A7 (J.length + 1) c7)
        simpa using this
      · refine (Ev.of_row (w := w) (w1 := w7) (row := (Value.slice Aj J.length cj).ownBlock) ⟨G7.out.os, G7.out.tape, G7.out.output, G7.out.size, G7.out.block⟩ _ (fun b hb _ => by rw [← OBJ.out]; exact Option.mem_toList.2 hb) (fun b hb => ?_)).trans (Ev.of_cell (only_setCell (p := ⟨gs, 7, none⟩) (World.grownBy.refl w7 (some gs)) (Or.inl rfl) _) _)
        have hb2 := Option.mem_toList.1 hb
        rcases V7.out with h1 | h1
        · exact .inl (by rw [← OBJ.out]; exact Option.mem_toList.2 (h1 ▸ hb2))
        · rw [h1] at hb2; injection hb2 with hb2; exact .inr (by omega)
  case rest =>
    obtain ⟨A7, c7, hk7, ho7, hev⟩ := hcut
    have K7 := hide hk7
    have O7 := hide ho7
    have EV := hide hev
    have hjd7 : ∀ b ∈ (Value.slice A7 (J.length + 1) c7).ownBlock.toList, b ≠ gc ∧ b ∉ ib := fun b hb => by
      rcases EV.out.row b hb with h1 | h1
      · exact JD.out b h1
      · exact ⟨by omega, fun e => by have := (HC.out.rows b e).2; omega⟩
    have hgs7 : gs ∉ (Value.slice A7 (J.length + 1) c7).ownBlock.toList := fun e => by
      rcases EV.out.row gs e with h1 | h1
      · exact hnj h1
      · omega
    have hsame : ∀ b, b = gc ∨ b ∈ ib → wc.heap[b]? = w.heap[b]? := fun b hb => by
      rcases hb with rfl | hb
      · exact EV.out.block _ hgl (fun e => sne e.symm) (fun e => (JD.out _ e).1 rfl)
      · exact EV.out.block _ (HC.out.rows b hb).2 (fun e => hni (e ▸ hb)) (fun e => (JD.out _ e).2 hb)
    have VJ := hide (Vw_same (hsame gc (.inl rfl)) I)
    have CW0 := HC.out.same hsame EV.out.size (fun b hb hn => EV.out.block b hb (fun e => hn (e ▸ hgt)) (fun e => hn (hjt b e)))
    have CW := hide (HC.out.grow CW0 (Value.slice A7 (J.length + 1) c7).ownBlock.toList (fun b hb => ⟨by
      rcases EV.out.row b hb with h1 | h1
      · exact .inl (hjt b h1)
      · exact .inr h1, (O7.out.lt b (Option.mem_toList.1 hb)).2⟩))
    have EVT := hide (EV.out.turn (gc := gc) (ib := ib))
    have SJ : Hid (ScJ wc B gc ib gs { s with vj := .slice A7 (J.length + 1) c7 } (Value.slice A7 (J.length + 1) c7).ownBlock.toList (J ++ [(I.length : Int)]) (fun c => IsJ I c ∨ c = I.length)) := by
      refine ⟨K7.out, sne, fun e => (List.mem_append.1 e).elim hgs7 hni, HS.out.l1, HS.out.l2, HS.out.rl.ev EVT.out, HS.out.rc.ev EVT.out, ⟨A7, c7, by simp⟩, ?_, rfl, hjd7, fun j hj => ?_⟩
      · have e1 : intCells (J ++ [(I.length : Int)]) = intCells J ++ [.int .i64 (I.length : Int)] := by simp [intCells]
        rw [e1, List.length_append]
        exact O7.out
      · rcases List.mem_append.1 hj with h1 | h1
        · obtain ⟨c, g1, g2⟩ := JN.out j h1; exact ⟨c, g1, .inl g2⟩
        · exact ⟨I.length, List.mem_singleton.1 h1, .inr rfl⟩
    have hBw : B ≤ wc.heap.size := Nat.le_trans hB EV.out.size
    clear hk7 ho7 hev hjd7 hsame k8a m7a k8 m5 m7 f7
    go_wp2_with fail
    refine (i_addS wc B gc gs ib _ I _ line 10 0 _ CW.out SJ.out.scp hI hBw (by omega)).mono ?_
    rintro e w'' ⟨rfl, x, ib', ⟨h1, h2, h3, h4, h5⟩, h6, h7, h8⟩
    have VX : Hid (Vw w'' gc (I ++ [x]) = addF (Vw w gc I) 10 0 (-1)) := by
      show _ = _
      rw [h8, VJ.out]
    clear h8
    have C8 := hide h6
    have E8 := hide h7
    clear h6 h7
    go_wp2_with fail
    go_end0
    exact ⟨rfl, x, ib', _, _, ⟨h1, h2, h3, h4, h5⟩, C8.out, SJ.out.ev E8.out (fun c hc => by
      rcases hc with hc | rfl
      · exact hc.app
      · exact IsJ.last (.inl h1)), EVT.out.trans E8.out.big, VX.out⟩
set_option maxHeartbeats 4000000 in
theorem i_replaced (w : World) (B gc gs : Nat) (ib : List Nat) (pr : Prm) (I : List It) (s : Scd) (k : Int) (L : List Ln) (h : CSt w B gc pr I ib) (hs : ScP w gc ib gs s) (hn : pr.n ≤ 1000) (hR : InLines w pr.A pr.n L) (hk0 : 0 ≤ k) (hkn : k < pr.n) :
    Calls Try.prog 103 #[.pointer (some ⟨gc, 0, none⟩), .pointer (some ⟨gs, 0, none⟩), .int .i64 k] w fun e w' => (∃ b : Bool, e = .returned (.bool b) ∧ (b = true → (s.nc : Int) < pr.inl ∧ endOfF L k ≤ k + 9 ∧ I.length < 200) ∧ b = repbF (pr.cp L) pr.ns s.nc k I.length) ∧ Below w.heap.size w w' := by
  obtain ⟨_, _, ⟨⟨q3, _⟩, _, _⟩, most, depth, Ai, ci, An, cn, _, hk, _, hin, _, _⟩ := h
  obtain ⟨s1, _⟩ := hs
  have k0 := hk.cell 0
  have k2 := hk.cell 2
  have k8 := hk.cell 8
  have kt := hk.cell 10
  have m5 := s1.cell 5
  simp at k0 k2 k8 kt m5
  obtain ⟨A', c', e1, _, har⟩ := Arr.of_own hin
  cases e1
  have XN := hide (InRow.of_arr har)
  have hlN : pr.ns.length = pr.ins := by have := har.1; simpa [intCells] using this
  have HR := hide hR
  have HE := hide (fun n => i_endOf pr.A pr.n pr.c L k (w.drewN n) (by omega) (hR.below (below_drewN (Below.refl _ _) n)))
  have he60 : -1 ≤ endOfF L k ∧ endOfF L k ≤ 1000 := by
    have hl := hR.len
    rcases Int.lt_or_le (endOfF L k) 0 with h0 | h0
    · have hge : -1 ≤ endOfF L k := by
        unfold endOfF
        split
        · rcases endFrom_ge (L.drop k.toNat) k.toNat 0 with h1 | h1
          · omega
          · omega
        · omega
      exact ⟨hge, by omega⟩
    · obtain ⟨_, _, _, _, _, h1, _⟩ := endOf_pos L k h0
      exact ⟨by omega, by omega⟩
  have HC : Hid (∀ n, Calls Try.prog 35 #[.slice An pr.ins cn, .int .i64 k] (w.drewN n) fun e w' => e = .returned (.bool (decide (k ∈ pr.ns))) ∧ w.drewN n = w') := fun n => i_hasInt _ _ _ _ _ _ (by omega) hlN (XN.out.below (below_drewN (Below.refl _ _) n))
  clear hk s1 hin har hR
  obtain ⟨RB, hRB⟩ : ∃ RB : Bool, RB = repbF (pr.cp L) pr.ns s.nc k I.length := ⟨_, rfl⟩
  rw [← hRB]
  have hRB2 : RB = (decide ((s.nc : Int) < pr.inl) && (!decide (k ∈ pr.ns) && (decide (endOfF L k - k ≤ 9) && decide (I.length < 200)))) := hRB
  clear hRB
  generalize endOfF L k = y at *
  generalize decide (k ∈ pr.ns) = ct at *
  by_cases hlt : (s.nc : Int) < pr.inl
  · have z : decide ((s.nc : Int) < pr.inl) = true := decide_eq_true hlt
    cases ct
    · by_cases h9 : y - k ≤ 9
      · have z9 : decide (y - k ≤ 9) = true := decide_eq_true h9
        by_cases h200 : I.length < 200
        · have z8 : decide ((I.length : Int) < 200) = true := decide_eq_true (by omega)
          have HRB : Hid (RB = true) := (by show RB = _; rw [hRB2]; simp [*]; try omega)
          clear hRB2
          go_enter Try.func103, Try.ntmps103
          go_wp2_with fail
          go_quiet (first | (go_at_call 35; exact quiet_left (HC.out _)) | (go_at_call 11; exact quiet_left (HE.out _)))
          go_wp2_with fail
          go_ret
          exact ⟨⟨_, rfl, fun _ => ⟨hlt, by omega, h200⟩, HRB.out.symm⟩, by first | exact Below.refl _ _ | exact below_drewN (Below.refl _ _) _ | exact (Below.refl _ _).drew⟩
        · have z8 : decide ((I.length : Int) < 200) = false := decide_eq_false (by omega)
          have HRB : Hid (RB = false) := (by show RB = _; rw [hRB2]; simp [*]; try omega)
          clear hRB2
          go_enter Try.func103, Try.ntmps103
          go_wp2_with fail
          go_quiet (first | (go_at_call 35; exact quiet_left (HC.out _)) | (go_at_call 11; exact quiet_left (HE.out _)))
          go_wp2_with fail
          go_ret
          exact ⟨⟨_, rfl, fun h => (by cases h), HRB.out.symm⟩, by first | exact Below.refl _ _ | exact below_drewN (Below.refl _ _) _ | exact (Below.refl _ _).drew⟩
      · have z9 : decide (y - k ≤ 9) = false := decide_eq_false h9
        have HRB : Hid (RB = false) := (by show RB = _; rw [hRB2]; simp [*]; try omega)
        clear hRB2
        go_enter Try.func103, Try.ntmps103
        go_wp2_with fail
        go_quiet (first | (go_at_call 35; exact quiet_left (HC.out _)) | (go_at_call 11; exact quiet_left (HE.out _)))
        go_wp2_with fail
        go_ret
        exact ⟨⟨_, rfl, fun h => (by cases h), HRB.out.symm⟩, by first | exact Below.refl _ _ | exact below_drewN (Below.refl _ _) _ | exact (Below.refl _ _).drew⟩
    · have HRB : Hid (RB = false) := (by show RB = _; rw [hRB2]; simp [*]; try omega)
      clear hRB2
      go_enter Try.func103, Try.ntmps103
      go_wp2_with fail
      go_quiet (first | (go_at_call 35; exact quiet_left (HC.out _)))
      go_wp2_with fail
      go_ret
      exact ⟨⟨_, rfl, fun h => (by cases h), HRB.out.symm⟩, by first | exact Below.refl _ _ | exact below_drewN (Below.refl _ _) _ | exact (Below.refl _ _).drew⟩
  · have z : decide ((s.nc : Int) < pr.inl) = false := decide_eq_false hlt
    have HRB : Hid (RB = false) := (by show RB = _; rw [hRB2]; simp [*]; try omega)
    clear hRB2
    go_enter Try.func103, Try.ntmps103
    go_wp2_with fail
    go_quiet (fail)
    go_wp2_with fail
    go_ret
    exact ⟨⟨_, rfl, fun h => (by cases h), HRB.out.symm⟩, by first | exact Below.refl _ _ | exact below_drewN (Below.refl _ _) _ | exact (Below.refl _ _).drew⟩
theorem ixFrom_lt (s : Int) : ∀ (l : List Int) (k : Nat), ixFrom s l k = -1 ∨ ((k : Int) ≤ ixFrom s l k ∧ ixFrom s l k < k + l.length) := by
  intro l
  induction l with
  | nil => intro k; left; rfl
  | cons x l ih =>
    intro k
    rw [ixFrom]
    by_cases h : x = s
    · rw [if_pos h]; right; simp only [List.length_cons]; omega
    · rw [if_neg h]
      rcases ih (k + 1) with h1 | h1
      · exact .inl h1
      · right; simp only [List.length_cons]; omega
theorem ixF_range {l : List Int} {s : Int} (h : s ∈ l) : 0 ≤ ixF l s ∧ ixF l s < (l.length : Int) := by
  have h1 := (ixF_mem l s).2 h
  have h2 : ixF l s = -1 ∨ _ := ixFrom_lt s l 0
  change _ ∨ (((0 : Nat) : Int) ≤ ixF l s ∧ ixF l s < ((0 : Nat) : Int) + l.length) at h2
  omega
set_option maxHeartbeats 4000000 in
theorem i_numberOf (w : World) (B gc : Nat) (ib : List Nat) (pr : Prm) (I : List It) (k : Int) (L : List Ln) (h : CSt w B gc pr I ib) (hn : pr.n ≤ 1000) (hR : InLines w pr.A pr.n L) (hkf : k ∈ funsF L) :
    Calls Try.prog 105 #[.pointer (some ⟨gc, 0, none⟩), .int .i64 k] w fun e w' => (∃ j : Int, e = .returned (.int .i64 j) ∧ 0 ≤ j ∧ j < ((funsF L).length : Int) ∧ j = ixF (funsF L) k) ∧ Below w.heap.size w w' := by
  obtain ⟨_, _, _, most, depth, Ai, ci, An, cn, _, hk, _, _, _, _⟩ := h
  have k0 := hk.cell 0
  simp at k0
  have HR := hide hR
  have HKF := hide (ixF_range hkf)
  clear hk hR hkf
  go_enter Try.func105, Try.ntmps105
  go_wp2_with fail
  refine (i_funs _ pr.n _ L _ (by omega) HR.out).mono ?_
  rintro e w1 ⟨⟨v, rfl, ho⟩, hb1⟩
  have hlen : (funsF L).length ≤ 1000 := by
    have h1 := funsFrom_len L 0
    have h2 := HR.out.len
    exact Nat.le_trans h1 (by omega)
  obtain ⟨F, cf, rfl, _, har⟩ := Arr.of_own ho
  have X := hide (InRow.of_arr har)
  have HB := hide hb1
  clear ho har hb1
  go_wp2_with fail
  refine (i_ixInt _ _ _ _ _ _ (by omega) rfl X.out).mono ?_
  rintro e w2 ⟨rfl, rfl⟩
  go_wp2_with fail
  go_ret
  exact ⟨⟨_, rfl, HKF.out.1, HKF.out.2, rfl⟩, HB.out⟩
end Go.Proofs.Ytcfjbaanahgpoaa
namespace Go.Proofs.Ytcfjbaanahgpoaa
open Go Go.RowKit
set_option maxRecDepth 100000
set_option linter.unusedVariables false
set_option linter.unusedSimpArgs false
/-- All items are in order: lines, chains and jumps. -/
def IOk (n : Nat) (inl : Int) (I : List It) : Prop := ∀ x ∈ I, 0 ≤ x.line ∧ x.line < (n : Int) ∧ (x.n : Int) ≤ inl ∧ (x.code = 10 ∨ x.code = 11 → 0 ≤ x.arg ∧ x.arg ≤ (I.length : Int)) ∧ ArgOk x.code x.arg
/-- An item that has at most got another number or a mark. -/
def Kin (x y : It) : Prop := y.code = x.code ∧ y.line = x.line ∧ y.n = x.n ∧ (x.start = true → y.start = true) ∧ (0 ≤ x.arg → 0 ≤ y.arg)
theorem Kin.refl (x : It) : Kin x x := ⟨rfl, rfl, rfl, fun h => h, fun h => h⟩
theorem Kin.trans {x y z : It} (h : Kin x y) (k : Kin y z) : Kin x z := ⟨k.1.trans h.1, k.2.1.trans h.2.1, k.2.2.1.trans h.2.2.1, fun e => k.2.2.2.1 (h.2.2.2.1 e), fun e => k.2.2.2.2 (h.2.2.2.2 e)⟩
/-- Items have been put, none was taken away. -/
structure Gro (n : Nat) (inl : Int) (Y : Nat) (I I' : List It) (a : Nat) : Prop where
  lo : I.length ≤ I'.length
  hi : I'.length ≤ I.length + a ∨ I'.length ≤ Y + a
  kp : ∀ (j : Nat) (x : It), I[j]? = some x → ∃ y, I'[j]? = some y ∧ Kin x y
  ok : IOk n inl I → IOk n inl I'
section
variable {n : Nat} {inl : Int} {Y : Nat} {I J K : List It} {a b : Nat}
theorem Gro.refl (n : Nat) (inl : Int) (Y : Nat) (I : List It) : Gro n inl Y I I 0 := ⟨Nat.le_refl _, .inl (Nat.le_refl _), fun j x h => ⟨x, h, Kin.refl x⟩, fun h => h⟩
theorem Gro.trans (h : Gro n inl Y I J a) (g : Gro n inl Y J K b) : Gro n inl Y I K (a + b) := by
  have h1 := h.lo; have h2 := h.hi; have g1 := g.lo; have g2 := g.hi
  refine ⟨by omega, by omega, fun j x hx => ?_, fun hx => g.ok (h.ok hx)⟩
  obtain ⟨y, hy, k1⟩ := h.kp j x hx
  obtain ⟨z, hz, k2⟩ := g.kp j y hy
  exact ⟨z, hz, k1.trans k2⟩
theorem Gro.mono (h : Gro n inl Y I J a) (hb : a ≤ b) : Gro n inl Y I J b := ⟨h.lo, by have := h.hi; omega, h.kp, h.ok⟩
theorem Gro.one {x : It} (hl : 0 ≤ x.line ∧ x.line < (n : Int)) (hn : (x.n : Int) ≤ inl) (hj : x.code = 10 ∨ x.code = 11 → 0 ≤ x.arg ∧ x.arg ≤ (I.length : Int)) (ha : ArgOk x.code x.arg) : Gro n inl Y I (I ++ [x]) 1 := by
  refine ⟨by simp, .inl (by simp), fun j y h => ⟨y, ?_, Kin.refl y⟩, fun h y hy => ?_⟩
  · have hlt : j < I.length := (List.getElem?_eq_some_iff.1 h).1
    rw [List.getElem?_append_left hlt]; exact h
  · rw [List.length_append]
    rcases List.mem_append.1 hy with h1 | h1
    · obtain ⟨a1, a2, a3, a4, a5⟩ := h y h1
      exact ⟨a1, a2, a3, fun e => by have := a4 e; simp; omega, a5⟩
    · obtain rfl := List.mem_singleton.1 h1
      exact ⟨hl.1, hl.2, hn, fun e => by have := hj e; simp; omega, ha⟩
theorem Gro.plain {x : It} {line : Int} {nc : Nat} (h : Plain line nc x) (hl : 0 ≤ line ∧ line < (n : Int)) (hn : (nc : Int) ≤ inl) : Gro n inl Y I (I ++ [x]) 1 := by
  obtain ⟨h1, h2, h3, h4, h5, h6, h7⟩ := h
  exact Gro.one (by rw [h1]; exact hl) (by rw [h3]; exact hn) (fun e => by omega) h7
theorem set_kin {j : Nat} {x : It} (hj : j < I.length) (hx : Kin I[j] x) : ∀ (i : Nat) (y : It), I[i]? = some y → ∃ z, (I.set j x)[i]? = some z ∧ Kin y z := by
  intro i y h
  rw [List.getElem?_set]
  by_cases e : j = i
  · subst e
    rw [if_pos rfl, if_pos hj]
    rw [List.getElem?_eq_getElem hj] at h
    injection h with h
    subst h
    exact ⟨x, rfl, hx⟩
  · rw [if_neg e]
    exact ⟨y, h, Kin.refl y⟩
theorem Gro.arg {j : Nat} (hj : j < I.length) (hJ : I[j].code = 10 ∨ I[j].code = 11) {m : Nat} (hm : m ≤ I.length) : Gro n inl Y I (I.set j { I[j] with arg := (m : Nat) }) 0 := by
  refine ⟨by simp, .inl (by simp), set_kin hj ⟨rfl, rfl, rfl, fun h => h, fun _ => by show (0 : Int) ≤ (m : Int); omega⟩, fun h y hy => ?_⟩
  rw [List.length_set]
  rcases List.mem_or_eq_of_mem_set hy with h1 | h1
  · exact h y h1
  · obtain ⟨a1, a2, a3, a4, a5⟩ := h _ (List.getElem_mem hj)
    subst h1
    exact ⟨a1, a2, a3, fun _ => by show (0 : Int) ≤ (m : Int) ∧ (m : Int) ≤ _; omega, by show ArgOk I[j].code (m : Int); unfold ArgOk; omega⟩
theorem Gro.start {j : Nat} (hj : j < I.length) : Gro n inl Y I (I.set j { I[j] with start := true }) 0 := by
  refine ⟨by simp, .inl (by simp), set_kin hj ⟨rfl, rfl, rfl, fun _ => rfl, fun h => h⟩, fun h y hy => ?_⟩
  rw [List.length_set]
  rcases List.mem_or_eq_of_mem_set hy with h1 | h1
  · exact h y h1
  · obtain ⟨a1, a2, a3, a4, a5⟩ := h _ (List.getElem_mem hj)
    subst h1
    exact ⟨a1, a2, a3, a4, a5⟩
end
/-- The item at which a line begins, if it is there, is one of the line. -/
def Bg (I : List It) (begin : Nat) (line : Int) (nc : Nat) : Prop := begin ≤ I.length ∧ ∀ x, I[begin]? = some x → x.line = line ∧ x.n = nc
theorem Bg.one {I : List It} {begin : Nat} {line : Int} {nc : Nat} {x : It} (h : Bg I begin line nc) (h1 : x.line = line) (h2 : x.n = nc) : Bg (I ++ [x]) begin line nc ∧ begin < (I ++ [x]).length := by
  refine ⟨⟨by have := h.1; simp; omega, fun y hy => ?_⟩, by have := h.1; simp; omega⟩
  by_cases e : begin < I.length
  · rw [List.getElem?_append_left e] at hy; exact h.2 y hy
  · have e2 : begin = I.length := by have := h.1; omega
    subst e2
    simp at hy
    subst hy
    exact ⟨h1, h2⟩
theorem Bg.gro {n : Nat} {inl : Int} {Y : Nat} {I J : List It} {a begin : Nat} {line : Int} {nc : Nat} (h : Bg I begin line nc) (hb : begin < I.length) (g : Gro n inl Y I J a) : Bg J begin line nc ∧ begin < J.length := by
  have hl := g.lo
  refine ⟨⟨by omega, fun y hy => ?_⟩, by omega⟩
  obtain ⟨z, hz, k⟩ := g.kp begin _ (List.getElem?_eq_getElem hb)
  have h2 := h.2 _ (List.getElem?_eq_getElem hb)
  rw [hy] at hz
  injection hz with hz
  subst hz
  exact ⟨k.2.1.trans h2.1, k.2.2.1.trans h2.2⟩
/-- A start of a line, with no chain. -/
def StAt (I : List It) (line : Int) : Prop := ∃ (j : Nat) (x : It), I[j]? = some x ∧ x.start = true ∧ x.n = 0 ∧ x.line = line
theorem StAt.gro {n : Nat} {inl : Int} {Y : Nat} {I J : List It} {a : Nat} {line : Int} (h : StAt I line) (g : Gro n inl Y I J a) : StAt J line := by
  obtain ⟨j, x, h1, h2, h3, h4⟩ := h
  obtain ⟨y, hy, k⟩ := g.kp j x h1
  exact ⟨j, y, hy, k.2.2.2.1 h2, k.2.2.1.trans h3, k.2.1.trans h4⟩
theorem IsJ.gro {n : Nat} {inl : Int} {Y : Nat} {I J : List It} {a j : Nat} (h : IsJ I j) (g : Gro n inl Y I J a) : IsJ J j := by
  obtain ⟨x, h1, h2⟩ := h
  obtain ⟨y, hy, k⟩ := g.kp j x h1
  exact ⟨y, hy, by rw [k.1]; exact h2⟩
/-- The compiler goes on with other items. -/
def Step (w : World) (B gc : Nat) (pr : Prm) (ib : List Nat) (I' : List It) (w' : World) : Prop := ∃ ib', CSt w' B gc pr I' ib' ∧ Ev gc ib w ib' w'
set_option maxHeartbeats 4000000 in
theorem i_word (w : World) (B gc gs : Nat) (ib : List Nat) (pr : Prm) (I : List It) (s : Scd) (line i : Int) (h : CSt w B gc pr I ib) (hs : ScP w gc ib gs s) (hI : I.length ≤ 3000) (hi8 : -1 ≤ i ∧ i ≤ 8) (hB : B ≤ w.heap.size) :
    Calls Try.prog 108 #[.pointer (some ⟨gc, 0, none⟩), .pointer (some ⟨gs, 0, none⟩), .int .i64 line, .int .i64 i] w fun e w' => One (Plain line s.nc) (fun g => wordF pr.framed s.fi g i) w B gc pr I ib e w' := by
  obtain ⟨F, hFe⟩ : ∃ F : Sg → Sg, F = fun g => wordF pr.framed s.fi g i := ⟨_, rfl⟩
  rw [← hFe]
  have HFE := hide hFe
  clear hFe
  have HC := hide h
  have HS := hide hs
  obtain ⟨_, _, _, most, depth, Ai, ci, An, cn, ⟨_, _, hd1, hd2⟩, hk, _, _, _, _⟩ := h
  obtain ⟨s1, _, _, ⟨hb1, hb2, hb3, hb4, hb5, hb7⟩, hb6, _⟩ := hs
  have HV := hide (Vw_of hk I)
  have k5 := hk.cell 5
  have k9 := hk.cell 9
  have m4 := s1.cell 4
  simp at k5 k9 m4
  clear hk s1
  have fin : Hid (∀ (w' : World) (code arg change : Int), w' = w ∨ (∃ n, w' = w.drewN n) → code = 2 ∨ code = 4 → -32768 ≤ arg ∧ arg ≤ 32767 → change = -1 → addF (Vw w gc I) code arg change = F (Vw w gc I) → Calls Try.prog 80 #[.pointer (some ⟨gc, 0, none⟩), .pointer (some ⟨gs, 0, none⟩), .int .i64 line, .int .i64 code, .int .i64 arg, .int .i64 change] w' fun e w'' => One (Plain line s.nc) F w B gc pr I ib e w'') := by
    intro w' code arg change hw hcode harg hchg hF
    have hb : Below w.heap.size w w' := by
      rcases hw with rfl | ⟨n, rfl⟩
      · exact Below.refl _ _
      · exact below_drewN (Below.refl _ _) n
    refine (i_addS w' B gc gs ib pr I s line code arg change (HC.out.kept hb) (HS.out.ev (Ev.of_below hb gc ib)) (by omega) (Nat.le_trans hB hb.size) (by omega)).mono ?_
    rintro e w'' ⟨he, x, ib', ⟨h1, h2, h3, h4, h5⟩, h6, h7, h8⟩
    exact ⟨he, x, ib', ⟨h3, h4, h5, by omega, by omega, by omega, by unfold ArgOk; omega⟩, h6, (Ev.of_below hb gc ib).trans h7, by rw [h8, Vw_below hb HC.out.lt]; exact hF⟩
  cases hfr : pr.framed
  · go_enter Try.func108, Try.ntmps108
    go_wp2_with fail
    refine (fin.out _ _ _ _ (by first | exact .inl rfl | exact .inr ⟨_, rfl⟩) (by omega) (by omega) rfl (by rw [HFE.out, HV.out]; simp [wordF, hfr])).mono ?_
    rintro e w' ⟨rfl, hx⟩
    go_wp2_with fail
    go_end0
    exact ⟨rfl, hx⟩
  · go_enter Try.func108, Try.ntmps108
    go_wp2_with fail
    refine (fin.out _ _ _ _ (by first | exact .inl rfl | exact .inr ⟨_, rfl⟩) (by omega) (by omega) rfl (by rw [HFE.out, HV.out]; simp [wordF, hfr])).mono ?_
    rintro e w' ⟨rfl, hx⟩
    go_wp2_with fail
    go_end0
    exact ⟨rfl, hx⟩
end Go.Proofs.Ytcfjbaanahgpoaa
