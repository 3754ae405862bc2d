import Derived.Test.YtcfjbaanahgpoaaOwnG
import Derived.Test.YtcfjbaanahgpoaaApp
import Derived.Test.YtcfjbaanahgpoaaDrE
import Derived.Deep.RegionHeld3
import Derived.Test.YtcfjbaanahgpoaaPokY
namespace Go.Proofs.Ytcfjbaanahgpoaa
open Go Go.RowKit
set_option maxRecDepth 100000
set_option linter.unusedVariables false
/-! What a compiler holds: calls may be replaced. -/
structure It where
  code : Int
  arg : Int
  line : Int
  start : Bool
  A : Option Addr
  n : Nat
  c : Nat
  dep : Int
  ent : Bool
def itC (x : It) : List Value := [.int .i64 x.code, .int .i64 x.arg, .int .i64 x.line, .bool x.start, .slice x.A x.n x.c, .int .i64 x.dep, .bool x.ent]
structure Prm where
  A : Option Addr
  n : Nat
  c : Nat
  fr : Int
  inl : Int
  fold : Bool
  split : Bool
  framed : Bool
  words : Int
  ins : Nat
/-- Only the compiler's block and some rows have turned; a row may be a new one. -/
structure Ev (gc : Nat) (R : List Nat) (w : World) (R' : List Nat) (w' : World) : Prop where
  os : w'.os = w.os
  tape : w'.tape = w.tape
  output : w'.output = w.output
  size : w.heap.size ≤ w'.heap.size
  block : ∀ b, b < w.heap.size → b ≠ gc → b ∉ R → w'.heap[b]? = w.heap[b]?
  row : ∀ b, b ∈ R' → b ∈ R ∨ w.heap.size ≤ b
section
variable {gc B : Nat} {R R1 R2 : List Nat} {w w1 w2 : World}
theorem Ev.refl (gc : Nat) (R : List Nat) (w : World) : Ev gc R w R w := ⟨rfl, rfl, rfl, Nat.le_refl _, fun _ _ _ _ => rfl, fun _ h => .inl h⟩
theorem Ev.ne {g : Nat} (h : Ev gc R w R1 w1) (hg : g < w.heap.size) (h2 : g ∉ R) : g ∉ R1 := fun e => by
  rcases h.row g e with h1 | h1
  · exact h2 h1
  · omega
theorem Ev.trans (h : Ev gc R w R1 w1) (k : Ev gc R1 w1 R2 w2) : Ev gc R w R2 w2 := by
  refine ⟨k.os.trans h.os, k.tape.trans h.tape, k.output.trans h.output, Nat.le_trans h.size k.size, fun b hb h1 h2 => (k.block b (Nat.lt_of_lt_of_le hb h.size) h1 (h.ne hb h2)).trans (h.block b hb h1 h2), fun b hb => ?_⟩
  rcases k.row b hb with h1 | h1
  · exact h.row b h1
  · exact .inr (Nat.le_trans h.size h1)
theorem Ev.of_below (h : Below w.heap.size w w1) (gc : Nat) (R : List Nat) : Ev gc R w R w1 := ⟨h.os, h.tape, h.output, h.size, fun b hb _ _ => h.block b hb, fun _ h => .inl h⟩
theorem Ev.of_cell (h : w.grownBy w1 (some gc)) (R : List Nat) : Ev gc R w R w1 := ⟨h.os, h.tape, h.output, h.size, fun b hb h1 _ => h.block b hb (by simpa using h1), fun _ h => .inl h⟩
theorem Ev.of_row {row : Option Nat} (h : w.grownBy w1 row) (gc : Nat) (hr : ∀ b, row = some b → b < w.heap.size → b ∈ R) (hr' : ∀ b, b ∈ R1 → b ∈ R ∨ w.heap.size ≤ b) : Ev gc R w R1 w1 :=
  ⟨h.os, h.tape, h.output, h.size, fun b hb _ h2 => h.block b hb (fun e => h2 (hr b e.symm hb)), hr'⟩
theorem Ev.blk {g : Nat} {t : TypeId} {cs : Array Value} (h : Ev gc R w R1 w1) (k : Blk w g t cs) (h1 : g ≠ gc) (h2 : g ∉ R) : Blk w1 g t cs := (h.block g k.lt h1 h2).trans k
theorem Ev.below (h : Ev gc R w R1 w1) (hg : B ≤ gc) (hi : ∀ b, b ∈ R → B ≤ b) (hB : B ≤ w.heap.size) : Below B w w1 :=
  ⟨h.os, h.tape, h.output, h.size, fun b hb => h.block b (by omega) (by omega) (fun e => by have := hi b e; omega)⟩
/-- Seen with more rows. -/
theorem Ev.more (X : List Nat) (h : Ev gc R w R1 w1) : Ev gc (X ++ R) w (X ++ R1) w1 :=
  ⟨h.os, h.tape, h.output, h.size, fun b hb h1 h2 => h.block b hb h1 (fun e => h2 (List.mem_append_right _ e)), fun b hb => by
    rcases List.mem_append.1 hb with h1 | h1
    · exact .inl (List.mem_append_left _ h1)
    · rcases h.row b h1 with h2 | h2
      · exact .inl (List.mem_append_right _ h2)
      · exact .inr h2⟩
/-- New rows are forgotten. -/
theorem Ev.less {X : List Nat} (h : Ev gc R w R1 w1) (hX : ∀ b ∈ X, b ∈ R1) : Ev gc R w X w1 := ⟨h.os, h.tape, h.output, h.size, h.block, fun b hb => h.row b (hX b hb)⟩
/-- Rows that were not there at first. -/
theorem Ev.fresh {X : List Nat} (h : Ev gc (X ++ R) w R1 w1) (hX : ∀ b ∈ X, w.heap.size ≤ b) : Ev gc R w R1 w1 :=
  ⟨h.os, h.tape, h.output, h.size, fun b hb h1 h2 => h.block b hb h1 (fun e => (List.mem_append.1 e).elim (fun h3 => by have := hX b h3; omega) h2), fun b hb => by
    rcases h.row b hb with h1 | h1
    · rcases List.mem_append.1 h1 with h2 | h2
      · exact .inr (hX b h2)
      · exact .inl h2
    · exact .inr h1⟩
end
/-- A row that the compiler does not write in. -/
def RowG (w : World) (gc : Nat) (R : List Nat) (A : Option Addr) (n : Nat) (xs : List Value) : Prop := InRow w A n 1 xs ∧ (0 < n → ∀ ad, A = some ad → ad.block ≠ gc ∧ ad.block ∉ R)
theorem RowG.ev {gc n : Nat} {R R1 : List Nat} {w w1 : World} {A : Option Addr} {xs : List Value} (h : RowG w gc R A n xs) (k : Ev gc R w R1 w1) : RowG w1 gc R1 A n xs :=
  ⟨⟨h.1.1, fun hn => by
    obtain ⟨b, o, e, hb, hc⟩ := h.1.2 hn
    have hne := h.2 hn _ e
    have hk := k.block b hb hne.1 hne.2
    exact ⟨b, o, e, Nat.lt_of_lt_of_le hb k.size, fun j hj => (World.cell?_of_block hk).trans (hc j hj)⟩⟩, fun hn ad e => by
    obtain ⟨b, o, e', hb, _⟩ := h.1.2 hn
    have hne := h.2 hn ad e
    refine ⟨hne.1, k.ne ?_ hne.2⟩
    rw [e] at e'
    cases e'
    exact hb⟩
theorem RowG.nil_ (w : World) (gc : Nat) (R : List Nat) (A : Option Addr) : RowG w gc R A 0 [] := ⟨⟨rfl, fun h => by omega⟩, fun h => by omega⟩
theorem RowG.sub {gc n : Nat} {R R1 : List Nat} {w : World} {A : Option Addr} {xs : List Value} (h : RowG w gc R A n xs) (hs : ∀ b ∈ R1, b ∈ R) : RowG w gc R1 A n xs := ⟨h.1, fun hn ad e => ⟨(h.2 hn ad e).1, fun e' => (h.2 hn ad e).2 (hs _ e')⟩⟩
/-- The blocks of two rows. -/
def rws (a b : Value) : List Nat := a.ownBlock.toList ++ b.ownBlock.toList
theorem mem_rws {a b : Value} {k : Nat} : k ∈ rws a b ↔ a.ownBlock = some k ∨ b.ownBlock = some k := by
  unfold rws
  rw [List.mem_append, Option.mem_toList, Option.mem_toList]
/-- The compiler at work. -/
def CSt (w : World) (B gc : Nat) (pr : Prm) (I : List It) (ib : List Nat) : Prop :=
  B ≤ gc ∧ gc ∉ ib ∧ pr.ins ≤ 100 ∧ ∃ (most depth : Int) (Ai : Option Addr) (ci : Nat) (An : Option Addr) (cn : Nat) (ns : List Int), 0 ≤ most ∧ Blk w gc 111 #[.slice pr.A pr.n pr.c, .int .i64 pr.fr, .int .i64 pr.inl, .bool pr.fold, .bool pr.split, .bool pr.framed, .int .i64 pr.words, .int .i64 most, .slice Ai I.length ci, .int .i64 depth, .slice An pr.ins cn] ∧
    w.ownsRow B 49 7 (.slice Ai I.length ci) I.length (I.flatMap itC) ∧ w.ownsRow B 3 1 (.slice An pr.ins cn) pr.ins (intCells ns) ∧ (∀ b, (Value.slice Ai I.length ci).ownBlock = some b → (Value.slice An pr.ins cn).ownBlock ≠ some b) ∧ rws (.slice Ai I.length ci) (.slice An pr.ins cn) = ib
/-- The scope of what is compiled. -/
def Scp (w : World) (gc : Nat) (R : List Nat) (gs : Nat) (fu en ar fi ba : Int) (Al : Option Addr) (nl cl : Nat) (xs : List ByteArray) (Ac : Option Addr) (nc cc : Nat) (ch : List Int) (vj : Value) : Prop :=
  Blk w gs 114 #[.int .i64 fu, .int .i64 en, .slice Al nl cl, .int .i64 ar, .int .i64 fi, .slice Ac nc cc, .int .i64 ba, vj] ∧ gs ≠ gc ∧ gs ∉ R ∧ nl ≤ 100000 ∧ nc ≤ 100000 ∧ RowG w gc R Al nl (strCells xs) ∧ RowG w gc R Ac nc (intCells ch)
section
variable {gc B gs nl cl nc cc : Nat} {R R1 ib ib1 : List Nat} {w w1 : World} {fu en ar fi ba : Int} {Al Ac : Option Addr} {xs : List ByteArray} {ch : List Int} {vj : Value} {pr : Prm} {I : List It}
theorem Scp.ev (h : Scp w gc R gs fu en ar fi ba Al nl cl xs Ac nc cc ch vj) (k : Ev gc R w R1 w1) : Scp w1 gc R1 gs fu en ar fi ba Al nl cl xs Ac nc cc ch vj := by
  obtain ⟨h1, h2, h3, h4, h5, h6, h7⟩ := h
  exact ⟨k.blk h1 h2 h3, h2, k.ne h1.lt h3, h4, h5, h6.ev k, h7.ev k⟩
theorem CSt.lt (h : CSt w B gc pr I ib) : gc < w.heap.size := by
  obtain ⟨_, _, _, _, _, _, _, _, _, _, _, k, _⟩ := h; exact k.lt
theorem CSt.rows (h : CSt w B gc pr I ib) : ∀ b, b ∈ ib → B ≤ b ∧ b < w.heap.size := by
  obtain ⟨_, _, _, _, _, _, _, _, _, _, _, _, k, k', _, e⟩ := h
  intro b hb
  rw [← e] at hb
  rcases mem_rws.1 hb with h1 | h1
  · exact k.lt b h1
  · exact k'.lt b h1
theorem CSt.below (h : CSt w B gc pr I ib) (k : Ev gc ib w ib1 w1) (hB : B ≤ w.heap.size) : Below B w w1 := k.below h.1 (fun b e => (h.rows b e).1) hB
/-- Nothing of the compiler's has turned. -/
theorem CSt.kept (h : CSt w B gc pr I ib) (k : Below w.heap.size w w1) : CSt w1 B gc pr I ib := by
  obtain ⟨h1, h2, h2', m, d, Ai, ci, An, cn, ns, h0, h3, h4, h5, h6, h7⟩ := h
  exact ⟨h1, h2, h2', m, d, Ai, ci, An, cn, ns, h0, h3.below k h3.lt, own_belowZ h4 k, own_belowZ h5 k, h6, h7⟩
end
theorem own_setFar {w : World} {base size n : Nat} {e : TypeId} {v : Value} {xs : List Value} {p : Addr} (h : w.ownsRow base e size v n xs) (hp : ∀ b, v.ownBlock = some b → b ≠ p.block) (u : Value) : (w.setCell p u).ownsRow base e size v n xs :=
  own_grown h (only_setCell (p := p) (World.grownBy.refl w (some p.block)) (Or.inl rfl) u) (fun g hg e => by injection e with e; exact hp g hg e.symm)
/-- A scope's data. -/
structure Scd where
  fu : Int
  en : Int
  ar : Int
  fi : Int
  ba : Int
  Al : Option Addr
  nl : Nat
  cl : Nat
  xs : List ByteArray
  Ac : Option Addr
  nc : Nat
  cc : Nat
  ch : List Int
  vj : Value
abbrev ScP (w : World) (gc : Nat) (R : List Nat) (gs : Nat) (s : Scd) : Prop := Scp w gc R gs s.fu s.en s.ar s.fi s.ba s.Al s.nl s.cl s.xs s.Ac s.nc s.cc s.ch s.vj
theorem ScP.sub {w : World} {gc gs : Nat} {R R1 : List Nat} {s : Scd} (h : ScP w gc R gs s) (hs : ∀ b ∈ R1, b ∈ R) : ScP w gc R1 gs s := by
  obtain ⟨h1, h2, h3, h4, h5, h6, h7⟩ := h
  exact ⟨h1, h2, fun e => h3 (hs _ e), h4, h5, h6.sub hs, h7.sub hs⟩
/-- A call that has put one item more. -/
def One (Q : It → Prop) (w : World) (B gc : Nat) (pr : Prm) (I : List It) (ib : List Nat) (e : Ending) (w' : World) : Prop :=
  e = .returned (.tuple #[]) ∧ ∃ (x : It) (ib' : List Nat), Q x ∧ CSt w' B gc pr (I ++ [x]) ib' ∧ Ev gc ib w ib' w'
/-- An item that is no jump and no call. -/
def Plain (line : Int) (nc : Nat) (x : It) : Prop := x.line = line ∧ x.start = false ∧ x.n = nc ∧ x.code ≠ 10 ∧ x.code ≠ 11 ∧ x.code ≠ 12
theorem one_cell6 {Q : It → Prop} {w w' : World} {B gc : Nat} {pr : Prm} {I : List It} {ib : List Nat} (h : ∃ (x : It) (ib' : List Nat), Q x ∧ CSt w' B gc pr (I ++ [x]) ib' ∧ Ev gc ib w ib' w') : w'.cell? ⟨gc, 6, none⟩ = some (.int .i64 pr.words) := by
  obtain ⟨x, ib', _, ⟨_, _, _, _, _, _, _, _, _, _, _, hk, _⟩, _⟩ := h
  have := hk.cell 6
  simpa using this
theorem one_cell3 {Q : It → Prop} {w w' : World} {B gc gs : Nat} {pr : Prm} {I : List It} {ib : List Nat} {s : Scd} (hc : CSt w B gc pr I ib) (hs : ScP w gc ib gs s) (h : ∃ (x : It) (ib' : List Nat), Q x ∧ CSt w' B gc pr (I ++ [x]) ib' ∧ Ev gc ib w ib' w') : w'.cell? ⟨gs, 3, none⟩ = some (.int .i64 s.ar) := by
  obtain ⟨x, ib', _, _, hv⟩ := h
  have hk := (Scp.ev hs hv).1
  have := hk.cell 3
  simpa using this
theorem itC_flat_length (I : List It) : (I.flatMap itC).length = I.length * 7 := flat_length itC 7 (fun _ => rfl) I
end Go.Proofs.Ytcfjbaanahgpoaa
namespace Go.Proofs.Ytcfjbaanahgpoaa
open Go Go.RowKit
set_option maxRecDepth 100000
set_option linter.unusedVariables false
set_option linter.unusedSimpArgs false
theorem Try.infoItm : (Try.prog.info? 49).map (fun i => (i.zero, i.size, i.bytes)) = some (some (.agg #[.int .i64 0, .int .i64 0, .int .i64 0, .bool false, .slice none 0 0, .int .i64 0, .bool false]), 7, 72) := by kernel_rfl
theorem Try.infoIntC : (Try.prog.info? 3).map (fun i => (i.zero, i.size, i.bytes)) = some (some (.int .i64 0), 1, 8) := by kernel_rfl
set_option maxHeartbeats 4000000 in
theorem i_add (w : World) (B gc gs nl cl nc cc : Nat) (ib : List Nat) (pr : Prm) (I : List It) (fu en ar fi ba : Int) (Al Ac : Option Addr) (xs : List ByteArray) (ch : List Int) (vj : Value) (line code arg change : Int)
    (h : CSt w B gc pr I ib) (hs : Scp w gc ib gs fu en ar fi ba Al nl cl xs Ac nc cc ch vj) (hI : I.length ≤ 1000000000000) (hB : B ≤ w.heap.size) :
    Calls Try.prog 80 #[.pointer (some ⟨gc, 0, none⟩), .pointer (some ⟨gs, 0, none⟩), .int .i64 line, .int .i64 code, .int .i64 arg, .int .i64 change] w fun e w' => e = .returned (.tuple #[]) ∧ ∃ (x : It) (ib' : List Nat), x.code = code ∧ x.arg = arg ∧ x.line = line ∧ x.start = false ∧ x.n = nc ∧ CSt w' B gc pr (I ++ [x]) ib' ∧ Ev gc ib w ib' w' := by
  obtain ⟨i0, hi, hz0, hz1, hz2⟩ := info_parts Try.infoItm
  have HI := hide hi
  clear hi
  obtain ⟨i1, hi1, hy0, hy1, hy2⟩ := info_parts Try.infoIntC
  have HI1 := hide hi1
  clear hi1
  have HS := hide hs
  have HC := hide h
  obtain ⟨q1, q2, q3, most, depth, Ai, ci, An, cn, ns, hm0, hk, hown, hin, hdis, hib⟩ := h
  have hgi : ∀ b, (Value.slice Ai I.length ci).ownBlock = some b → b ≠ gc := fun b hb e => q2 (by rw [← hib, ← e]; exact mem_rws.2 (.inl hb))
  have hgn : ∀ b, (Value.slice An pr.ins cn).ownBlock = some b → b ≠ gc := fun b hb e => q2 (by rw [← hib, ← e]; exact mem_rws.2 (.inr hb))
  have HD := hide hdis
  have HIB := hide hib
  have HGI := hide hgi
  have HGN := hide hgn
  obtain ⟨s1, s2, s3, _, s5, s6, s7⟩ := hs
  have CH := hide s7.1
  have m5 := (s1.alloc (.cells #[] 3)).cell 5
  simp at m5
  have HK := hide hk
  have HO := hide hown
  have HN := hide hin
  have hgl := hk.lt
  have hrow : ∀ b, (Value.slice Ai I.length ci).ownBlock = some b → b < w.heap.size := fun b hb => (hown.lt b hb).2
  have hrowN : ∀ b, (Value.slice An pr.ins cn).ownBlock = some b → b < w.heap.size := fun b hb => (hin.lt b hb).2
  clear hk s1 s6 s7 hown hin hdis hib hgi hgn
  go_enter Try.func80, Try.ntmps80
  go_wp2_with (first | (at_builtin; refine wpList_apps _ rfl (.tmp 17) (.tmp 21) _ rfl w.heap.size 3 i1 _ 1 8 Try.underlying28 HI1.out hy0 hy1 hy2 rfl (by decide) (.slice (some ⟨_, 0, none⟩) 0 0) 0 [] rfl (World.ownsRow_lit w #[] 0 (Nat.le_refl _) (Nat.zero_le _) rfl) Ac nc cc (intCells ch) rfl (CH.out.below ((Below.refl _ _).alloc (Nat.le_refl _) _)) ?c1 ?c2 ?c3 ?c4 ?_) | fail)
  case c1 => intro u hu; obtain ⟨a, _, rfl⟩ := List.mem_map.1 hu; rfl
  case c2 => omega
  try case c3 => decide
  case c4 => simp
  intro v' w1 hown1 hb1 hg1 _
  try rw [Nat.zero_add] at hown1
  obtain ⟨D, d, rfl, _⟩ := Arr.own2 hown1
  have BW := hide (((Below.refl w.heap.size w).alloc (Nat.le_refl _) (.cells #[] 3)).trans hb1)
  have hzw := BW.out.size
  clear hown1 hb1 hg1 m5
  have K1 := hide (HK.out.below BW.out hgl)
  have O1 := hide (own_belowZ HO.out BW.out)
  have N1 := hide (own_belowZ HN.out BW.out)
  have K2 := hide (K1.out.alloc (.cells #[.int .i64 code, .int .i64 arg, .int .i64 line, .bool false, .slice D nc d, .int .i64 0, .bool false] 49))
  have X2 := hide (Blk.new w1 49 #[.int .i64 code, .int .i64 arg, .int .i64 line, .bool false, .slice D nc d, .int .i64 0, .bool false])
  have O2 := hide (O1.out.alloc (.cells #[.int .i64 code, .int .i64 arg, .int .i64 line, .bool false, .slice D nc d, .int .i64 0, .bool false] 49))
  have N2 := hide (N1.out.alloc (.cells #[.int .i64 code, .int .i64 arg, .int .i64 line, .bool false, .slice D nc d, .int .i64 0, .bool false] 49))
  have B2 := hide (BW.out.alloc BW.out.size (.cells #[.int .i64 code, .int .i64 arg, .int .i64 line, .bool false, .slice D nc d, .int .i64 0, .bool false] 49))
  go_upto_region 1 with fail
  generalize w1.alloc (.cells #[.int .i64 code, .int .i64 arg, .int .i64 line, .bool false, .slice D nc d, .int .i64 0, .bool false] 49) = w2 at *
  have hxg : w1.heap.size ≠ gc := by omega
  have hzx := X2.out.lt
  generalize hxb : w1.heap.size = xb at *
  have k5 := K2.out.cell 5
  have k8 := K2.out.cell 8
  have k9 := K2.out.cell 9
  simp at k5 k8 k9
  have x5 := X2.out.cell 5
  have x6 := X2.out.cell 6
  simp at x5 x6
  have fx := X2.out.frozen
  have fx5 := fx 5
  have fx6 := fx 6
  clear fx hxb K1 O1 N1 BW HK HO HN CH
  have hw2 : Hid (w2 = w2) := rfl
  go_cut [35] from 23 to 34 (fun s35 wx => ∃ bo : Bool, s35 = .bool bo ∧ wx = w2)
  case first =>
    cases hfr : pr.framed
    · go_wp2_with fail
      go_meet
      exact ⟨_, rfl, rfl⟩
    · by_cases hln : 0 < I.length
      · have z : decide (0 < I.length) = true := decide_eq_true hln
        go_wp2_with fail
        go_meet
        exact ⟨_, rfl, rfl⟩
      · have z : decide (0 < I.length) = false := decide_eq_false hln
        go_wp2_with fail
        go_meet
        exact ⟨_, rfl, rfl⟩
  case rest =>
    obtain ⟨bo, rfl, rfl⟩ := hcut
    go_upto_if 35 with fail
    go_cut [36] from 37 to 41 (fun s36 wx => ∃ (dep : Int) (ent : Bool), Blk wx xb 49 #[.int .i64 code, .int .i64 arg, .int .i64 line, .bool false, .slice D nc d, .int .i64 dep, .bool ent] ∧ Blk wx gc 111 #[.slice pr.A pr.n pr.c, .int .i64 pr.fr, .int .i64 pr.inl, .bool pr.fold, .bool pr.split, .bool pr.framed, .int .i64 pr.words, .int .i64 most, .slice Ai I.length ci, .int .i64 depth, .slice An pr.ins cn] ∧ wx.ownsRow B 49 7 (.slice Ai I.length ci) I.length (I.flatMap itC) ∧ wx.ownsRow B 3 1 (.slice An pr.ins cn) pr.ins (intCells ns) ∧ Below w.heap.size w wx)
    case first =>
      cases bo
      · go_wp2_with fail
        go_meet
        refine ⟨depth, false, ?_, K2.out.far (by show gc ≠ xb; omega) _, ?_, ?_, B2.out.setCell (p := ⟨xb, 5, none⟩) hzw _⟩
        · have := X2.out.set_ 5 (.int .i64 depth)
          simpa using this
        · refine own_setFar O2.out ?_ _
          intro b hb
          have := hrow b hb
          show b ≠ xb
          omega
        · refine own_setFar N2.out ?_ _
          intro b hb
          have := hrowN b hb
          show b ≠ xb
          omega
      · go_wp2_with fail
        go_meet
        refine ⟨0, true, ?_, K2.out.far (by show gc ≠ xb; omega) _, ?_, ?_, B2.out.setCell (p := ⟨xb, 6, none⟩) hzw _⟩
        · have := X2.out.set_ 6 (.bool true)
          simpa using this
        · refine own_setFar O2.out ?_ _
          intro b hb
          have := hrow b hb
          show b ≠ xb
          omega
        · refine own_setFar N2.out ?_ _
          intro b hb
          have := hrowN b hb
          show b ≠ xb
          omega
    case rest =>
      obtain ⟨dep, ent, hx3, hk3, ho3, hn3, hb3⟩ := hcut
      have X3 := hide hx3
      have K3 := hide hk3
      have O3 := hide ho3
      have N3 := hide hn3
      have B3 := hide hb3
      have x0 := hx3.cell 0
      have x1 := hx3.cell 1
      have x2 := hx3.cell 2
      have x3 := hx3.cell 3
      have x4 := hx3.cell 4
      have x5' := hx3.cell 5
      have x6' := hx3.cell 6
      have k8' := hk3.cell 8
      simp at x0 x1 x2 x3 x4 x5' x6' k8'
      clear hx3 hk3 ho3 hn3 hb3 K2 X2 O2 N2 B2 k5 k8 k9 x5 x6 fx5 fx6 hw2
      have k8a := (K3.out.drew.alloc (.cells #[.int .i64 code, .int .i64 arg, .int .i64 line, .bool false, .slice D nc d, .int .i64 dep, .bool ent] 49)).cell 8
      simp at k8a
      have hgx := K3.out.lt
      have O3d : Hid (wc.drew.ownsRow B 49 7 (.slice Ai I.length ci) I.length (I.flatMap itC)) := O3.out
      have hzc := B3.out.size
      go_upto_region 4 with fail
      go_cut [46] from 47 to 51 (fun s46 wx => ∃ (A7 : Option Addr) (c7 : Nat), Blk wx gc 111 #[.slice pr.A pr.n pr.c, .int .i64 pr.fr, .int .i64 pr.inl, .bool pr.fold, .bool pr.split, .bool pr.framed, .int .i64 pr.words, .int .i64 most, .slice A7 (I.length + 1) c7, .int .i64 depth, .slice An pr.ins cn] ∧ wx.ownsRow B 49 7 (.slice A7 (I.length + 1) c7) (I.length + 1) (I.flatMap itC ++ [.int .i64 code, .int .i64 arg, .int .i64 line, .bool false, .slice D nc d, .int .i64 dep, .bool ent]) ∧ wx.ownsRow B 3 1 (.slice An pr.ins cn) pr.ins (intCells ns) ∧ Ev gc ib w (rws (.slice A7 (I.length + 1) c7) (.slice An pr.ins cn)) wx ∧ (∀ b, (Value.slice A7 (I.length + 1) c7).ownBlock = some b → b ≠ gc ∧ (Value.slice An pr.ins cn).ownBlock ≠ some b))
      case first =>
        go_region_law (refine step_appN wc.drew rfl (.tmp 46) (.tmp 48) _ rfl B 49 i0 _ 7 72 Try.underlying57 HI.out hz0 hz1 hz2 rfl (by decide) (.slice Ai I.length ci) I.length (I.flatMap itC) rfl O3d.out 1 [.int .i64 code, .int .i64 arg, .int .i64 line, .bool false, .slice D nc d, .int .i64 dep, .bool ent] rfl rfl rfl (by intro u hu; simp at hu; rcases hu with rfl | rfl | rfl | rfl | rfl | rfl | rfl <;> rfl) (by omega) (by decide) (show B ≤ wc.drew.heap.size from Nat.le_trans hB hzc) ?_; intro v7 w7 hown7 hb7 hg7 hv7; obtain ⟨A7, c7, rfl, _⟩ := Arr.own2 hown7; have K7 := hide (K3.out.drew.grown hg7 (by intro e; exact HGI.out _ e.symm rfl)); have N7 := hide (own_grown (w := wc.drew) (show wc.drew.ownsRow B 3 1 (.slice An pr.ins cn) pr.ins (intCells ns) from N3.out) hg7 (fun b hb e => HD.out b e hb)); have kk8 := K7.out.cell 8; have ff8 := K7.out.frozen 8; simp at kk8; have O7 := hide hown7; have G7 := hide hg7; have V7 := hide hv7)
        all_goals
          go_wp2_with fail
        all_goals
          go_meet
          have hzz : wc.drew.heap.size = wc.heap.size := rfl
          have hne7 : ∀ b, (Value.slice A7 (I.length + 1) c7).ownBlock = some b → b ≠ gc ∧ (Value.slice An pr.ins cn).ownBlock ≠ some b := fun b hb => by
            rcases V7.out with h1 | h1
            · rw [h1] at hb; exact ⟨HGI.out b hb, HD.out b hb⟩
            · rw [h1] at hb; injection hb with hb
              exact ⟨by omega, fun e => by have := hrowN b e; omega⟩
          refine ⟨A7, c7, ?_, own_setFar O7.out (fun b hb => (hne7 b hb).1) _, own_setFar N7.out HGN.out _, ?_, hne7⟩
          · have := K7.out.set_ 8 (.slice A7 (I.length + 1) c7)
            simpa using this
          · refine ((Ev.of_below B3.out _ _).trans (Ev.of_row (w := wc) (w1 := w7) ⟨G7.out.os, G7.out.tape, G7.out.output, G7.out.size, G7.out.block⟩ _ (fun b hb _ => by rw [← HIB.out]; exact mem_rws.2 (.inl hb)) (fun b hb => ?_))).trans (Ev.of_cell (only_setCell (p := ⟨gc, 8, none⟩) (World.grownBy.refl w7 (some gc)) (Or.inl rfl) _) _)
            rcases mem_rws.1 hb with h2 | h2
            · rcases V7.out with h1 | h1
              · exact .inl (by rw [← HIB.out]; exact mem_rws.2 (.inl (h1 ▸ h2)))
              · rw [h1] at h2; injection h2 with h2; exact .inr (by omega)
            · exact .inl (by rw [← HIB.out]; exact mem_rws.2 (.inr h2))
      case rest =>
        obtain ⟨A7, c7, hk7, ho7, hn7, hev, hne⟩ := hcut
        have K7 := hide hk7
        have O7 := hide ho7
        have N7 := hide hn7
        have EV := hide hev
        have k9 := hk7.cell 9
        have f9 := hk7.frozen 9
        simp at k9
        clear hk7 ho7 hn7 hev x0 x1 x2 x3 x4 x5' x6' k8' k8a
        go_wp2_with fail
        go_end0
        have e1 : ∀ x : It, (I ++ [x]).length = I.length + 1 := fun x => by simp
        have e2 : ∀ x : It, (I ++ [x]).flatMap itC = I.flatMap itC ++ itC x := fun x => by simp
        refine ⟨rfl, ⟨code, arg, line, false, D, nc, d, dep, ent⟩, rws (.slice A7 (I.length + 1) c7) (.slice An pr.ins cn), rfl, rfl, rfl, rfl, rfl, ⟨q1, fun e => ?_, q3, most, wrap64 (depth + change), A7, c7, An, cn, ns, hm0, ?_, ?_, ?_, ?_, ?_⟩, ?_⟩
        · rcases mem_rws.1 e with h1 | h1
          · exact (hne _ h1).1 rfl
          · exact HGN.out _ h1 rfl
        · rw [e1]
          have := K7.out.set_ 9 (.int .i64 (wrap64 (depth + change)))
          simpa using this
        · rw [e1, e2]
          exact own_setFar O7.out (fun b hb => (hne b hb).1) _
        · exact own_setFar N7.out HGN.out _
        · rw [e1]; exact fun b hb => (hne b hb).2
        · rw [e1]
        · exact EV.out.trans (Ev.of_cell (only_setCell (p := ⟨gc, 9, none⟩) (World.grownBy.refl _ (some gc)) (Or.inl rfl) _) _)
theorem i_addS (w : World) (B gc gs : Nat) (ib : List Nat) (pr : Prm) (I : List It) (s : Scd) (line code arg change : Int) (h : CSt w B gc pr I ib) (hs : ScP w gc ib gs s) (hI : I.length ≤ 1000000000000) (hB : B ≤ w.heap.size) :
    Calls Try.prog 80 #[.pointer (some ⟨gc, 0, none⟩), .pointer (some ⟨gs, 0, none⟩), .int .i64 line, .int .i64 code, .int .i64 arg, .int .i64 change] w fun e w' => One (fun x => x.code = code ∧ x.arg = arg ∧ x.line = line ∧ x.start = false ∧ x.n = s.nc) w B gc pr I ib e w' :=
  (i_add w B gc gs s.nl s.cl s.nc s.cc ib pr I s.fu s.en s.ar s.fi s.ba s.Al s.Ac s.xs s.ch s.vj line code arg change h hs hI hB).mono fun e w' h => by
    obtain ⟨h0, x, ib', h1, h2, h3, h4, h5, h6, h7⟩ := h
    exact ⟨h0, x, ib', ⟨h1, h2, h3, h4, h5⟩, h6, h7⟩
end Go.Proofs.Ytcfjbaanahgpoaa
namespace Go.Proofs.Ytcfjbaanahgpoaa
open Go Go.RowKit
set_option maxRecDepth 100000
set_option linter.unusedVariables false
set_option linter.unusedSimpArgs false
set_option maxHeartbeats 4000000 in
theorem i_access (w : World) (B gc gs : Nat) (ib : List Nat) (pr : Prm) (I : List It) (s : Scd) (line i : Int) (store : Bool) (h : CSt w B gc pr I ib) (hs : ScP w gc ib gs s) (hI : I.length ≤ 1000000000000) (hB : B ≤ w.heap.size) :
    Calls Try.prog 91 #[.pointer (some ⟨gc, 0, none⟩), .pointer (some ⟨gs, 0, none⟩), .int .i64 line, .int .i64 i, .bool store] w fun e w' => One (Plain line s.nc) w B gc pr I ib e w' := by
  have HC := hide h
  have HS := hide hs
  obtain ⟨_, _, _, most, depth, Ai, ci, An, cn, ns, _, hk, _, _, _, _⟩ := h
  obtain ⟨s1, _⟩ := hs
  have k5 := hk.cell 5
  have k9 := hk.cell 9
  have m3 := s1.cell 3
  have m4 := s1.cell 4
  have m5 := s1.cell 5
  simp at k5 k9 m3 m4 m5
  clear hk s1
  have fin : Hid (∀ (w' : World) (code arg change : Int), w' = w ∨ (∃ n, w' = w.drewN n) → code = 3 ∨ code = 4 ∨ code = 1 ∨ code = 2 → Calls Try.prog 80 #[.pointer (some ⟨gc, 0, none⟩), .pointer (some ⟨gs, 0, none⟩), .int .i64 line, .int .i64 code, .int .i64 arg, .int .i64 change] w' fun e w'' => One (Plain line s.nc) w B gc pr I ib e w'') := by
    intro w' code arg change hw hcode
    have hb : Below w.heap.size w w' := by
      rcases hw with rfl | ⟨n, rfl⟩
      · exact Below.refl _ _
      · exact below_drewN (Below.refl _ _) n
    refine (i_addS w' B gc gs ib pr I s line code arg change (HC.out.kept hb) (HS.out.ev (Ev.of_below hb gc ib)) hI (Nat.le_trans hB hb.size)).mono ?_
    rintro e w'' ⟨he, x, ib', ⟨h1, h2, h3, h4, h5⟩, h6, h7⟩
    exact ⟨he, x, ib', ⟨h3, h4, h5, by omega, by omega, by omega⟩, h6, (Ev.of_below hb gc ib).trans h7⟩
  by_cases hz : s.nc = 0
  · rw [hz] at m5
    clear hz
    by_cases hlt : i < s.ar
    · have z : decide (i < s.ar) = true := decide_eq_true hlt
      clear hlt
      cases store
      all_goals cases hfr : pr.framed
      all_goals
        go_enter Try.func91, Try.ntmps91
        go_wp2_with fail
        go_quiet (fail)
        go_wp2_with fail
        go_quiet (fail)
        go_wp2_with fail
        refine (fin.out _ _ _ _ (by first | exact .inl rfl | exact .inr ⟨_, rfl⟩) (by omega)).mono ?_
        rintro e w' ⟨rfl, hx⟩
        go_wp2_with fail
        go_end0
        exact ⟨rfl, hx⟩
    · have z : decide (i < s.ar) = false := decide_eq_false hlt
      clear hlt
      cases store
      all_goals cases hfr : pr.framed
      all_goals
        go_enter Try.func91, Try.ntmps91
        go_wp2_with fail
        go_quiet (fail)
        go_wp2_with fail
        refine (fin.out _ _ _ _ (by first | exact .inl rfl | exact .inr ⟨_, rfl⟩) (by omega)).mono ?_
        rintro e w' ⟨rfl, hx⟩
        go_wp2_with fail
        go_end0
        exact ⟨rfl, hx⟩
  · have z : ((s.nc : Int) == 0) = false := by simpa using hz
    clear hz
    cases store
    all_goals cases hfr : pr.framed
    all_goals
      go_enter Try.func91, Try.ntmps91
      go_wp2_with fail
      go_quiet (fail)
      go_wp2_with fail
      refine (fin.out _ _ _ _ (by first | exact .inl rfl | exact .inr ⟨_, rfl⟩) (by omega)).mono ?_
      rintro e w' ⟨rfl, hx⟩
      go_wp2_with fail
      go_end0
      exact ⟨rfl, hx⟩
end Go.Proofs.Ytcfjbaanahgpoaa
namespace Go.Proofs.Ytcfjbaanahgpoaa
open Go Go.RowKit
set_option maxRecDepth 100000
set_option linter.unusedVariables false
set_option linter.unusedSimpArgs false
/-- An own row whose block has not turned. -/
theorem own_same {w w' : World} {base e size n : Nat} {v : Value} {xs : List Value} (h : w.ownsRow base e size v n xs) (hk : ∀ b, v.ownBlock = some b → w'.heap[b]? = w.heap[b]?) : w'.ownsRow base e size v n xs := by
  refine ⟨h.1, ?_⟩
  rcases h.2 with h0 | ⟨g, cap, cur, e1, hb, hh, r⟩
  · exact .inl h0
  · exact .inr ⟨g, cap, cur, e1, hb, (hk g (by rw [e1]; rfl)).trans hh, r⟩
/-- Nothing of the compiler's has turned. -/
theorem CSt.same {w w' : World} {B gc : Nat} {pr : Prm} {I : List It} {ib : List Nat} (h : CSt w B gc pr I ib) (hk : ∀ b, b = gc ∨ b ∈ ib → w'.heap[b]? = w.heap[b]?) : CSt w' B gc pr I ib := by
  obtain ⟨h1, h2, h2', m, d, Ai, ci, An, cn, ns, h0, h3, h4, h5, h6, h7⟩ := h
  exact ⟨h1, h2, h2', m, d, Ai, ci, An, cn, ns, h0, (hk gc (.inl rfl)).trans h3, own_same h4 (fun b hb => hk b (.inr (by rw [← h7]; exact mem_rws.2 (.inl hb)))), own_same h5 (fun b hb => hk b (.inr (by rw [← h7]; exact mem_rws.2 (.inr hb)))), h6, h7⟩
/-- A scope with its row of jumps. -/
structure ScJ (w : World) (B gc : Nat) (ib : List Nat) (gs : Nat) (s : Scd) (jb : List Nat) (J : List Int) (N : Nat) : Prop where
  k : Blk w gs 114 #[.int .i64 s.fu, .int .i64 s.en, .slice s.Al s.nl s.cl, .int .i64 s.ar, .int .i64 s.fi, .slice s.Ac s.nc s.cc, .int .i64 s.ba, s.vj]
  ne : gs ≠ gc
  ni : gs ∉ jb ++ ib
  l1 : s.nl ≤ 100000
  l2 : s.nc ≤ 100000
  rl : RowG w gc (gs :: (jb ++ ib)) s.Al s.nl (strCells s.xs)
  rc : RowG w gc (gs :: (jb ++ ib)) s.Ac s.nc (intCells s.ch)
  sl : ∃ Aj cj, s.vj = .slice Aj J.length cj
  ow : w.ownsRow B 3 1 s.vj J.length (intCells J)
  ob : s.vj.ownBlock.toList = jb
  jd : ∀ b ∈ jb, b ≠ gc ∧ b ∉ ib
  jn : ∀ j ∈ J, 0 ≤ j ∧ j < (N : Int)
section
variable {w w' w1 w2 : World} {B gc gs N N' : Nat} {ib ib' jb jb' : List Nat} {s : Scd} {J : List Int} {pr : Prm} {I : List It}
theorem ScJ.scp (h : ScJ w B gc ib gs s jb J N) : ScP w gc ib gs s :=
  ⟨h.k, h.ne, fun e => h.ni (List.mem_append_right _ e), h.l1, h.l2, h.rl.sub (fun b hb => List.mem_cons_of_mem _ (List.mem_append_right _ hb)), h.rc.sub (fun b hb => List.mem_cons_of_mem _ (List.mem_append_right _ hb))⟩
theorem ScJ.jlt (h : ScJ w B gc ib gs s jb J N) : ∀ b ∈ jb, B ≤ b ∧ b < w.heap.size := fun b hb => h.ow.lt b (by rw [← h.ob] at hb; exact Option.mem_toList.1 hb)
theorem ScJ.ev (h : ScJ w B gc ib gs s jb J N) (k : Ev gc ib w ib' w') (hN : N ≤ N') : ScJ w' B gc ib' gs s jb J N' := by
  have hgi : gs ∉ ib := fun e => h.ni (List.mem_append_right _ e)
  have hgj : gs ∉ jb := fun e => h.ni (List.mem_append_left _ e)
  have hj : ∀ b ∈ jb, b < w.heap.size := fun b hb => (h.jlt b hb).2
  have km := k.more (gs :: jb)
  exact ⟨k.blk h.k h.ne hgi, h.ne, fun e => (List.mem_append.1 e).elim hgj (k.ne h.k.lt hgi), h.l1, h.l2, h.rl.ev km, h.rc.ev km, h.sl,
    own_same h.ow (fun b hb => by
      have hb' : b ∈ jb := by rw [← h.ob]; exact Option.mem_toList.2 hb
      exact k.block b (hj b hb') (h.jd b hb').1 (h.jd b hb').2), h.ob, fun b hb => ⟨(h.jd b hb).1, k.ne (hj b hb) (h.jd b hb).2⟩, fun j hj' => by have := h.jn j hj'; omega⟩
/-- The frame of a scope's own turns, seen as the compiler's. -/
theorem Ev.turn (h : Ev gs jb w jb' w') : Ev gc (gs :: (jb ++ ib)) w (gs :: (jb' ++ ib)) w' :=
  ⟨h.os, h.tape, h.output, h.size, fun b hb _ h2 => h.block b hb (fun e => h2 (by rw [e]; exact List.mem_cons_self)) (fun e => h2 (List.mem_cons_of_mem _ (List.mem_append_left _ e))), fun b hb => by
    rcases List.mem_cons.1 hb with rfl | hb
    · exact .inl List.mem_cons_self
    · rcases List.mem_append.1 hb with hb | hb
      · rcases h.row b hb with h1 | h1
        · exact .inl (List.mem_cons_of_mem _ (List.mem_append_left _ h1))
        · exact .inr h1
      · exact .inl (List.mem_cons_of_mem _ (List.mem_append_right _ hb))⟩
theorem Ev.big (h : Ev gc ib w ib' w') : Ev gc (gs :: (jb ++ ib)) w (gs :: (jb ++ ib')) w' := h.more (gs :: jb)
end
set_option maxHeartbeats 4000000 in
theorem i_leave0 (w : World) (B gc gs : Nat) (ib : List Nat) (pr : Prm) (I : List It) (s : Scd) (line : Int) (atEnd : Bool) (h : CSt w B gc pr I ib) (hs : ScP w gc ib gs s) (hnc : s.nc = 0) (hI : I.length ≤ 1000000000000) (hB : B ≤ w.heap.size) :
    Calls Try.prog 92 #[.pointer (some ⟨gc, 0, none⟩), .pointer (some ⟨gs, 0, none⟩), .int .i64 line, .bool atEnd] w fun e w' => One (Plain line s.nc) w B gc pr I ib e w' := by
  have HC := hide h
  have HS := hide hs
  obtain ⟨_, _, _, most, depth, Ai, ci, An, cn, ns, _, hk, _, _, _, _⟩ := h
  obtain ⟨s1, _⟩ := hs
  have k5 := hk.cell 5
  have k6 := hk.cell 6
  have m3 := s1.cell 3
  have m5 := s1.cell 5
  simp at k5 k6 m3 m5
  rw [hnc] at m5
  clear hk s1 hnc
  have fin : Hid (∀ (w' : World) (code arg change : Int), w' = w ∨ (∃ n, w' = w.drewN n) ∨ w' = w.drew → code = 14 ∨ code = 16 → Calls Try.prog 80 #[.pointer (some ⟨gc, 0, none⟩), .pointer (some ⟨gs, 0, none⟩), .int .i64 line, .int .i64 code, .int .i64 arg, .int .i64 change] w' fun e w'' => One (Plain line s.nc) w B gc pr I ib e w'') := by
    intro w' code arg change hw hcode
    have hb : Below w.heap.size w w' := by
      rcases hw with rfl | ⟨n, rfl⟩ | rfl
      · exact Below.refl _ _
      · exact below_drewN (Below.refl _ _) n
      · exact (Below.refl _ _).drew
    refine (i_addS w' B gc gs ib pr I s line code arg change (HC.out.kept hb) (HS.out.ev (Ev.of_below hb gc ib)) hI (Nat.le_trans hB hb.size)).mono ?_
    rintro e w'' ⟨he, x, ib', ⟨h1, h2, h3, h4, h5⟩, h6, h7⟩
    exact ⟨he, x, ib', ⟨h3, h4, h5, by omega, by omega, by omega⟩, h6, (Ev.of_below hb gc ib).trans h7⟩
  cases hfr : pr.framed
  · go_enter Try.func92, Try.ntmps92
    go_wp2_with fail
    go_region_held3 (fun w' => w'.cell? ⟨gs, 3, none⟩ = some (.int .i64 s.ar) ∧ w'.cell? ⟨gc, 6, none⟩ = some (.int .i64 pr.words)) (first | exact ⟨m3, k6⟩ | exact ⟨HM.out, HW.out⟩) (first | (go_at_call 80; refine (fin.out _ _ _ _ (by first | exact .inl rfl | exact .inr (.inr rfl)) (by omega)).mono ?_; rintro e w5 ⟨rfl, hx⟩; have HX := hide hx; have HM := hide (one_cell3 HC.out HS.out hx); have HW := hide (one_cell6 hx); clear hx))
    all_goals
      go_wp2_with fail
      go_end0
      exact ⟨rfl, HX.out⟩
  · go_enter Try.func92, Try.ntmps92
    go_wp2_with fail
    refine (fin.out _ _ _ _ (by first | exact .inl rfl | exact .inr (.inl ⟨_, rfl⟩)) (by omega)).mono ?_
    rintro e w' ⟨rfl, hx⟩
    go_wp2_with fail
    go_end0
    exact ⟨rfl, hx⟩
set_option maxHeartbeats 4000000 in
theorem i_leaveE (w : World) (gc gs : Nat) (ib : List Nat) (s : Scd) (line : Int) (hs : ScP w gc ib gs s) (hnc : 0 < s.nc) :
    Calls Try.prog 92 #[.pointer (some ⟨gc, 0, none⟩), .pointer (some ⟨gs, 0, none⟩), .int .i64 line, .bool true] w fun e w' => e = .returned (.tuple #[]) ∧ Below w.heap.size w w' := by
  obtain ⟨s1, _⟩ := hs
  have m5 := s1.cell 5
  simp at m5
  have z : decide ((0 : Nat) < s.nc) = true := decide_eq_true hnc
  have z2 : decide ((0 : Int) < (s.nc : Int)) = true := decide_eq_true (by omega)
  clear s1
  go_enter Try.func92, Try.ntmps92
  go_wp2_with fail
  go_end0
  exact ⟨rfl, by first | exact Below.refl _ _ | exact below_drewN (Below.refl _ _) _ | exact (Below.refl _ _).drew⟩
set_option maxHeartbeats 4000000 in
theorem i_leaveJ (w : World) (B gc gs : Nat) (ib jb : List Nat) (pr : Prm) (I : List It) (s : Scd) (J : List Int) (line : Int) (h : CSt w B gc pr I ib) (hs : ScJ w B gc ib gs s jb J I.length) (hnc : 0 < s.nc) (hI : I.length ≤ 1000000000000) (hJ : J.length ≤ 1000000000000) (hB : B ≤ w.heap.size) :
    Calls Try.prog 92 #[.pointer (some ⟨gc, 0, none⟩), .pointer (some ⟨gs, 0, none⟩), .int .i64 line, .bool false] w fun e w' => e = .returned (.tuple #[]) ∧ ∃ (x : It) (ib' jb' : List Nat) (vj : Value), (x.code = 10 ∧ x.arg = 0 ∧ x.line = line ∧ x.start = false ∧ x.n = s.nc) ∧ CSt w' B gc pr (I ++ [x]) ib' ∧ ScJ w' B gc ib' gs { s with vj := vj } jb' (J ++ [(I.length : Int)]) (I ++ [x]).length ∧ Ev gc (gs :: (jb ++ ib)) w (gs :: (jb' ++ ib')) w' := by
  obtain ⟨i1, hi1, hy0, hy1, hy2⟩ := info_parts Try.infoIntC
  have HI1 := hide hi1
  clear hi1
  have HC := hide h
  have HS := hide hs
  obtain ⟨_, q2, _, most, depth, Ai, ci, An, cn, ns, _, hk, _, _, _, _⟩ := h
  obtain ⟨s1, sne, sni, _, _, _, _, ⟨Aj, cj, hvj⟩, how, hob, hjd, hjn⟩ := hs
  have k8 := hk.cell 8
  have m5 := s1.cell 5
  have m7 := s1.cell 7
  have f7 := s1.frozen 7
  simp at k8 m5 m7
  have S1 := hide s1
  rw [hvj] at m7 how hob
  have z : decide ((0 : Nat) < s.nc) = true := decide_eq_true hnc
  have z2 : decide ((0 : Int) < (s.nc : Int)) = true := decide_eq_true (by omega)
  have hgs := s1.lt
  have hgl := hk.lt
  have OW : Hid (w.drew.ownsRow B 3 1 (.slice Aj J.length cj) J.length (intCells J)) := how
  have OBJ := hide hob
  have JD := hide hjd
  have JN := hide hjn
  have HVJ := hide hvj
  have hnj : gs ∉ jb := fun e => sni (List.mem_append_left _ e)
  have hni : gs ∉ ib := fun e => sni (List.mem_append_right _ e)
  have hjlt : ∀ b ∈ jb, b < w.heap.size := fun b hb => (HS.out.jlt b hb).2
  have k8a := (hk.drew.alloc (.cells #[.int .i64 (I.length : Int)] 3)).cell 8
  have m7a := (s1.drew.alloc (.cells #[.int .i64 (I.length : Int)] 3)).cell 7
  simp at k8a m7a
  rw [hvj] at m7a
  have KK := hide hk
  clear hk s1 how hob hjd hjn hvj sni hnc
  go_enter Try.func92, Try.ntmps92
  go_upto_region 3 with fail
  go_cut [50] from 39 to 52 (fun s50 wx => ∃ (A7 : Option Addr) (c7 : Nat), Blk wx gs 114 #[.int .i64 s.fu, .int .i64 s.en, .slice s.Al s.nl s.cl, .int .i64 s.ar, .int .i64 s.fi, .slice s.Ac s.nc s.cc, .int .i64 s.ba, .slice A7 (J.length + 1) c7] ∧ wx.ownsRow B 3 1 (.slice A7 (J.length + 1) c7) (J.length + 1) (intCells J ++ [.int .i64 (I.length : Int)]) ∧ Ev gs jb w (Value.slice A7 (J.length + 1) c7).ownBlock.toList wx)
  case first =>
    go_region_law (refine step_appN w.drew rfl (.tmp 43) (.tmp 49) _ rfl B 3 i1 _ 1 8 Try.underlying28 HI1.out hy0 hy1 hy2 rfl (by decide) (.slice Aj J.length cj) J.length (intCells J) rfl OW.out 1 [.int .i64 (I.length : Int)] rfl rfl rfl (by intro u hu; simp at hu; subst hu; rfl) (by omega) (by decide) (show B ≤ w.drew.heap.size from hB) ?_; intro v7 w7 hown7 hb7 hg7 hv7; obtain ⟨A7, c7, rfl, _⟩ := Arr.own2 hown7; have K7 := hide (S1.out.drew.grown hg7 (by intro e; exact hnj (by rw [← OBJ.out]; exact Option.mem_toList.2 e.symm))); have C7 := hide (KK.out.drew.grown hg7 (by intro e; exact (JD.out gc (by rw [← OBJ.out]; exact Option.mem_toList.2 e.symm)).1 rfl)); have kk7 := K7.out.cell 7; have ff7 := K7.out.frozen 7; have kc8 := C7.out.cell 8; simp at kk7 kc8; have O7 := hide hown7; have G7 := hide hg7; have V7 := hide hv7)
    all_goals
      go_wp2_with fail
    all_goals
      go_meet
      have hzz : w.drew.heap.size = w.heap.size := rfl
      have hne7 : ∀ b, (Value.slice A7 (J.length + 1) c7).ownBlock = some b → b ≠ gs := fun b hb => by
        rcases V7.out with h1 | h1
        · rw [h1] at hb; exact fun e => hnj (by rw [← OBJ.out, ← e]; exact Option.mem_toList.2 hb)
        · rw [h1] at hb; injection hb with hb; omega
      refine ⟨A7, c7, ?_, own_setFar O7.out hne7 _, ?_⟩
      · have := K7.out.set_ 7 (.slice A7 (J.length + 1) c7)
        simpa using this
      · refine (Ev.of_row (w := w) (w1 := w7) (row := (Value.slice Aj J.length cj).ownBlock) ⟨G7.out.os, G7.out.tape, G7.out.output, G7.out.size, G7.out.block⟩ _ (fun b hb _ => by rw [← OBJ.out]; exact Option.mem_toList.2 hb) (fun b hb => ?_)).trans (Ev.of_cell (only_setCell (p := ⟨gs, 7, none⟩) (World.grownBy.refl w7 (some gs)) (Or.inl rfl) _) _)
        have hb2 := Option.mem_toList.1 hb
        rcases V7.out with h1 | h1
        · exact .inl (by rw [← OBJ.out]; exact Option.mem_toList.2 (h1 ▸ hb2))
        · rw [h1] at hb2; injection hb2 with hb2; exact .inr (by omega)
  case rest =>
    obtain ⟨A7, c7, hk7, ho7, hev⟩ := hcut
    have K7 := hide hk7
    have O7 := hide ho7
    have EV := hide hev
    have hjd7 : ∀ b ∈ (Value.slice A7 (J.length + 1) c7).ownBlock.toList, b ≠ gc ∧ b ∉ ib := fun b hb => by
      rcases EV.out.row b hb with h1 | h1
      · exact JD.out b h1
      · exact ⟨by omega, fun e => by have := (HC.out.rows b e).2; omega⟩
    have hgs7 : gs ∉ (Value.slice A7 (J.length + 1) c7).ownBlock.toList := fun e => by
      rcases EV.out.row gs e with h1 | h1
      · exact hnj h1
      · omega
    have hsame : ∀ b, b = gc ∨ b ∈ ib → wc.heap[b]? = w.heap[b]? := fun b hb => by
      rcases hb with rfl | hb
      · exact EV.out.block _ hgl (fun e => sne e.symm) (fun e => (JD.out _ e).1 rfl)
      · exact EV.out.block _ (HC.out.rows b hb).2 (fun e => hni (e ▸ hb)) (fun e => (JD.out _ e).2 hb)
    have CW := hide (HC.out.same hsame)
    have EVT := hide (EV.out.turn (gc := gc) (ib := ib))
    have SJ : Hid (ScJ wc B gc ib gs { s with vj := .slice A7 (J.length + 1) c7 } (Value.slice A7 (J.length + 1) c7).ownBlock.toList (J ++ [(I.length : Int)]) (I.length + 1)) := by
      refine ⟨K7.out, sne, fun e => (List.mem_append.1 e).elim hgs7 hni, HS.out.l1, HS.out.l2, HS.out.rl.ev EVT.out, HS.out.rc.ev EVT.out, ⟨A7, c7, by simp⟩, ?_, rfl, hjd7, fun j hj => ?_⟩
      · have e1 : intCells (J ++ [(I.length : Int)]) = intCells J ++ [.int .i64 (I.length : Int)] := by simp [intCells]
        rw [e1, List.length_append]
        exact O7.out
      · rcases List.mem_append.1 hj with h1 | h1
        · have := JN.out j h1; omega
        · have := List.mem_singleton.1 h1; omega
    have hBw : B ≤ wc.heap.size := Nat.le_trans hB EV.out.size
    clear hk7 ho7 hev hjd7 hsame k8a m7a k8 m5 m7 f7
    go_wp2_with fail
    refine (i_addS wc B gc gs ib pr I _ line 10 0 _ CW.out SJ.out.scp hI hBw).mono ?_
    rintro e w'' ⟨rfl, x, ib', ⟨h1, h2, h3, h4, h5⟩, h6, h7⟩
    have C8 := hide h6
    have E8 := hide h7
    clear h6 h7
    go_wp2_with fail
    go_end0
    exact ⟨rfl, x, ib', _, _, ⟨h1, h2, h3, h4, h5⟩, C8.out, SJ.out.ev E8.out (by simp), EVT.out.trans E8.out.big⟩
set_option maxHeartbeats 4000000 in
theorem i_replaced (w : World) (B gc gs : Nat) (ib : List Nat) (pr : Prm) (I : List It) (s : Scd) (k : Int) (L : List Ln) (h : CSt w B gc pr I ib) (hs : ScP w gc ib gs s) (hn : pr.n ≤ 1000) (hR : InLines w pr.A pr.n L) (hk0 : 0 ≤ k) (hkn : k < pr.n) :
    Calls Try.prog 103 #[.pointer (some ⟨gc, 0, none⟩), .pointer (some ⟨gs, 0, none⟩), .int .i64 k] w fun e w' => (∃ b : Bool, e = .returned (.bool b) ∧ (b = true → (s.nc : Int) < pr.inl ∧ endOfF L k ≤ k + 9)) ∧ Below w.heap.size w w' := by
  obtain ⟨_, _, q3, most, depth, Ai, ci, An, cn, ns, _, hk, _, hin, _, _⟩ := h
  obtain ⟨s1, _⟩ := hs
  have k0 := hk.cell 0
  have k2 := hk.cell 2
  have k8 := hk.cell 8
  have kt := hk.cell 10
  have m5 := s1.cell 5
  simp at k0 k2 k8 kt m5
  obtain ⟨A', c', e1, _, har⟩ := Arr.of_own hin
  cases e1
  have XN := hide (InRow.of_arr har)
  have hlN : ns.length = pr.ins := by have := har.1; simpa [intCells] using this
  have HR := hide hR
  have HE := hide (fun n => i_endOf pr.A pr.n pr.c L k (w.drewN n) (by omega) (hR.below (below_drewN (Below.refl _ _) n)))
  have he60 : -1 ≤ endOfF L k ∧ endOfF L k ≤ 1000 := by
    have hl := hR.len
    rcases Int.lt_or_le (endOfF L k) 0 with h0 | h0
    · have hge : -1 ≤ endOfF L k := by
        unfold endOfF
        split
        · rcases endFrom_ge (L.drop k.toNat) k.toNat 0 with h1 | h1
          · omega
          · omega
        · omega
      exact ⟨hge, by omega⟩
    · obtain ⟨_, _, _, _, _, h1, _⟩ := endOf_pos L k h0
      exact ⟨by omega, by omega⟩
  have HC : Hid (∀ n, Calls Try.prog 35 #[.slice An pr.ins cn, .int .i64 k] (w.drewN n) fun e w' => e = .returned (.bool (decide (k ∈ ns))) ∧ w.drewN n = w') := fun n => i_hasInt _ _ _ _ _ _ (by omega) hlN (XN.out.below (below_drewN (Below.refl _ _) n))
  clear hk s1 hin har hR
  generalize endOfF L k = y at *
  generalize decide (k ∈ ns) = ct at *
  by_cases hlt : (s.nc : Int) < pr.inl
  · have z : decide ((s.nc : Int) < pr.inl) = true := decide_eq_true hlt
    cases ct
    · by_cases h9 : y - k ≤ 9
      · have z9 : decide (y - k ≤ 9) = true := decide_eq_true h9
        by_cases h200 : I.length < 200
        · have z8 : decide ((I.length : Int) < 200) = true := decide_eq_true (by omega)
          go_enter Try.func103, Try.ntmps103
          go_wp2_with fail
          go_quiet (first | (go_at_call 35; exact quiet_left (HC.out _)) | (go_at_call 11; exact quiet_left (HE.out _)))
          go_wp2_with fail
          go_ret
          exact ⟨⟨_, rfl, fun _ => ⟨hlt, by omega⟩⟩, by first | exact Below.refl _ _ | exact below_drewN (Below.refl _ _) _ | exact (Below.refl _ _).drew⟩
        · have z8 : decide ((I.length : Int) < 200) = false := decide_eq_false (by omega)
          go_enter Try.func103, Try.ntmps103
          go_wp2_with fail
          go_quiet (first | (go_at_call 35; exact quiet_left (HC.out _)) | (go_at_call 11; exact quiet_left (HE.out _)))
          go_wp2_with fail
          go_ret
          exact ⟨⟨_, rfl, fun h => by cases h⟩, by first | exact Below.refl _ _ | exact below_drewN (Below.refl _ _) _ | exact (Below.refl _ _).drew⟩
      · have z9 : decide (y - k ≤ 9) = false := decide_eq_false h9
        go_enter Try.func103, Try.ntmps103
        go_wp2_with fail
        go_quiet (first | (go_at_call 35; exact quiet_left (HC.out _)) | (go_at_call 11; exact quiet_left (HE.out _)))
        go_wp2_with fail
        go_ret
        exact ⟨⟨_, rfl, fun h => by cases h⟩, by first | exact Below.refl _ _ | exact below_drewN (Below.refl _ _) _ | exact (Below.refl _ _).drew⟩
    · go_enter Try.func103, Try.ntmps103
      go_wp2_with fail
      go_quiet (first | (go_at_call 35; exact quiet_left (HC.out _)))
      go_wp2_with fail
      go_ret
      exact ⟨⟨_, rfl, fun h => by cases h⟩, by first | exact Below.refl _ _ | exact below_drewN (Below.refl _ _) _ | exact (Below.refl _ _).drew⟩
  · have z : decide ((s.nc : Int) < pr.inl) = false := decide_eq_false hlt
    go_enter Try.func103, Try.ntmps103
    go_wp2_with fail
    go_quiet (fail)
    go_wp2_with fail
    go_ret
    exact ⟨⟨_, rfl, fun h => by cases h⟩, by first | exact Below.refl _ _ | exact below_drewN (Below.refl _ _) _ | exact (Below.refl _ _).drew⟩
set_option maxHeartbeats 4000000 in
theorem i_numberOf (w : World) (B gc : Nat) (ib : List Nat) (pr : Prm) (I : List It) (k : Int) (L : List Ln) (h : CSt w B gc pr I ib) (hn : pr.n ≤ 1000) (hR : InLines w pr.A pr.n L) :
    Calls Try.prog 105 #[.pointer (some ⟨gc, 0, none⟩), .int .i64 k] w fun e w' => (∃ j : Int, e = .returned (.int .i64 j)) ∧ Below w.heap.size w w' := by
  obtain ⟨_, _, _, most, depth, Ai, ci, An, cn, ns, _, hk, _, _, _, _⟩ := h
  have k0 := hk.cell 0
  simp at k0
  have HR := hide hR
  clear hk hR
  go_enter Try.func105, Try.ntmps105
  go_wp2_with fail
  refine (i_funs _ pr.n _ L _ (by omega) HR.out).mono ?_
  rintro e w1 ⟨⟨v, rfl, ho⟩, hb1⟩
  have hlen : (funsF L).length ≤ 1000 := by
    have h1 := funsFrom_len L 0
    have h2 := HR.out.len
    exact Nat.le_trans h1 (by omega)
  obtain ⟨F, cf, rfl, _, har⟩ := Arr.of_own ho
  have X := hide (InRow.of_arr har)
  have HB := hide hb1
  clear ho har hb1
  go_wp2_with fail
  refine (i_ixInt _ _ _ _ _ _ (by omega) rfl X.out).mono ?_
  rintro e w2 ⟨rfl, rfl⟩
  go_wp2_with fail
  go_ret
  exact ⟨⟨_, rfl⟩, HB.out⟩
end Go.Proofs.Ytcfjbaanahgpoaa
namespace Go.Proofs.Ytcfjbaanahgpoaa
open Go Go.RowKit
set_option maxRecDepth 100000
set_option linter.unusedVariables false
set_option linter.unusedSimpArgs false
/-- All items are in order: lines, chains and jumps. -/
def IOk (n : Nat) (inl : Int) (I : List It) : Prop := ∀ x ∈ I, 0 ≤ x.line ∧ x.line < (n : Int) ∧ (x.n : Int) ≤ inl ∧ (x.code = 10 ∨ x.code = 11 → 0 ≤ x.arg ∧ x.arg ≤ (I.length : Int))
/-- An item that has at most got another number or a mark. -/
def Kin (x y : It) : Prop := y.code = x.code ∧ y.line = x.line ∧ y.n = x.n ∧ (x.start = true → y.start = true) ∧ (0 ≤ x.arg → 0 ≤ y.arg)
theorem Kin.refl (x : It) : Kin x x := ⟨rfl, rfl, rfl, fun h => h, fun h => h⟩
theorem Kin.trans {x y z : It} (h : Kin x y) (k : Kin y z) : Kin x z := ⟨k.1.trans h.1, k.2.1.trans h.2.1, k.2.2.1.trans h.2.2.1, fun e => k.2.2.2.1 (h.2.2.2.1 e), fun e => k.2.2.2.2 (h.2.2.2.2 e)⟩
/-- Items have been put, none was taken away. -/
structure Gro (n : Nat) (inl : Int) (I I' : List It) (a : Nat) : Prop where
  lo : I.length ≤ I'.length
  hi : I'.length ≤ I.length + a
  kp : ∀ (j : Nat) (x : It), I[j]? = some x → ∃ y, I'[j]? = some y ∧ Kin x y
  ok : IOk n inl I → IOk n inl I'
section
variable {n : Nat} {inl : Int} {I J K : List It} {a b : Nat}
theorem Gro.refl (n : Nat) (inl : Int) (I : List It) : Gro n inl I I 0 := ⟨Nat.le_refl _, Nat.le_refl _, fun j x h => ⟨x, h, Kin.refl x⟩, fun h => h⟩
theorem Gro.trans (h : Gro n inl I J a) (g : Gro n inl J K b) : Gro n inl I K (a + b) := by
  have h1 := h.lo; have h2 := h.hi; have g1 := g.lo; have g2 := g.hi
  refine ⟨by omega, by omega, fun j x hx => ?_, fun hx => g.ok (h.ok hx)⟩
  obtain ⟨y, hy, k1⟩ := h.kp j x hx
  obtain ⟨z, hz, k2⟩ := g.kp j y hy
  exact ⟨z, hz, k1.trans k2⟩
theorem Gro.mono (h : Gro n inl I J a) (hb : a ≤ b) : Gro n inl I J b := ⟨h.lo, Nat.le_trans h.hi (by omega), h.kp, h.ok⟩
theorem Gro.one {x : It} (hl : 0 ≤ x.line ∧ x.line < (n : Int)) (hn : (x.n : Int) ≤ inl) (hj : x.code = 10 ∨ x.code = 11 → 0 ≤ x.arg ∧ x.arg ≤ (I.length : Int)) : Gro n inl I (I ++ [x]) 1 := by
  refine ⟨by simp, by simp, fun j y h => ⟨y, ?_, Kin.refl y⟩, fun h y hy => ?_⟩
  · have hlt : j < I.length := (List.getElem?_eq_some_iff.1 h).1
    rw [List.getElem?_append_left hlt]; exact h
  · rw [List.length_append]
    rcases List.mem_append.1 hy with h1 | h1
    · obtain ⟨a1, a2, a3, a4⟩ := h y h1
      exact ⟨a1, a2, a3, fun e => by have := a4 e; simp; omega⟩
    · obtain rfl := List.mem_singleton.1 h1
      exact ⟨hl.1, hl.2, hn, fun e => by have := hj e; simp; omega⟩
theorem Gro.plain {x : It} {line : Int} {nc : Nat} (h : Plain line nc x) (hl : 0 ≤ line ∧ line < (n : Int)) (hn : (nc : Int) ≤ inl) : Gro n inl I (I ++ [x]) 1 := by
  obtain ⟨h1, h2, h3, h4, h5, h6⟩ := h
  exact Gro.one (by rw [h1]; exact hl) (by rw [h3]; exact hn) (fun e => by omega)
theorem set_kin {j : Nat} {x : It} (hj : j < I.length) (hx : Kin I[j] x) : ∀ (i : Nat) (y : It), I[i]? = some y → ∃ z, (I.set j x)[i]? = some z ∧ Kin y z := by
  intro i y h
  rw [List.getElem?_set]
  by_cases e : j = i
  · subst e
    rw [if_pos rfl, if_pos hj]
    rw [List.getElem?_eq_getElem hj] at h
    injection h with h
    subst h
    exact ⟨x, rfl, hx⟩
  · rw [if_neg e]
    exact ⟨y, h, Kin.refl y⟩
theorem Gro.arg {j : Nat} (hj : j < I.length) {m : Nat} (hm : m ≤ I.length) : Gro n inl I (I.set j { I[j] with arg := (m : Nat) }) 0 := by
  refine ⟨by simp, by simp, set_kin hj ⟨rfl, rfl, rfl, fun h => h, fun _ => by show (0 : Int) ≤ (m : Int); omega⟩, fun h y hy => ?_⟩
  rw [List.length_set]
  rcases List.mem_or_eq_of_mem_set hy with h1 | h1
  · exact h y h1
  · obtain ⟨a1, a2, a3, a4⟩ := h _ (List.getElem_mem hj)
    subst h1
    exact ⟨a1, a2, a3, fun _ => by show (0 : Int) ≤ (m : Int) ∧ (m : Int) ≤ _; omega⟩
theorem Gro.start {j : Nat} (hj : j < I.length) : Gro n inl I (I.set j { I[j] with start := true }) 0 := by
  refine ⟨by simp, by simp, set_kin hj ⟨rfl, rfl, rfl, fun _ => rfl, fun h => h⟩, fun h y hy => ?_⟩
  rw [List.length_set]
  rcases List.mem_or_eq_of_mem_set hy with h1 | h1
  · exact h y h1
  · obtain ⟨a1, a2, a3, a4⟩ := h _ (List.getElem_mem hj)
    subst h1
    exact ⟨a1, a2, a3, a4⟩
end
/-- The item at which a line begins, if it is there, is one of the line. -/
def Bg (I : List It) (begin : Nat) (line : Int) (nc : Nat) : Prop := begin ≤ I.length ∧ ∀ x, I[begin]? = some x → x.line = line ∧ x.n = nc
theorem Bg.one {I : List It} {begin : Nat} {line : Int} {nc : Nat} {x : It} (h : Bg I begin line nc) (h1 : x.line = line) (h2 : x.n = nc) : Bg (I ++ [x]) begin line nc ∧ begin < (I ++ [x]).length := by
  refine ⟨⟨by have := h.1; simp; omega, fun y hy => ?_⟩, by have := h.1; simp; omega⟩
  by_cases e : begin < I.length
  · rw [List.getElem?_append_left e] at hy; exact h.2 y hy
  · have e2 : begin = I.length := by have := h.1; omega
    subst e2
    simp at hy
    subst hy
    exact ⟨h1, h2⟩
theorem Bg.gro {n : Nat} {inl : Int} {I J : List It} {a begin : Nat} {line : Int} {nc : Nat} (h : Bg I begin line nc) (hb : begin < I.length) (g : Gro n inl I J a) : Bg J begin line nc ∧ begin < J.length := by
  have hl := g.lo
  refine ⟨⟨by omega, fun y hy => ?_⟩, by omega⟩
  obtain ⟨z, hz, k⟩ := g.kp begin _ (List.getElem?_eq_getElem hb)
  have h2 := h.2 _ (List.getElem?_eq_getElem hb)
  rw [hy] at hz
  injection hz with hz
  subst hz
  exact ⟨k.2.1.trans h2.1, k.2.2.1.trans h2.2⟩
/-- A start of a line, with no chain. -/
def StAt (I : List It) (line : Int) : Prop := ∃ (j : Nat) (x : It), I[j]? = some x ∧ x.start = true ∧ x.n = 0 ∧ x.line = line
theorem StAt.gro {n : Nat} {inl : Int} {I J : List It} {a : Nat} {line : Int} (h : StAt I line) (g : Gro n inl I J a) : StAt J line := by
  obtain ⟨j, x, h1, h2, h3, h4⟩ := h
  obtain ⟨y, hy, k⟩ := g.kp j x h1
  exact ⟨j, y, hy, k.2.2.2.1 h2, k.2.2.1.trans h3, k.2.1.trans h4⟩
/-- The compiler goes on with other items. -/
def Step (w : World) (B gc : Nat) (pr : Prm) (ib : List Nat) (I' : List It) (w' : World) : Prop := ∃ ib', CSt w' B gc pr I' ib' ∧ Ev gc ib w ib' w'
set_option maxHeartbeats 4000000 in
theorem i_word (w : World) (B gc gs : Nat) (ib : List Nat) (pr : Prm) (I : List It) (s : Scd) (line i : Int) (h : CSt w B gc pr I ib) (hs : ScP w gc ib gs s) (hI : I.length ≤ 1000000000000) (hB : B ≤ w.heap.size) :
    Calls Try.prog 108 #[.pointer (some ⟨gc, 0, none⟩), .pointer (some ⟨gs, 0, none⟩), .int .i64 line, .int .i64 i] w fun e w' => One (Plain line s.nc) w B gc pr I ib e w' := by
  have HC := hide h
  have HS := hide hs
  obtain ⟨_, _, _, most, depth, Ai, ci, An, cn, ns, _, hk, _, _, _, _⟩ := h
  obtain ⟨s1, _⟩ := hs
  have k5 := hk.cell 5
  have k9 := hk.cell 9
  have m4 := s1.cell 4
  simp at k5 k9 m4
  clear hk s1
  have fin : Hid (∀ (w' : World) (code arg change : Int), w' = w ∨ (∃ n, w' = w.drewN n) → code = 2 ∨ code = 4 → Calls Try.prog 80 #[.pointer (some ⟨gc, 0, none⟩), .pointer (some ⟨gs, 0, none⟩), .int .i64 line, .int .i64 code, .int .i64 arg, .int .i64 change] w' fun e w'' => One (Plain line s.nc) w B gc pr I ib e w'') := by
    intro w' code arg change hw hcode
    have hb : Below w.heap.size w w' := by
      rcases hw with rfl | ⟨n, rfl⟩
      · exact Below.refl _ _
      · exact below_drewN (Below.refl _ _) n
    refine (i_addS w' B gc gs ib pr I s line code arg change (HC.out.kept hb) (HS.out.ev (Ev.of_below hb gc ib)) hI (Nat.le_trans hB hb.size)).mono ?_
    rintro e w'' ⟨he, x, ib', ⟨h1, h2, h3, h4, h5⟩, h6, h7⟩
    exact ⟨he, x, ib', ⟨h3, h4, h5, by omega, by omega, by omega⟩, h6, (Ev.of_below hb gc ib).trans h7⟩
  cases hfr : pr.framed
  · go_enter Try.func108, Try.ntmps108
    go_wp2_with fail
    refine (fin.out _ _ _ _ (by first | exact .inl rfl | exact .inr ⟨_, rfl⟩) (by omega)).mono ?_
    rintro e w' ⟨rfl, hx⟩
    go_wp2_with fail
    go_end0
    exact ⟨rfl, hx⟩
  · go_enter Try.func108, Try.ntmps108
    go_wp2_with fail
    refine (fin.out _ _ _ _ (by first | exact .inl rfl | exact .inr ⟨_, rfl⟩) (by omega)).mono ?_
    rintro e w' ⟨rfl, hx⟩
    go_wp2_with fail
    go_end0
    exact ⟨rfl, hx⟩
end Go.Proofs.Ytcfjbaanahgpoaa
