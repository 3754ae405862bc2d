import Derived.Test.YtcfjbaanahgpoaaOwnG
import Derived.Test.YtcfjbaanahgpoaaApp
import Derived.Test.YtcfjbaanahgpoaaDrE
import Derived.Deep.RegionHeld3
import Derived.Test.YtcfjbaanahgpoaaPokY
namespace Go.Proofs.Ytcfjbaanahgpoaa
open Go Go.RowKit
set_option maxRecDepth 100000
set_option linter.unusedVariables false
/-! What a compiler holds. -/
structure It where
  code : Int
  arg : Int
  line : Int
  start : Bool
  A : Option Addr
  n : Nat
  c : Nat
  dep : Int
  ent : Bool
def itC (x : It) : List Value := [.int .i64 x.code, .int .i64 x.arg, .int .i64 x.line, .bool x.start, .slice x.A x.n x.c, .int .i64 x.dep, .bool x.ent]
structure Prm where
  A : Option Addr
  n : Nat
  c : Nat
  fr : Int
  inl : Int
  fold : Bool
  split : Bool
  framed : Bool
  words : Int
/-- Only the compiler's block and its row of items have turned; the row may be a new one. -/
structure Ev (gc : Nat) (ib : Option Nat) (w : World) (ib' : Option Nat) (w' : World) : Prop where
  os : w'.os = w.os
  tape : w'.tape = w.tape
  output : w'.output = w.output
  size : w.heap.size ≤ w'.heap.size
  block : ∀ b, b < w.heap.size → b ≠ gc → ib ≠ some b → w'.heap[b]? = w.heap[b]?
  row : ib' = ib ∨ ∃ b, ib' = some b ∧ w.heap.size ≤ b
section
variable {gc B : Nat} {ib ib1 ib2 : Option Nat} {w w1 w2 : World}
theorem Ev.refl (gc : Nat) (ib : Option Nat) (w : World) : Ev gc ib w ib w := ⟨rfl, rfl, rfl, Nat.le_refl _, fun _ _ _ _ => rfl, .inl rfl⟩
theorem Ev.trans (h : Ev gc ib w ib1 w1) (k : Ev gc ib1 w1 ib2 w2) : Ev gc ib w ib2 w2 := by
  have hne : ∀ b, b < w.heap.size → ib ≠ some b → ib1 ≠ some b := fun b hb h1 e => by
    rcases h.row with h2 | ⟨c, h2, h3⟩
    · exact h1 (h2 ▸ e)
    · rw [h2] at e; injection e with e; omega
  refine ⟨k.os.trans h.os, k.tape.trans h.tape, k.output.trans h.output, Nat.le_trans h.size k.size, fun b hb h1 h2 => (k.block b (Nat.lt_of_lt_of_le hb h.size) h1 (hne b hb h2)).trans (h.block b hb h1 h2), ?_⟩
  rcases k.row with h1 | ⟨b, h1, h2⟩
  · rw [h1]; exact h.row
  · exact .inr ⟨b, h1, Nat.le_trans h.size h2⟩
theorem Ev.of_below (h : Below w.heap.size w w1) (gc : Nat) (ib : Option Nat) : Ev gc ib w ib w1 := ⟨h.os, h.tape, h.output, h.size, fun b hb _ _ => h.block b hb, .inl rfl⟩
theorem Ev.of_cell (h : w.grownBy w1 (some gc)) (ib : Option Nat) : Ev gc ib w ib w1 := ⟨h.os, h.tape, h.output, h.size, fun b hb h1 _ => h.block b hb (by simpa using h1), .inl rfl⟩
theorem Ev.of_row (h : w.grownBy w1 ib) (gc : Nat) (hr : ib1 = ib ∨ ∃ b, ib1 = some b ∧ w.heap.size ≤ b) : Ev gc ib w ib1 w1 := ⟨h.os, h.tape, h.output, h.size, fun b hb _ h2 => h.block b hb (fun e => h2 e.symm), hr⟩
theorem Ev.blk {g : Nat} {t : TypeId} {cs : Array Value} (h : Ev gc ib w ib1 w1) (k : Blk w g t cs) (h1 : g ≠ gc) (h2 : ib ≠ some g) : Blk w1 g t cs := (h.block g k.lt h1 h2).trans k
theorem Ev.ne {g : Nat} (h : Ev gc ib w ib1 w1) (hg : g < w.heap.size) (h2 : ib ≠ some g) : ib1 ≠ some g := fun e => by
  rcases h.row with h1 | ⟨b, h1, h3⟩
  · exact h2 (h1 ▸ e)
  · rw [h1] at e; injection e with e; omega
theorem Ev.below (h : Ev gc ib w ib1 w1) (hg : B ≤ gc) (hi : ∀ b, ib = some b → B ≤ b) (hB : B ≤ w.heap.size) : Below B w w1 :=
  ⟨h.os, h.tape, h.output, h.size, fun b hb => h.block b (by omega) (by omega) (fun e => by have := hi b e; omega)⟩
end
/-- A row that the compiler does not write in. -/
def RowG (w : World) (gc : Nat) (ib : Option Nat) (A : Option Addr) (n : Nat) (xs : List Value) : Prop := InRow w A n 1 xs ∧ (0 < n → ∀ ad, A = some ad → ad.block ≠ gc ∧ ib ≠ some ad.block)
theorem RowG.ev {gc n : Nat} {ib ib1 : Option Nat} {w w1 : World} {A : Option Addr} {xs : List Value} (h : RowG w gc ib A n xs) (k : Ev gc ib w ib1 w1) : RowG w1 gc ib1 A n xs :=
  ⟨⟨h.1.1, fun hn => by
    obtain ⟨b, o, e, hb, hc⟩ := h.1.2 hn
    have hne := h.2 hn _ e
    have hk := k.block b hb hne.1 hne.2
    exact ⟨b, o, e, Nat.lt_of_lt_of_le hb k.size, fun j hj => (World.cell?_of_block hk).trans (hc j hj)⟩⟩, fun hn ad e => by
    obtain ⟨b, o, e', hb, _⟩ := h.1.2 hn
    have hne := h.2 hn ad e
    refine ⟨hne.1, k.ne ?_ hne.2⟩
    rw [e] at e'
    cases e'
    exact hb⟩
theorem RowG.nil_ (w : World) (gc : Nat) (ib : Option Nat) (A : Option Addr) : RowG w gc ib A 0 [] := ⟨⟨rfl, fun h => by omega⟩, fun h => by omega⟩
/-- The compiler at work. -/
def CSt (w : World) (B gc : Nat) (pr : Prm) (I : List It) (ib : Option Nat) : Prop :=
  B ≤ gc ∧ ib ≠ some gc ∧ ∃ (most depth : Int) (Ai : Option Addr) (ci : Nat) (vn : Value), Blk w gc 111 #[.slice pr.A pr.n pr.c, .int .i64 pr.fr, .int .i64 pr.inl, .bool pr.fold, .bool pr.split, .bool pr.framed, .int .i64 pr.words, .int .i64 most, .slice Ai I.length ci, .int .i64 depth, vn] ∧
    w.ownsRow B 49 7 (.slice Ai I.length ci) I.length (I.flatMap itC) ∧ (Value.slice Ai I.length ci).ownBlock = ib
/-- The scope of what is compiled. -/
def Scp (w : World) (gc : Nat) (ib : Option Nat) (gs : Nat) (fu en ar fi ba : Int) (Al : Option Addr) (nl cl : Nat) (xs : List ByteArray) (Ac : Option Addr) (nc cc : Nat) (ch : List Int) (vj : Value) : Prop :=
  Blk w gs 114 #[.int .i64 fu, .int .i64 en, .slice Al nl cl, .int .i64 ar, .int .i64 fi, .slice Ac nc cc, .int .i64 ba, vj] ∧ gs ≠ gc ∧ ib ≠ some gs ∧ nl ≤ 100000 ∧ nc ≤ 100000 ∧ RowG w gc ib Al nl (strCells xs) ∧ RowG w gc ib Ac nc (intCells ch)
section
variable {gc B gs nl cl nc cc : Nat} {ib ib1 : Option Nat} {w w1 : World} {fu en ar fi ba : Int} {Al Ac : Option Addr} {xs : List ByteArray} {ch : List Int} {vj : Value} {pr : Prm} {I : List It}
theorem Scp.ev (h : Scp w gc ib gs fu en ar fi ba Al nl cl xs Ac nc cc ch vj) (k : Ev gc ib w ib1 w1) : Scp w1 gc ib1 gs fu en ar fi ba Al nl cl xs Ac nc cc ch vj := by
  obtain ⟨h1, h2, h3, h4, h5, h6, h7⟩ := h
  exact ⟨k.blk h1 h2 h3, h2, k.ne h1.lt h3, h4, h5, h6.ev k, h7.ev k⟩
theorem CSt.lt (h : CSt w B gc pr I ib) : gc < w.heap.size := by
  obtain ⟨_, _, _, _, _, _, _, k, _⟩ := h; exact k.lt
theorem CSt.rows (h : CSt w B gc pr I ib) : ∀ b, ib = some b → B ≤ b ∧ b < w.heap.size := by
  obtain ⟨_, _, _, _, _, _, _, _, k, e⟩ := h
  intro b hb
  rw [← e] at hb
  exact k.lt b hb
theorem CSt.below (h : CSt w B gc pr I ib) (k : Ev gc ib w ib1 w1) (hB : B ≤ w.heap.size) : Below B w w1 := k.below h.1 (fun b e => (h.rows b e).1) hB
/-- Nothing of the compiler's has turned. -/
theorem CSt.kept (h : CSt w B gc pr I ib) (k : Below w.heap.size w w1) : CSt w1 B gc pr I ib := by
  obtain ⟨h1, h2, m, d, Ai, ci, vn, h3, h4, h5⟩ := h
  exact ⟨h1, h2, m, d, Ai, ci, vn, h3.below k h3.lt, own_belowZ h4 k, h5⟩
end
theorem own_setFar {w : World} {base size n : Nat} {e : TypeId} {v : Value} {xs : List Value} {p : Addr} (h : w.ownsRow base e size v n xs) (hp : ∀ b, v.ownBlock = some b → b ≠ p.block) (u : Value) : (w.setCell p u).ownsRow base e size v n xs :=
  own_grown h (only_setCell (p := p) (World.grownBy.refl w (some p.block)) (Or.inl rfl) u) (fun g hg e => by injection e with e; exact hp g hg e.symm)
/-- A scope's data. -/
structure Scd where
  fu : Int
  en : Int
  ar : Int
  fi : Int
  ba : Int
  Al : Option Addr
  nl : Nat
  cl : Nat
  xs : List ByteArray
  Ac : Option Addr
  nc : Nat
  cc : Nat
  ch : List Int
  vj : Value
abbrev ScP (w : World) (gc : Nat) (ib : Option Nat) (gs : Nat) (s : Scd) : Prop := Scp w gc ib gs s.fu s.en s.ar s.fi s.ba s.Al s.nl s.cl s.xs s.Ac s.nc s.cc s.ch s.vj
/-- A call that has put one item more. -/
def One (Q : It → Prop) (w : World) (B gc : Nat) (pr : Prm) (I : List It) (ib : Option Nat) (e : Ending) (w' : World) : Prop :=
  e = .returned (.tuple #[]) ∧ ∃ (x : It) (ib' : Option Nat), Q x ∧ CSt w' B gc pr (I ++ [x]) ib' ∧ Ev gc ib w ib' w'
/-- An item that is no jump and no call. -/
def Plain (line : Int) (nc : Nat) (x : It) : Prop := x.line = line ∧ x.start = false ∧ x.n = nc ∧ x.code ≠ 10 ∧ x.code ≠ 11 ∧ x.code ≠ 12
theorem one_cell6 {Q : It → Prop} {w w' : World} {B gc : Nat} {pr : Prm} {I : List It} {ib : Option Nat} (h : ∃ (x : It) (ib' : Option Nat), Q x ∧ CSt w' B gc pr (I ++ [x]) ib' ∧ Ev gc ib w ib' w') : w'.cell? ⟨gc, 6, none⟩ = some (.int .i64 pr.words) := by
  obtain ⟨x, ib', _, ⟨_, _, _, _, _, _, _, hk, _⟩, _⟩ := h
  have := hk.cell 6
  simpa using this
theorem one_cell3 {Q : It → Prop} {w w' : World} {B gc gs : Nat} {pr : Prm} {I : List It} {ib : Option Nat} {s : Scd} (hc : CSt w B gc pr I ib) (hs : ScP w gc ib gs s) (h : ∃ (x : It) (ib' : Option Nat), Q x ∧ CSt w' B gc pr (I ++ [x]) ib' ∧ Ev gc ib w ib' w') : w'.cell? ⟨gs, 3, none⟩ = some (.int .i64 s.ar) := by
  obtain ⟨x, ib', _, _, hv⟩ := h
  have hk := (Scp.ev hs hv).1
  have := hk.cell 3
  simpa using this
theorem itC_flat_length (I : List It) : (I.flatMap itC).length = I.length * 7 := flat_length itC 7 (fun _ => rfl) I
end Go.Proofs.Ytcfjbaanahgpoaa
namespace Go.Proofs.Ytcfjbaanahgpoaa
open Go Go.RowKit
set_option maxRecDepth 100000
set_option linter.unusedVariables false
set_option linter.unusedSimpArgs false
theorem Try.infoItm : (Try.prog.info? 49).map (fun i => (i.zero, i.size, i.bytes)) = some (some (.agg #[.int .i64 0, .int .i64 0, .int .i64 0, .bool false, .slice none 0 0, .int .i64 0, .bool false]), 7, 72) := by kernel_rfl
theorem Try.infoIntC : (Try.prog.info? 3).map (fun i => (i.zero, i.size, i.bytes)) = some (some (.int .i64 0), 1, 8) := by kernel_rfl
set_option maxHeartbeats 4000000 in
theorem i_add (w : World) (B gc gs nl cl nc cc : Nat) (ib : Option Nat) (pr : Prm) (I : List It) (fu en ar fi ba : Int) (Al Ac : Option Addr) (xs : List ByteArray) (ch : List Int) (vj : Value) (line code arg change : Int)
    (h : CSt w B gc pr I ib) (hs : Scp w gc ib gs fu en ar fi ba Al nl cl xs Ac nc cc ch vj) (hI : I.length ≤ 100000000000) (hB : B ≤ w.heap.size) :
    Calls Try.prog 80 #[.pointer (some ⟨gc, 0, none⟩), .pointer (some ⟨gs, 0, none⟩), .int .i64 line, .int .i64 code, .int .i64 arg, .int .i64 change] w fun e w' => e = .returned (.tuple #[]) ∧ ∃ (x : It) (ib' : Option Nat), x.code = code ∧ x.arg = arg ∧ x.line = line ∧ x.start = false ∧ x.n = nc ∧ CSt w' B gc pr (I ++ [x]) ib' ∧ Ev gc ib w ib' w' := by
  obtain ⟨i0, hi, hz0, hz1, hz2⟩ := info_parts Try.infoItm
  have HI := hide hi
  clear hi
  obtain ⟨i1, hi1, hy0, hy1, hy2⟩ := info_parts Try.infoIntC
  have HI1 := hide hi1
  clear hi1
  have HS := hide hs
  have HC := hide h
  obtain ⟨q1, q2, most, depth, Ai, ci, vn, hk, hown, hib⟩ := h
  obtain ⟨s1, s2, s3, _, s5, s6, s7⟩ := hs
  have CH := hide s7.1
  have m5 := (s1.alloc (.cells #[] 3)).cell 5
  simp at m5
  have HK := hide hk
  have HO := hide hown
  have hgl := hk.lt
  have hrow : ∀ b, (Value.slice Ai I.length ci).ownBlock = some b → b < w.heap.size := fun b hb => (hown.lt b hb).2
  clear hk s1 s6 s7 hown
  go_enter Try.func80, Try.ntmps80
  go_wp2_with (first | (at_builtin; refine wpList_apps _ rfl (.tmp 17) (.tmp 21) _ rfl w.heap.size 3 i1 _ 1 8 Try.underlying28 HI1.out hy0 hy1 hy2 rfl (by decide) (.slice (some ⟨_, 0, none⟩) 0 0) 0 [] rfl (World.ownsRow_lit w #[] 0 (Nat.le_refl _) (Nat.zero_le _) rfl) Ac nc cc (intCells ch) rfl (CH.out.below ((Below.refl _ _).alloc (Nat.le_refl _) _)) ?c1 ?c2 ?c3 ?c4 ?_) | fail)
  case c1 => intro u hu; obtain ⟨a, _, rfl⟩ := List.mem_map.1 hu; rfl
  case c2 => omega
  try case c3 => decide
  case c4 => simp
  intro v' w1 hown1 hb1 hg1 _
  try rw [Nat.zero_add] at hown1
  obtain ⟨D, d, rfl, _⟩ := Arr.own2 hown1
  have BW := hide (((Below.refl w.heap.size w).alloc (Nat.le_refl _) (.cells #[] 3)).trans hb1)
  have hzw := BW.out.size
  clear hown1 hb1 hg1 m5
  have K1 := hide (HK.out.below BW.out hgl)
  have O1 := hide (own_belowZ HO.out BW.out)
  have K2 := hide (K1.out.alloc (.cells #[.int .i64 code, .int .i64 arg, .int .i64 line, .bool false, .slice D nc d, .int .i64 0, .bool false] 49))
  have X2 := hide (Blk.new w1 49 #[.int .i64 code, .int .i64 arg, .int .i64 line, .bool false, .slice D nc d, .int .i64 0, .bool false])
  have O2 := hide (O1.out.alloc (.cells #[.int .i64 code, .int .i64 arg, .int .i64 line, .bool false, .slice D nc d, .int .i64 0, .bool false] 49))
  have B2 := hide (BW.out.alloc BW.out.size (.cells #[.int .i64 code, .int .i64 arg, .int .i64 line, .bool false, .slice D nc d, .int .i64 0, .bool false] 49))
  go_upto_region 1 with fail
  generalize w1.alloc (.cells #[.int .i64 code, .int .i64 arg, .int .i64 line, .bool false, .slice D nc d, .int .i64 0, .bool false] 49) = w2 at *
  have hxg : w1.heap.size ≠ gc := by omega
  have hzx := X2.out.lt
  generalize hxb : w1.heap.size = xb at *
  have k5 := K2.out.cell 5
  have k8 := K2.out.cell 8
  have k9 := K2.out.cell 9
  simp at k5 k8 k9
  have x5 := X2.out.cell 5
  have x6 := X2.out.cell 6
  simp at x5 x6
  have fx := X2.out.frozen
  have fx5 := fx 5
  have fx6 := fx 6
  clear fx hxb K1 O1 BW HK HO CH
  have hw2 : Hid (w2 = w2) := rfl
  go_cut [35] from 23 to 34 (fun s35 wx => ∃ bo : Bool, s35 = .bool bo ∧ wx = w2)
  case first =>
    cases hfr : pr.framed
    · go_wp2_with fail
      go_meet
      exact ⟨_, rfl, rfl⟩
    · by_cases hln : 0 < I.length
      · have z : decide (0 < I.length) = true := decide_eq_true hln
        go_wp2_with fail
        go_meet
        exact ⟨_, rfl, rfl⟩
      · have z : decide (0 < I.length) = false := decide_eq_false hln
        go_wp2_with fail
        go_meet
        exact ⟨_, rfl, rfl⟩
  case rest =>
    obtain ⟨bo, rfl, rfl⟩ := hcut
    go_upto_if 35 with fail
    go_cut [36] from 37 to 41 (fun s36 wx => ∃ (dep : Int) (ent : Bool), Blk wx xb 49 #[.int .i64 code, .int .i64 arg, .int .i64 line, .bool false, .slice D nc d, .int .i64 dep, .bool ent] ∧ Blk wx gc 111 #[.slice pr.A pr.n pr.c, .int .i64 pr.fr, .int .i64 pr.inl, .bool pr.fold, .bool pr.split, .bool pr.framed, .int .i64 pr.words, .int .i64 most, .slice Ai I.length ci, .int .i64 depth, vn] ∧ wx.ownsRow B 49 7 (.slice Ai I.length ci) I.length (I.flatMap itC) ∧ Below w.heap.size w wx)
    case first =>
      cases bo
      · go_wp2_with fail
        go_meet
        refine ⟨depth, false, ?_, K2.out.far (by show gc ≠ xb; omega) _, ?_, B2.out.setCell (p := ⟨xb, 5, none⟩) hzw _⟩
        · have := X2.out.set_ 5 (.int .i64 depth)
          simpa using this
        · refine own_setFar O2.out ?_ _
          intro b hb
          have := hrow b hb
          show b ≠ xb
          omega
      · go_wp2_with fail
        go_meet
        refine ⟨0, true, ?_, K2.out.far (by show gc ≠ xb; omega) _, ?_, B2.out.setCell (p := ⟨xb, 6, none⟩) hzw _⟩
        · have := X2.out.set_ 6 (.bool true)
          simpa using this
        · refine own_setFar O2.out ?_ _
          intro b hb
          have := hrow b hb
          show b ≠ xb
          omega
    case rest =>
      obtain ⟨dep, ent, hx3, hk3, ho3, hb3⟩ := hcut
      have X3 := hide hx3
      have K3 := hide hk3
      have O3 := hide ho3
      have B3 := hide hb3
      have x0 := hx3.cell 0
      have x1 := hx3.cell 1
      have x2 := hx3.cell 2
      have x3 := hx3.cell 3
      have x4 := hx3.cell 4
      have x5' := hx3.cell 5
      have x6' := hx3.cell 6
      have k8' := hk3.cell 8
      simp at x0 x1 x2 x3 x4 x5' x6' k8'
      clear hx3 hk3 ho3 hb3 K2 X2 O2 B2 k5 k8 k9 x5 x6 fx5 fx6 hw2
      have k8a := (K3.out.drew.alloc (.cells #[.int .i64 code, .int .i64 arg, .int .i64 line, .bool false, .slice D nc d, .int .i64 dep, .bool ent] 49)).cell 8
      simp at k8a
      have hgx := K3.out.lt
      have O3d : Hid (wc.drew.ownsRow B 49 7 (.slice Ai I.length ci) I.length (I.flatMap itC)) := O3.out
      have hzc := B3.out.size
      go_upto_region 4 with fail
      go_cut [46] from 47 to 51 (fun s46 wx => ∃ (A7 : Option Addr) (c7 : Nat), Blk wx gc 111 #[.slice pr.A pr.n pr.c, .int .i64 pr.fr, .int .i64 pr.inl, .bool pr.fold, .bool pr.split, .bool pr.framed, .int .i64 pr.words, .int .i64 most, .slice A7 (I.length + 1) c7, .int .i64 depth, vn] ∧ wx.ownsRow B 49 7 (.slice A7 (I.length + 1) c7) (I.length + 1) (I.flatMap itC ++ [.int .i64 code, .int .i64 arg, .int .i64 line, .bool false, .slice D nc d, .int .i64 dep, .bool ent]) ∧ Ev gc (Value.slice Ai I.length ci).ownBlock w (Value.slice A7 (I.length + 1) c7).ownBlock wx ∧ (Value.slice A7 (I.length + 1) c7).ownBlock ≠ some gc)
      case first =>
        go_region_law (refine step_appN wc.drew rfl (.tmp 46) (.tmp 48) _ rfl B 49 i0 _ 7 72 Try.underlying57 HI.out hz0 hz1 hz2 rfl (by decide) (.slice Ai I.length ci) I.length (I.flatMap itC) rfl O3d.out 1 [.int .i64 code, .int .i64 arg, .int .i64 line, .bool false, .slice D nc d, .int .i64 dep, .bool ent] rfl rfl rfl (by intro u hu; simp at hu; rcases hu with rfl | rfl | rfl | rfl | rfl | rfl | rfl <;> rfl) (by omega) (by decide) (show B ≤ wc.drew.heap.size from Nat.le_trans hB hzc) ?_; intro v7 w7 hown7 hb7 hg7 hv7; obtain ⟨A7, c7, rfl, _⟩ := Arr.own2 hown7; have K7 := hide (K3.out.drew.grown hg7 (by intro e; exact q2 (hib ▸ e.symm))); have kk8 := K7.out.cell 8; have ff8 := K7.out.frozen 8; simp at kk8; have O7 := hide hown7; have G7 := hide hg7; have V7 := hide hv7)
        all_goals
          go_wp2_with fail
        all_goals
          go_meet
          have hne7 : (Value.slice A7 (I.length + 1) c7).ownBlock ≠ some gc := fun e => by
            rcases V7.out with h1 | h1
            · exact q2 (hib ▸ (h1 ▸ e))
            · rw [h1] at e; injection e with e; have hzz : wc.drew.heap.size = wc.heap.size := rfl; omega
          refine ⟨A7, c7, ?_, own_setFar O7.out (fun b hb e => hne7 (by rw [hb]; exact congrArg some e)) _, ?_, hne7⟩
          · have := K7.out.set_ 8 (.slice A7 (I.length + 1) c7)
            simpa using this
          · refine ((Ev.of_below B3.out _ _).trans (Ev.of_row (w := wc) (w1 := w7) ⟨G7.out.os, G7.out.tape, G7.out.output, G7.out.size, G7.out.block⟩ _ ?_)).trans (Ev.of_cell (only_setCell (p := ⟨gc, 8, none⟩) (World.grownBy.refl w7 (some gc)) (Or.inl rfl) _) _)
            rcases V7.out with h1 | h1
            · exact .inl h1
            · exact .inr ⟨_, h1, by show wc.heap.size ≤ wc.heap.size + 1; omega⟩
      case rest =>
        obtain ⟨A7, c7, hk7, ho7, hev, hne⟩ := hcut
        have K7 := hide hk7
        have O7 := hide ho7
        have EV := hide hev
        have k9 := hk7.cell 9
        have f9 := hk7.frozen 9
        simp at k9
        clear hk7 ho7 hev x0 x1 x2 x3 x4 x5' x6' k8' k8a
        go_wp2_with fail
        go_end0
        have e1 : ∀ x : It, (I ++ [x]).length = I.length + 1 := fun x => by simp
        have e2 : ∀ x : It, (I ++ [x]).flatMap itC = I.flatMap itC ++ itC x := fun x => by simp
        refine ⟨rfl, ⟨code, arg, line, false, D, nc, d, dep, ent⟩, (Value.slice A7 (I.length + 1) c7).ownBlock, rfl, rfl, rfl, rfl, rfl, ⟨q1, hne, most, wrap64 (depth + change), A7, c7, vn, ?_, ?_, ?_⟩, ?_⟩
        · rw [e1]
          have := K7.out.set_ 9 (.int .i64 (wrap64 (depth + change)))
          simpa using this
        · rw [e1, e2]
          exact own_setFar O7.out (fun b hb e => hne (by rw [hb]; exact congrArg some e)) _
        · rw [e1]
        · rw [← hib]
          exact EV.out.trans (Ev.of_cell (only_setCell (p := ⟨gc, 9, none⟩) (World.grownBy.refl _ (some gc)) (Or.inl rfl) _) _)
theorem i_addS (w : World) (B gc gs : Nat) (ib : Option Nat) (pr : Prm) (I : List It) (s : Scd) (line code arg change : Int) (h : CSt w B gc pr I ib) (hs : ScP w gc ib gs s) (hI : I.length ≤ 100000000000) (hB : B ≤ w.heap.size) :
    Calls Try.prog 80 #[.pointer (some ⟨gc, 0, none⟩), .pointer (some ⟨gs, 0, none⟩), .int .i64 line, .int .i64 code, .int .i64 arg, .int .i64 change] w fun e w' => One (fun x => x.code = code ∧ x.arg = arg ∧ x.line = line ∧ x.start = false ∧ x.n = s.nc) w B gc pr I ib e w' :=
  (i_add w B gc gs s.nl s.cl s.nc s.cc ib pr I s.fu s.en s.ar s.fi s.ba s.Al s.Ac s.xs s.ch s.vj line code arg change h hs hI hB).mono fun e w' h => by
    obtain ⟨h0, x, ib', h1, h2, h3, h4, h5, h6, h7⟩ := h
    exact ⟨h0, x, ib', ⟨h1, h2, h3, h4, h5⟩, h6, h7⟩
end Go.Proofs.Ytcfjbaanahgpoaa
namespace Go.Proofs.Ytcfjbaanahgpoaa
open Go Go.RowKit
set_option maxRecDepth 100000
set_option linter.unusedVariables false
set_option linter.unusedSimpArgs false
set_option maxHeartbeats 4000000 in
theorem i_access (w : World) (B gc gs : Nat) (ib : Option Nat) (pr : Prm) (I : List It) (s : Scd) (line i : Int) (store : Bool) (h : CSt w B gc pr I ib) (hs : ScP w gc ib gs s) (hnc : s.nc = 0) (hI : I.length ≤ 100000000000) (hB : B ≤ w.heap.size) :
    Calls Try.prog 91 #[.pointer (some ⟨gc, 0, none⟩), .pointer (some ⟨gs, 0, none⟩), .int .i64 line, .int .i64 i, .bool store] w fun e w' => One (Plain line s.nc) w B gc pr I ib e w' := by
  have HC := hide h
  have HS := hide hs
  obtain ⟨q1, q2, most, depth, Ai, ci, vn, hk, _, _⟩ := h
  obtain ⟨s1, _⟩ := hs
  have k5 := hk.cell 5
  have k9 := hk.cell 9
  have m3 := s1.cell 3
  have m4 := s1.cell 4
  have m5 := s1.cell 5
  simp at k5 k9 m3 m4 m5
  rw [hnc] at m5
  have HN := hide hnc
  clear hk s1 hnc
  have fin : Hid (∀ (w' : World) (code arg change : Int), w' = w ∨ (∃ n, w' = w.drewN n) → code = 3 ∨ code = 4 ∨ code = 1 ∨ code = 2 → Calls Try.prog 80 #[.pointer (some ⟨gc, 0, none⟩), .pointer (some ⟨gs, 0, none⟩), .int .i64 line, .int .i64 code, .int .i64 arg, .int .i64 change] w' fun e w'' => One (Plain line s.nc) w B gc pr I ib e w'') := by
    intro w' code arg change hw hcode
    have hb : Below w.heap.size w w' := by
      rcases hw with rfl | ⟨n, rfl⟩
      · exact Below.refl _ _
      · exact below_drewN (Below.refl _ _) n
    refine (i_addS w' B gc gs ib pr I s line code arg change (HC.out.kept hb) (HS.out.ev (Ev.of_below hb gc ib)) hI (Nat.le_trans hB hb.size)).mono ?_
    rintro e w'' ⟨he, x, ib', ⟨h1, h2, h3, h4, h5⟩, h6, h7⟩
    exact ⟨he, x, ib', ⟨h3, h4, h5, by omega, by omega, by omega⟩, h6, (Ev.of_below hb gc ib).trans h7⟩
  by_cases hlt : i < s.ar
  · have z : decide (i < s.ar) = true := decide_eq_true hlt
    clear hlt
    cases store
    all_goals cases hfr : pr.framed
    all_goals
      go_enter Try.func91, Try.ntmps91
      go_wp2_with fail
      go_quiet (fail)
      go_wp2_with fail
      go_quiet (fail)
      go_wp2_with fail
      refine (fin.out _ _ _ _ (by first | exact .inl rfl | exact .inr ⟨_, rfl⟩) (by omega)).mono ?_
      rintro e w' ⟨rfl, hx⟩
      go_wp2_with fail
      go_end0
      exact ⟨rfl, hx⟩
  · have z : decide (i < s.ar) = false := decide_eq_false hlt
    clear hlt
    cases store
    all_goals cases hfr : pr.framed
    all_goals
      go_enter Try.func91, Try.ntmps91
      go_wp2_with fail
      go_quiet (fail)
      go_wp2_with fail
      refine (fin.out _ _ _ _ (by first | exact .inl rfl | exact .inr ⟨_, rfl⟩) (by omega)).mono ?_
      rintro e w' ⟨rfl, hx⟩
      go_wp2_with fail
      go_end0
      exact ⟨rfl, hx⟩
end Go.Proofs.Ytcfjbaanahgpoaa
namespace Go.Proofs.Ytcfjbaanahgpoaa
open Go Go.RowKit
set_option maxRecDepth 100000
set_option linter.unusedVariables false
set_option linter.unusedSimpArgs false
set_option maxHeartbeats 4000000 in
theorem i_leave (w : World) (B gc gs : Nat) (ib : Option Nat) (pr : Prm) (I : List It) (s : Scd) (line : Int) (atEnd : Bool) (h : CSt w B gc pr I ib) (hs : ScP w gc ib gs s) (hnc : s.nc = 0) (hI : I.length ≤ 100000000000) (hB : B ≤ w.heap.size) :
    Calls Try.prog 92 #[.pointer (some ⟨gc, 0, none⟩), .pointer (some ⟨gs, 0, none⟩), .int .i64 line, .bool atEnd] w fun e w' => One (Plain line s.nc) w B gc pr I ib e w' := by
  have HC := hide h
  have HS := hide hs
  obtain ⟨q1, q2, most, depth, Ai, ci, vn, hk, _, _⟩ := h
  obtain ⟨s1, _⟩ := hs
  have k5 := hk.cell 5
  have k6 := hk.cell 6
  have m3 := s1.cell 3
  have m5 := s1.cell 5
  simp at k5 k6 m3 m5
  rw [hnc] at m5
  clear hk s1 hnc
  have fin : Hid (∀ (w' : World) (code arg change : Int), w' = w ∨ (∃ n, w' = w.drewN n) ∨ w' = w.drew → code = 14 ∨ code = 16 → Calls Try.prog 80 #[.pointer (some ⟨gc, 0, none⟩), .pointer (some ⟨gs, 0, none⟩), .int .i64 line, .int .i64 code, .int .i64 arg, .int .i64 change] w' fun e w'' => One (Plain line s.nc) w B gc pr I ib e w'') := by
    intro w' code arg change hw hcode
    have hb : Below w.heap.size w w' := by
      rcases hw with rfl | ⟨n, rfl⟩ | rfl
      · exact Below.refl _ _
      · exact below_drewN (Below.refl _ _) n
      · exact (Below.refl _ _).drew
    refine (i_addS w' B gc gs ib pr I s line code arg change (HC.out.kept hb) (HS.out.ev (Ev.of_below hb gc ib)) hI (Nat.le_trans hB hb.size)).mono ?_
    rintro e w'' ⟨he, x, ib', ⟨h1, h2, h3, h4, h5⟩, h6, h7⟩
    exact ⟨he, x, ib', ⟨h3, h4, h5, by omega, by omega, by omega⟩, h6, (Ev.of_below hb gc ib).trans h7⟩
  cases hfr : pr.framed
  · go_enter Try.func92, Try.ntmps92
    go_wp2_with fail
    go_region_held3 (fun w' => w'.cell? ⟨gs, 3, none⟩ = some (.int .i64 s.ar) ∧ w'.cell? ⟨gc, 6, none⟩ = some (.int .i64 pr.words)) (first | exact ⟨m3, k6⟩ | exact ⟨HM.out, HW.out⟩) (first | (go_at_call 80; refine (fin.out _ _ _ _ (by first | exact .inl rfl | exact .inr (.inr rfl)) (by omega)).mono ?_; rintro e w5 ⟨rfl, hx⟩; have HX := hide hx; have HM := hide (one_cell3 HC.out HS.out hx); have HW := hide (one_cell6 hx); clear hx))
    all_goals
      go_wp2_with fail
      go_end0
      exact ⟨rfl, HX.out⟩
  · go_enter Try.func92, Try.ntmps92
    go_wp2_with fail
    refine (fin.out _ _ _ _ (by first | exact .inl rfl | exact .inr (.inl ⟨_, rfl⟩)) (by omega)).mono ?_
    rintro e w' ⟨rfl, hx⟩
    go_wp2_with fail
    go_end0
    exact ⟨rfl, hx⟩
set_option maxHeartbeats 4000000 in
theorem i_replaced0 (w : World) (B gc gs : Nat) (ib : Option Nat) (pr : Prm) (I : List It) (s : Scd) (k : Int) (h : CSt w B gc pr I ib) (hs : ScP w gc ib gs s) (hin : pr.inl = 0) :
    Calls Try.prog 103 #[.pointer (some ⟨gc, 0, none⟩), .pointer (some ⟨gs, 0, none⟩), .int .i64 k] w fun e w' => e = .returned (.bool false) ∧ Below w.heap.size w w' := by
  obtain ⟨q1, q2, most, depth, Ai, ci, vn, hk, _, _⟩ := h
  obtain ⟨s1, _⟩ := hs
  have k2 := hk.cell 2
  have m5 := s1.cell 5
  simp at k2 m5
  rw [hin] at k2
  have z : decide ((s.nc : Int) < 0) = false := decide_eq_false (by omega)
  clear hk s1 hin
  go_enter Try.func103, Try.ntmps103
  go_wp2_with fail
  go_quiet (fail)
  go_wp2_with fail
  go_ret
  exact ⟨rfl, by first | exact Below.refl _ _ | exact below_drewN (Below.refl _ _) _ | exact (Below.refl _ _).drew⟩
set_option maxHeartbeats 4000000 in
theorem i_numberOf (w : World) (B gc : Nat) (ib : Option Nat) (pr : Prm) (I : List It) (k : Int) (L : List Ln) (h : CSt w B gc pr I ib) (hn : pr.n ≤ 1000) (hR : InLines w pr.A pr.n L) :
    Calls Try.prog 105 #[.pointer (some ⟨gc, 0, none⟩), .int .i64 k] w fun e w' => (∃ j : Int, e = .returned (.int .i64 j)) ∧ Below w.heap.size w w' := by
  obtain ⟨q1, q2, most, depth, Ai, ci, vn, hk, _, _⟩ := h
  have k0 := hk.cell 0
  simp at k0
  have HR := hide hR
  clear hk hR
  go_enter Try.func105, Try.ntmps105
  go_wp2_with fail
  refine (i_funs _ pr.n _ L _ (by omega) HR.out).mono ?_
  rintro e w1 ⟨⟨v, rfl, ho⟩, hb1⟩
  have hlen : (funsF L).length ≤ 1000 := by
    have h1 := funsFrom_len L 0
    have h2 := HR.out.len
    exact Nat.le_trans h1 (by omega)
  obtain ⟨F, cf, rfl, _, har⟩ := Arr.of_own ho
  have X := hide (InRow.of_arr har)
  have HB := hide hb1
  clear ho har hb1
  go_wp2_with fail
  refine (i_ixInt _ _ _ _ _ _ (by omega) rfl X.out).mono ?_
  rintro e w2 ⟨rfl, rfl⟩
  go_wp2_with fail
  go_ret
  exact ⟨⟨_, rfl⟩, HB.out⟩
end Go.Proofs.Ytcfjbaanahgpoaa
