import Derived.Test.YtcfjbaanahgpoaaDrX
import Derived.Test.YtcfjbaanahgpoaaPokY
namespace Go.Proofs.Ytcfjbaanahgpoaa
open Go Go.RowKit
set_option maxRecDepth 100000
set_option linter.unusedVariables false
set_option linter.unusedSimpArgs false
/-- Rows, lines that lie from a block on. -/
def RowL (w : World) (lo : Nat) (A : Option Addr) (n size : Nat) (xs : List Value) : Prop := InRow w A n size xs ∧ (0 < n → ∀ ad, A = some ad → lo ≤ ad.block)
theorem RowL.kept {w w' : World} {lo n size : Nat} {A : Option Addr} {xs : List Value} (h : RowL w lo A n size xs) (hz : w.heap.size ≤ w'.heap.size) (hk : ∀ k, k < w.heap.size → lo ≤ k → w'.heap[k]? = w.heap[k]?) : RowL w' lo A n size xs :=
  ⟨⟨h.1.1, fun hn => by
    obtain ⟨b, o, e, hb, hc⟩ := h.1.2 hn
    have hl : lo ≤ b := h.2 hn _ e
    exact ⟨b, o, e, Nat.lt_of_lt_of_le hb hz, fun j hj => (World.cell?_of_block (hk b hb hl)).trans (hc j hj)⟩⟩, h.2⟩
theorem RowL.low {w : World} {lo lo' n size : Nat} {A : Option Addr} {xs : List Value} (h : RowL w lo A n size xs) (hl : lo' ≤ lo) : RowL w lo' A n size xs := ⟨h.1, fun hn ad e => Nat.le_trans hl (h.2 hn ad e)⟩
def LinesX (w : World) (lo : Nat) (A : Option Addr) (n : Nat) (L : List Ln) : Prop := ∃ P : List LP, P.map Prod.fst = L ∧ RowL w lo A n 4 (P.flatMap lnC) ∧ ∀ p ∈ P, RowL w lo p.2.1 p.1.2.2.1.length 1 (strCells p.1.2.2.1) ∧ RowL w lo p.2.2.2.1 p.1.2.2.2.length 3 (tokCells p.1.2.2.2) ∧ lnCap p
theorem LinesX.in_ {w : World} {lo n : Nat} {A : Option Addr} {L : List Ln} (h : LinesX w lo A n L) : InLines w A n L := by
  obtain ⟨P, e, h1, h2⟩ := h
  exact ⟨P, e, h1.1, fun p hp => ⟨(h2 p hp).1.1, (h2 p hp).2.1.1, (h2 p hp).2.2⟩⟩
theorem LinesX.kept {w w' : World} {lo n : Nat} {A : Option Addr} {L : List Ln} (h : LinesX w lo A n L) (hz : w.heap.size ≤ w'.heap.size) (hk : ∀ k, k < w.heap.size → lo ≤ k → w'.heap[k]? = w.heap[k]?) : LinesX w' lo A n L := by
  obtain ⟨P, e, h1, h2⟩ := h
  exact ⟨P, e, h1.kept hz hk, fun p hp => ⟨(h2 p hp).1.kept hz hk, (h2 p hp).2.1.kept hz hk, (h2 p hp).2.2⟩⟩
theorem LinesX.low {w : World} {lo lo' n : Nat} {A : Option Addr} {L : List Ln} (h : LinesX w lo A n L) (hl : lo' ≤ lo) : LinesX w lo' A n L := by
  obtain ⟨P, e, h1, h2⟩ := h
  exact ⟨P, e, h1.low hl, fun p hp => ⟨(h2 p hp).1.low hl, (h2 p hp).2.1.low hl, (h2 p hp).2.2⟩⟩
theorem LinesX.grown {w w' : World} {lo g n : Nat} {A : Option Addr} {L : List Ln} (h : LinesX w lo A n L) (hg : w.grownBy w' (some g)) (hl : g < lo) : LinesX w' lo A n L :=
  h.kept hg.size fun k h1 h2 => hg.block k h1 (by simp; omega)
theorem LinesX.below {w w' : World} {lo n : Nat} {A : Option Addr} {L : List Ln} (h : LinesX w lo A n L) (hb : Below w.heap.size w w') : LinesX w' lo A n L :=
  h.kept hb.size fun k h1 _ => hb.block k h1
theorem LinesX.setCell {w : World} {lo n : Nat} {A : Option Addr} {L : List Ln} (h : LinesX w lo A n L) {p : Addr} (hp : p.block < lo) (u : Value) : LinesX (w.setCell p u) lo A n L :=
  h.kept (by simp [World.setCell]) fun k _ h2 => Below.heap_setCell w p u k (by omega)
theorem rowL_of_arr {w : World} {lo hi n size : Nat} {A : Option Addr} {xs : List Value} (h : Arr w lo hi A n size xs) : RowL w lo A n size xs :=
  ⟨InRow.of_arr h, fun hn ad e => by
    obtain ⟨b, e2, h1, _⟩ := h.2 hn
    rw [e] at e2
    cases e2
    exact h1⟩
theorem LinesX.of_own {w : World} {lo hi : Nat} {A : Option Addr} {P : List LP} (h : OwnP w lo hi A P) : LinesX w lo A P.length (P.map Prod.fst) := by
  obtain ⟨h1, h2⟩ := h
  refine ⟨P, rfl, rowL_of_arr (h1.rows _ List.mem_cons_self), fun p hp => ⟨?_, ?_, h2 p hp⟩⟩
  · exact rowL_of_arr (h1.rows (p.2.1, p.1.2.2.1.length, 1, strCells p.1.2.2.1) (List.mem_cons_of_mem _ (List.mem_flatMap.2 ⟨p, hp, by simp [lnRows]⟩)))
  · exact rowL_of_arr (h1.rows (p.2.2.2.1, p.1.2.2.2.length, 3, tokCells p.1.2.2.2) (List.mem_cons_of_mem _ (List.mem_flatMap.2 ⟨p, hp, by simp [lnRows]⟩)))
/-- A program that makes sense, or the least one. -/
def PrgR (w : World) (B g : Nat) (e : Ending) (w' : World) : Prop := ∃ (A : Option Addr) (n c : Nat) (L : List Ln), e = .returned (.slice A n c) ∧ LinesX w' w.heap.size A n L ∧ (∀ x ∈ L, lineOkF x = true) ∧ 1 ≤ n ∧ n ≤ 400 ∧ Cur B w' g ∧ w.grownBy w' (some g)
theorem rowL_blk {w : World} {lo b n size : Nat} {t : TypeId} {cs : Array Value} (h : Blk w b t cs) (hg : lo ≤ b) (hn : cs.size = n * size) : RowL w lo (some ⟨b, 0, none⟩) n size cs.toList :=
  ⟨⟨by simp [hn], fun hn => ⟨b, 0, rfl, h.lt, fun j hj => by rw [Nat.zero_add, h.cell j]; simp [Array.getElem?_toList]⟩⟩, fun _ ad e => by cases e; exact hg⟩
theorem rowL_nil (w : World) (lo size : Nat) (A : Option Addr) : RowL w lo A 0 size [] := ⟨InRow.nil_ _ _ _, fun h => by omega⟩
set_option maxHeartbeats 2000000 in
theorem s_l04Program (B g : Nat) (w : World) (hc : Cur B w g) :
    Calls Try.prog 42 #[.pointer (some ⟨g, 0, none⟩)] w fun e w' => PrgR w B g e w' := by
  have HC := hide hc
  have hgl := hc.lt
  clear hc
  go_enter Try.func42, Try.ntmps42
  go_wp2_with fail
  go_loopw [3] (fun i wr => ∃ k : Nat, i = .int .i64 k ∧ k ≤ 5 ∧ Cur B wr g ∧ w.grownBy wr (some g)) (fun i _ => 5 - (intOf i).toNat)
  case atStart => exact ⟨0, rfl, Nat.zero_le _, HC.out, World.grownBy.refl _ _⟩
  case round =>
    obtain ⟨k, rfl, hk, hcr, hgr⟩ := hrel
    have CR := hide hcr
    have GR := hide hgr
    have hglr := hcr.lt
    clear hcr hgr
    by_cases hlt : k < 5
    · have z : decide ((k : Int) < 5) = true := decide_eq_true (by omega)
      go_wp2_with fail
      refine (s_l03Program B g _ CR.out).mono ?_
      rintro e w1 ⟨v, rfl, ⟨A', P, c', rfl, hO, hok, hlen, hc2, hg2⟩, hv⟩
      obtain ⟨A2, c2, e2, hL⟩ := hO.lines
      cases e2
      obtain ⟨P2, e3, hP⟩ := hL
      have hpl : P2.length = P.length := by have := congrArg List.length e3; simpa using this
      have hX := (LinesX.of_own hP).low (lo' := w.heap.size) GR.out.size
      rw [e3, hpl] at hX
      obtain ⟨L, hL⟩ : ∃ L, P.map Prod.fst = L := ⟨_, rfl⟩
      rw [hL] at hX
      have hokL : ∀ x ∈ L, lineOkF x = true := by
        intro x hx
        rw [← hL] at hx
        obtain ⟨p, hp, rfl⟩ := List.mem_map.1 hx
        exact hok p hp
      obtain ⟨n, hn⟩ : ∃ n, P.length = n := ⟨_, rfl⟩
      rw [hn] at hX hlen ⊢
      have hn1 : 1 ≤ n := by have : 1 ≤ P.length := hv; omega
      have X1 := hide hX
      have HOK := hide hokL
      have C1 := hide hc2
      have G1 := hide (only_trans GR.out hg2)
      have hLn := hX.in_.len
      have HSZ : Hid (∀ x ∈ L, LnSz x) := fun x hx => (lineOk_szQ (hokL x hx)).1
      have hT : n + lnTot L ≤ 1048576 := by have h1 := lnTot_leQ L (fun x hx => (lineOk_szQ (hokL x hx)).2); omega
      clear hX hokL hc2 hg2 hO hok hv hP e3 hpl hL hn
      go_wp2_with fail
      refine (s_programOk A' n c' L _ hT X1.out.in_ HSZ.out).mono ?_
      rintro e w2 ⟨rfl, hb2⟩
      have X2 := hide (X1.out.below hb2)
      have C2 := hide (C1.out.below hb2)
      have G2 := hide (only_trans G1.out (only_of_below hb2 (some g)))
      clear hb2 X1 C1 G1
      cases progS L
      · go_wp2_with fail
        go_roundw
        case rel => exact ⟨k + 1, by go_num, by omega, C2.out, G2.out⟩
        case measure => simp [intOf]; omega
      · go_wp2_with fail
        go_ret
        exact ⟨A', n, c', L, rfl, X2.out, HOK.out, hn1, by omega, C2.out, G2.out⟩
    · have z : decide ((k : Int) < 5) = false := decide_eq_false (by omega)
      go_wp2_with fail
      go_ret
      have K1 := Blk.new wr 64 #[.int .i64 0, .int .i64 1, .string ⟨#[]⟩]
      have hz : (wr.alloc (.cells #[.int .i64 0, .int .i64 1, .string ⟨#[]⟩] 64)).heap.size = wr.heap.size + 1 := by simp
      have B1 := (Below.refl wr.heap.size wr).alloc (Nat.le_refl _) (.cells #[.int .i64 0, .int .i64 1, .string ⟨#[]⟩] 64)
      have BL := B1.alloc (by omega) (.cells #[.int .i64 0, .string ⟨#[109, 97, 105, 110]⟩, .slice none 0 0, .slice none 0 0, .int .i64 2, .string ⟨#[]⟩, .slice none 0 0, .slice (some ⟨wr.heap.size, 0, none⟩) 1 1, .int .i64 6, .string ⟨#[]⟩, .slice none 0 0, .slice (some ⟨wr.heap.size, 0, none⟩) 1 1, .int .i64 7, .string ⟨#[]⟩, .slice none 0 0, .slice none 0 0] 34)
      have K2 := Blk.new (wr.alloc (.cells #[.int .i64 0, .int .i64 1, .string ⟨#[]⟩] 64)) 34 #[.int .i64 0, .string ⟨#[109, 97, 105, 110]⟩, .slice none 0 0, .slice none 0 0, .int .i64 2, .string ⟨#[]⟩, .slice none 0 0, .slice (some ⟨wr.heap.size, 0, none⟩) 1 1, .int .i64 6, .string ⟨#[]⟩, .slice none 0 0, .slice (some ⟨wr.heap.size, 0, none⟩) 1 1, .int .i64 7, .string ⟨#[]⟩, .slice none 0 0, .slice none 0 0]
      have K1' := K1.alloc (.cells #[.int .i64 0, .string ⟨#[109, 97, 105, 110]⟩, .slice none 0 0, .slice none 0 0, .int .i64 2, .string ⟨#[]⟩, .slice none 0 0, .slice (some ⟨wr.heap.size, 0, none⟩) 1 1, .int .i64 6, .string ⟨#[]⟩, .slice none 0 0, .slice (some ⟨wr.heap.size, 0, none⟩) 1 1, .int .i64 7, .string ⟨#[]⟩, .slice none 0 0, .slice none 0 0] 34)
      rw [hz] at K2
      have hsz := GR.out.size
      have X1 := rowL_blk (lo := w.heap.size) (n := 1) (size := 3) K1' (by omega) rfl
      have X2 := rowL_blk (lo := w.heap.size) (n := 4) (size := 4) K2 (by omega) rfl
      have he : exprOkF [((0 : Int), (1 : Int), (⟨#[]⟩ : ByteArray))] = true := fullK_ok (fullK_tok (r := 0) (tk_num 1 (by omega)).1 (tk_num 1 (by omega)).2 fullK_zero) (by simp)
      refine ⟨some ⟨wr.heap.size + 1, 0, none⟩, 4, 4, [(0, ⟨#[109, 97, 105, 110]⟩, [], []), (2, ⟨#[]⟩, [], [(0, 1, ⟨#[]⟩)]), (6, ⟨#[]⟩, [], [(0, 1, ⟨#[]⟩)]), (7, ⟨#[]⟩, [], [])], rfl,
        ⟨[((0, ⟨#[109, 97, 105, 110]⟩, [], []), none, 0, none, 0), ((2, ⟨#[]⟩, [], [(0, 1, ⟨#[]⟩)]), none, 0, some ⟨wr.heap.size, 0, none⟩, 1), ((6, ⟨#[]⟩, [], [(0, 1, ⟨#[]⟩)]), none, 0, some ⟨wr.heap.size, 0, none⟩, 1), ((7, ⟨#[]⟩, [], []), none, 0, none, 0)], rfl, X2, fun p hp => ?_⟩, fun x hx => ?_, by omega, by omega, CR.out.below BL, only_trans GR.out (only_of_below BL (some g))⟩
      · have hmax : (1 : Nat) ≤ maxLen := by decide
        simp only [List.mem_cons, List.not_mem_nil, or_false] at hp
        rcases hp with rfl | rfl | rfl | rfl
        · exact ⟨rowL_nil _ _ _ _, rowL_nil _ _ _ _, Nat.le_refl _, Nat.zero_le _, Nat.le_refl _, Nat.zero_le _⟩
        · exact ⟨rowL_nil _ _ _ _, X1, Nat.le_refl _, Nat.zero_le _, Nat.le_refl _, hmax⟩
        · exact ⟨rowL_nil _ _ _ _, X1, Nat.le_refl _, Nat.zero_le _, Nat.le_refl _, hmax⟩
        · exact ⟨rowL_nil _ _ _ _, rowL_nil _ _ _ _, Nat.le_refl _, Nat.zero_le _, Nat.le_refl _, Nat.zero_le _⟩
      · simp only [List.mem_cons, List.not_mem_nil, or_false] at hx
        rcases hx with rfl | rfl | rfl | rfl
        · exact line_fun (by decide) (yes_of ⟨by simp, GoodArgs.zero _⟩)
        · exact line_ex (.inl rfl) he
        · exact line_ex (.inr (.inr (.inr rfl))) he
        · exact line_no (.inr rfl)
/-- A drawn build: 0 to 63 frames' bits, at most 3 calls replaced. -/
def BldR (fr inl : Int) : Prop := (0 ≤ fr ∧ fr ≤ 63) ∧ 0 ≤ inl ∧ inl ≤ 3
set_option maxHeartbeats 2000000 in
theorem s_l08Build (B g : Nat) (w : World) (hc : Cur B w g) :
    Calls Try.prog 43 #[.pointer (some ⟨g, 0, none⟩)] w fun e w' => (∃ (fr inl : Int) (fold split : Bool), e = .returned (.agg #[.int .i64 fr, .int .i64 inl, .bool fold, .bool split]) ∧ BldR fr inl) ∧ Cur B w' g ∧ w.grownBy w' (some g) := by
  have HC := hide hc
  have hgl := hc.lt
  clear hc
  go_enter Try.func43, Try.ntmps43
  go_wp2_with fail
  have KR := hide (Blk.new w 37 #[.int .i64 0, .int .i64 0, .bool false, .bool false])
  have C0 := hide (HC.out.alloc (.cells #[.int .i64 0, .int .i64 0, .bool false, .bool false] 37))
  have G0 := hide (only_alloc (World.grownBy.refl w (some g)) (.cells #[.int .i64 0, .int .i64 0, .bool false, .bool false] 37))
  generalize w.alloc (.cells #[.int .i64 0, .int .i64 0, .bool false, .bool false] 37) = w0 at *
  have hgr : w.heap.size ≠ g := by omega
  refine (s_l01Below B g _ _ C0.out).mono ?_
  rintro e w1 ⟨⟨fr, rfl, hx0, hx1, _⟩, hc1, hg1⟩
  have hx1 := hx1 (by omega)
  have K1 := hide (KR.out.grown hg1 (by simpa using hgr))
  have C1 := hide hc1
  have G1 := hide (only_trans G0.out hg1)
  clear hc1 hg1
  go_wp2_with fail
  have KP := hide (Blk.new w1 3 #[.int .i64 0, .int .i64 1, .int .i64 2, .int .i64 3])
  have C2 := hide (C1.out.alloc (.cells #[.int .i64 0, .int .i64 1, .int .i64 2, .int .i64 3] 3))
  have G2 := hide (only_alloc G1.out (.cells #[.int .i64 0, .int .i64 1, .int .i64 2, .int .i64 3] 3))
  have K2 := hide (K1.out.alloc (.cells #[.int .i64 0, .int .i64 1, .int .i64 2, .int .i64 3] 3))
  have hg1 := C1.out.lt
  have hk1 := K1.out.lt
  refine (s_l01PickInt B g ⟨w1.heap.size, 0, none⟩ 4 4 (fun i => (i : Int)) ⟨by omega, by decide⟩ (show w1.heap.size ≠ g by omega) _ C2.out KP.out.lt (fun i hi => ?_)).mono ?_
  · have := KP.out.cell i
    rcases i with _ | _ | _ | _ | i
    · simp [Addr.add] at this ⊢ <;> exact this
    · simp [Addr.add] at this ⊢ <;> exact this
    · simp [Addr.add] at this ⊢ <;> exact this
    · simp [Addr.add] at this ⊢ <;> exact this
    · omega
  rintro e w3 ⟨⟨inl, hinl, rfl⟩, hc3, hg3⟩
  have K3 := hide (K2.out.grown hg3 (by simpa using hgr))
  have C3 := hide hc3
  have G3 := hide (only_trans G2.out hg3)
  clear hc3 hg3
  go_wp2_with fail
  have hw3 := G3.out.size
  obtain ⟨b, hb⟩ : ∃ b, w3.heap.size = b := ⟨_, rfl⟩
  rw [hb] at hw3
  have KB := hide (Blk.new w3 37 #[.int .i64 fr, .int .i64 inl, .bool false, .bool false])
  rw [hb] at KB ⊢
  have C4 := hide (C3.out.alloc (.cells #[.int .i64 fr, .int .i64 inl, .bool false, .bool false] 37))
  have G4 := hide (only_alloc G3.out (.cells #[.int .i64 fr, .int .i64 inl, .bool false, .bool false] 37))
  have K4 := hide (K3.out.alloc (.cells #[.int .i64 fr, .int .i64 inl, .bool false, .bool false] 37))
  generalize w3.alloc (.cells #[.int .i64 fr, .int .i64 inl, .bool false, .bool false] 37) = w4 at *
  have hk3 := K3.out.lt
  have hgb : g ≠ b := by have := C3.out.lt; omega
  have hwb : w.heap.size ≠ b := by omega
  refine (s_l01Once B g _ _ C4.out).mono ?_
  rintro e w5 ⟨⟨b1, rfl⟩, hc5, hg5⟩
  have C5 := hide hc5
  have G5 := hide (only_trans G4.out hg5)
  have K5 := hide (K4.out.grown hg5 (by simpa using hgr))
  have KB5 := hide (KB.out.grown hg5 (by simpa using hgb.symm))
  clear hc5 hg5
  have k2 := KB5.out.cell 2
  have f2 := KB5.out.frozen 2
  simp at k2
  go_wp2_with fail
  have KB6 := hide (KB5.out.set_ 2 (.bool b1))
  have C6 := hide (C5.out.setCell (p := ⟨b, 2, none⟩) (show b ≠ g from hgb.symm) (show B ≤ b by have := C5.out.1; omega) (.bool b1))
  have G6 := hide (only_setCell (p := ⟨b, 2, none⟩) G5.out (Or.inr hw3) (.bool b1))
  have K6 := hide (K5.out.far (p := ⟨b, 2, none⟩) hwb (.bool b1))
  clear k2 f2
  refine (s_l01Once B g _ _ C6.out).mono ?_
  rintro e w7 ⟨⟨b2, rfl⟩, hc7, hg7⟩
  have C7 := hide hc7
  have G7 := hide (only_trans G6.out hg7)
  have K7 := hide (K6.out.grown hg7 (by simpa using hgr))
  have KB7 := hide (KB6.out.grown hg7 (by simpa using hgb.symm))
  simp at KB7
  clear hc7 hg7
  have k3 := KB7.out.cell 3
  have f3 := KB7.out.frozen 3
  simp at k3
  have KB8 := hide (KB7.out.set_ 3 (.bool b2))
  simp at KB8
  have K8 := hide (K7.out.far (p := ⟨b, 3, none⟩) hwb (.bool b2))
  have C8 := hide (C7.out.setCell (p := ⟨b, 3, none⟩) (show b ≠ g from hgb.symm) (show B ≤ b by have := C7.out.1; omega) (.bool b2))
  have G8 := hide (only_setCell (p := ⟨b, 3, none⟩) G7.out (Or.inr hw3) (.bool b2))
  have n0 := KB8.out.cell 0
  have n1 := KB8.out.cell 1
  have n2 := KB8.out.cell 2
  have n3 := KB8.out.cell 3
  have r0 := K8.out.cell 0
  have r1 := K8.out.cell 1
  have r2 := K8.out.cell 2
  have r3 := K8.out.cell 3
  simp at n0 n1 n2 n3 r0 r1 r2 r3
  have q0 := K8.out.frozen 0
  have q1 := K8.out.frozen 1
  have q2 := K8.out.frozen 2
  have q3 := K8.out.frozen 3
  go_wp2_with fail
  refine bodyPost_ret (v := .agg #[.int .i64 fr, .int .i64 inl, .bool b1, .bool b2]) (by simp [results, Try.results43, go_sem, r0, r1, r2, r3]) rfl ⟨⟨fr, inl, b1, b2, rfl, ⟨hx0, by omega⟩, by omega, by omega⟩, ?_, ?_⟩
  · have hBw : B ≤ w.heap.size := by have := C8.out.1; omega
    exact (((C8.out.setCell (p := ⟨w.heap.size, 0, none⟩) hgr hBw _).setCell (p := ⟨w.heap.size, 1, none⟩) hgr hBw _).setCell (p := ⟨w.heap.size, 2, none⟩) hgr hBw _).setCell (p := ⟨w.heap.size, 3, none⟩) hgr hBw _
  · exact only_setCell (p := ⟨w.heap.size, 3, none⟩) (only_setCell (p := ⟨w.heap.size, 2, none⟩) (only_setCell (p := ⟨w.heap.size, 1, none⟩) (only_setCell (p := ⟨w.heap.size, 0, none⟩) G8.out (.inr (Nat.le_refl _)) _) (.inr (Nat.le_refl _)) _) (.inr (Nat.le_refl _)) _) (.inr (Nat.le_refl _)) _
theorem CodeAt.up {B B' : Nat} {w : World} {A : Option Addr} {n : Nat} (h : CodeAt B w A n) (hb : B ≤ B') : CodeAt B' w A n :=
  ⟨h.1, fun hn => by obtain ⟨ad, f, e, h1, h2⟩ := h.2 hn; exact ⟨ad, f, e, by omega, h2⟩⟩
/-- What DrawBuild answers: a program, a build (and another). -/
def DbR (w : World) (e : Ending) (w' : World) : Prop := ∃ (A : Option Addr) (n c : Nat) (L : List Ln) (fr inl fr' inl' : Int) (fold split fold' split' : Bool), e = .returned (.tuple #[.slice A n c, .agg #[.int .i64 fr, .int .i64 inl, .bool fold, .bool split], .agg #[.int .i64 fr', .int .i64 inl', .bool fold', .bool split']]) ∧ InLines w' A n L ∧ (∀ x ∈ L, lineOkF x = true) ∧ 1 ≤ n ∧ n ≤ 400 ∧ BldR fr inl
set_option maxHeartbeats 1000000 in
theorem s_drawBuild (A : Option Addr) (n c : Nat) (w : World) (hc : CodeAt w.heap.size w A n) :
    Calls Try.prog 17 #[.slice A n c] w fun e w' => DbR w e w' ∧ Below w.heap.size w w' := by
  have HC := hide hc
  clear hc
  go_enter Try.func17, Try.ntmps17
  go_wp2_with fail
  have KX := hide (Blk.new (w.alloc (.cells #[.int .i64 0, .int .i64 0, .bool false, .bool false] 37)) 37 #[.int .i64 0, .int .i64 0, .bool false, .bool false])
  have KW := hide ((Blk.new w 37 #[.int .i64 0, .int .i64 0, .bool false, .bool false]).alloc (.cells #[.int .i64 0, .int .i64 0, .bool false, .bool false] 37))
  have hz : (w.alloc (.cells #[.int .i64 0, .int .i64 0, .bool false, .bool false] 37)).heap.size = w.heap.size + 1 := by simp
  have hz2 : ((w.alloc (.cells #[.int .i64 0, .int .i64 0, .bool false, .bool false] 37)).alloc (.cells #[.int .i64 0, .int .i64 0, .bool false, .bool false] 37)).heap.size = w.heap.size + 1 + 1 := by simp
  rw [hz] at KX
  have B0 := hide (((Below.refl w.heap.size w).alloc (Nat.le_refl _) (.cells #[.int .i64 0, .int .i64 0, .bool false, .bool false] 37)).alloc (by omega) (.cells #[.int .i64 0, .int .i64 0, .bool false, .bool false] 37))
  generalize (w.alloc (.cells #[.int .i64 0, .int .i64 0, .bool false, .bool false] 37)).alloc (.cells #[.int .i64 0, .int .i64 0, .bool false, .bool false] 37) = wX at *
  have HCX : Hid (CodeAt wX.heap.size wX A n) := (HC.out.keep fun p hp => World.cell?_of_block (B0.out.block p.block hp)).up (by omega)
  refine (s_l01New A n c wX HCX.out).mono ?_
  rintro e w1 ⟨rfl, hc1, hb1⟩
  have C1 := hide hc1
  have B1 := hide (B0.out.trans (hb1.mono B0.out.size))
  have K1 := hide (KX.out.below hb1 (by omega))
  have J1 := hide (KW.out.below hb1 (by omega))
  clear hc1 hb1
  clear HCX
  obtain ⟨g, hg⟩ : ∃ g, wX.heap.size = g := ⟨_, rfl⟩
  rw [hg] at C1 hz2 ⊢
  have hz3 : w.heap.size + 1 + 1 ≤ g := by omega
  clear hg hz2 hz
  go_wp2_with fail
  refine (s_l04Program g g _ C1.out).mono ?_
  rintro e w2 ⟨A2, n2, c2, L, rfl, hX2, hok, hn1, hn2, hc2, hg2⟩
  have X2 := hide hX2
  have OK := hide hok
  have C2 := hide hc2
  have B2 := hide (below_only B1.out hg2 B1.out.size (by omega))
  have K2 := hide (K1.out.grown hg2 (by simp; omega))
  have J2 := hide (J1.out.grown hg2 (by simp; omega))
  clear hX2 hok hc2 hg2
  go_wp2_with fail
  refine (s_l08Build g g _ C2.out).mono ?_
  rintro e w3 ⟨⟨fr, inl, fold, split, rfl, hbl⟩, hc3, hg3⟩
  have X3 := hide (X2.out.grown hg3 (by have := C1.out.lt; omega))
  have C3 := hide hc3
  have B3 := hide (below_only B2.out hg3 B2.out.size (by omega))
  have K3 := hide (K2.out.grown hg3 (by simp; omega))
  have J3 := hide (J2.out.grown hg3 (by simp; omega))
  clear hc3 hg3
  go_upto_region 4 with fail
  obtain ⟨b, hb⟩ : ∃ b, w3.heap.size = b := ⟨_, rfl⟩
  have hw3 := B3.out.size
  have hgb := C3.out.lt
  have hk3 := K3.out.lt
  have hj3 := J3.out.lt
  have KB := hide (Blk.new w3 37 #[.int .i64 fr, .int .i64 inl, .bool fold, .bool split])
  rw [hb] at KB hw3 hgb hk3 hj3 ⊢
  have C4 := hide (C3.out.alloc (.cells #[.int .i64 fr, .int .i64 inl, .bool fold, .bool split] 37))
  have B4 := hide (B3.out.alloc (by omega) (.cells #[.int .i64 fr, .int .i64 inl, .bool fold, .bool split] 37))
  have K4 := hide (K3.out.alloc (.cells #[.int .i64 fr, .int .i64 inl, .bool fold, .bool split] 37))
  have J4 := hide (J3.out.alloc (.cells #[.int .i64 fr, .int .i64 inl, .bool fold, .bool split] 37))
  have X4 := hide (X3.out.below ((Below.refl _ _).alloc (Nat.le_refl _) (.cells #[.int .i64 fr, .int .i64 inl, .bool fold, .bool split] 37)))
  generalize w3.alloc (.cells #[.int .i64 fr, .int .i64 inl, .bool fold, .bool split] 37) = w4 at *
  have hbg : b ≠ g := by omega
  have n0 := KB.out.cell 0
  have n1 := KB.out.cell 1
  have n2 := KB.out.cell 2
  have n3 := KB.out.cell 3
  simp at n0 n1 n2 n3
  clear hb
  have CD := hide (C4.out.below (Below.refl _ _).drew)
  have KD := hide (K4.out.below (Below.refl _ _).drew K4.out.lt)
  have JD := hide (J4.out.below (Below.refl _ _).drew J4.out.lt)
  have BD := hide (KB.out.below (Below.refl _ _).drew KB.out.lt)
  go_region_with (go_at_call 43; refine (s_l08Build g g w4.drew CD.out).mono ?_; rintro e w5 ⟨⟨fr', inl', fold', split', rfl, hbl'⟩, hc5, hg5⟩; have G5 := hide hg5; have K5 := hide (KD.out.grown hg5 (by simp; omega)); have J5 := hide (JD.out.grown hg5 (by simp; omega)); have K5b := hide (BD.out.grown hg5 (by simpa using hbg)); have r0 := K5.out.cell 0; have r1 := K5.out.cell 1; have r2 := K5.out.cell 2; have r3 := K5.out.cell 3; have q0 := K5.out.frozen 0; have q1 := K5.out.frozen 1; have q2 := K5.out.frozen 2; have q3 := K5.out.frozen 3; have s0 := J5.out.cell 0; have s1 := J5.out.cell 1; have s2 := J5.out.cell 2; have s3 := J5.out.cell 3; have p0 := J5.out.frozen 0; have p1 := J5.out.frozen 1; have p2 := J5.out.frozen 2; have p3 := J5.out.frozen 3; have m0 := K5b.out.cell 0; have m1 := K5b.out.cell 1; have m2 := K5b.out.cell 2; have m3 := K5b.out.cell 3; simp at r0 r1 r2 r3 s0 s1 s2 s3 m0 m1 m2 m3)
  all_goals
    have X5 := hide ((X4.out.below (Below.refl _ _).drew).grown G5.out (by have := C1.out.lt; omega))
    have B5 := hide (below_only (below_drewN B4.out 1) G5.out (by have := B4.out.size; exact this) (by omega))
    have hw1 : w.heap.size + 1 < w1.heap.size := K1.out.lt
    have X6 := hide ((((((((X5.out.setCell (p := ⟨w.heap.size, 0, none⟩) (show w.heap.size < _ by omega) (.int .i64 fr)).setCell (p := ⟨w.heap.size, 1, none⟩) (show w.heap.size < _ by omega) (.int .i64 inl)).setCell (p := ⟨w.heap.size, 2, none⟩) (show w.heap.size < _ by omega) (.bool fold)).setCell (p := ⟨w.heap.size, 3, none⟩) (show w.heap.size < _ by omega) (.bool split)).setCell (p := ⟨w.heap.size + 1, 0, none⟩) hw1 (.int .i64 fr')).setCell (p := ⟨w.heap.size + 1, 1, none⟩) hw1 (.int .i64 inl')).setCell (p := ⟨w.heap.size + 1, 2, none⟩) hw1 (.bool fold')).setCell (p := ⟨w.heap.size + 1, 3, none⟩) hw1 (.bool split'))
    have B6 := hide ((((((((B5.out.setCell (p := ⟨w.heap.size, 0, none⟩) (Nat.le_refl _) (.int .i64 fr)).setCell (p := ⟨w.heap.size, 1, none⟩) (Nat.le_refl _) (.int .i64 inl)).setCell (p := ⟨w.heap.size, 2, none⟩) (Nat.le_refl _) (.bool fold)).setCell (p := ⟨w.heap.size, 3, none⟩) (Nat.le_refl _) (.bool split)).setCell (p := ⟨w.heap.size + 1, 0, none⟩) (Nat.le_succ _) (.int .i64 fr')).setCell (p := ⟨w.heap.size + 1, 1, none⟩) (Nat.le_succ _) (.int .i64 inl')).setCell (p := ⟨w.heap.size + 1, 2, none⟩) (Nat.le_succ _) (.bool fold')).setCell (p := ⟨w.heap.size + 1, 3, none⟩) (Nat.le_succ _) (.bool split'))
    go_wp2_with fail
  all_goals exact bodyPost_ret (v := .tuple #[.slice A2 _ c2, .agg #[.int .i64 fr, .int .i64 inl, .bool fold, .bool split], .agg #[.int .i64 fr', .int .i64 inl', .bool fold', .bool split']]) (by simp [results, Try.results17, go_sem, r0, r1, r2, r3, s0, s1, s2, s3]) rfl ⟨⟨A2, _, c2, L, fr, inl, fr', inl', fold, split, fold', split', rfl, X6.out.in_, OK.out, hn1, hn2, hbl⟩, B6.out⟩
end Go.Proofs.Ytcfjbaanahgpoaa
