import Derived.Test.YthhlimbaoenkkaaSpc
import Derived.Test.YthhlimbaoenkkaaImgA
import Derived.Test.YthhlimbaoenkkaaLnOk
namespace Go.Proofs.Ythhlimbaoenkkaa
open Go Go.RowKit
set_option maxRecDepth 100000
/-! Where an address lies. -/
def lct (addr : Int) : List Im → List Int → Nat → Int × Int
  | y :: I, b :: B, k => if b ≤ addr ∧ addr < b + (y.1.size : Int) then ((k : Int), addr - b) else lct addr I B (k + 1)
  | _, _, _ => (-1, -1)
theorem lct_cons (addr : Int) (I : List Im) (B : List Int) (k : Nat) (h1 : k < I.length) (h2 : k < B.length) :
    lct addr (I.drop k) (B.drop k) k = if B[k] ≤ addr ∧ addr < B[k] + (I[k].1.size : Int) then ((k : Int), addr - B[k]) else lct addr (I.drop (k + 1)) (B.drop (k + 1)) (k + 1) := by
  conv => lhs; rw [List.drop_eq_getElem_cons h1, List.drop_eq_getElem_cons h2, lct]
theorem lct_out (addr : Int) (I : List Im) (B : List Int) (k : Nat) (h1 : I.length ≤ k) : lct addr (I.drop k) (B.drop k) k = (-1, -1) := by
  rw [List.drop_of_length_le h1]; rfl
theorem lct_in (addr : Int) (I : List Im) : ∀ (B : List Int) (k : Nat), lct addr I B k = (-1, -1) ∨ ∃ (j : Nat) (h1 : j < I.length) (h2 : j < B.length), lct addr I B k = (((k + j : Nat) : Int), addr - B[j]) ∧ B[j] ≤ addr ∧ addr < B[j] + (I[j].1.size : Int) := by
  induction I with
  | nil => intro B k; exact .inl rfl
  | cons y I ih =>
    intro B k
    cases B with
    | nil => exact .inl rfl
    | cons b B =>
      rw [lct]
      split
      · rename_i h
        exact .inr ⟨0, by simp, by simp, by simp, h⟩
      · rcases ih B (k + 1) with h | ⟨j, h1, h2, h3, h4⟩
        · exact .inl h
        · refine .inr ⟨j + 1, by simpa using h1, by simpa using h2, ?_, by simpa using h4⟩
          rw [h3, show k + 1 + j = k + (j + 1) by omega]
          simp
def SpNum (x : Sp) : Prop := x.1.length = x.2.1.length ∧ (∀ b ∈ x.2.1, 0 ≤ b ∧ b ≤ 1000000) ∧ ∀ y ∈ x.1, y.1.size ≤ 1000000
theorem ret_two {a b c d : Int} (h1 : a = b) (h2 : c = d) : Ending.returned (.tuple #[.int .i64 a, .int .i64 c]) = .returned (.tuple #[.int .i64 b, .int .i64 d]) := by rw [h1, h2]
set_option maxHeartbeats 2000000 in
theorem i_locate (x : Sp) (A B C : Option Addr) (a b c : Nat) (addr : Int) (w : World) (hn : spTot x ≤ 1048576) (h : SpIn w x A B C a b c) (hx : SpNum x) :
    Calls Try.prog 91 #[.agg #[.slice A x.1.length a, .slice B x.2.1.length b, .slice C x.2.2.length c], .int .i64 addr] w fun e w' =>
      e = .returned (.tuple #[.int .i64 (lct addr x.1 x.2.1 0).1, .int .i64 (lct addr x.1 x.2.1 0).2]) ∧ Below w.heap.size w w' := by
  obtain ⟨im, bs, en⟩ := x
  unfold spTot at hn
  obtain ⟨hx1, hx2, hx3⟩ := hx
  simp only at hn hx1 hx2 hx3 h ⊢
  have H := hide (h.below ((Below.refl _ _).alloc (Nat.le_refl _) (.cells #[.slice A im.length a, .slice B bs.length b, .slice C en.length c] 58)))
  have K := hide (Blk.new w 58 #[.slice A im.length a, .slice B bs.length b, .slice C en.length c])
  have X1 := hide hx1
  have X2 := hide hx2
  have X3 := hide hx3
  have hlen : (im.length : Int) ≤ 1048576 := by omega
  clear h hx1 hx2 hx3
  go_enter Try.func91, Try.ntmps91
  go_wp2_with fail
  go_loopw [11] (fun i wr => ∃ k : Nat, k ≤ im.length ∧ i = .int .i64 k ∧ lct addr im bs 0 = lct addr (im.drop k) (bs.drop k) k ∧ Below (w.heap.size + 1) (w.alloc (.cells #[.slice A im.length a, .slice B bs.length b, .slice C en.length c] 58)) wr) (fun i _ => im.length - (intOf i).toNat)
  case atStart => exact ⟨0, Nat.zero_le _, rfl, rfl, Below.refl _ _⟩
  case round =>
    obtain ⟨k, hk, rfl, he, hb⟩ := hrel
    have HE := hide he
    have HB := hide hb
    have hz : w.heap.size + 1 ≤ wr.heap.size := by have := hb.size; simpa using this
    have hb' : Below (w.alloc (.cells #[.slice A im.length a, .slice B bs.length b, .slice C en.length c] 58)).heap.size (w.alloc (.cells #[.slice A im.length a, .slice B bs.length b, .slice C en.length c] 58)) wr := by simpa using hb
    have R := hide (H.out.below hb')
    have KR := hide (K.out.below hb (by omega))
    have BW := hide (show Below w.heap.size w wr from ((Below.refl _ _).alloc (Nat.le_refl _) _).trans (hb.mono (by omega)))
    clear he hb hb'
    by_cases hlt : k < im.length
    · have hkb : k < bs.length := by rw [← X1.out]; exact hlt
      obtain ⟨p, o, A1, c1, rfl, hpl, q0, q1, _⟩ := R.out.1.at_ k hlt
      obtain ⟨p', o', rfl, hpl', q2⟩ := R.out.2.1.int k hkb
      have HS := hide (lct_cons addr im bs k hlt hkb)
      have hbr := X2.out _ (List.getElem_mem hkb)
      have hsr := X3.out _ (List.getElem_mem hlt)
      have KA := hide (KR.out.alloc (.cells #[.string im[k].1, .slice A1 im[k].2.length c1] 114))
      have KN := hide (Blk.new wr 114 #[.string im[k].1, .slice A1 im[k].2.length c1])
      have q3 := (World.cell?_alloc_lt wr (.cells #[.string im[k].1, .slice A1 im[k].2.length c1] 114) ⟨p', o' + k, none⟩ hpl').trans q2
      have k0 := KR.out.cell 0
      have k1 := KR.out.cell 1
      have m0 := KA.out.cell 0
      have m1 := KA.out.cell 1
      have n0 := KN.out.cell 0
      have n1 := KN.out.cell 1
      simp at k0 k1 m0 m1 n0 n1
      generalize bs[k] = base at *
      generalize im[k].1 = code at *
      have hkbI : (k : Int) < (bs.length : Int) := by omega
      have w1 : IntKind.i64.wrap (base + (code.size : Int)) = base + (code.size : Int) := IntWalk.i64_in _ (by omega)
      have w2 : IntKind.i64.wrap (base + (code.size : Int) - 1) = base + (code.size : Int) - 1 := IntWalk.i64_in _ (by omega)
      cases hin : btw addr base (base + (code.size : Int) - 1)
      · have hbt : ∀ w, Calls Try.prog 67 #[.int .i64 addr, .int .i64 base, .int .i64 (base + (code.size : Int) - 1)] w fun e w' => e = .returned (.bool false) ∧ w = w' := fun w => by have := i_between addr base (base + (code.size : Int) - 1) w; rwa [hin] at this
        have HBT := hide hbt
        clear hbt
        have HN : Hid (lct addr im bs 0 = lct addr (im.drop (k + 1)) (bs.drop (k + 1)) (k + 1)) := by
          show _ = _
          rw [HE.out, HS.out, if_neg]
          intro hq
          have : btw addr base (base + (code.size : Int) - 1) = true := decide_eq_true ⟨hq.1, by omega⟩
          rw [hin] at this; cases this
        go_wp2_with fail
        go_quiet ((go_at_call 67; exact quiet_left (HBT.out _)))
        have BA := hide (below_drewN (BW.out.alloc BW.out.size (.cells #[.string code, .slice A1 im[k].2.length c1] 114)) nq)
        have HBN := hide (below_drewN (HB.out.alloc hz (.cells #[.string code, .slice A1 im[k].2.length c1] 114)) nq)
        clear k0 k1 m0 m1 n0 n1 q2 q3 q0 q1 KA KN w1 w2
        go_wp2_with fail
        go_roundw
        case rel => exact ⟨k + 1, by omega, by go_num, HN.out, HBN.out⟩
        case measure => simp [intOf]; omega
      · have hbt : ∀ w, Calls Try.prog 67 #[.int .i64 addr, .int .i64 base, .int .i64 (base + (code.size : Int) - 1)] w fun e w' => e = .returned (.bool true) ∧ w = w' := fun w => by have := i_between addr base (base + (code.size : Int) - 1) w; rwa [hin] at this
        have HBT := hide hbt
        clear hbt
        have hq : base ≤ addr ∧ addr ≤ base + (code.size : Int) - 1 := of_decide_eq_true hin
        have HN : Hid (lct addr im bs 0 = ((k : Int), addr - base)) := by
          show _ = _
          rw [HE.out, HS.out, if_pos ⟨hq.1, by omega⟩]
        have w3 : IntKind.i64.wrap (addr - base) = addr - base := IntWalk.i64_in _ (by omega)
        go_wp2_with fail
        go_quiet ((go_at_call 67; exact quiet_left (HBT.out _)))
        clear w1 w2
        go_wp2_with fail
        go_quiet (fail)
        go_wp2_with fail
        go_ret2
        exact ⟨ret_two (by rw [HN.out]) (by rw [HN.out]), below_drewN (below_drewN (BW.out.alloc BW.out.size _) _) _⟩
    · have HN : Hid (lct addr im bs 0 = (-1, -1)) := by show _ = _; rw [HE.out, lct_out addr im bs k (by omega)]
      go_wp2_with fail
      go_ret2
      exact ⟨ret_two (by rw [HN.out]) (by rw [HN.out]), BW.out⟩
set_option maxHeartbeats 2000000 in
theorem s_locate (x : Sp) (A B C : Option Addr) (a b c : Nat) (addr : Int) (w : World) (hn : spTot x ≤ 1048576) (h : SpIn w x A B C a b c) (hx : SpNum x) :
    Calls Try.prog 83 #[.agg #[.slice A x.1.length a, .slice B x.2.1.length b, .slice C x.2.2.length c], .int .i64 addr] w fun e w' =>
      e = .returned (.tuple #[.int .i64 (lct addr x.1 x.2.1 0).1, .int .i64 (lct addr x.1 x.2.1 0).2]) ∧ Below w.heap.size w w' := by
  obtain ⟨im, bs, en⟩ := x
  unfold spTot at hn
  obtain ⟨hx1, hx2, hx3⟩ := hx
  simp only at hn hx1 hx2 hx3 h ⊢
  have H := hide (h.below ((Below.refl _ _).alloc (Nat.le_refl _) (.cells #[.slice A im.length a, .slice B bs.length b, .slice C en.length c] 58)))
  have K := hide (Blk.new w 58 #[.slice A im.length a, .slice B bs.length b, .slice C en.length c])
  have X1 := hide hx1
  have X2 := hide hx2
  have X3 := hide hx3
  have hlen : (im.length : Int) ≤ 1048576 := by omega
  clear h hx1 hx2 hx3
  go_enter Try.func83, Try.ntmps83
  go_wp2_with fail
  go_loopw [6] (fun i wr => ∃ k : Nat, k ≤ im.length ∧ i = .int .i64 k ∧ lct addr im bs 0 = lct addr (im.drop k) (bs.drop k) k ∧ Below (w.heap.size + 1) (w.alloc (.cells #[.slice A im.length a, .slice B bs.length b, .slice C en.length c] 58)) wr) (fun i _ => im.length - (intOf i).toNat)
  case atStart => exact ⟨0, Nat.zero_le _, rfl, rfl, Below.refl _ _⟩
  case round =>
    obtain ⟨k, hk, rfl, he, hb⟩ := hrel
    have HE := hide he
    have HB := hide hb
    have hz : w.heap.size + 1 ≤ wr.heap.size := by have := hb.size; simpa using this
    have hb' : Below (w.alloc (.cells #[.slice A im.length a, .slice B bs.length b, .slice C en.length c] 58)).heap.size (w.alloc (.cells #[.slice A im.length a, .slice B bs.length b, .slice C en.length c] 58)) wr := by simpa using hb
    have R := hide (H.out.below hb')
    have KR := hide (K.out.below hb (by omega))
    have BW := hide (show Below w.heap.size w wr from ((Below.refl _ _).alloc (Nat.le_refl _) _).trans (hb.mono (by omega)))
    have k00 := KR.out.cell 0
    simp at k00
    clear he hb hb'
    by_cases hlt : k < im.length
    · have hkb : k < bs.length := by rw [← X1.out]; exact hlt
      obtain ⟨p, o, A1, c1, rfl, hpl, q0, q1, _⟩ := R.out.1.at_ k hlt
      obtain ⟨p', o', rfl, hpl', q2⟩ := R.out.2.1.int k hkb
      have HS := hide (lct_cons addr im bs k hlt hkb)
      have hbr := X2.out _ (List.getElem_mem hkb)
      have hsr := X3.out _ (List.getElem_mem hlt)
      have k1 := KR.out.cell 1
      simp at k1
      generalize bs[k] = base at *
      generalize im[k].1 = code at *
      have hkbI : (k : Int) < (bs.length : Int) := by omega
      have hklI : (k : Int) < (im.length : Int) := by omega
      have w1 : IntKind.i64.wrap (base + (code.size : Int)) = base + (code.size : Int) := IntWalk.i64_in _ (by omega)
      by_cases h1 : base ≤ addr
      · by_cases h2 : addr < base + (code.size : Int)
        · have HN : Hid (lct addr im bs 0 = ((k : Int), addr - base)) := by
            show _ = _
            rw [HE.out, HS.out, if_pos ⟨h1, h2⟩]
          have w3 : IntKind.i64.wrap (addr - base) = addr - base := IntWalk.i64_in _ (by omega)
          have d1 : decide (base ≤ addr) = true := decide_eq_true h1
          have d2 : decide (addr < base + (code.size : Int)) = true := decide_eq_true h2
          go_wp2_with fail
          go_quiet (fail)
          go_wp2_with fail
          go_quiet (fail)
          go_wp2_with fail
          go_ret2
          exact ⟨ret_two (by rw [HN.out]) (by rw [HN.out]), below_drewN (below_drewN BW.out _) _⟩
        · have HN : Hid (lct addr im bs 0 = lct addr (im.drop (k + 1)) (bs.drop (k + 1)) (k + 1)) := by
            show _ = _
            rw [HE.out, HS.out, if_neg (fun hq => h2 hq.2)]
          have d1 : decide (base ≤ addr) = true := decide_eq_true h1
          have d2 : decide (addr < base + (code.size : Int)) = false := decide_eq_false h2
          go_wp2_with fail
          go_quiet (fail)
          have HBN := hide (below_drewN HB.out nq)
          clear k1 k00 q0 q1 q2 w1
          go_wp2_with fail
          go_roundw
          case rel => exact ⟨k + 1, by omega, by go_num, HN.out, HBN.out⟩
          case measure => simp [intOf]; omega
      · have HN : Hid (lct addr im bs 0 = lct addr (im.drop (k + 1)) (bs.drop (k + 1)) (k + 1)) := by
          show _ = _
          rw [HE.out, HS.out, if_neg (fun hq => h1 hq.1)]
        have d1 : decide (base ≤ addr) = false := decide_eq_false h1
        go_wp2_with fail
        go_quiet (fail)
        have HBN := hide (below_drewN HB.out nq)
        clear k1 k00 q0 q1 q2 w1
        go_wp2_with fail
        go_roundw
        case rel => exact ⟨k + 1, by omega, by go_num, HN.out, HBN.out⟩
        case measure => simp [intOf]; omega
    · have HN : Hid (lct addr im bs 0 = (-1, -1)) := by show _ = _; rw [HE.out, lct_out addr im bs k (by omega)]
      go_wp2_with fail
      go_ret2
      exact ⟨ret_two (by rw [HN.out]) (by rw [HN.out]), BW.out⟩
/-- A symbol of an image begins at an address. -/
def isEnt (x : Sp) (addr : Int) : Prop := ∃ (k : Nat) (h1 : k < x.1.length) (h2 : k < x.2.1.length), ∃ t ∈ x.1[k].2, x.2.1[k] + t.2.1 = addr
def entTo (x : Sp) (addr : Int) (m : Nat) : Prop := ∃ (k : Nat) (h1 : k < x.1.length) (h2 : k < x.2.1.length), k < m ∧ ∃ t ∈ x.1[k].2, x.2.1[k] + t.2.1 = addr
def entIn (base addr : Int) (l : List Sy) (m : Nat) : Prop := ∃ (j : Nat) (h : j < l.length), j < m ∧ base + l[j].2.1 = addr
theorem entTo_succ {x : Sp} {addr : Int} {m : Nat} (h1 : m < x.1.length) (h2 : m < x.2.1.length) (h : ¬ entTo x addr m) (h' : ¬ entIn x.2.1[m] addr x.1[m].2 x.1[m].2.length) : ¬ entTo x addr (m + 1) := by
  rintro ⟨k, g1, g2, hk, t, ht, e⟩
  by_cases hkm : k = m
  · subst hkm
    obtain ⟨j, hj, rfl⟩ := List.mem_iff_getElem.1 ht
    exact h' ⟨j, hj, hj, e⟩
  · exact h ⟨k, g1, g2, by omega, t, ht, e⟩
theorem isEnt_not {x : Sp} {addr : Int} (h : ¬ entTo x addr x.1.length) : ¬ isEnt x addr := by
  rintro ⟨k, h1, h2, t, ht, e⟩
  exact h ⟨k, h1, h2, h1, t, ht, e⟩
theorem entIn_succ {base addr : Int} {l : List Sy} {m : Nat} (hm : m < l.length) (h : ¬ entIn base addr l m) (h' : base + l[m].2.1 ≠ addr) : ¬ entIn base addr l (m + 1) := by
  rintro ⟨j, hj, hjm, e⟩
  by_cases hq : j = m
  · subst hq; exact h' e
  · exact h ⟨j, hj, by omega, e⟩
def SymNum (x : Sp) : Prop := ∀ y ∈ x.1, ∀ t ∈ y.2, 0 ≤ t.2.1 ∧ t.2.1 ≤ 1000000
set_option maxHeartbeats 2000000 in
theorem i_isEntry (x : Sp) (A B C : Option Addr) (a b c : Nat) (addr : Int) (w : World) (hn : spTot x ≤ 1048576) (h : SpIn w x A B C a b c) (hx : SpNum x) (hy : SymNum x) :
    Calls Try.prog 88 #[.agg #[.slice A x.1.length a, .slice B x.2.1.length b, .slice C x.2.2.length c], .int .i64 addr] w fun e w' =>
      e = .returned (.bool (yes (isEnt x addr))) ∧ Below w.heap.size w w' := by
  obtain ⟨im, bs, en⟩ := x
  unfold spTot at hn
  obtain ⟨hx1, hx2, hx3⟩ := hx
  unfold SymNum at hy
  simp only at hn hx1 hx2 hx3 h hy ⊢
  have H := hide (h.below ((Below.refl _ _).alloc (Nat.le_refl _) (.cells #[.slice A im.length a, .slice B bs.length b, .slice C en.length c] 58)))
  have K := hide (Blk.new w 58 #[.slice A im.length a, .slice B bs.length b, .slice C en.length c])
  have X1 := hide hx1
  have X2 := hide hx2
  have X3 := hide hx3
  have Y := hide hy
  have hlen : (im.length : Int) ≤ 1048576 := by omega
  have htot : Hid (∀ y ∈ im, y.2.length ≤ 1048576) := fun y hy => by have := imTot_mem im y hy; omega
  clear h hx1 hx2 hx3 hy
  go_enter Try.func88, Try.ntmps88
  go_wp2_with fail
  go_loopw [12] (fun i wr => ∃ k : Nat, k ≤ im.length ∧ i = .int .i64 k ∧ ¬ entTo (im, bs, en) addr k ∧ Below (w.heap.size + 1) (w.alloc (.cells #[.slice A im.length a, .slice B bs.length b, .slice C en.length c] 58)) wr) (fun i _ => im.length - (intOf i).toNat)
  case atStart => exact ⟨0, Nat.zero_le _, rfl, (fun ⟨_, _, _, h, _⟩ => absurd h (Nat.not_lt_zero _)), Below.refl _ _⟩
  case round =>
    obtain ⟨wo, rfl⟩ : ∃ wo : World, wo = wr := ⟨_, rfl⟩
    obtain ⟨k, hk, rfl, he, hb⟩ := hrel
    have HE := hide he
    have HB := hide hb
    have hz : w.heap.size + 1 ≤ wo.heap.size := by have := hb.size; simpa using this
    have hb' : Below (w.alloc (.cells #[.slice A im.length a, .slice B bs.length b, .slice C en.length c] 58)).heap.size (w.alloc (.cells #[.slice A im.length a, .slice B bs.length b, .slice C en.length c] 58)) wo := by simpa using hb
    have R := hide (H.out.below hb')
    have KR := hide (K.out.below hb (by omega))
    have BW := hide (show Below w.heap.size w wo from ((Below.refl _ _).alloc (Nat.le_refl _) _).trans (hb.mono (by omega)))
    clear he hb hb'
    by_cases hlt : k < im.length
    · have hkb : k < bs.length := by rw [← X1.out]; exact hlt
      obtain ⟨p, o, A1, c1, rfl, hpl, q0, q1, hin⟩ := R.out.1.at_ k hlt
      obtain ⟨p', o', rfl, hpl', q2⟩ := R.out.2.1.int k hkb
      have hbr := X2.out _ (List.getElem_mem hkb)
      have hsl := htot.out _ (List.getElem_mem hlt)
      have HY : Hid (∀ t ∈ im[k].2, 0 ≤ t.2.1 ∧ t.2.1 ≤ 1000000) := Y.out _ (List.getElem_mem hlt)
      have HNX := hide (fun h' => entTo_succ (x := (im, bs, en)) (addr := addr) hlt hkb HE.out h')
      have HYES : Hid (∀ j (hj : j < im[k].2.length), bs[k] + im[k].2[j].2.1 = addr → isEnt (im, bs, en) addr) := fun j hj e => ⟨k, hlt, hkb, _, List.getElem_mem hj, e⟩
      have HIN := hide hin.1
      simp only at HNX HYES
      obtain ⟨syms, hsy⟩ : ∃ q, q = im[k].2 := ⟨_, rfl⟩
      obtain ⟨base, hba⟩ : ∃ q, q = bs[k] := ⟨_, rfl⟩
      rw [← hsy] at q1 HIN HNX HYES HY hsl
      rw [← hba] at q2 HNX HYES hbr
      clear hsy hba hin
      have k1 := KR.out.cell 1
      have k0 := KR.out.cell 0
      simp at k0 k1
      go_wp2_with fail
      go_loopw [20] (fun i wi => ∃ j : Nat, j ≤ syms.length ∧ i = .int .i64 j ∧ ¬ entIn base addr syms j ∧ Below (wo.heap.size + 1) (wo.alloc (.cells #[.string im[k].1, .slice A1 syms.length c1] 114)) wi) (fun i _ => syms.length - (intOf i).toNat)
      case atStart => exact ⟨0, Nat.zero_le _, rfl, (fun ⟨_, _, h, _⟩ => absurd h (Nat.not_lt_zero _)), Below.refl _ _⟩
      case round =>
        obtain ⟨j, hj, rfl, he2, hb2⟩ := hrel
        have HE2 := hide he2
        have HB2 := hide hb2
        have hz2 : wo.heap.size + 1 ≤ wr.heap.size := by have := hb2.size; simpa using this
        have hbI := hide (show Below wo.heap.size wo wr from ((Below.refl _ _).alloc (Nat.le_refl _) _).trans (hb2.mono (by omega)))
        have KI := hide (KR.out.below hbI.out (by omega))
        have BI := hide (BW.out.trans (hbI.out.mono BW.out.size))
        have BIo := hide (show Below (w.heap.size + 1) (w.alloc (.cells #[.slice (some ⟨p, o, none⟩) im.length a, .slice (some ⟨p', o', none⟩) bs.length b, .slice C en.length c] 58)) wr from HB.out.trans (hbI.out.mono hz))
        have SI := hide (HIN.out.below hbI.out)
        have q2i := (hbI.out.cell (p := ⟨p', o' + k, none⟩) hpl').trans q2
        have hpi : p' < wr.heap.size := by omega
        clear he2 hb2 k0 k1 q0 q1 q2
        by_cases hjt : j < syms.length
        · obtain ⟨ps, os, rfl, hps, s0, s1, s2⟩ := SI.out.sym j hjt
          have hyr := HY.out _ (List.getElem_mem hjt)
          have HYJ := hide (HYES.out j hjt)
          have HES := hide (fun h' => entIn_succ (base := base) (addr := addr) hjt HE2.out h')
          have KA := hide (KI.out.alloc (.cells #[.string syms[j].1, .int .i64 syms[j].2.1, .int .i64 syms[j].2.2] 117))
          have KN := hide (Blk.new wr 117 #[.string syms[j].1, .int .i64 syms[j].2.1, .int .i64 syms[j].2.2])
          have q3 := (World.cell?_alloc_lt wr (.cells #[.string syms[j].1, .int .i64 syms[j].2.1, .int .i64 syms[j].2.2] 117) ⟨p', o' + k, none⟩ hpi).trans q2i
          have m0 := KA.out.cell 0
          have m1 := KA.out.cell 1
          have n0 := KN.out.cell 0
          have n1 := KN.out.cell 1
          have n2 := KN.out.cell 2
          simp at m0 m1 n0 n1 n2
          have hkbI : (k : Int) < (bs.length : Int) := by omega
          have w1 : IntKind.i64.wrap (base + syms[j].2.1) = base + syms[j].2.1 := IntWalk.i64_in _ (by omega)
          by_cases heq : base + syms[j].2.1 = addr
          · have HN : Hid (yes (isEnt (im, bs, en) addr) = true) := yes_of (HYJ.out heq)
            have d1 : (base + syms[j].2.1 == addr) = true := by simpa using heq
            clear heq
            go_wp2_with fail
            go_quiet (fail)
            go_wp2_with fail
            go_ret
            exact ⟨ret_bool HN.out.symm, below_drewN (BI.out.alloc BI.out.size _) _⟩
          · have HN := hide (HES.out heq)
            have d1 : (base + syms[j].2.1 == addr) = false := by simpa using heq
            clear heq
            go_wp2_with fail
            go_quiet (fail)
            have HBN := hide (below_drewN (HB2.out.alloc hz2 (.cells #[.string syms[j].1, .int .i64 syms[j].2.1, .int .i64 syms[j].2.2] 117)) nq)
            clear m0 m1 n0 n1 n2 q3 s0 s1 s2 KA KN w1 q2i
            go_wp2_with fail
            go_roundw
            case rel => exact ⟨j + 1, by omega, by go_num, HN.out, HBN.out⟩
            case measure => simp [intOf]; omega
        · have HN := hide (HNX.out (by have := HE2.out; rwa [show j = syms.length by omega] at this))
          clear q2i
          go_wp2_with fail
          go_roundw
          case rel => exact ⟨k + 1, by omega, by go_num, HN.out, BIo.out⟩
          case measure => simp [intOf]; omega
    · have HN : Hid (yes (isEnt (im, bs, en) addr) = false) := yes_not (isEnt_not (x := (im, bs, en)) (by have := HE.out; rwa [show k = im.length by omega] at this))
      go_wp2_with fail
      go_ret
      exact ⟨ret_bool HN.out.symm, BW.out⟩
end Go.Proofs.Ythhlimbaoenkkaa
