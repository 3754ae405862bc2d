import Derived.Test.YtcfjbaanahgpoaaFoldX
import Derived.Test.YtcfjbaanahgpoaaOwnG
import Derived.Test.YtcfjbaanahgpoaaLinSX
import Derived.Deep.RegionHeld3
namespace Go.Proofs.Ytcfjbaanahgpoaa
open Go Go.RowKit
set_option maxRecDepth 100000
set_option linter.unusedVariables false
set_option linter.unusedSimpArgs false
/-! Copies of lines. -/
theorem strCells_one (l : List ByteArray) : ∀ u ∈ strCells l, u.oneCell' = true := by
  intro u hu
  obtain ⟨b, _, rfl⟩ := List.mem_map.1 hu
  rfl
/-- append of a row that may be read, as one step of a region that draws its order. -/
theorem step_apps {P : Program} (w : World) {ops : Array Oper} {o : Oper} {a : Act} {K : Act → World → Prop} {Q : Exit → Act → World → Prop} {E : Prop} (hgd : o.guard = none) (s x : Operand) (t : TypeId)
    (ho : o.op = .call { callee := .builtin .append, args := #[s, x], argTypes := #[t, t] })
    (base : Nat) (e : TypeId) (i : TypeInfo) (z : Value) (size bytes : Nat) (ht : P.underlying t = some (.slice e)) (hi : P.info? e = some i) (hz : i.zero = some z)
    (hsize : i.size = size) (hby : i.bytes = bytes) (hzs : z.cells.size = size) (hsz : 0 < size)
    (v : Value) (n : Nat) (xs : List Value) (hs : a.eval s = v) (hown : w.ownsRow base e size v n xs)
    (A : Option Addr) (m c : Nat) (news : List Value) (hx : a.eval x = .slice A m c) (hr : InRow w A m size news) (h1 : ∀ u ∈ news, u.oneCell' = true)
    (hbytes : (n + m) * bytes ≤ 140737488355328) (hbp : 0 < bytes) (hbase : base ≤ w.heap.size)
    (h : ∀ v' w', w'.ownsRow base e size v' (n + m) (xs ++ news) → Below base w w' → w.grownBy w' v.ownBlock → (v'.ownBlock = v.ownBlock ∨ v'.ownBlock = some w.heap.size) → K (a.put o.dst v') w') :
    if Region.wanted o (yielded ops a.tmps) = true then Oper.wp P o a w K Q else E := by
  have hw : Region.wanted o (yielded ops a.tmps) = true := by simp [Region.wanted, hgd]
  rw [if_pos hw]
  obtain ⟨v', w', hrun, h2, h3, h4⟩ := run_apps (P := P) w base t o.type e i z size bytes ht hi hz hsize hby hzs hsz v n xs hown A m c news hr h1 hbytes hbp hbase
  unfold Oper.wp execOp
  simp only [ho, resolve, invoke, builtin, Sem.run_bind, Sem.run_pure, Result.andThen_ok, List.map_toArray, List.map_cons, List.map_nil, hs, hx, hrun]
  exact h v' w' h2 ((Below.refl _ _).grown h3 hbase (fun k hk => (hown.lt k hk).1)) h3 h4
def CpRet (x : Ln) (w : World) (e : Ending) (w' : World) : Prop := ∃ A1 c1 A2 c2, e = .returned (.agg #[.int .i64 x.1, .string x.2.1, .slice A1 x.2.2.1.length c1, .slice A2 x.2.2.2.length c2]) ∧ Own w' w.heap.size w'.heap.size (lnRows (x, A1, c1, A2, c2)) ∧ lnCap (x, A1, c1, A2, c2)
set_option maxHeartbeats 1000000 in
theorem s_copyToks (A : Option Addr) (n c : Nat) (l : List Tk) (w : World) (hn : n ≤ 1048576) (hl : l.length = n) (h : InRow w A n 3 (tokCells l)) :
    Calls Try.prog 94 #[.slice A n c] w fun e w' => (∃ v, e = .returned v ∧ w'.ownsRow w.heap.size 64 3 v l.length (tokCells l)) ∧ Below w.heap.size w w' := by
  obtain ⟨i0, hi, hz0, hz1, hz2⟩ := info_parts Try.infoTok
  have HI := hide hi
  have H := hide h
  have HL := hide hl
  have HO := hide (World.ownsRow_lit w #[] 0 (size := 3) (e := 64) (Nat.le_refl _) (Nat.zero_le _) rfl)
  have B0 := hide ((Below.refl w.heap.size w).alloc (Nat.le_refl _) (.cells #[] 64))
  have R0 := hide (H.out.below B0.out)
  clear hi h hl
  go_enter Try.func94, Try.ntmps94
  go_wp2_with (first | (at_builtin; refine wpList_apps _ rfl (.tmp 3) (.tmp 4) _ rfl w.heap.size 64 i0 _ 3 32 Try.underlying32 HI.out hz0 hz1 hz2 rfl (by decide) _ _ _ rfl HO.out A n c (tokCells l) rfl R0.out ?d1 ?d2 ?d3 ?d4 ?_) | fail)
  case d1 => exact tokCells_one _
  case d2 => omega
  try case d3 => decide
  try case d4 => simp
  intro v5 w5 hown5 hb5 _ _
  have O5 := hide hown5
  have B5 := hide (B0.out.trans hb5)
  clear hown5 hb5
  go_wp2_with fail
  go_ret
  exact ⟨⟨_, rfl, by rw [HL.out]; simpa using O5.out⟩, B5.out⟩
set_option maxHeartbeats 2000000 in
theorem i_copyLine (x : Ln) (A1 A2 : Option Addr) (c1 c2 : Nat) (w : World) (hn : x.2.2.1.length + x.2.2.2.length ≤ 1048576) (h : LnIn w x A1 c1 A2 c2) :
    Calls Try.prog 78 #[.agg #[.int .i64 x.1, .string x.2.1, .slice A1 x.2.2.1.length c1, .slice A2 x.2.2.2.length c2]] w fun e w' => CpRet x w e w' ∧ Below w.heap.size w w' := by
  obtain ⟨k, s, ar, ex⟩ := x
  obtain ⟨h1, h2, _⟩ := h
  simp only at h1 h2 hn ⊢
  obtain ⟨i0, hi, hz0, hz1, hz2⟩ := info_parts Try.infoStr
  obtain ⟨j0, hj, jz0, jz1, jz2⟩ := info_parts Try.infoTok
  have HI := hide hi
  have HJ := hide hj
  have H1 := hide h1
  have H2 := hide h2
  clear hi hj h1 h2
  have K1 := hide (((Blk.new w 34 #[.int .i64 k, .string s, .slice A1 ar.length c1, .slice A2 ex.length c2]).alloc (.cells #[.int .i64 0, .string ⟨#[]⟩, .slice none 0 0, .slice none 0 0] 34)).alloc (.cells #[] 9))
  have K2 : Hid (Blk (((w.alloc (.cells #[.int .i64 k, .string s, .slice A1 ar.length c1, .slice A2 ex.length c2] 34)).alloc (.cells #[.int .i64 0, .string ⟨#[]⟩, .slice none 0 0, .slice none 0 0] 34)).alloc (.cells #[] 9)) (w.heap.size + 1) 34 #[.int .i64 0, .string ⟨#[]⟩, .slice none 0 0, .slice none 0 0]) := by
    have := (Blk.new (w.alloc (.cells #[.int .i64 k, .string s, .slice A1 ar.length c1, .slice A2 ex.length c2] 34)) 34 #[.int .i64 0, .string ⟨#[]⟩, .slice none 0 0, .slice none 0 0]).alloc (.cells #[] 9)
    rw [World.size_alloc] at this
    exact this
  have B0 := hide ((((Below.refl w.heap.size w).alloc (Nat.le_refl _) (.cells #[.int .i64 k, .string s, .slice A1 ar.length c1, .slice A2 ex.length c2] 34)).alloc (by simp) (.cells #[.int .i64 0, .string ⟨#[]⟩, .slice none 0 0, .slice none 0 0] 34)).alloc (by simp; omega) (.cells #[] 9))
  have R1 := hide (H1.out.below B0.out)
  have HO : Hid ((((w.alloc (.cells #[.int .i64 k, .string s, .slice A1 ar.length c1, .slice A2 ex.length c2] 34)).alloc (.cells #[.int .i64 0, .string ⟨#[]⟩, .slice none 0 0, .slice none 0 0] 34)).alloc (.cells #[] 9)).ownsRow (w.heap.size + 2) 9 1 (.slice (some ⟨w.heap.size + 1 + 1, 0, none⟩) 0 0) 0 []) := by
    have := World.ownsRow_lit ((w.alloc (.cells #[.int .i64 k, .string s, .slice A1 ar.length c1, .slice A2 ex.length c2] 34)).alloc (.cells #[.int .i64 0, .string ⟨#[]⟩, .slice none 0 0, .slice none 0 0] 34)) #[] 0 (base := w.heap.size + 2) (size := 1) (e := 9) (by simp) (Nat.zero_le _) rfl
    simp only [World.size_alloc] at this
    exact this
  go_enter Try.func78, Try.ntmps78
  go_wp2_with (first | (at_builtin; refine wpList_apps _ rfl (.tmp 3) (.tmp 5) _ rfl (w.heap.size + 2) 9 i0 _ 1 16 Try.underlying31 HI.out hz0 hz1 hz2 rfl (by decide) _ _ _ rfl HO.out A1 ar.length c1 (strCells ar) rfl R1.out ?d1 ?d2 ?d3 ?d4 ?_) | fail)
  case d1 => exact strCells_one _
  case d2 => omega
  try case d3 => decide
  try case d4 => simp
  intro v5 w5 hown5 hb5 hg5 hv5
  have K5 := hide (K1.out.grown hg5 (by simp [Value.ownBlock]; omega))
  have L5 := hide (K2.out.grown hg5 (by simp [Value.ownBlock]))
  obtain ⟨D1, d1, rfl, hd1, hm1, ha1, hb1'⟩ := Arr.own2 hown5
  have k0 := K5.out.cell 0
  have k1 := K5.out.cell 1
  have k2 := K5.out.cell 2
  have k3 := K5.out.cell 3
  have f2 := K5.out.frozen 2
  have hz5 : w.heap.size + 3 ≤ w5.heap.size := by have := hg5.size; simp at this; omega
  simp at k0 k1 k2 k3
  have O5 := hide hown5
  have B5 := hide (show Below w.heap.size w w5 from B0.out.trans (hb5.mono (by omega)))
  clear hg5 hv5 hb5 hown5 ha1 hb1'
  have K6 := hide (K5.out.set_ 2 (.slice D1 ar.length d1))
  have L6 := hide (L5.out.far (p := ⟨w.heap.size, 2, none⟩) (by simp) (.slice D1 ar.length d1))
  have B6 := hide (B5.out.setCell (p := ⟨w.heap.size, 2, none⟩) (Nat.le_refl _) (.slice D1 ar.length d1))
  have hgs : w5.grownBy (w5.setCell ⟨w.heap.size, 2, none⟩ (.slice D1 ar.length d1)) (some w.heap.size) := only_setCell (World.grownBy.refl w5 _) (.inl rfl) _
  have O6 := hide (own_grown O5.out hgs (fun g hg e => by have := (O5.out.lt g hg).1; injection e with e; omega))
  have R6 := hide (H2.out.below (B6.out.alloc (by have := B6.out.size; exact this) (.cells #[] 64)))
  have hz6 : (w5.setCell ⟨w.heap.size, 2, none⟩ (.slice D1 ar.length d1)).heap.size = w5.heap.size := by simp [World.setCell]
  have HO7 : Hid (((w5.setCell ⟨w.heap.size, 2, none⟩ (.slice D1 ar.length d1)).alloc (.cells #[] 64)).ownsRow w5.heap.size 64 3 (.slice (some ⟨w5.heap.size, 0, none⟩) 0 0) 0 []) := by
    have := World.ownsRow_lit (w5.setCell ⟨w.heap.size, 2, none⟩ (.slice D1 ar.length d1)) #[] 0 (base := w5.heap.size) (size := 3) (e := 64) (by rw [hz6]; exact Nat.le_refl _) (Nat.zero_le _) rfl
    rw [hz6] at this
    exact this
  have kk3 : ((w5.setCell ⟨w.heap.size, 2, none⟩ (.slice D1 ar.length d1)).alloc (.cells #[] 64)).cell? ⟨w.heap.size, 3, none⟩ = some (.slice A2 ex.length c2) := ((K6.out.alloc _).cell 3).trans (by simp)
  clear hgs
  go_wp2_with (first | (at_builtin; refine wpList_apps _ rfl (.tmp 8) (.tmp 10) _ rfl w5.heap.size 64 j0 _ 3 32 Try.underlying32 HJ.out jz0 jz1 jz2 rfl (by decide) _ _ _ rfl HO7.out A2 ex.length c2 (tokCells ex) rfl R6.out ?e1 ?e2 ?e3 ?e4 ?_) | fail)
  case e1 => exact tokCells_one _
  case e2 => omega
  try case e3 => decide
  try case e4 => simp
  intro v7 w7 hown7 hb7 hg7 hv7
  obtain ⟨D2, d2, rfl, hd2, hm2, ha2, hb2'⟩ := Arr.own2 hown7
  have K7 := hide ((K6.out.alloc (.cells #[] 64)).grown hg7 (by simp [Value.ownBlock]; omega))
  have L7 := hide ((L6.out.alloc (.cells #[] 64)).grown hg7 (by simp [Value.ownBlock]; omega))
  have O7 := hide (own_grown (own_belowZ O6.out ((Below.refl _ _).alloc (Nat.le_refl _) (.cells #[] 64))) hg7 (fun g hg e => by have := (O6.out.lt g hg).2; rw [hz6] at this; simp [Value.ownBlock] at e; omega))
  have P7 := hide hown7
  have B7 := hide (show Below w.heap.size w w7 from (B6.out.alloc (by have := B6.out.size; exact this) (.cells #[] 64)).trans (hb7.mono (by omega)))
  have hz7 : w5.heap.size ≤ w7.heap.size := by have := hg7.size; simp at this; omega
  clear hown7 hb7 hg7 hv7 ha2 hb2' k0 k1 k2 k3 f2 kk3
  have k0 := K7.out.cell 0
  have k1 := K7.out.cell 1
  have k2 := K7.out.cell 2
  have k3 := K7.out.cell 3
  have f3 := K7.out.frozen 3
  simp at k0 k1 k2 k3
  have K8 := hide (K7.out.set_ 3 (.slice D2 ex.length d2))
  have L8 := hide (L7.out.far (p := ⟨w.heap.size, 3, none⟩) (by simp) (.slice D2 ex.length d2))
  have m0 := K8.out.cell 0
  have m1 := K8.out.cell 1
  have m2 := K8.out.cell 2
  have m3 := K8.out.cell 3
  simp at m0 m1 m2 m3
  have g0 := L7.out.frozen 0
  have g1 := L7.out.frozen 1
  have g2 := L7.out.frozen 2
  have g3 := L7.out.frozen 3
  have l0 := L7.out.cell 0
  have l1 := L7.out.cell 1
  have l2 := L7.out.cell 2
  have l3 := L7.out.cell 3
  simp at l0 l1 l2 l3
  go_wp2_with fail
  have L9 := hide ((((L8.out.set_ 0 (.int .i64 k)).set_ 1 (.string s)).set_ 2 (.slice D1 ar.length d1)).set_ 3 (.slice D2 ex.length d2))
  have B9 := hide (((((B7.out.setCell (p := ⟨w.heap.size, 3, none⟩) (Nat.le_refl _) (.slice D2 ex.length d2)).setCell (p := ⟨w.heap.size + 1, 0, none⟩) (Nat.le_succ _) (.int .i64 k)).setCell (p := ⟨w.heap.size + 1, 1, none⟩) (Nat.le_succ _) (.string s)).setCell (p := ⟨w.heap.size + 1, 2, none⟩) (Nat.le_succ _) (.slice D1 ar.length d1)).setCell (p := ⟨w.heap.size + 1, 3, none⟩) (Nat.le_succ _) (.slice D2 ex.length d2))
  have W9 := hide (((((Within.setCell w7 (lo := w.heap.size) (hi := w.heap.size + 2) (p := ⟨w.heap.size, 3, none⟩) (Nat.le_refl _) (by simp) (.slice D2 ex.length d2)).trans (Within.setCell _ (p := ⟨w.heap.size + 1, 0, none⟩) (by simp) (by simp) (.int .i64 k))).trans (Within.setCell _ (p := ⟨w.heap.size + 1, 1, none⟩) (by simp) (by simp) (.string s))).trans (Within.setCell _ (p := ⟨w.heap.size + 1, 2, none⟩) (by simp) (by simp) (.slice D1 ar.length d1))).trans (Within.setCell _ (p := ⟨w.heap.size + 1, 3, none⟩) (by simp) (by simp) (.slice D2 ex.length d2)))
  have OW : Hid (Own w7 (w.heap.size + 2) w7.heap.size (lnRows ((k, s, ar, ex), D1, d1, D2, d2))) := by
    obtain ⟨_, _, e1, _, _, q1, q2⟩ := Arr.own2 O7.out
    cases e1
    obtain ⟨_, _, e2, _, _, r1, r2⟩ := Arr.own2 P7.out
    cases e2
    refine Own.two q1 (r1.more (by omega) (Nat.le_refl _) (Nat.le_refl _)) fun hn hm => ?_
    have h1 := O6.out.lt (blkOf D1) (by obtain ⟨_, _, e3, _, _, _, q3⟩ := Arr.own2 O6.out; cases e3; exact q3 hn)
    have h2 := (r1.focus hm).2.1
    have h3 : blkOf D1 < w5.heap.size := by have := h1.2; rwa [hz6] at this
    have h4 : w5.heap.size ≤ blkOf D2 := h2
    exact fun e => absurd (show blkOf D1 = blkOf D2 from e) (by omega)
  have CAP : Hid (lnCap ((k, s, ar, ex), D1, d1, D2, d2)) := ⟨hd1, hm1, hd2, hm2⟩
  refine bodyPost_ret (v := .agg #[.int .i64 k, .string s, .slice D1 ar.length d1, .slice D2 ex.length d2]) (by simp [results, Try.results78, go_sem, l0, l1, l2, l3]) rfl ⟨⟨D1, d1, D2, d2, rfl, ?_, CAP.out⟩, B9.out⟩
  exact (OW.out.within W9.out (.inr (Nat.le_refl _))).more (by omega) W9.out.size (Nat.le_refl _)
theorem below_then {B : Nat} {a w w' : World} (h : Below w.heap.size w w') (hB : B ≤ a.heap.size) (k : Below B a w) : Below B a w' := k.trans (h.mono (Nat.le_trans hB k.size))
theorem below_trans' {B : Nat} {a b c : World} (k : Below B b c) (h : Below B a b) : Below B a c := h.trans k
theorem below_size {B : Nat} {a b : World} (h : Below B a b) (hB : B ≤ a.heap.size) : B ≤ b.heap.size := Nat.le_trans hB h.size
theorem own_ne {w w' : World} {b b' e e' size size' n n' : Nat} {v v' : Value} {xs xs' : List Value} (h : w.ownsRow b e size v n xs) (h' : w'.ownsRow b' e' size' v' n' xs') {A B : Option Addr} {c c' : Nat} (hv : v = .slice A n c) (hv' : v' = .slice B n' c') (hne : ∀ g, v.ownBlock = some g → v'.ownBlock ≠ some g) : 0 < n → 0 < n' → blkOf A ≠ blkOf B := by
  intro hn hn' e
  obtain ⟨_, _, e1, _, _, _, q⟩ := Arr.own2 h
  obtain ⟨_, _, e2, _, _, _, q'⟩ := Arr.own2 h'
  rw [hv] at e1; cases e1
  rw [hv'] at e2; cases e2
  exact hne _ (q hn) (by rw [q' hn', e])
set_option maxHeartbeats 4000000 in
theorem s_copyLine (x : Ln) (A1 A2 : Option Addr) (c1 c2 : Nat) (w : World) (hn : x.2.2.1.length + x.2.2.2.length ≤ 1048576) (h : LnIn w x A1 c1 A2 c2) :
    Calls Try.prog 82 #[.agg #[.int .i64 x.1, .string x.2.1, .slice A1 x.2.2.1.length c1, .slice A2 x.2.2.2.length c2]] w fun e w' => CpRet x w e w' ∧ Below w.heap.size w w' := by
  obtain ⟨k, s, ar, ex⟩ := x
  obtain ⟨h1, h2, _⟩ := h
  simp only at h1 h2 hn ⊢
  obtain ⟨i0, hi, hz0, hz1, hz2⟩ := info_parts Try.infoStr
  have HI := hide hi
  have H1 := hide h1
  have H2 := hide h2
  clear hi h1 h2
  go_enter Try.func82, Try.ntmps82
  go_upto_region 1 with fail
  obtain ⟨W0, hW0⟩ : ∃ W0, W0 = ((w.alloc (.cells #[.int .i64 k, .string s, .slice A1 ar.length c1, .slice A2 ex.length c2] 34)).alloc (.cells #[.int .i64 0, .string ⟨#[]⟩, .slice none 0 0, .slice none 0 0] 34)) := ⟨_, rfl⟩
  have K1 : Hid (Blk W0 w.heap.size 34 #[.int .i64 k, .string s, .slice A1 ar.length c1, .slice A2 ex.length c2]) := by
    show Blk _ _ _ _
    rw [hW0]
    exact (Blk.new w 34 #[.int .i64 k, .string s, .slice A1 ar.length c1, .slice A2 ex.length c2]).alloc _
  have K2 : Hid (Blk W0 (w.heap.size + 1) 34 #[.int .i64 0, .string ⟨#[]⟩, .slice none 0 0, .slice none 0 0]) := by
    have := (Blk.new (w.alloc (.cells #[.int .i64 k, .string s, .slice A1 ar.length c1, .slice A2 ex.length c2] 34)) 34 #[.int .i64 0, .string ⟨#[]⟩, .slice none 0 0, .slice none 0 0])
    rw [World.size_alloc] at this
    show Blk _ _ _ _
    rw [hW0]
    exact this
  have B0 : Hid (Below w.heap.size w W0) := by
    show Below _ _ _
    rw [hW0]
    exact ((Below.refl w.heap.size w).alloc (Nat.le_refl _) _).alloc (by simp) _
  have hz0' : Hid (W0.heap.size = w.heap.size + 2) := by show _ = _; rw [hW0]; simp
  rw [← hW0]
  clear hW0
  have R1 := hide (H1.out.below B0.out)
  have R2 := hide (H2.out.below B0.out)
  have hbk : w.heap.size < W0.heap.size := by rw [hz0'.out]; omega
  have HCK : Hid (∀ w', Blk w' w.heap.size 34 #[.int .i64 k, .string s, .slice A1 ar.length c1, .slice A2 ex.length c2] → w'.cell? ⟨w.heap.size, 0, none⟩ = some (.int .i64 k) ∧ w'.cell? ⟨w.heap.size, 1, none⟩ = some (.string s) ∧ w'.cell? ⟨w.heap.size, 2, none⟩ = some (.slice A1 ar.length c1) ∧ w'.cell? ⟨w.heap.size, 3, none⟩ = some (.slice A2 ex.length c2)) := fun w' this =>
    ⟨(this.cell 0).trans (by simp), (this.cell 1).trans (by simp), (this.cell 2).trans (by simp), (this.cell 3).trans (by simp)⟩
  have HCE : Hid (∀ w', Below W0.heap.size W0 w' → w'.cell? ⟨w.heap.size, 0, none⟩ = some (.int .i64 k) ∧ w'.cell? ⟨w.heap.size, 1, none⟩ = some (.string s) ∧ w'.cell? ⟨w.heap.size, 2, none⟩ = some (.slice A1 ar.length c1) ∧ w'.cell? ⟨w.heap.size, 3, none⟩ = some (.slice A2 ex.length c2)) := fun w' hb => by
    have := K1.out.below hb (by rw [hz0'.out]; omega)
    exact ⟨(this.cell 0).trans (by simp), (this.cell 1).trans (by simp), (this.cell 2).trans (by simp), (this.cell 3).trans (by simp)⟩
  have HFZ : Hid (∀ w', Below W0.heap.size W0 w' → w'.frozen? ⟨w.heap.size + 1, 0, none⟩ = false ∧ w'.frozen? ⟨w.heap.size + 1, 1, none⟩ = false ∧ w'.frozen? ⟨w.heap.size + 1, 2, none⟩ = false ∧ w'.frozen? ⟨w.heap.size + 1, 3, none⟩ = false ∧ w'.cell? ⟨w.heap.size + 1, 0, none⟩ = some (.int .i64 0) ∧ w'.cell? ⟨w.heap.size + 1, 1, none⟩ = some (.string ⟨#[]⟩) ∧ w'.cell? ⟨w.heap.size + 1, 2, none⟩ = some (.slice none 0 0) ∧ w'.cell? ⟨w.heap.size + 1, 3, none⟩ = some (.slice none 0 0)) := fun w' hb => by
    have k2 := K2.out.below hb (by rw [hz0'.out]; omega)
    exact ⟨k2.frozen 0, k2.frozen 1, k2.frozen 2, k2.frozen 3, (k2.cell 0).trans (by simp), (k2.cell 1).trans (by simp), (k2.cell 2).trans (by simp), (k2.cell 3).trans (by simp)⟩
  have HOA := hide (World.ownsRow_lit W0 #[] 0 (base := W0.heap.size) (size := 1) (e := 9) (Nat.le_refl _) (Nat.zero_le _) rfl)
  go_region_held3 (fun w' => w'.cell? ⟨w.heap.size, 0, none⟩ = some (.int .i64 k) ∧ w'.cell? ⟨w.heap.size, 1, none⟩ = some (.string s) ∧ w'.cell? ⟨w.heap.size, 2, none⟩ = some (.slice A1 ar.length c1) ∧ w'.cell? ⟨w.heap.size, 3, none⟩ = some (.slice A2 ex.length c2)) (first | (refine HCK.out _ ?_; (repeat (first | exact K1.out.below HB6.out hbk | refine Blk.far ?_ (by simp) _)); done) | (refine HCE.out _ ?_; (repeat (first | exact Below.refl _ _ | exact HB5.out | exact HB6.out | refine Below.drew ?_ | refine Below.alloc ?_ (by first | exact Nat.le_refl _ | exact HB6.out.size | exact HB5.out.size | (simp; done) | (simp; omega) | omega) _)); done)) (first
    | (refine step_apps _ rfl (.tmp 7) (.tmp 9) _ rfl W0.heap.size 9 i0 _ 1 16 Try.underlying31 HI.out hz0 hz1 hz2 rfl (by decide) _ _ _ rfl (by first | exact HOA.out | exact own_belowZ HOA.out hb6 | exact World.ownsRow_lit w6 #[] 0 HB6.out.size (Nat.zero_le _) rfl) A1 ar.length c1 (strCells ar) rfl (R1.out.below (by (repeat (first | exact Below.refl _ _ | exact HB6.out | refine Below.drew ?_ | refine Below.alloc ?_ (by first | exact Nat.le_refl _ | exact HB6.out.size | (simp; done) | (simp; omega) | omega) _)); done)) (strCells_one _) (by omega) (by decide) (below_size (B := W0.heap.size) (a := W0) (by (repeat (first | exact Below.refl _ _ | exact HB6.out | refine Below.drew ?_ | refine Below.alloc ?_ (by first | exact Nat.le_refl _ | exact HB6.out.size | (simp; done) | (simp; omega) | omega) _)); done) (Nat.le_refl _)) ?_; intro v5 w5 hown5 hb5 hg5 hv5; obtain ⟨D1, d1, rfl, hd1, hm1, _, _⟩ := Arr.own2 hown5; have HB5 := hide (below_trans' (B := W0.heap.size) (a := W0) hb5 (by (repeat (first | exact Below.refl _ _ | exact HB6.out | refine Below.drew ?_ | refine Below.alloc ?_ (by first | exact Nat.le_refl _ | exact HB6.out.size | (simp; done) | (simp; omega) | omega) _)); done) ))
    | (go_simp; go_at_call 94; refine (s_copyToks A2 ex.length c2 ex _ (by omega) rfl (R2.out.below (by (repeat (first | exact Below.refl _ _ | exact HB5.out | refine Below.drew ?_ | refine Below.alloc ?_ (by first | exact Nat.le_refl _ | exact HB5.out.size | (simp; done) | (simp; omega) | omega) _)); done))).mono ?_; rintro e w6 ⟨⟨v6, rfl, hown6⟩, hb6⟩; obtain ⟨D2, d2, rfl, hd2, hm2, _, _⟩ := Arr.own2 hown6; have HB6 := hide (below_then (B := W0.heap.size) (a := W0) hb6 (Nat.le_refl _) (by (repeat (first | exact Below.refl _ _ | exact HB5.out | refine Below.drew ?_ | refine Below.alloc ?_ (by first | exact Nat.le_refl _ | exact HB5.out.size | (simp; done) | (simp; omega) | omega) _)); done)); obtain ⟨q0, q1, q2, q3, y0, y1, y2, y3⟩ := HFZ.out w6 HB6.out))
  simp only [Nat.zero_add, List.nil_append] at hown5 hd1
  have O5 := hide (own_belowZ hown5 hb6)
  have O6 := hide hown6
  have hlt5 : Hid (0 < ar.length → blkOf D1 < w5.heap.size) := fun hn => by
    obtain ⟨_, _, e3, _, _, _, q3⟩ := Arr.own2 hown5
    cases e3
    exact (hown5.lt _ (q3 hn)).2
  have B6 := hide (HB6.out)
  have L6 := hide (K2.out.below HB6.out (by rw [hz0'.out]; omega))
  have BW : Hid (Below w.heap.size w w6) := B0.out.trans (HB6.out.mono (by omega))
  have CAP : Hid (lnCap ((k, s, ar, ex), D1, d1, D2, d2)) := ⟨hd1, hm1, hd2, hm2⟩
  have OW : Hid (Own w6 W0.heap.size w6.heap.size (lnRows ((k, s, ar, ex), D1, d1, D2, d2))) := by
    obtain ⟨_, _, e1, _, _, p1, p2⟩ := Arr.own2 O5.out
    cases e1
    obtain ⟨_, _, e2, _, _, r1, r2⟩ := Arr.own2 O6.out
    cases e2
    refine Own.two p1 (r1.more HB5.out.size (Nat.le_refl _) (Nat.le_refl _)) fun hn hm => ?_
    have h1 := hlt5.out hn
    have h2 : w5.heap.size ≤ blkOf D2 := (r1.focus hm).2.1
    exact fun e => absurd (show blkOf D1 = blkOf D2 from e) (by omega)
  clear hown5 hown6 hb5 hb6 hg5 hv5 HB5 HB6 HCE HCK HFZ HOA K1 K2 R1 R2 B6
  go_wp2_with fail
  have W9 := hide (((Within.setCell w6 (lo := w.heap.size) (hi := w.heap.size + 2) (p := ⟨w.heap.size + 1, 0, none⟩) (by simp) (by simp) (.int .i64 k)).trans (Within.setCell _ (p := ⟨w.heap.size + 1, 1, none⟩) (by simp) (by simp) (.string s))).trans (Within.setCell _ (p := ⟨w.heap.size + 1, 2, none⟩) (by simp) (by simp) (.slice D1 ar.length d1)) |>.trans (Within.setCell _ (p := ⟨w.heap.size + 1, 3, none⟩) (by simp) (by simp) (.slice D2 ex.length d2)))
  have B9 := hide ((((BW.out.setCell (p := ⟨w.heap.size + 1, 0, none⟩) (Nat.le_succ _) (.int .i64 k)).setCell (p := ⟨w.heap.size + 1, 1, none⟩) (Nat.le_succ _) (.string s)).setCell (p := ⟨w.heap.size + 1, 2, none⟩) (Nat.le_succ _) (.slice D1 ar.length d1)).setCell (p := ⟨w.heap.size + 1, 3, none⟩) (Nat.le_succ _) (.slice D2 ex.length d2))
  refine bodyPost_ret (v := .agg #[.int .i64 k, .string s, .slice D1 ar.length d1, .slice D2 ex.length d2]) (by simp [results, Try.results82, go_sem, y0, y1, y2, y3]) rfl ⟨⟨D1, d1, D2, d2, rfl, ?_, CAP.out⟩, B9.out⟩
  exact (OW.out.within W9.out (.inr (by rw [hz0'.out]; exact Nat.le_refl _))).more (by rw [hz0'.out]; omega) W9.out.size (Nat.le_refl _)
end Go.Proofs.Ytcfjbaanahgpoaa
