import Derived.Test.YtcfjbaanahgpoaaCoI
import Derived.Test.YtcfjbaanahgpoaaFPi
import Derived.Test.YtcfjbaanahgpoaaTm
import Derived.Deep.CutBlock
import Derived.Test.YtcfjbaanahgpoaaOpsL
namespace Go.Proofs.Ytcfjbaanahgpoaa
open Go Go.RowKit Go.Maps
set_option maxRecDepth 100000
set_option linter.unusedVariables false
set_option linter.unusedSimpArgs false
/-- How many items there may be behind a replaced call, when calls may be replaced so many times within each other. -/
def YY : Nat → Nat
  | 0 => 0
  | m + 1 => 240 + 234 * (m + 1)
theorem YY_le (m : Nat) (h : m ≤ 3) : YY m ≤ 942 := by
  cases m with
  | zero => exact Nat.zero_le _
  | succ m => rw [YY]; omega
theorem YY_up (m : Nat) : YY m + 234 ≤ YY (m + 1) ∧ 474 ≤ YY (m + 1) := by
  cases m with
  | zero => simp [YY]
  | succ m => rw [YY, YY]; omega
theorem lin_level (w0 : World) (gc : Nat) (L : List Ln) (hp : progS L = true) : ∀ (m : Nat) (pr : Prm) (nc : Nat), (nc : Int) + m = pr.inl → pr.inl ≤ 3 → pr.ins + m ≤ 99 → pr.n ≤ 60 → InLines w0 pr.A pr.n L → LinC (YY m) w0 gc pr L nc 26 (linK (pr.cp L) m pr.ns) := by
  intro m
  induction m with
  | zero =>
    intro pr nc h1 h2 h3 h4 h5
    rw [linK]
    refine i_lines (YY 0) w0 gc nc pr L (by omega) h4 h5 hp (by decide) (fun _ _ _ g => g) (fun T gs s line hs hf hl => ?_)
    intro w I ib k begin hlt
    exact absurd (show (s.nc : Int) < pr.inl from hlt) (by omega)
  | succ m ih =>
    intro pr nc h1 h2 h3 h4 h5
    have hy := YY_le (m + 1) (by omega)
    have hu := YY_up m
    rw [linK]
    refine i_lines (YY (m + 1)) w0 gc nc pr L (by omega) h4 h5 hp (by omega) (fun sp k b g => replaceF (linK (pr.cp L) m) (pr.cp L) pr.ns sp k b g) (fun T gs s line hs hf hl => ?_)
    refine i_replace (YY (m + 1)) (YY m) w0 gc gs 26 { pr with tb := T } s line L hl h2 h4 h5 hp (show pr.ins + 1 ≤ 100 by omega) (by omega) (by omega) (by omega) (by rw [hs]; exact hf) (linK (pr.cp L) m) (fun T2 k => ?_)
    rw [hs]
    exact ih { pr with ins := pr.ins + 1, ns := pr.ns ++ [(k : Int)], tb := T2 } (nc + 1) (by show ((nc + 1 : Nat) : Int) + m = pr.inl; omega) h2 (by show pr.ins + 1 + m ≤ 99; omega) h4 h5
theorem own_blk1 {w : World} {b base : Nat} {e : TypeId} {x : Value} (h : Blk w b e #[x]) (hb : base ≤ b) : w.ownsRow base e 1 (.slice (some ⟨b, 0, none⟩) 1 1) 1 [x] :=
  ⟨rfl, .inr ⟨b, 1, #[x], rfl, hb, h, Nat.le_refl _, by unfold maxLen; omega, by simp, by simp⟩⟩
/-- What holds of the items of a whole function. -/
def FinC (n : Nat) (inl : Int) (fu en : Nat) (L : List Ln) (words : Int) (I : List It) : Prop :=
  (∀ x ∈ I, 0 ≤ x.line ∧ x.line < (n : Int) ∧ (x.n : Int) ≤ inl ∧ (x.code = 10 ∨ x.code = 11 → 0 ≤ x.arg ∧ x.arg < (I.length : Int)) ∧ ArgOk x.code x.arg) ∧ 3 ≤ I.length ∧ (∃ x, I[0]? = some x ∧ (x.code = 13 ∨ x.code = 15) ∧ (0 ≤ words → 0 ≤ x.arg)) ∧ ∀ l : Nat, fu < l → l < en → hasExprF (lnAtD L l).1 = true → StAt I (l : Int)
theorem finC_of {n Y : Nat} {inl : Int} {fu en : Nat} {L : List Ln} {words : Int} {x : It} {J : List It} {a : Nat} (hx : (x.code = 13 ∨ x.code = 15) ∧ x.arg = words ∧ (0 ≤ x.line ∧ x.line < (n : Int)) ∧ (x.n : Int) ≤ inl ∧ ArgOk x.code x.arg) (hg : Gro n inl Y ([] ++ [x]) J a) (hf : LinF fu en L n inl ([] ++ [x]) J) : FinC n inl fu en L words J := by
  obtain ⟨h1, h2, h3, h4, h5⟩ := hx
  have hok : IOk n inl ([] ++ [x]) := fun y hy => by
    obtain rfl : y = x := by simpa using hy
    exact ⟨h3.1, h3.2, h4, fun e => by omega, h5⟩
  obtain ⟨g1, g2, g3⟩ := hf
  refine ⟨fun y hy => ?_, by simp at g2; omega, ?_, g3⟩
  · obtain ⟨k1, k2, k3, _, k5⟩ := hg.ok hok y hy
    exact ⟨k1, k2, k3, g1 hok y hy, k5⟩
  · obtain ⟨y, hy, k⟩ := hg.kp 0 x (by simp)
    exact ⟨y, hy, by rw [k.1]; exact h1, fun hw => k.2.2.2.2 (by omega)⟩
theorem i_addW (w : World) (B gc gs : Nat) (ib : List Nat) (pr : Prm) (I : List It) (s : Scd) (line code arg change : Int) (h : CSt w B gc pr I ib) (hs : ScP w gc ib gs s) (hI : I.length ≤ 1000000000000) (hB : B ≤ w.heap.size) (hch : ∀ most depth : Int, MD most depth I.length → w.cell? ⟨gc, 9, none⟩ = some (.int .i64 depth) → -(200 + 8 * ((I.length + 1 : Nat) : Int)) ≤ depth + change ∧ depth + change ≤ 200 + 8 * ((I.length + 1 : Nat) : Int)) :
    Calls Try.prog 80 #[.pointer (some ⟨gc, 0, none⟩), .pointer (some ⟨gs, 0, none⟩), .int .i64 line, .int .i64 code, .int .i64 arg, .int .i64 change] w fun e w' => One (fun x => x.code = code ∧ x.arg = arg ∧ x.line = line ∧ x.start = false ∧ x.n = s.nc) (fun g => addF g code arg change) w B gc pr I ib e w' :=
  (i_add w B gc gs s.nl s.cl s.nc s.cc ib pr I s.fu s.en s.ar s.fi s.ba s.Al s.Ac s.xs s.ch s.vj line code arg change h hs hI hB hch).mono fun e w' h => by
    obtain ⟨h0, x, ib', h1, h2, h3, h4, h5, h6, h7⟩ := h
    exact ⟨h0, x, ib', ⟨h1, h2, h3, h4, h5⟩, h6, h7⟩
/-- What compile answers. -/
def CmR (w : World) (n : Nat) (inl : Int) (fu en : Nat) (L : List Ln) (words : Int) (framed : Bool) (e : Ending) (w' : World) : Prop := ∃ (v : Value) (I : List It) (most : Int), (most = (compF ⟨framed, inl, words, L⟩ fu).m ∧ opL I = (compF ⟨framed, inl, words, L⟩ fu).ops) ∧ e = .returned (.tuple #[v, .int .i64 most]) ∧ w'.ownsRow w.heap.size 49 7 v I.length (I.flatMap itC) ∧ (0 ≤ most ∧ most ≤ 100) ∧ I.length ≤ 2600 ∧ (∀ x ∈ I, ∃ ch : List Int, InRow w' x.A x.n 1 (intCells ch)) ∧ FinC n inl fu en L words I
set_option maxHeartbeats 4000000 in
theorem i_compile (A : Option Addr) (n c k en : Nat) (fr inl words : Int) (fold split framed : Bool) (L : List Ln) (w : World) (hn : n ≤ 60) (h : InLines w A n L) (hp : progS L = true) (hk : k < n) (hk0 : (lnAtD L k).1 = 0) (hen : endOfF L k = en) (hinl : 0 ≤ inl ∧ inl ≤ 3) (hw : 0 ≤ words ∧ words ≤ 100) :
    Calls Try.prog 51 #[.slice A n c, .int .i64 k, .agg #[.int .i64 fr, .int .i64 inl, .bool fold, .bool split], .bool framed, .int .i64 words] w fun e w' => CmR w n inl k en L words framed e w' ∧ Below w.heap.size w w' := by
  have HR := hide h
  have HLN := hide h.len
  have HP := hide hp
  have hok := (prog_lines hp).2
  have hkl' : k < L.length := by rw [h.len]; exact hk
  obtain ⟨en', e1, hke, hel, hloc8, _⟩ := prog_fnk hp k hkl' hk0
  have hee : en' = en := by omega
  subst hee
  have hna8 := locF_ge e1 hk0
  rw [lnAtD_of L k hkl'] at hna8
  obtain ⟨CF, hCF⟩ : ∃ x : Sg, x = compF ⟨framed, inl, words, L⟩ k := ⟨_, rfl⟩
  have hCF2 : CF = (linK ⟨framed, inl, words, L⟩ inl.toNat [(k : Int)] ⟨(k : Int), (en' : Int), ((L[k].2.2.1.length : Nat) : Int), 0, words, locF L (k : Int), (locF L (k : Int)).length, 0⟩ (addF ⟨[], ((locF L (k : Int)).length : Int) - (L[k].2.2.1.length : Nat), 0⟩ (if framed then 13 else 15) words words)).1 := by
    rw [hCF, ← e1, ← lnAtD_of L k hkl']
    rfl
  unfold CmR
  rw [← hCF]
  have HCF := hide hCF2
  clear hCF hCF2
  have HK0 := hide hk0
  have HEN := hide hen
  have hkl : k < L.length := by rw [HLN.out]; exact hk
  obtain ⟨b, o, A1, c1, A2, c2, hA', _, _, _, p2, _, _⟩ := h.ln k hkl
  have HSZ : Hid (∀ x ∈ L, LnSz x) := fun x hx => (lineOk_szQ (hok x hx)).1
  have hT : n + lnTot L ≤ 100000 := by have h1 := lnTot_leQ L (fun x hx => (lineOk_szQ (hok x hx)).2); have h2 := HLN.out; omega
  have hkn : (k : Int) < n := by omega
  have hk0 : (0 : Int) ≤ (k : Int) := by omega
  clear hok hen hp hk0 e1
  generalize L[k].2.2.1.length = na at *
  subst hA'
  go_enter Try.func51, Try.ntmps51
  go_upto_region 2 with fail
  have KC := hide (Blk.new ((w.alloc (.cells #[.int .i64 fr, .int .i64 inl, .bool fold, .bool split] 37)).alloc (.cells #[.int .i64 (k : Int)] 3)) 111 #[.slice (some ⟨b, o, none⟩) n c, .int .i64 fr, .int .i64 inl, .bool fold, .bool split, .bool framed, .int .i64 words, .int .i64 0, .slice none 0 0, .int .i64 0, .slice (some ⟨w.heap.size + 1, 0, none⟩) 1 1])
  have BI := hide ((blk_new' (w := w.alloc (.cells #[.int .i64 fr, .int .i64 inl, .bool fold, .bool split] 37)) (b := w.heap.size + 1) (t := 3) (cs := #[.int .i64 (k : Int)]) (by simp)).alloc (.cells #[.slice (some ⟨b, o, none⟩) n c, .int .i64 fr, .int .i64 inl, .bool fold, .bool split, .bool framed, .int .i64 words, .int .i64 0, .slice none 0 0, .int .i64 0, .slice (some ⟨w.heap.size + 1, 0, none⟩) 1 1] 111))
  have hzz : ((w.alloc (.cells #[.int .i64 fr, .int .i64 inl, .bool fold, .bool split] 37)).alloc (.cells #[.int .i64 (k : Int)] 3)).heap.size = w.heap.size + 1 + 1 := by simp
  rw [hzz] at KC
  have BX := hide ((((Below.refl w.heap.size w).alloc (Nat.le_refl _) (.cells #[.int .i64 fr, .int .i64 inl, .bool fold, .bool split] 37)).alloc (by simp) (.cells #[.int .i64 (k : Int)] 3)).alloc (by simp; omega) (.cells #[.slice (some ⟨b, o, none⟩) n c, .int .i64 fr, .int .i64 inl, .bool fold, .bool split, .bool framed, .int .i64 words, .int .i64 0, .slice none 0 0, .int .i64 0, .slice (some ⟨w.heap.size + 1, 0, none⟩) 1 1] 111))
  generalize ((w.alloc (.cells #[.int .i64 fr, .int .i64 inl, .bool fold, .bool split] 37)).alloc (.cells #[.int .i64 (k : Int)] 3)).alloc (.cells #[.slice (some ⟨b, o, none⟩) n c, .int .i64 fr, .int .i64 inl, .bool fold, .bool split, .bool framed, .int .i64 words, .int .i64 0, .slice none 0 0, .int .i64 0, .slice (some ⟨w.heap.size + 1, 0, none⟩) 1 1] 111) = wX at *
  have hgc : w.heap.size ≤ w.heap.size + 1 + 1 := by omega
  have hgc1 : w.heap.size + 1 < w.heap.size + 1 + 1 := by omega
  generalize w.heap.size + 1 + 1 = gc at *
  obtain ⟨pr, hpr⟩ : ∃ pr : Prm, pr = ⟨some ⟨b, o, none⟩, n, c, fr, inl, fold, split, framed, words, 1, [(k : Int)], []⟩ := ⟨_, rfl⟩
  have CX : Hid (CSt wX w.heap.size gc pr [] [w.heap.size + 1]) := by
    show CSt _ _ _ _ _ _
    rw [hpr]
    exact ⟨hgc, by simp; omega, ⟨⟨by show (1 : Nat) ≤ 100; omega, hw⟩, fun b hb => (by cases hb), fun x hx => (by cases hx)⟩, 0, 0, none, 0, some ⟨w.heap.size + 1, 0, none⟩, 1, ⟨Int.le_refl _, by omega, by simp, by simp⟩, KC.out, World.ownsRow_nil _ _ _ _, own_blk1 BI.out (Nat.le_succ _), fun b hb => (by cases hb), rfl⟩
  have HPR := hide hpr
  have px := (BX.out.cell (block_lt_of_cell p2)).trans p2
  have RX := hide (HR.out.below (BX.out.drew))
  have PX : Hid (∀ w', Below wX.heap.size wX w' → w'.cell? ⟨b, o + k * 4 + 2, none⟩ = some (.slice A1 na c1)) := fun w' hb => (hb.cell (block_lt_of_cell px)).trans px
  have hgX := KC.out.lt
  have KC0 := hide KC.out
  clear p2 hzz KC hpr
  go_cut [13] from 23 to 38 (fun s13 wx => ∃ (gs : Nat) (s : Scd), s13 = .pointer (some ⟨gs, 0, none⟩) ∧ ScJ wx w.heap.size gc [w.heap.size + 1] gs s [] [] (IsJ []) ∧ s.fi = 0 ∧ s.ba = words ∧ s.nc = 0 ∧ s.fu = k ∧ s.en = en' ∧ (s.ar = na ∧ s.xs = locF L (k : Int) ∧ s.nl = (locF L (k : Int)).length) ∧ s.nl ≤ 8 ∧ s.ar ≤ s.nl ∧ 0 ≤ s.ar ∧ wX.heap.size ≤ gs ∧ Below wX.heap.size wX wx)
  case first =>
    go_region_held3 (fun w' => w'.cell? ⟨b, o + k * 4 + 2, none⟩ = some (.slice A1 na c1)) (first | exact px | exact PX.out _ HB5.out | exact PX.out _ (HB5.out.alloc HB5.out.size _)) (first
      | (go_at_call 11; refine (i_endOf _ n c L _ wX.drew (by omega) RX.out).mono ?_; rintro e w' ⟨he, hww⟩; subst hww; rw [HEN.out] at he; subst he)
      | (go_at_call 11; refine (i_endOf _ n c L _ w5 (by omega) R5.out).mono ?_; rintro e w' ⟨he, hww⟩; subst hww; rw [HEN.out] at he; subst he)
      | (go_at_call 16; refine (i_localsOf _ n c L _ wX.drew (by omega) RX.out).mono ?_; rintro e w5 ⟨⟨v, rfl, ho⟩, hb5⟩; obtain ⟨Al, cl, rfl, _, _, har, _⟩ := Arr.own2 ho; have HAR := hide har; have HB5 := hide (below_transD (B := wX.heap.size) (a := wX) hb5 (Below.refl _ _).drew); have R5 := hide (RX.out.below hb5); clear ho har hb5)
      | fail)
    all_goals
      go_wp2_with fail
    all_goals
      go_meet
      have hz5 := HB5.out.size
      have hdz : wX.drew.heap.size = wX.heap.size := rfl
      refine ⟨w5.heap.size, ⟨k, en', na, 0, words, Al, (locF L (k : Int)).length, cl, locF L (k : Int), none, 0, 0, [], .slice none 0 0⟩, rfl, ⟨Blk.new w5 _ _, by show w5.heap.size ≠ gc; omega, by simp; omega, ⟨hloc8, by show (0 : Int) ≤ (na : Int); omega, by show (na : Int) ≤ (((locF L (k : Int)).length : Nat) : Int); omega, Int.le_refl _, by show (0 : Int) ≤ 64; omega, by show 0 ≤ 3; omega⟩, by show 0 ≤ 100000; omega, ⟨(InRow.of_arr HAR.out).below ((Below.refl _ _).alloc (Nat.le_refl _) _), fun hn0 ad e1 => ?_⟩, RowG.nil_ _ _ _ _, ⟨none, 0, rfl⟩, World.ownsRow_nil _ _ _ _, rfl, fun b hb => (by cases hb), fun j hj => (by cases hj)⟩, rfl, rfl, rfl, rfl, rfl, ⟨rfl, rfl, rfl⟩, hloc8, by show (na : Int) ≤ ((locF L (k : Int)).length : Nat); omega, by show (0 : Int) ≤ (na : Int); omega, hz5, HB5.out.alloc HB5.out.size _⟩
      obtain ⟨bb, e2, h1, h2, _⟩ := HAR.out.2 hn0
      change Al = some ad at e1
      rw [e1] at e2
      cases e2
      exact ⟨by show bb ≠ gc; omega, fun e3 => by
        have e4 : bb = w5.heap.size ∨ bb = w.heap.size + 1 := by simpa using e3
        omega⟩
  case rest =>
    obtain ⟨gs, s, rfl, hs, hfi, hba, hnc, hfu, hend, hxl, hsl, hsa, hsa0, hgs, hbc⟩ := hcut
    have HFI := hide hfi
    have HBA := hide hba
    have KD : Hid (wc.cell? ⟨gc, 9, none⟩ = some (.int .i64 0)) := by
      show wc.cell? ⟨gc, 9, none⟩ = some (.int .i64 0)
      have := (KC0.out.below hbc KC0.out.lt).cell 9
      simpa using this
    have SCJ := hide hs
    have SC := hide hs.scp
    have HNC := hide hnc
    have HSP : Hid (s.sp = ⟨(k : Int), (en' : Int), (na : Int), 0, words, locF L (k : Int), (locF L (k : Int)).length, 0⟩) := by
      show (⟨s.fu, s.en, s.ar, s.fi, s.ba, s.xs, s.nl, s.nc⟩ : Sp) = _
      rw [hfu, hend, hxl.1, hfi, hba, hxl.2.1, hxl.2.2, hnc]
    have HXL := hide hxl
    have HVC : Hid (Vw wc gc [] = ⟨[], 0, 0⟩) := by
      show _ = _
      rw [Vw_of (KC0.out.below hbc KC0.out.lt)]
      rfl
    clear hxl
    have HFU := hide hfu
    have HEND := hide hend
    have BC := hide (BX.out.trans (hbc.mono BX.out.size))
    have hgsw := hs.k.lt
    have CC := hide (CX.out.grow (CX.out.kept hbc) [gs] (fun b hb => by obtain rfl := List.mem_singleton.1 hb; exact ⟨.inr hgs, hgsw⟩))
    have m2 := hs.k.cell 2
    have m3 := hs.k.cell 3
    simp at m2 m3
    obtain ⟨_, _, _, most, depth, Ai, ci, An, cn, _, hkk, _, _, _, _⟩ := CC.out
    have k7 := hkk.cell 7
    have f7 := hkk.frozen 7
    simp at k7
    clear hs hnc hfu hend hbc hkk px hfi hba
    go_upto_region 3 with fail
    go_still_tail 13, (by kernel_rfl)
    change wpList _ _ _ _ _ wc.drew
    have hfc : w.heap.size ≤ wc.heap.size := BC.out.size
    go_wp2_with fail
    all_goals
      have CM := hide (CC.out.most ((s.nl : Int) - s.ar) (by omega))
      have C7 := hide (CM.out.1.kept (Below.refl _ _).drew)
      have V7 := hide (CM.out.2.trans (Ev.of_below (Below.refl _ _).drew _ _))
      have S7 := hide (SC.out.ev V7.out)
      have J7 := hide (SCJ.out.ev V7.out (fun _ h => h))
      have B7 := hide (BC.out.trans (CC.out.below V7.out hfc))
      refine (i_addW _ _ gc gs _ _ _ s _ _ _ _ C7.out S7.out (by simp) B7.out.size (fun m d _ hd => by
        have hd0 := (World.cell?_setCell_other wc ⟨gc, 7, none⟩ ⟨gc, 9, none⟩ (.int .i64 ((s.nl : Int) - s.ar)) (by simp)).trans KD.out
        have hd1 : some (Value.int .i64 d) = some (Value.int .i64 0) := hd.symm.trans hd0
        injection hd1 with hd1
        injection hd1 with _ hd1
        simp only [List.length_nil]
        omega)).mono ?_
      rintro e w5 ⟨rfl, x, ib1, ⟨h1, h2, h3, h4, h5⟩, hc5, hv5, hw5⟩
      have HV5 : Hid (Vw w5 gc ([] ++ [x]) = addF ⟨[], ((locF L (k : Int)).length : Int) - (na : Int), 0⟩ (if framed then 13 else 15) words words) := by
        show _ = _
        rw [hw5]
        have h9 : Vw (wc.setCell ⟨gc, 7, none⟩ (.int .i64 ((s.nl : Int) - s.ar))).drew gc [] = ⟨[], ((locF L (k : Int)).length : Int) - (na : Int), 0⟩ := by
          rw [Vw_below (Below.refl _ _).drew CM.out.1.lt, CC.out.most_vw, HVC.out, HXL.out.1, HXL.out.2.2]
        rw [h9]
        first
          | (rw [if_pos (by assumption)]; done)
          | (rw [if_neg (by assumption)]; done)
          | (rw [if_neg (by rw [show framed = false by assumption]; decide)]; done)
          | fail
      clear hw5
      have C8 := hide hc5
      have V8 := hide hv5
      have S8 := hide (J7.out.ev hv5 (fun _ h => h.app (M := [x])))
      have HX5 : Hid ((x.code = 13 ∨ x.code = 15) ∧ x.arg = words ∧ (0 ≤ x.line ∧ x.line < (n : Int)) ∧ (x.n : Int) ≤ inl ∧ ArgOk x.code x.arg) := ⟨by omega, h2, by rw [h3]; omega, by rw [h5, HNC.out]; exact hinl.1, by rw [h1, h2]; unfold ArgOk; omega⟩
      have B8 := hide (B7.out.trans (C7.out.below hv5 B7.out.size))
      clear hc5 hv5
      go_wp2_with fail
      have hbd := YY_le inl.toNat (by omega)
      have LL := hide (lin_level w gc L HP.out inl.toNat { pr with tb := [gs] ++ pr.tb } 0 (by rw [HPR.out]; show ((0 : Nat) : Int) + (inl.toNat : Int) = inl; omega) (by rw [HPR.out]; exact hinl.2) (by rw [HPR.out]; show 1 + inl.toNat ≤ 99; omega) (by rw [HPR.out]; exact hn) (by rw [HPR.out]; exact HR.out) w5 gs ([] ++ [x]) _ s k en' HNC.out HFU.out HEND.out (by rw [HPR.out]; exact hk) HK0.out HEN.out (show gs ∈ [gs] ++ pr.tb from List.mem_cons_self) C8.out S8.out B8.out (by have h1 := BX.out.size; omega) (by simp) (by
        have h1 : (en' - k) * 26 ≤ 60 * 26 := Nat.mul_le_mul_right 26 (by have := HLN.out; omega)
        simp only [List.nil_append, List.length_singleton]
        omega) (by rw [HBA.out]; simp only [List.nil_append, List.length_singleton]; omega) (by rw [HFI.out]; omega))
      refine (LL.out).mono ?_
      rintro e w6 ⟨rfl, J, ib2, jb2, Jm2, vj2, hg, _, hc6, hj6, hv6, hlf, hw6, _⟩
      have HV6 : Hid (Vw w6 gc J = CF) := by
        show _ = _
        rw [hw6, HV5.out, HSP.out, HCF.out, HPR.out]
        rfl
      clear hw6
      have B9 := hide (B8.out.trans (hv6.below C8.out.1 (fun b hb => by
        rcases List.mem_cons.1 hb with hb | hb
        · have h1 := BX.out.size; omega
        · exact (C8.out.rows b hb).1) B8.out.size))
      obtain ⟨_, _, ⟨_, _, hch6⟩, most6, depth6, Ai6, ci6, An6, cn6, hm6, hkk6, hown6, _, _, _⟩ := hc6
      have CH6 : Hid (∀ x ∈ J, ∃ ch : List Int, InRow w6 x.A x.n 1 (intCells ch)) := fun x hx => by
        obtain ⟨ch, h1⟩ := hch6 x hx
        exact ⟨ch, h1.1⟩
      have O6 := hide hown6
      have G6 := hide hg
      have HMO : Hid (most6 = CF.m ∧ opL J = CF.ops) := by
        show _ ∧ _
        rw [← HV6.out, Vw_of hkk6]
        exact ⟨rfl, rfl⟩
      have k8 := hkk6.cell 8
      have k7' := hkk6.cell 7
      simp at k8 k7'
      have HX : Hid ((0 ≤ most6 ∧ most6 ≤ 100) ∧ J.length ≤ 2600 ∧ FinC n inl k en' L words J) := by
        have hgo : Gro n inl (YY inl.toNat) ([] ++ [x]) J ((en' - k) * 26) := by have := hg; rw [HPR.out] at this; exact this
        have hlo : LinF k en' L n inl ([] ++ [x]) J := by have := hlf rfl; rw [HPR.out] at this; exact this
        refine ⟨⟨hm6.1, hm6.2.1⟩, ?_, finC_of HX5.out hgo hlo⟩
        have h1 : (en' - k) * 26 ≤ 60 * 26 := Nat.mul_le_mul_right 26 (by have := HLN.out; omega)
        have h2 := hgo.hi
        simp only [List.nil_append, List.length_singleton] at h2
        omega
      clear hkk6 hown6 hg hv6 hlf hch6 hj6 h1 h2 h3 h4 h5
      go_wp2_with fail
      go_quiet (fail)
      go_wp2_with fail
      go_ret2
      first
        | exact ⟨⟨_, J, most6, HMO.out, rfl, own_belowZ O6.out (below_drewN (Below.refl _ _) _), HX.out.1, HX.out.2.1, (fun x hx => by obtain ⟨ch, h1⟩ := CH6.out x hx; exact ⟨ch, h1.below (below_drewN (Below.refl _ _) _)⟩), HX.out.2.2⟩, below_drewN B9.out _⟩
        | exact ⟨⟨_, J, most6, HMO.out, rfl, O6.out, HX.out.1, HX.out.2.1, CH6.out, HX.out.2.2⟩, B9.out⟩
end Go.Proofs.Ytcfjbaanahgpoaa
namespace Go.Proofs.Ytcfjbaanahgpoaa
open Go Go.RowKit Go.Maps
set_option maxRecDepth 100000
set_option linter.unusedVariables false
set_option linter.unusedSimpArgs false
/-- Whether a function has a frame. -/
def frF (fr : Int) (f : Nat) : Bool := bits .and .i64 (fr / 2 ^ f) 1 == 1
/-- The lines that are compiled. -/
noncomputable def lnsF (fold : Bool) (L : List Ln) : List Ln := if fold then L.map foldLn else L
/-- The instructions of a function. -/
noncomputable def cfF (fr inl : Int) (fold : Bool) (L : List Ln) (f k : Nat) : List (Int × Int) := (compF ⟨frF fr f, inl, (compF ⟨frF fr f, inl, 0, lnsF fold L⟩ k).m, lnsF fold L⟩ k).ops
/-- What CompileFunction answers for a program in order. -/
def CfR (w : World) (n : Nat) (inl : Int) (fu en : Nat) (L : List Ln) (O : List (Int × Int)) (e : Ending) (w' : World) : Prop := ∃ (v : Value) (I : List It), opL I = O ∧ e = .returned v ∧ w'.ownsRow w.heap.size 49 7 v I.length (I.flatMap itC) ∧ I.length ≤ 2600 ∧ (∀ x ∈ I, ∃ ch : List Int, InRow w' x.A x.n 1 (intCells ch)) ∧ FinC n inl fu en L 0 I
theorem finC_fold {n : Nat} {inl : Int} {fu en : Nat} {L L2 : List Ln} {words : Int} {I : List It} (hw : 0 ≤ words) (hk : ∀ l : Nat, (lnAtD L2 l).1 = (lnAtD L l).1) (h : FinC n inl fu en L2 words I) : FinC n inl fu en L 0 I := by
  obtain ⟨h1, h2, ⟨x, h3, h4, h5⟩, h6⟩ := h
  exact ⟨h1, h2, ⟨x, h3, h4, fun _ => h5 hw⟩, fun l a b c => h6 l a b (by rw [hk l]; exact c)⟩
set_option maxHeartbeats 4000000 in
theorem i_compileNil (A : Option Addr) (n c f : Nat) (fr inl : Int) (fold split : Bool) (L : List Ln) (w : World) (h : InLines w A n L) (hsz : ∀ x ∈ L, LnSz x) (hT : n + lnTot L ≤ 1048576) (hp : progS L = false) :
    Calls Try.prog 25 #[.slice A n c, .int .i64 f, .agg #[.int .i64 fr, .int .i64 inl, .bool fold, .bool split]] w fun e w' => e = .returned (.slice none 0 0) ∧ Below w.heap.size w w' := by
  have H := hide h
  have HSZ := hide hsz
  have HP := hide hp
  clear h hsz hp
  go_enter Try.func25, Try.ntmps25
  go_wp2_with fail
  have BB := hide ((Below.refl w.heap.size w).alloc (Nat.le_refl _) (.cells #[.int .i64 fr, .int .i64 inl, .bool fold, .bool split] 37))
  generalize w.alloc (.cells #[.int .i64 fr, .int .i64 inl, .bool fold, .bool split] 37) = w0 at *
  refine (i_programOkF A n c L _ hT (H.out.below BB.out) HSZ.out).mono ?_
  rintro e w1 ⟨rfl, hb1⟩
  rw [HP.out]
  have B1 := hide (BB.out.trans (hb1.mono BB.out.size))
  clear hb1
  go_wp2_with fail
  go_ret
  exact ⟨rfl, B1.out⟩
set_option maxHeartbeats 4000000 in
theorem i_compileFunction (A : Option Addr) (n c f k en : Nat) (fr inl : Int) (fold split : Bool) (L : List Ln) (w : World) (h : InLines w A n L) (hp : progS L = true) (hf : f < (funsF L).length) (hfk : (funsF L)[f] = (k : Int)) (hen : endOfF L k = en) (hfr : 0 ≤ fr ∧ fr ≤ 63) (hinl : 0 ≤ inl ∧ inl ≤ 3) :
    Calls Try.prog 25 #[.slice A n c, .int .i64 f, .agg #[.int .i64 fr, .int .i64 inl, .bool fold, .bool split]] w fun e w' => CfR w n inl k en L (cfF fr inl fold L f k) e w' ∧ Below w.heap.size w w' := by
  have H := hide h
  have HL := hide h.len
  have hlen := h.len
  obtain ⟨⟨hl1, hl60⟩, hok⟩ := prog_lines hp
  have HOK := hide hok
  have HSZ : Hid (∀ x ∈ L, LnSz x) := fun x hx => (lineOk_szQ (hok x hx)).1
  have hT : n + lnTot L ≤ 1048576 := by have h1 := lnTot_leQ L (fun x hx => (lineOk_szQ (hok x hx)).2); omega
  have hf6 : (funsF L).length ≤ 6 := (yes_out hp).2.2.2.1
  obtain ⟨k', en', e1, e2, hke, hel⟩ := prog_end hp _ (List.getElem_mem hf)
  rw [hfk] at e1 e2
  have e1' : k = k' := by omega
  subst e1'
  have e2' : en = en' := by rw [hen] at e2; omega
  subst e2'
  have HEN := hide hen
  have HFK := hide hfk
  have HP := hide hp
  obtain ⟨k0', hk0', hkl', hkind⟩ := funsF_mem L _ (List.getElem_mem hf)
  have hkk : k0' = k := by omega
  subst hkk
  have HKD := hide hkind
  have hn60 : n ≤ 60 := by omega
  have hhe : en < n := by omega
  clear h hok hfk hen e2 hp hk0' hkind
  go_enter Try.func25, Try.ntmps25
  go_wp2_with fail
  have KB := hide (Blk.new w 37 #[.int .i64 fr, .int .i64 inl, .bool fold, .bool split])
  have BB := hide ((Below.refl w.heap.size w).alloc (Nat.le_refl _) (.cells #[.int .i64 fr, .int .i64 inl, .bool fold, .bool split] 37))
  generalize w.alloc (.cells #[.int .i64 fr, .int .i64 inl, .bool fold, .bool split] 37) = w0 at *
  refine (i_programOkF A n c L _ hT (H.out.below BB.out) HSZ.out).mono ?_
  rintro e w1 ⟨rfl, hb1⟩
  rw [HP.out]
  have B1 := hide (BB.out.trans (hb1.mono BB.out.size))
  have K1 := hide (KB.out.below hb1 KB.out.lt)
  have n0 := K1.out.cell 0
  have n1 := K1.out.cell 1
  have n2 := K1.out.cell 2
  have n3 := K1.out.cell 3
  simp at n0 n1 n2 n3
  clear hb1
  go_wp2_with fail
  have hbu : (btw fr 0 63 && btw inl 0 3) = true := by simp [btw]; omega
  refine (i_buildOk _ _ _ _ _).mono ?_
  rintro e w2 ⟨rfl, hb2⟩
  rw [hbu]
  have B2 := hide (B1.out.trans (hb2.mono B1.out.size))
  have K2 := hide (K1.out.below hb2 K1.out.lt)
  clear hb2 n0 n1 n2 n3 hbu
  go_wp2_with fail
  refine (i_funs A n c L _ (by omega) (H.out.below B2.out)).mono ?_
  rintro e w3 ⟨⟨v, rfl, hown⟩, hb3⟩
  obtain ⟨Af, cf, rfl, _, haf⟩ := Arr.of_own hown
  have B3 := hide (B2.out.trans (hb3.mono B2.out.size))
  have K3 := hide (K2.out.below hb3 K2.out.lt)
  clear hown hb3 haf
  have hbt : btw (f : Int) 0 (((funsF L).length : Int) - 1) = true := by simp [btw]; omega
  go_wp2_with fail
  refine (i_between _ _ _ _).mono ?_
  rintro e w' ⟨he, hww⟩
  subst he
  subst hww
  rw [hbt]
  have n0 := K3.out.cell 0
  have n1 := K3.out.cell 1
  have n2 := K3.out.cell 2
  have n3 := K3.out.cell 3
  simp at n0 n1 n2 n3
  clear hbt
  go_upto_if 31 with fail
  go_cut [0] from 30 to 33 (fun s0 wx => ∃ (A2 : Option Addr) (c2 : Nat) (L2 : List Ln), s0 = .slice A2 n c2 ∧ InLines wx A2 n L2 ∧ progS L2 = true ∧ funsF L2 = funsF L ∧ endOfF L2 k0' = en ∧ (∀ l : Nat, (lnAtD L2 l).1 = (lnAtD L l).1) ∧ Below w3.heap.size w3 wx ∧ L2 = lnsF fold L)
  case first =>
    cases fold
    · go_wp2_with fail
      go_meet
      exact ⟨A, c, L, rfl, H.out.below B3.out, HP.out, rfl, HEN.out, fun _ => rfl, Below.refl _ _, rfl⟩
    · go_wp2_with fail
      refine (i_foldProgram A n c L _ hT (H.out.below B3.out) HSZ.out).mono ?_
      rintro e w4 ⟨⟨A4, c4, rfl, ho4⟩, hb4⟩
      have hpf : foldPF L = L.map foldLn := by unfold foldPF; rw [if_pos HP.out]
      rw [hpf] at ho4 ⊢
      have hln : (L.map foldLn).length = n := by rw [List.length_map]; exact hlen
      have O4 := hide (ho4.in_ hln)
      have B4 := hide hb4
      rw [hln]
      clear ho4 hb4 hpf hln
      go_wp2_with fail
      go_meet
      exact ⟨A4, c4, L.map foldLn, rfl, O4.out, prog_fold HP.out, funsF_fold L, by rw [endOfF_fold]; exact HEN.out, fun l => by rw [lnAtD_fold]; rfl, B4.out, rfl⟩
  case rest =>
    obtain ⟨A2, c2, L2, rfl, hr2, hok2, hfu2, hen2, hcs2, hbc, hlf⟩ := hcut
    have HLF := hide hlf
    clear hlf
    have R2 := hide hr2
    have OK2 := hide hok2
    have FU2 := hide hfu2
    have EN2 := hide hen2
    have CS2 := hide hcs2
    have BC := hide (B3.out.trans (hbc.mono B3.out.size))
    have KC := hide (K3.out.below hbc K3.out.lt)
    clear hr2 hok2 hfu2 hen2 hcs2 hbc n0 n1 n2 n3
    go_wp2_with fail
    refine (i_funs A2 n c2 L2 _ (by omega) R2.out).mono ?_
    rintro e w5 ⟨⟨v, rfl, hown⟩, hb5⟩
    rw [FU2.out] at hown
    obtain ⟨Af5, cf5, rfl, _, haf5⟩ := Arr.of_own hown
    obtain ⟨bo, oo, rfl, _, cfk⟩ := (InRow.of_arr haf5).int f hf
    rw [HFK.out] at cfk
    have hfi : (f : Int) < ((funsF L).length : Int) := by omega
    have B5 := hide (BC.out.trans (hb5.mono BC.out.size))
    have K5 := hide (KC.out.below hb5 KC.out.lt)
    have R5 := hide (R2.out.below hb5)
    have hkn : k0' < n := by omega
    clear hown haf5 hb5
    have n0 := K5.out.cell 0
    have n1 := K5.out.cell 1
    have n2 := K5.out.cell 2
    have n3 := K5.out.cell 3
    simp at n0 n1 n2 n3
    go_wp2_with fail
    refine (i_compile A2 n c2 k0' en fr inl 0 fold split _ L2 _ hn60 R5.out OK2.out hkn ((CS2.out k0').trans HKD.out) EN2.out hinl ⟨Int.le_refl _, by omega⟩).mono ?_
    rintro e w6 ⟨⟨v6, I6, most, hmo6, rfl, _, hmost, _, _, _⟩, hb6⟩
    have HM6 := hide hmo6.1
    clear hmo6
    have B6 := hide (B5.out.trans (hb6.mono B5.out.size))
    have K6 := hide (K5.out.below hb6 K5.out.lt)
    have R6 := hide (R5.out.below hb6)
    clear hb6 n0 n1 n2 n3
    have n0 := K6.out.cell 0
    have n1 := K6.out.cell 1
    have n2 := K6.out.cell 2
    have n3 := K6.out.cell 3
    simp at n0 n1 n2 n3
    go_wp2_with fail
    refine (i_compile A2 n c2 k0' en fr inl _ fold split _ L2 _ hn60 R6.out OK2.out hkn ((CS2.out k0').trans HKD.out) EN2.out hinl hmost).mono ?_
    rintro e w7 ⟨⟨v7, I7, most7, hmo7, rfl, ho7, _, h71, h73, h72⟩, hb7⟩
    have HM7 : Hid (opL I7 = cfF fr inl fold L f k0') := by
      show _ = _
      rw [hmo7.2, HM6.out, HLF.out]
      rfl
    clear hmo7
    have B7 := hide (B6.out.trans (hb7.mono B6.out.size))
    have X7 := hide (And.intro (own_base ho7 B6.out.size) (And.intro h71 (And.intro h73 (finC_fold hmost.1 CS2.out h72))))
    clear hb7 ho7 h71 h72 h73
    go_wp2_with fail
    go_ret
    exact ⟨⟨v7, I7, HM7.out, rfl, X7.out.1, X7.out.2.1, X7.out.2.2.1, X7.out.2.2.2⟩, B7.out⟩
end Go.Proofs.Ytcfjbaanahgpoaa
namespace Go.Proofs.Ytcfjbaanahgpoaa
open Go Go.RowKit
set_option maxRecDepth 100000
set_option linter.unusedVariables false
set_option linter.unusedSimpArgs false
/-! Where items come to lie. No program in sight. -/
theorem argOk_op {c a : Int} (h : ArgOk c a) (hj : ¬ (c = 10 ∨ c = 11)) : opOkF c a = true := by
  obtain ⟨h1, h2, h3, h4, h5, h6, h7⟩ := h
  rcases (show c = 0 ∨ c = 1 ∨ c = 2 ∨ c = 3 ∨ c = 4 ∨ c = 5 ∨ c = 6 ∨ c = 7 ∨ c = 8 ∨ c = 9 ∨ c = 12 ∨ c = 13 ∨ c = 14 ∨ c = 15 ∨ c = 16 ∨ c = 17 by omega) with rfl | rfl | rfl | rfl | rfl | rfl | rfl | rfl | rfl | rfl | rfl | rfl | rfl | rfl | rfl | rfl <;> simp [opOkF, opW, opS, btw, opSizeF] <;> omega
theorem jump_op {c a : Int} (hc : c = 10 ∨ c = 11) (ha : -32768 ≤ a ∧ a ≤ 32767) : opOkF c a = true := by
  rcases hc with rfl | rfl <;> simp [opOkF, opW, opS, btw, opSizeF] <;> omega
/-- Where an item begins. -/
def offN (I : List It) (f : Int) (k : Nat) : Int := f + ((I.take k).map fun x => opSizeF x.code).sum
theorem offN_zero (I : List It) (f : Int) : offN I f 0 = f := by simp [offN]
theorem offN_succ (I : List It) (f : Int) (k : Nat) (hk : k < I.length) : offN I f (k + 1) = offN I f k + opSizeF I[k].code := by
  unfold offN
  rw [List.take_succ_eq_append_getElem hk, List.map_append, List.sum_append]
  simp
  omega
theorem offN_add (I : List It) (f : Int) (k : Nat) : offN I f k = f + offN I 0 k := by unfold offN; omega
theorem opSizeF_le (c : Int) : 0 ≤ opSizeF c ∧ opSizeF c ≤ 5 := by
  have h := opW_le c
  unfold opSizeF
  split <;> omega
theorem opSizeF_pos {c : Int} (h : 0 ≤ c ∧ c ≤ 17) : 1 ≤ opSizeF c := by
  have h2 := opW_le c
  unfold opSizeF
  rw [if_pos h]
  omega
theorem offN_bound (I : List It) (f : Int) : ∀ k : Nat, k ≤ I.length → f ≤ offN I f k ∧ offN I f k ≤ f + 5 * k := by
  intro k
  induction k with
  | zero => intro _; rw [offN_zero]; omega
  | succ k ih =>
    intro hk
    have h1 := ih (by omega)
    have h2 := opSizeF_le I[k].code
    rw [offN_succ I f k (by omega)]
    omega
/-- The argument that an instruction gets. -/
def argR (I : List It) (k : Nat) (x : It) : Int := if x.code = 10 ∨ x.code = 11 then offN I 0 x.arg.toNat - offN I 0 (k + 1) else x.arg
theorem argR_ok {n : Nat} {inl : Int} {fu en : Nat} {L : List Ln} {words : Int} {I : List It} (h : FinC n inl fu en L words I) (hl : I.length ≤ 2600) (k : Nat) (hk : k < I.length) : opOkF I[k].code (argR I k I[k]) = true := by
  obtain ⟨_, _, _, h4, h5⟩ := h.1 _ (List.getElem_mem hk)
  unfold argR
  by_cases hj : I[k].code = 10 ∨ I[k].code = 11
  · rw [if_pos hj]
    have h6 := h4 hj
    have b1 := offN_bound I 0 I[k].arg.toNat (by omega)
    have b2 := offN_bound I 0 (k + 1) (by omega)
    exact jump_op hj (by omega)
  · rw [if_neg hj]
    exact argOk_op h5 hj
end Go.Proofs.Ytcfjbaanahgpoaa
namespace Go.Proofs.Ytcfjbaanahgpoaa
open Go Go.RowKit
set_option maxRecDepth 100000
set_option linter.unusedVariables false
set_option linter.unusedSimpArgs false
/-- Whether a function belongs to an image. -/
def inImF (split : Bool) (f image : Nat) : Bool := if split then decide (f % 2 = image) else decide (image = 0)
set_option maxHeartbeats 1000000 in
theorem i_inImage (f image : Nat) (fr inl : Int) (fold split : Bool) (w : World) (hf : f ≤ 1000) (hi : image ≤ 1) :
    Calls Try.prog 72 #[.int .i64 f, .agg #[.int .i64 fr, .int .i64 inl, .bool fold, .bool split], .int .i64 image] w fun e w' => e = .returned (.bool (inImF split f image)) ∧ Below w.heap.size w w' := by
  have hm : ((f : Int).tmod 2) = ((f % 2 : Nat) : Int) := by rw [Int.tmod_eq_emod_of_nonneg (by omega)]; omega
  have hm2 : f % 2 ≤ 1 := by omega
  generalize hg : f % 2 = r at *
  cases split
  · go_enter Try.func72, Try.ntmps72
    go_wp2_with fail
    go_ret
    refine ⟨?_, by repeat (first | exact Below.refl _ _ | refine Below.alloc ?_ (by first | (simp; done) | (simp; omega)) _ | refine Below.drew ?_ | refine below_drewN ?_ _ | refine Below.setCell ?_ (by first | (simp; done) | (simp; omega)) _)⟩
    congr 1
    congr 1
    simp only [inImF]
    rcases (show image = 0 ∨ image = 1 by omega) with rfl | rfl <;> rfl
  · go_enter Try.func72, Try.ntmps72
    go_wp2_with fail
    go_ret
    refine ⟨?_, by repeat (first | exact Below.refl _ _ | refine Below.alloc ?_ (by first | (simp; done) | (simp; omega)) _ | refine Below.drew ?_ | refine below_drewN ?_ _ | refine Below.setCell ?_ (by first | (simp; done) | (simp; omega)) _)⟩
    congr 1
    congr 1
    simp only [inImF, hg]
    rcases (show image = 0 ∨ image = 1 by omega) with rfl | rfl <;> rcases (show r = 0 ∨ r = 1 by omega) with rfl | rfl <;> simp_all
end Go.Proofs.Ytcfjbaanahgpoaa
namespace Go.Proofs.Ytcfjbaanahgpoaa
open Go Go.RowKit
set_option maxRecDepth 100000
set_option linter.unusedVariables false
set_option linter.unusedSimpArgs false
/-- A place: where an item begins, and the item. -/
def plC (p : Int × It) : List Value := .int .i64 p.1 :: itC p.2
theorem plC_length (P : List (Int × It)) : (P.flatMap plC).length = P.length * 8 := flat_length plC 8 (fun _ => rfl) P
/-- The places of a function's items. -/
def PlP (I : List It) (f : Int) (P : List (Int × It)) : Prop := P.length = I.length ∧ ∀ k (hk : k < I.length), ∃ p, P[k]? = some p ∧ p.1 = offN I f k ∧ p.2.code = I[k].code ∧ p.2.arg = argR I k I[k]
def offs (I : List It) (f : Int) (k : Nat) : List Int := (List.range k).map (offN I f)
theorem offs_succ (I : List It) (f : Int) (k : Nat) : offs I f (k + 1) = offs I f k ++ [offN I f k] := by simp [offs, List.range_succ]
theorem offs_length (I : List It) (f : Int) (k : Nat) : (offs I f k).length = k := by simp [offs]
theorem Try.infoPlc : (Try.prog.info? 51).map (fun i => (i.zero, i.size, i.bytes)) = some (some (.agg #[.int .i64 0, .int .i64 0, .int .i64 0, .int .i64 0, .bool false, .slice none 0 0, .int .i64 0, .bool false]), 8, 80) := by kernel_rfl
set_option maxHeartbeats 4000000 in
theorem i_functionPlaces (A : Option Addr) (n c : Nat) (I : List It) (f : Int) (w : World) (hn : n ≤ 2600) (hl : I.length = n) (h : InRow w A n 7 (I.flatMap itC)) (hf : 0 ≤ f ∧ f ≤ 1000000) (hcd : ∀ x ∈ I, 0 ≤ x.code ∧ x.code ≤ 17) (hj : ∀ x ∈ I, x.code = 10 ∨ x.code = 11 → 0 ≤ x.arg ∧ x.arg < (n : Int)) (hch : ∀ x ∈ I, ∃ ch : List Int, InRow w x.A x.n 1 (intCells ch)) (hnn : ∀ x ∈ I, x.n ≤ 100000) :
    Calls Try.prog 73 #[.slice A n c, .int .i64 f] w fun e w' => (∃ (v : Value) (P : List (Int × It)), e = .returned v ∧ w'.ownsRow w.heap.size 51 8 v P.length (P.flatMap plC) ∧ PlP I f P) ∧ Below w.heap.size w w' := by
  obtain ⟨i1, hi1, hy0, hy1, hy2⟩ := info_parts Try.infoIntC
  have HI1 := hide hi1
  clear hi1
  obtain ⟨i0, hi0, hz0, hz1, hz2⟩ := info_parts Try.infoPlc
  have HI0 := hide hi0
  clear hi0
  have H := hide h
  have HL := hide hl
  have hcd2 := hcd
  have HCD := hide hcd
  have HJ := hide hj
  have HCH := hide hch
  clear h hl hcd hj hch
  go_enter Try.func73, Try.ntmps73
  go_wp2_with fail
  go_loopw [6, 7, 17] (fun sv av iv wr => ∃ i : Nat, iv = .int .i64 i ∧ i ≤ n ∧ av = .int .i64 (offN I f i) ∧ wr.ownsRow w.heap.size 3 1 sv i (intCells (offs I f i)) ∧ wr.ownsRow w.heap.size 51 8 (.slice (some ⟨w.heap.size, 0, none⟩) 0 0) 0 [] ∧ (∀ b, sv.ownBlock = some b → b ≠ w.heap.size) ∧ Below w.heap.size w wr) (fun _ _ iv _ => n - (intOf iv).toNat)
  case atStart =>
    refine ⟨0, rfl, Nat.zero_le _, by rw [offN_zero], ?_, ?_, ?_, ?_⟩
    · exact ownsRow_blk (blk_new' (by simp)) (by omega)
    · exact (ownsRow_blk (Blk.new w 51 #[]) (Nat.le_refl _)).alloc _
    · intro b hb; change some _ = some b at hb; injection hb with hb; simp at hb; omega
    · exact ((Below.refl _ _).alloc (Nat.le_refl _) _).alloc (by simp) _
  case round =>
    obtain ⟨i, rfl, hi, rfl, hso, hpo, hsb, hbr⟩ := hrel
    obtain ⟨SA, sc, hsv, _⟩ := Arr.of_own hso
    subst hsv
    have SO := hide hso
    have PO := hide hpo
    have SB1 := hide hsb
    have BR := hide hbr
    have IR := hide (H.out.below hbr)
    clear hso hpo hsb hbr
    have hob := offN_bound I f i (by rw [HL.out]; exact hi)
    by_cases hlt : i < n
    · have z : decide ((i : Int) < (n : Int)) = true := decide_eq_true (by omega)
      have z' : decide (i < n) = true := decide_eq_true hlt
      have hii : i < I.length := by rw [HL.out]; exact hlt
      obtain ⟨bI, oI, hAI, hbI, hcI⟩ := IR.out.2 (by omega)
      have q0 := (hcI (i * 7) (by omega)).trans (flat_at itC 7 (fun _ => rfl) I i 0 hii (by omega))
      have q1 := (hcI (i * 7 + 1) (by omega)).trans (flat_at itC 7 (fun _ => rfl) I i 1 hii (by omega))
      have q2 := (hcI (i * 7 + 2) (by omega)).trans (flat_at itC 7 (fun _ => rfl) I i 2 hii (by omega))
      have q3 := (hcI (i * 7 + 3) (by omega)).trans (flat_at itC 7 (fun _ => rfl) I i 3 hii (by omega))
      have q4 := (hcI (i * 7 + 4) (by omega)).trans (flat_at itC 7 (fun _ => rfl) I i 4 hii (by omega))
      have q5 := (hcI (i * 7 + 5) (by omega)).trans (flat_at itC 7 (fun _ => rfl) I i 5 hii (by omega))
      have q6 := (hcI (i * 7 + 6) (by omega)).trans (flat_at itC 7 (fun _ => rfl) I i 6 hii (by omega))
      simp [itC] at q0 q1 q2 q3 q4 q5 q6
      rw [← Nat.add_assoc] at q1 q2 q3 q4 q5 q6
      have HS1 := hide (offN_succ I f i hii)
      have hsz := opSizeF_le I[i].code
      generalize I[i] = x at *
      subst hAI
      clear hcI
      go_upto_region 7 with fail
      have KX := hide (Blk.new wr 49 #[.int .i64 x.code, .int .i64 x.arg, .int .i64 x.line, .bool x.start, .slice x.A x.n x.c, .int .i64 x.dep, .bool x.ent])
      have BY := hide ((Below.refl wr.heap.size wr).alloc (Nat.le_refl _) (.cells #[.int .i64 x.code, .int .i64 x.arg, .int .i64 x.line, .bool x.start, .slice x.A x.n x.c, .int .i64 x.dep, .bool x.ent] 49))
      have hYs : w.heap.size ≤ wr.heap.size := BR.out.size
      have hSAl : ∀ b, (Value.slice SA i sc).ownBlock = some b → b < wr.heap.size := fun b hb => (SO.out.lt b hb).2
      have hP0 : w.heap.size < wr.heap.size := (PO.out.lt _ rfl).2
      generalize wr.alloc (.cells #[.int .i64 x.code, .int .i64 x.arg, .int .i64 x.line, .bool x.start, .slice x.A x.n x.c, .int .i64 x.dep, .bool x.ent] 49) = wY at *
      have SY := hide (own_belowZ SO.out BY.out)
      have PY := hide (own_belowZ PO.out BY.out)
      have BRY := hide (BR.out.trans (BY.out.mono hYs))
      have hYz : w.heap.size ≤ wY.heap.size := BRY.out.size
      have hYz2 : wr.heap.size ≤ wY.heap.size := BY.out.size
      clear q0 q1 q2 q3 q4 q5 q6
      generalize wr.heap.size = xb at *
      go_wp2_with (first | (at_builtin; refine wpList_appN _ rfl (.tmp 21) (.tmp 23) _ rfl w.heap.size 3 i1 _ 1 8 Try.underlying28 HI1.out hy0 hy1 hy2 rfl (by decide) (.slice SA i sc) i (intCells (offs I f i)) rfl SY.out 1 [.int .i64 (offN I f i)] rfl rfl rfl (by intro u hu; simp at hu; subst hu; rfl) (by omega) (by decide) hYz ?_) | fail)
      intro v9 w9 hown9 hb9 hg9 hv9
      have e1 : intCells (offs I f (i + 1)) = intCells (offs I f i) ++ [.int .i64 (offN I f i)] := by rw [offs_succ]; simp [intCells]
      rw [← e1] at hown9
      obtain ⟨D9, d9, hD9, _⟩ := Arr.of_own hown9
      subst hD9
      have O9 := hide hown9
      have K9 := hide (KX.out.grown hg9 (fun e => by have := hSAl _ e.symm; omega))
      have P9 := hide (own_grown PY.out hg9 (fun b hb e => SB1.out b e (by change some _ = some b at hb; injection hb with hb; exact hb.symm)))
      have B9 := hide (BRY.out.trans hb9)
      have N9 : Hid (∀ b, (Value.slice D9 (i + 1) d9).ownBlock = some b → b ≠ w.heap.size) := fun b hb => by
        rcases hv9 with h1 | h1
        · rw [h1] at hb; exact SB1.out b hb
        · rw [h1] at hb; injection hb with hb; omega
      have y0 := K9.out.cell 0
      simp at y0
      clear hown9 hb9 hg9 hv9 e1
      go_wp2_with fail
      refine (i_opSize _ _).mono ?_
      rintro e w' ⟨rfl, rfl⟩
      generalize opSizeF x.code = sz at *
      go_wp2_with fail
      go_roundw
      case rel => exact ⟨i + 1, by go_num, by omega, by rw [HS1.out], O9.out, P9.out, N9.out, B9.out⟩
      case measure => simp [intOf]; omega
    · have hni : n = i := by omega
      subst hni
      have z : decide ((n : Int) < (n : Int)) = false := decide_eq_false (by omega)
      have z' : decide (n < n) = false := decide_eq_false hlt
      have hYz : w.heap.size ≤ wr.heap.size := BR.out.size
      have hSAl : ∀ b, (Value.slice SA n sc).ownBlock = some b → b < wr.heap.size := fun b hb => (SO.out.lt b hb).2
      have hP0 : w.heap.size < wr.heap.size := (PO.out.lt _ rfl).2
      go_wp2_with (first | (at_builtin; refine wpList_appN _ rfl (.tmp 32) (.tmp 34) _ rfl w.heap.size 3 i1 _ 1 8 Try.underlying28 HI1.out hy0 hy1 hy2 rfl (by decide) (.slice SA n sc) n (intCells (offs I f n)) rfl SO.out 1 [.int .i64 (offN I f n)] rfl rfl rfl (by intro u hu; simp at hu; subst hu; rfl) (by omega) (by decide) hYz ?_) | fail)
      intro v9 w9 hown9 hb9 hg9 hv9
      have e1 : intCells (offs I f (n + 1)) = intCells (offs I f n) ++ [.int .i64 (offN I f n)] := by rw [offs_succ]; simp [intCells]
      rw [← e1] at hown9
      obtain ⟨D9, d9, hD9, _⟩ := Arr.of_own hown9
      subst hD9
      have O9 := hide hown9
      have P9 := hide (own_grown PO.out hg9 (fun b hb e => SB1.out b e (by change some _ = some b at hb; injection hb with hb; exact hb.symm)))
      have B9 := hide (BR.out.trans hb9)
      have N9 : Hid (∀ b, (Value.slice D9 (n + 1) d9).ownBlock = some b → b ≠ w.heap.size) := fun b hb => by
        rcases hv9 with h1 | h1
        · rw [h1] at hb; exact SB1.out b hb
        · rw [h1] at hb; injection hb with hb; omega
      clear hown9 hb9 hg9 hv9 e1
      go_wp2_with fail
      go_loopw [5, 38] (fun sv iv wr => ∃ (k : Nat) (P : List (Int × It)), iv = .int .i64 k ∧ k ≤ n ∧ P.length = k ∧ wr.ownsRow w.heap.size 51 8 sv k (P.flatMap plC) ∧ wr.ownsRow w.heap.size 3 1 (.slice D9 (n + 1) d9) (n + 1) (intCells (offs I f (n + 1))) ∧ (∀ b, (Value.slice D9 (n + 1) d9).ownBlock = some b → sv.ownBlock ≠ some b) ∧ (∀ j (hj : j < k) (hj' : j < I.length), ∃ p, P[j]? = some p ∧ p.1 = offN I f j ∧ p.2.code = I[j].code ∧ p.2.arg = argR I j I[j]) ∧ Below w.heap.size w wr) (fun _ iv _ => n - (intOf iv).toNat)
      case atStart => exact ⟨0, [], rfl, Nat.zero_le _, rfl, P9.out, O9.out, fun b hb e => N9.out b hb (by change some _ = some b at e; injection e with e; exact e.symm), fun j hj => absurd hj (Nat.not_lt_zero _), B9.out⟩
      case round =>
        obtain ⟨k, P, rfl, hk, hPl, hpo, hso, hdj, hpp, hbr⟩ := hrel
        obtain ⟨PA, pc, hpv, _⟩ := Arr.of_own hpo
        subst hpv
        by_cases hlt2 : k < n
        · have z2 : decide ((k : Int) < (n : Int)) = true := decide_eq_true (by omega)
          have z2' : decide (k < n) = true := decide_eq_true hlt2
          have SO2 := hide hso
          have PO2 := hide hpo
          have HDJ := hide hdj
          have HPP := hide hpp
          have BR2 := hide hbr
          have HPL := hide hPl
          have IR2 := hide (H.out.below hbr)
          have hii : k < I.length := by rw [HL.out]; exact hlt2
          obtain ⟨ch, hch⟩ := HCH.out _ (List.getElem_mem hii)
          have CHX := hide (hch.below hbr)
          have HXC := hcd2 _ (List.getElem_mem hii)
          have HXJ := hide (HJ.out _ (List.getElem_mem hii))
          have hxn := hnn _ (List.getElem_mem hii)
          have HAR : Hid (argR I k I[k] = argR I k I[k]) := rfl
          obtain ⟨bI, oI, hAI, hbI, hcI⟩ := IR2.out.2 (by omega)
          have q0 := (hcI (k * 7) (by omega)).trans (flat_at itC 7 (fun _ => rfl) I k 0 hii (by omega))
          have q1 := (hcI (k * 7 + 1) (by omega)).trans (flat_at itC 7 (fun _ => rfl) I k 1 hii (by omega))
          have q2 := (hcI (k * 7 + 2) (by omega)).trans (flat_at itC 7 (fun _ => rfl) I k 2 hii (by omega))
          have q3 := (hcI (k * 7 + 3) (by omega)).trans (flat_at itC 7 (fun _ => rfl) I k 3 hii (by omega))
          have q4 := (hcI (k * 7 + 4) (by omega)).trans (flat_at itC 7 (fun _ => rfl) I k 4 hii (by omega))
          have q5 := (hcI (k * 7 + 5) (by omega)).trans (flat_at itC 7 (fun _ => rfl) I k 5 hii (by omega))
          have q6 := (hcI (k * 7 + 6) (by omega)).trans (flat_at itC 7 (fun _ => rfl) I k 6 hii (by omega))
          simp [itC] at q0 q1 q2 q3 q4 q5 q6
          rw [← Nat.add_assoc] at q1 q2 q3 q4 q5 q6
          obtain ⟨x, hx⟩ : ∃ x : It, I[k] = x := ⟨_, rfl⟩
          rw [hx] at q0 q1 q2 q3 q4 q5 q6 CHX HXC HXJ hxn
          have HX := hide hx
          subst hAI
          clear hcI hso hpo hdj hpp hbr hPl hch hx HAR
          go_upto_region 14 with fail
          have KX := hide (Blk.new wr 49 #[.int .i64 x.code, .int .i64 x.arg, .int .i64 x.line, .bool x.start, .slice x.A x.n x.c, .int .i64 x.dep, .bool x.ent])
          have BY := hide ((Below.refl wr.heap.size wr).alloc (Nat.le_refl _) (.cells #[.int .i64 x.code, .int .i64 x.arg, .int .i64 x.line, .bool x.start, .slice x.A x.n x.c, .int .i64 x.dep, .bool x.ent] 49))
          have CHY := hide (CHX.out.below BY.out)
          have hYs : w.heap.size ≤ wr.heap.size := BR2.out.size
          generalize wr.alloc (.cells #[.int .i64 x.code, .int .i64 x.arg, .int .i64 x.line, .bool x.start, .slice x.A x.n x.c, .int .i64 x.dep, .bool x.ent] 49) = wY at *
          have hxb := KX.out.lt
          obtain ⟨xb, hxbe⟩ : ∃ xb, xb = wr.heap.size := ⟨_, rfl⟩
          rw [← hxbe] at KX hxb ⊢
          have HXB := hide hxbe
          clear hxbe
          have y4a := (KX.out.alloc (.cells #[] 3)).cell 4
          simp at y4a
          clear q0 q1 q2 q3 q4 q5 q6
          go_cut [46] from 43 to 47 (fun s46 wx => ∃ (D : Option Addr) (d : Nat), Blk wx xb 49 #[.int .i64 x.code, .int .i64 x.arg, .int .i64 x.line, .bool x.start, .slice D x.n d, .int .i64 x.dep, .bool x.ent] ∧ Below wr.heap.size wr wx)
          case first =>
            go_wp2_with (first | (at_builtin; refine wpList_apps _ rfl (.tmp 43) (.tmp 45) _ rfl wY.heap.size 3 i1 _ 1 8 Try.underlying28 HI1.out hy0 hy1 hy2 rfl (by decide) (.slice (some ⟨_, 0, none⟩) 0 0) 0 [] rfl (World.ownsRow_lit wY #[] 0 (Nat.le_refl _) (Nat.zero_le _) rfl) x.A x.n x.c (intCells ch) rfl (CHY.out.below ((Below.refl _ _).alloc (Nat.le_refl _) _)) ?c1 ?c2 ?c3 ?c4 ?_) | fail)
            case c1 => exact intCells_one _
            case c2 => omega
            try case c3 => decide
            case c4 => simp
            intro v' w1 hown1 hb1 hg1 _
            try rw [Nat.zero_add] at hown1
            obtain ⟨D, d, rfl, _⟩ := Arr.own2 hown1
            have BW := hide (((Below.refl wY.heap.size wY).alloc (Nat.le_refl _) (.cells #[] 3)).trans hb1)
            have KW := hide (KX.out.below BW.out hxb)
            have f4 := KW.out.frozen 4
            have c4 := KW.out.cell 4
            simp at c4
            clear hown1 hb1 hg1 y4a
            go_wp2_with fail
            go_meet
            refine ⟨D, d, ?_, ((BY.out.trans (BW.out.mono BY.out.size)).setCell (p := ⟨xb, 4, none⟩) (by show wr.heap.size ≤ xb; have := HXB.out; omega) _)⟩
            have := KW.out.set_ 4 (.slice D x.n d)
            simpa using this
          case rest =>
            obtain ⟨D, d, hk4, hb4⟩ := hcut
            have K4 := hide hk4
            have B4 := hide hb4
            have hj0 := hk4.cell 0
            have hj1 := hk4.cell 1
            have fj1 := hk4.frozen 1
            simp at hj0 hj1
            have SO3 := hide (own_belowZ SO2.out hb4)
            obtain ⟨D9', d9', e9, _, har9⟩ := Arr.of_own SO3.out
            cases e9
            have XS := hide (InRow.of_arr har9)
            have hwz : wr.heap.size ≤ wc.heap.size := hb4.size
            have hxbc := hk4.lt
            have HAR : Hid (argR I k x = if x.code = 10 ∨ x.code = 11 then offN I f x.arg.toNat - offN I f (k + 1) else x.arg) := by
              show _ = _
              unfold argR
              rw [offN_add I f, offN_add I f]
              split <;> omega
            clear hk4 hb4 har9
            go_upto_region 15 with fail
            obtain ⟨bt, hbt⟩ : ∃ bt, bt = decide (x.code = 10 ∨ x.code = 11) := ⟨_, rfl⟩
            have HBT := hide hbt
            clear hbt
            go_cut [57] from 48 to 57 (fun s57 wx => s57 = .bool bt ∧ wx = wc)
            case first =>
              by_cases h10 : x.code = 10
              · rw [h10] at hj0
                obtain rfl : bt = true := HBT.out.trans (decide_eq_true (.inl h10))
                clear HBT h10
                go_wp2_with fail
                go_meet
                exact ⟨rfl, rfl⟩
              · by_cases h11 : x.code = 11
                · rw [h11] at hj0
                  obtain rfl : bt = true := HBT.out.trans (decide_eq_true (.inr h11))
                  clear HBT h10 h11
                  go_wp2_with fail
                  go_meet
                  exact ⟨rfl, rfl⟩
                · obtain rfl : bt = false := HBT.out.trans (decide_eq_false (fun e => e.elim h10 h11))
                  have z10 : (x.code == 10) = false := by simpa using h10
                  have z11 : (x.code == 11) = false := by simpa using h11
                  clear HBT h10 h11
                  go_wp2_with fail
                  go_meet
                  exact ⟨rfl, rfl⟩
            case rest =>
            obtain ⟨rfl, hw9⟩ := hcut
            subst hw9
            go_upto_if 57 with fail
            go_cut [52] from 57 to 71 (fun s52 wx => ∃ ar : Int, ar = argR I k x ∧ Blk wx xb 49 #[.int .i64 x.code, .int .i64 ar, .int .i64 x.line, .bool x.start, .slice D x.n d, .int .i64 x.dep, .bool x.ent] ∧ Below wr.heap.size wr wx)
            case first =>
              cases bt
              · have hcj : ¬ (x.code = 10 ∨ x.code = 11) := of_decide_eq_false HBT.out.symm
                have HQ := hide (HAR.out.trans (if_neg hcj))
                clear hcj
                go_wp2_with fail
                go_meet
                exact ⟨x.arg, HQ.out.symm, K4.out, B4.out⟩
              · have hcj : x.code = 10 ∨ x.code = 11 := of_decide_eq_true HBT.out.symm
                have HQ := hide (HAR.out.trans (if_pos hcj))
                obtain ⟨ha0, ha1⟩ := HXJ.out hcj
                obtain ⟨ja, hja⟩ := Int.eq_ofNat_of_zero_le ha0
                rw [hja, Int.toNat_natCast] at HQ
                rw [hja] at hj1 ha1
                have hjn : ja < n := by omega
                have hlo := offs_length I f (n + 1)
                obtain ⟨bo, oo, hA9, _, c9a⟩ := XS.out.int ja (by rw [hlo]; omega)
                obtain ⟨bo', oo', hA9', _, c9b⟩ := XS.out.int (k + 1) (by rw [hlo]; omega)
                rw [hA9] at hA9'
                cases hA9'
                subst hA9
                have e1 : (offs I f (n + 1))[ja]'(by rw [hlo]; omega) = offN I f ja := by simp [offs]
                have e2 : (offs I f (n + 1))[k + 1]'(by rw [hlo]; omega) = offN I f (k + 1) := by simp [offs]
                rw [e1] at c9a
                rw [e2] at c9b
                have hb1 := offN_bound I f ja (by rw [HL.out]; omega)
                have hb2 := offN_bound I f (k + 1) (by rw [HL.out]; omega)
                have hkn1 : (k : Int) + 1 < ((n : Int) + 1) := by omega
                have hjn1 : (ja : Int) < ((n : Int) + 1) := by omega
                have zk : IntKind.i64.wrap ((k : Int) + 1) = (k : Int) + 1 := IntWalk.i64_in _ (by omega)
                have hk10 : (0 : Int) ≤ (k : Int) + 1 := by omega
                have zt : ((k : Int) + 1).toNat = k + 1 := by omega
                have zs : IntKind.i64.wrap (offN I f ja - offN I f (k + 1)) = offN I f ja - offN I f (k + 1) := IntWalk.i64_in _ (by omega)
                clear hcj ha0 ha1 hja e1 e2
                go_upto_region 16 with fail
                go_still_tail 14, (by kernel_rfl)
                change wpList _ _ _ _ _ wc.drew
                go_wp2_with fail
                go_meet
                refine ⟨offN I f ja - offN I f (k + 1), HQ.out.symm, ?_, (B4.out.drew).setCell (p := ⟨xb, 1, none⟩) (by show wr.heap.size ≤ xb; have := HXB.out; omega) _⟩
                have := (K4.out.set_ 1 (.int .i64 (offN I f ja - offN I f (k + 1)))).drew
                simpa using this
            case rest =>
              obtain ⟨ar, hare, hk5, hb5⟩ := hcut
              have K5 := hide hk5
              have B5 := hide hb5
              have HARE := hide hare
              have x0 := hk5.cell 0
              have x1 := hk5.cell 1
              have x2 := hk5.cell 2
              have x3 := hk5.cell 3
              have x4 := hk5.cell 4
              have x5 := hk5.cell 5
              have x6 := hk5.cell 6
              simp at x0 x1 x2 x3 x4 x5 x6
              have SO5 := hide (own_belowZ SO2.out hb5)
              have PO5 := hide (own_belowZ PO2.out hb5)
              have PO5d : Hid (wc.drew.ownsRow w.heap.size 51 8 (.slice PA k pc) k (P.flatMap plC)) := PO5.out
              obtain ⟨D9', d9', e9, _, har9⟩ := Arr.of_own SO5.out
              cases e9
              have hlo := offs_length I f (n + 1)
              obtain ⟨bo, oo, hA9, _, c9a⟩ := (InRow.of_arr har9).int k (by rw [hlo]; omega)
              have e1 : (offs I f (n + 1))[k]'(by rw [hlo]; omega) = offN I f k := by simp [offs]
              rw [e1] at c9a
              subst hA9
              have hkn1 : (k : Int) < ((n : Int) + 1) := by omega
              have hwz5 : w.heap.size ≤ wc.heap.size := Nat.le_trans hYs hb5.size
              clear hk5 hb5 hare har9 e1 XS hj0 hj1 fj1
              obtain ⟨ofk, hof⟩ : ∃ ofk, ofk = offN I f k := ⟨_, rfl⟩
              rw [← hof] at c9a
              have HOF := hide hof
              clear hof
              go_upto_region 17 with fail
              go_region_law (refine step_appN wc.drew rfl (.tmp 72) (.tmp 79) _ rfl w.heap.size 51 i0 _ 8 80 Try.underlying44 HI0.out hz0 hz1 hz2 rfl (by decide) (.slice PA k pc) k (P.flatMap plC) rfl PO5d.out 1 [.int .i64 ofk, .int .i64 x.code, .int .i64 ar, .int .i64 x.line, .bool x.start, .slice D x.n d, .int .i64 x.dep, .bool x.ent] rfl rfl rfl (by intro u hu; simp at hu; rcases hu with rfl | rfl | rfl | rfl | rfl | rfl | rfl | rfl <;> rfl) (by omega) (by decide) (show w.heap.size ≤ wc.drew.heap.size from hwz5) ?_; intro v7 w7 hown7 hb7 hg7 hv7; obtain ⟨A7, c7, rfl, _⟩ := Arr.own2 hown7; have O7 := hide hown7; have G7 := hide hg7; have V7 := hide hv7; have HB7 := hide hb7)
              all_goals
                go_wp2_with fail
              all_goals
                go_roundw
                case rel =>
                  have hzz : wc.drew.heap.size = wc.heap.size := rfl
                  have e2 : (P ++ [(ofk, ({ x with arg := ar, A := D, c := d } : It))]).flatMap plC = P.flatMap plC ++ [.int .i64 ofk, .int .i64 x.code, .int .i64 ar, .int .i64 x.line, .bool x.start, .slice D x.n d, .int .i64 x.dep, .bool x.ent] := by simp [plC, itC]
                  have hSl : ∀ b, (Value.slice (some ⟨bo, oo, none⟩) (n + 1) d9).ownBlock = some b → b < wc.heap.size := fun b hb => (SO5.out.lt b hb).2
                  refine ⟨k + 1, P ++ [(ofk, { x with arg := ar, A := D, c := d })], by go_num, by omega, by rw [List.length_append, HPL.out]; rfl, by rw [e2]; exact O7.out, own_grown (w := wc.drew) SO5.out G7.out (fun b hb e => HDJ.out b hb e), fun b hb => ?_, fun j hj hj' => ?_, ((BR2.out.trans (B5.out.mono hYs)).drew).trans HB7.out⟩
                  · rcases V7.out with h1 | h1
                    · rw [h1]; exact HDJ.out b hb
                    · rw [h1]; intro e; injection e with e; have := hSl b hb; omega
                  · by_cases hjk : j < k
                    · obtain ⟨p, h1, h2⟩ := HPP.out j hjk hj'
                      exact ⟨p, by rw [List.getElem?_append_left (by rw [HPL.out]; exact hjk)]; exact h1, h2⟩
                    · have hjk2 : j = k := by omega
                      subst hjk2
                      refine ⟨_, by rw [List.getElem?_append_right (by rw [HPL.out]; omega), HPL.out, Nat.sub_self]; rfl, HOF.out, by rw [HX.out], ?_⟩
                      rw [HX.out]
                      exact HARE.out
                case measure => simp [intOf]; omega
        · have z2 : decide ((k : Int) < (n : Int)) = false := decide_eq_false (by omega)
          have z2' : decide (k < n) = false := decide_eq_false hlt2
          have hkn : k = n := by omega
          have FIN : Hid (wr.ownsRow w.heap.size 51 8 (.slice PA k pc) P.length (P.flatMap plC) ∧ PlP I f P) := by
            refine ⟨by rw [hPl]; exact hpo, by rw [hPl, hkn]; exact HL.out.symm, fun j hj => hpp j (by have := HL.out; omega) hj⟩
          have BF := hide hbr
          clear hpo hso hdj hpp hbr hkn hPl
          go_wp2_with fail
          go_ret
          exact ⟨⟨_, P, rfl, FIN.out⟩, BF.out⟩
end Go.Proofs.Ytcfjbaanahgpoaa
