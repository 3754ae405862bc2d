import Derived.Test.YtcfjbaanahgpoaaCmI
import Derived.Test.YtcfjbaanahgpoaaFPi
import Derived.Test.YtcfjbaanahgpoaaFoldP
import Derived.Test.YtcfjbaanahgpoaaTm
import Derived.Deep.CutBlock
namespace Go.Proofs.Ytcfjbaanahgpoaa
open Go Go.RowKit Go.Maps
set_option maxRecDepth 100000
set_option linter.unusedVariables false
set_option linter.unusedSimpArgs false
/-- What compile answers. -/
def CmR (w : World) (calls : Nat) (e : Ending) (w' : World) : Prop := ∃ (v : Value) (I : List It) (most : Int), e = .returned (.tuple #[v, .int .i64 most]) ∧ w'.ownsRow w.heap.size 49 7 v I.length (I.flatMap itC) ∧ (∀ x ∈ I, x.n = 0) ∧ cntI I = calls ∧ 1 ≤ I.length ∧ I.length ≤ 100000
set_option maxHeartbeats 4000000 in
theorem i_compile0 (A : Option Addr) (n c k en : Nat) (fr words : Int) (fold split framed : Bool) (L : List Ln) (w : World) (hn : n ≤ 1000) (h : InLines w A n L) (hok : ∀ x ∈ L, lineOkF x = true) (hk : k < n) (hen : endOfF L k = en) (hke : k ≤ en) (hel : en < n) :
    Calls Try.prog 51 #[.slice A n c, .int .i64 k, .agg #[.int .i64 fr, .int .i64 0, .bool fold, .bool split], .bool framed, .int .i64 words] w fun e w' => CmR w (cSum L (k + 1) (en + 1)) e w' ∧ Below w.heap.size w w' := by
  have HR := hide h
  have HLN := hide h.len
  have HOK := hide hok
  have HEN := hide hen
  have hkl : k < L.length := by rw [HLN.out]; exact hk
  obtain ⟨b, o, A1, c1, A2, c2, hA', _, _, _, p2, _, _⟩ := h.ln k hkl
  have HSZ : Hid (∀ x ∈ L, LnSz x) := fun x hx => (lineOk_szQ (hok x hx)).1
  have hT : n + lnTot L ≤ 100000 := by have h1 := lnTot_leQ L (fun x hx => (lineOk_szQ (hok x hx)).2); have h2 := HLN.out; omega
  have hlocl : (locF L (k : Int)).length ≤ 2000 := by
    have h1 := locF_length L k 24 (fun x hx => by have := (lineOk_szQ (hok x hx)).2; omega)
    have h2 := HLN.out
    omega
  have hkn : (k : Int) < n := by omega
  have hk0 : (0 : Int) ≤ (k : Int) := by omega
  clear hok hen
  generalize L[k].2.2.1.length = na at *
  subst hA'
  go_enter Try.func51, Try.ntmps51
  go_upto_region 2 with fail
  have KC := hide (Blk.new ((w.alloc (.cells #[.int .i64 fr, .int .i64 0, .bool fold, .bool split] 37)).alloc (.cells #[.int .i64 (k : Int)] 3)) 111 #[.slice (some ⟨b, o, none⟩) n c, .int .i64 fr, .int .i64 0, .bool fold, .bool split, .bool framed, .int .i64 words, .int .i64 0, .slice none 0 0, .int .i64 0, .slice (some ⟨w.heap.size + 1, 0, none⟩) 1 1])
  have hzz : ((w.alloc (.cells #[.int .i64 fr, .int .i64 0, .bool fold, .bool split] 37)).alloc (.cells #[.int .i64 (k : Int)] 3)).heap.size = w.heap.size + 1 + 1 := by simp
  rw [hzz] at KC
  have BX := hide ((((Below.refl w.heap.size w).alloc (Nat.le_refl _) (.cells #[.int .i64 fr, .int .i64 0, .bool fold, .bool split] 37)).alloc (by simp) (.cells #[.int .i64 (k : Int)] 3)).alloc (by simp; omega) (.cells #[.slice (some ⟨b, o, none⟩) n c, .int .i64 fr, .int .i64 0, .bool fold, .bool split, .bool framed, .int .i64 words, .int .i64 0, .slice none 0 0, .int .i64 0, .slice (some ⟨w.heap.size + 1, 0, none⟩) 1 1] 111))
  generalize ((w.alloc (.cells #[.int .i64 fr, .int .i64 0, .bool fold, .bool split] 37)).alloc (.cells #[.int .i64 (k : Int)] 3)).alloc (.cells #[.slice (some ⟨b, o, none⟩) n c, .int .i64 fr, .int .i64 0, .bool fold, .bool split, .bool framed, .int .i64 words, .int .i64 0, .slice none 0 0, .int .i64 0, .slice (some ⟨w.heap.size + 1, 0, none⟩) 1 1] 111) = wX at *
  have hgc : w.heap.size ≤ w.heap.size + 1 + 1 := by omega
  generalize w.heap.size + 1 + 1 = gc at *
  obtain ⟨pr, hpr⟩ : ∃ pr : Prm, pr = ⟨some ⟨b, o, none⟩, n, c, fr, 0, fold, split, framed, words⟩ := ⟨_, rfl⟩
  have CX : Hid (CSt wX w.heap.size gc pr [] none) := by
    show CSt _ _ _ _ _ _
    rw [hpr]
    exact ⟨hgc, by simp, 0, 0, none, 0, _, KC.out, World.ownsRow_nil _ _ _ _, rfl⟩
  have HPR := hide hpr
  have px := (BX.out.cell (block_lt_of_cell p2)).trans p2
  have RX := hide (HR.out.below (BX.out.drew))
  have PX : Hid (∀ w', Below wX.heap.size wX w' → w'.cell? ⟨b, o + k * 4 + 2, none⟩ = some (.slice A1 na c1)) := fun w' hb => (hb.cell (block_lt_of_cell px)).trans px
  have hgX := KC.out.lt
  clear p2 hzz KC hpr
  go_cut [13] from 23 to 38 (fun s13 wx => ∃ (gs : Nat) (s : Scd), s13 = .pointer (some ⟨gs, 0, none⟩) ∧ ScP wx gc none gs s ∧ s.nc = 0 ∧ s.fu = k ∧ s.en = en ∧ Below wX.heap.size wX wx)
  case first =>
    go_region_held3 (fun w' => w'.cell? ⟨b, o + k * 4 + 2, none⟩ = some (.slice A1 na c1)) (first | exact px | exact PX.out _ HB5.out | exact PX.out _ (HB5.out.alloc HB5.out.size _)) (first
      | (go_at_call 11; refine (i_endOf _ n c L _ wX.drew (by omega) RX.out).mono ?_; rintro e w' ⟨he, hww⟩; subst hww; rw [HEN.out] at he; subst he)
      | (go_at_call 11; refine (i_endOf _ n c L _ w5 (by omega) R5.out).mono ?_; rintro e w' ⟨he, hww⟩; subst hww; rw [HEN.out] at he; subst he)
      | (go_at_call 16; refine (i_localsOf _ n c L _ wX.drew (by omega) RX.out).mono ?_; rintro e w5 ⟨⟨v, rfl, ho⟩, hb5⟩; obtain ⟨Al, cl, rfl, _, _, har, _⟩ := Arr.own2 ho; have HAR := hide har; have HB5 := hide (below_transD (B := wX.heap.size) (a := wX) hb5 (Below.refl _ _).drew); have R5 := hide (RX.out.below hb5); clear ho har hb5))
    all_goals
      go_wp2_with fail
    all_goals
      go_meet
      have hz5 := HB5.out.size
      refine ⟨w5.heap.size, ⟨k, en, na, 0, words, Al, (locF L (k : Int)).length, cl, locF L (k : Int), none, 0, 0, [], .slice none 0 0⟩, rfl, ⟨Blk.new w5 _ _, by show w5.heap.size ≠ gc; omega, by simp, Nat.le_trans hlocl (by omega), by show 0 ≤ 100000; omega, ⟨(InRow.of_arr HAR.out).below ((Below.refl _ _).alloc (Nat.le_refl _) _), fun hn0 ad e1 => ?_⟩, RowG.nil_ _ _ _ _⟩, rfl, rfl, rfl, HB5.out.alloc HB5.out.size _⟩
      obtain ⟨bb, e2, h1, h2, _⟩ := HAR.out.2 hn0
      change Al = some ad at e1
      rw [e1] at e2
      cases e2
      have hdz : wX.drew.heap.size = wX.heap.size := rfl
      exact ⟨by show bb ≠ gc; omega, by simp⟩
  case rest =>
    obtain ⟨gs, s, rfl, hs, hnc, hfu, hend, hbc⟩ := hcut
    have SC := hide hs
    have HNC := hide hnc
    have HFU := hide hfu
    have HEND := hide hend
    have BC := hide (BX.out.trans (hbc.mono BX.out.size))
    have CC := hide (CX.out.kept hbc)
    have m2 := hs.1.cell 2
    have m3 := hs.1.cell 3
    simp at m2 m3
    obtain ⟨_, _, most, depth, Ai, ci, vn, hkk, _, _⟩ := CC.out
    have k7 := hkk.cell 7
    have f7 := hkk.frozen 7
    simp at k7
    clear hs hnc hfu hend hbc hkk px
    go_upto_region 3 with fail
    go_still_tail 13, (by kernel_rfl)
    change wpList _ _ _ _ _ wc.drew
    have DM := hide (fun d => (CC.out.kept (Below.refl _ _).drew).most d)
    have hfc : w.heap.size ≤ wc.heap.size := BC.out.size
    have EVD := hide (Ev.of_below (Below.refl wc.heap.size wc).drew gc none)
    go_wp2_with fail
    all_goals
      have CM := hide (CC.out.most (wrap64 ((s.nl : Int) - s.ar)))
      have C7 := hide (CM.out.1.kept (Below.refl _ _).drew)
      have V7 := hide (CM.out.2.trans (Ev.of_below (Below.refl _ _).drew _ _))
      have S7 := hide (SC.out.ev V7.out)
      have B7 := hide (BC.out.trans (CC.out.below V7.out hfc))
      refine (i_addS _ _ gc gs _ pr _ s _ _ _ _ C7.out S7.out (by simp) B7.out.size).mono ?_
      rintro e w5 ⟨rfl, x, ib1, ⟨h1, h2, h3, h4, h5⟩, hc5, hv5⟩
      have C8 := hide hc5
      have V8 := hide hv5
      have S8 := hide (S7.out.ev hv5)
      have B8 := hide (B7.out.trans (C7.out.below hv5 B7.out.size))
      clear hc5 hv5
      go_wp2_with fail
      refine (i_lines0 w w5 gc gs k en _ pr ([] ++ [x]) s L C8.out S8.out HNC.out (by rw [HPR.out]) ⟨by simp, by simp⟩ B8.out (by rw [HPR.out]; exact HR.out) (by rw [HPR.out]; exact hn) HFU.out HEND.out hke (by rw [HPR.out]; exact hel) HOK.out).mono ?_
      rintro e w6 ⟨rfl, J, hg, ib2, hc6, hv6⟩
      have B9 := hide (B8.out.trans (C8.out.below hv6 B8.out.size))
      obtain ⟨_, _, most6, depth6, Ai6, ci6, vn6, hkk6, hown6, _⟩ := hc6
      have O6 := hide hown6
      have G6 := hide hg
      have k8 := hkk6.cell 8
      have k7' := hkk6.cell 7
      simp at k8 k7'
      have HX : Hid ((∀ y ∈ J, y.n = 0) ∧ cntI J = cSum L (k + 1) (en + 1) ∧ 1 ≤ J.length ∧ J.length ≤ 100000) := by
        refine ⟨hg.all (fun y hy => ?_), ?_, ?_, ?_⟩
        · obtain rfl : y = x := by simpa using hy
          rw [h5]; exact HNC.out
        · have e0 : cntI ([] ++ [x]) = 0 := by
            simp [cntI]; omega
          have := hg.cnt
          omega
        · have h1 := hg.lo; simp at h1; omega
        · have h1 := hg.hi; simp at h1; omega
      clear hkk6 hown6 hg hv6 h1 h2 h3 h4 h5
      go_wp2_with fail
      go_quiet (fail)
      go_wp2_with fail
      go_ret2
      first
        | exact ⟨⟨_, J, most6, rfl, own_belowZ O6.out (below_drewN (Below.refl _ _) _), HX.out.1, HX.out.2.1, HX.out.2.2.1, HX.out.2.2.2⟩, below_drewN B9.out _⟩
        | exact ⟨⟨_, J, most6, rfl, O6.out, HX.out.1, HX.out.2.1, HX.out.2.2.1, HX.out.2.2.2⟩, B9.out⟩
end Go.Proofs.Ytcfjbaanahgpoaa
namespace Go.Proofs.Ytcfjbaanahgpoaa
open Go Go.RowKit Go.Maps
set_option maxRecDepth 100000
set_option linter.unusedVariables false
set_option linter.unusedSimpArgs false
/-- What CompileFunction answers without inlining. -/
def CfR (w : World) (calls : Nat) (e : Ending) (w' : World) : Prop := ∃ (v : Value) (I : List It), e = .returned v ∧ w'.ownsRow w.heap.size 49 7 v I.length (I.flatMap itC) ∧ (∀ x ∈ I, x.n = 0) ∧ cntI I = calls ∧ 1 ≤ I.length ∧ I.length ≤ 100000
set_option maxHeartbeats 4000000 in
theorem i_compileFunction0 (A : Option Addr) (n c f k en : Nat) (fr : Int) (fold split : Bool) (L : List Ln) (w : World) (h : InLines w A n L) (hp : progS L = true) (hf : f < (funsF L).length) (hfk : (funsF L)[f] = (k : Int)) (hen : endOfF L k = en) (hfr : 0 ≤ fr ∧ fr ≤ 63) :
    Calls Try.prog 25 #[.slice A n c, .int .i64 f, .agg #[.int .i64 fr, .int .i64 0, .bool fold, .bool split]] w fun e w' => CfR w (cSum L (k + 1) (en + 1)) e w' ∧ Below w.heap.size w w' := by
  have H := hide h
  have HL := hide h.len
  have hlen := h.len
  obtain ⟨⟨hl1, hl60⟩, hok⟩ := prog_lines hp
  have HOK := hide hok
  have HSZ : Hid (∀ x ∈ L, LnSz x) := fun x hx => (lineOk_szQ (hok x hx)).1
  have hT : n + lnTot L ≤ 1048576 := by have h1 := lnTot_leQ L (fun x hx => (lineOk_szQ (hok x hx)).2); omega
  have hf6 : (funsF L).length ≤ 6 := (yes_out hp).2.2.2.1
  obtain ⟨k', en', e1, e2, hke, hel⟩ := prog_end hp _ (List.getElem_mem hf)
  rw [hfk] at e1 e2
  have e1' : k = k' := by omega
  subst e1'
  have e2' : en = en' := by rw [hen] at e2; omega
  subst e2'
  have HEN := hide hen
  have HFK := hide hfk
  have HP := hide hp
  have hn60 : n ≤ 60 := by omega
  have hhe : en < n := by omega
  clear h hok hfk hen e2 hp
  go_enter Try.func25, Try.ntmps25
  go_wp2_with fail
  have KB := hide (Blk.new w 37 #[.int .i64 fr, .int .i64 0, .bool fold, .bool split])
  have BB := hide ((Below.refl w.heap.size w).alloc (Nat.le_refl _) (.cells #[.int .i64 fr, .int .i64 0, .bool fold, .bool split] 37))
  generalize w.alloc (.cells #[.int .i64 fr, .int .i64 0, .bool fold, .bool split] 37) = w0 at *
  refine (i_programOkF A n c L _ hT (H.out.below BB.out) HSZ.out).mono ?_
  rintro e w1 ⟨rfl, hb1⟩
  rw [HP.out]
  have B1 := hide (BB.out.trans (hb1.mono BB.out.size))
  have K1 := hide (KB.out.below hb1 KB.out.lt)
  have n0 := K1.out.cell 0
  have n1 := K1.out.cell 1
  have n2 := K1.out.cell 2
  have n3 := K1.out.cell 3
  simp at n0 n1 n2 n3
  clear hb1
  go_wp2_with fail
  have hbu : (btw fr 0 63 && btw 0 0 3) = true := by simp [btw]; omega
  refine (i_buildOk _ _ _ _ _).mono ?_
  rintro e w2 ⟨rfl, hb2⟩
  rw [hbu]
  have B2 := hide (B1.out.trans (hb2.mono B1.out.size))
  have K2 := hide (K1.out.below hb2 K1.out.lt)
  clear hb2 n0 n1 n2 n3 hbu
  go_wp2_with fail
  refine (i_funs A n c L _ (by omega) (H.out.below B2.out)).mono ?_
  rintro e w3 ⟨⟨v, rfl, hown⟩, hb3⟩
  obtain ⟨Af, cf, rfl, _, haf⟩ := Arr.of_own hown
  have B3 := hide (B2.out.trans (hb3.mono B2.out.size))
  have K3 := hide (K2.out.below hb3 K2.out.lt)
  clear hown hb3 haf
  have hbt : btw (f : Int) 0 (((funsF L).length : Int) - 1) = true := by simp [btw]; omega
  go_wp2_with fail
  refine (i_between _ _ _ _).mono ?_
  rintro e w' ⟨he, hww⟩
  subst he
  subst hww
  rw [hbt]
  have n0 := K3.out.cell 0
  have n1 := K3.out.cell 1
  have n2 := K3.out.cell 2
  have n3 := K3.out.cell 3
  simp at n0 n1 n2 n3
  clear hbt
  go_upto_if 31 with fail
  go_cut [0] from 30 to 33 (fun s0 wx => ∃ (A2 : Option Addr) (c2 : Nat) (L2 : List Ln), s0 = .slice A2 n c2 ∧ InLines wx A2 n L2 ∧ (∀ x ∈ L2, lineOkF x = true) ∧ funsF L2 = funsF L ∧ endOfF L2 k = en ∧ cSum L2 (k + 1) (en + 1) = cSum L (k + 1) (en + 1) ∧ Below w3.heap.size w3 wx)
  case first =>
    cases fold
    · go_wp2_with fail
      go_meet
      exact ⟨A, c, L, rfl, H.out.below B3.out, HOK.out, rfl, HEN.out, rfl, Below.refl _ _⟩
    · go_wp2_with fail
      refine (i_foldProgram A n c L _ hT (H.out.below B3.out) HSZ.out).mono ?_
      rintro e w4 ⟨⟨A4, c4, rfl, ho4⟩, hb4⟩
      have hpf : foldPF L = L.map foldLn := by unfold foldPF; rw [if_pos HP.out]
      rw [hpf] at ho4 ⊢
      have hln : (L.map foldLn).length = n := by rw [List.length_map]; exact hlen
      have O4 := hide (ho4.in_ hln)
      have B4 := hide hb4
      rw [hln]
      clear ho4 hb4 hpf hln
      go_wp2_with fail
      go_meet
      exact ⟨A4, c4, L.map foldLn, rfl, O4.out, lines_fold HOK.out, funsF_fold L, by rw [endOfF_fold]; exact HEN.out, cSum_fold HOK.out _ _, B4.out⟩
  case rest =>
    obtain ⟨A2, c2, L2, rfl, hr2, hok2, hfu2, hen2, hcs2, hbc⟩ := hcut
    have R2 := hide hr2
    have OK2 := hide hok2
    have FU2 := hide hfu2
    have EN2 := hide hen2
    have CS2 := hide hcs2
    have BC := hide (B3.out.trans (hbc.mono B3.out.size))
    have KC := hide (K3.out.below hbc K3.out.lt)
    clear hr2 hok2 hfu2 hen2 hcs2 hbc n0 n1 n2 n3
    go_wp2_with fail
    refine (i_funs A2 n c2 L2 _ (by omega) R2.out).mono ?_
    rintro e w5 ⟨⟨v, rfl, hown⟩, hb5⟩
    rw [FU2.out] at hown
    obtain ⟨Af5, cf5, rfl, _, haf5⟩ := Arr.of_own hown
    obtain ⟨bo, oo, rfl, _, cfk⟩ := (InRow.of_arr haf5).int f hf
    rw [HFK.out] at cfk
    have hfi : (f : Int) < ((funsF L).length : Int) := by omega
    have B5 := hide (BC.out.trans (hb5.mono BC.out.size))
    have K5 := hide (KC.out.below hb5 KC.out.lt)
    have R5 := hide (R2.out.below hb5)
    have hkn : k < n := by omega
    clear hown haf5 hb5
    have n0 := K5.out.cell 0
    have n1 := K5.out.cell 1
    have n2 := K5.out.cell 2
    have n3 := K5.out.cell 3
    simp at n0 n1 n2 n3
    go_wp2_with fail
    refine (i_compile0 A2 n c2 k en fr 0 fold split _ L2 _ (by omega) R5.out OK2.out hkn EN2.out (by omega) hhe).mono ?_
    rintro e w6 ⟨⟨v6, I6, most, rfl, _, _, _, _, _⟩, hb6⟩
    have B6 := hide (B5.out.trans (hb6.mono B5.out.size))
    have K6 := hide (K5.out.below hb6 K5.out.lt)
    have R6 := hide (R5.out.below hb6)
    clear hb6 n0 n1 n2 n3
    have n0 := K6.out.cell 0
    have n1 := K6.out.cell 1
    have n2 := K6.out.cell 2
    have n3 := K6.out.cell 3
    simp at n0 n1 n2 n3
    go_wp2_with fail
    refine (i_compile0 A2 n c2 k en fr _ fold split _ L2 _ (by omega) R6.out OK2.out hkn EN2.out (by omega) hhe).mono ?_
    rintro e w7 ⟨⟨v7, I7, most7, rfl, ho7, h71, h72, h73, h74⟩, hb7⟩
    have B7 := hide (B6.out.trans (hb7.mono B6.out.size))
    have X7 := hide (And.intro (own_base ho7 B6.out.size) (And.intro h71 (And.intro (h72.trans CS2.out) (And.intro h73 h74))))
    clear hb7 ho7 h71 h72 h73 h74
    go_wp2_with fail
    go_ret
    exact ⟨⟨v7, I7, rfl, X7.out.1, X7.out.2.1, X7.out.2.2.1, X7.out.2.2.2.1, X7.out.2.2.2.2⟩, B7.out⟩
end Go.Proofs.Ytcfjbaanahgpoaa
