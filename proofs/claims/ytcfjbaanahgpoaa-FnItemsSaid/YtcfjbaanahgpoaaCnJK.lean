import Derived.Test.YtcfjbaanahgpoaaCnI
import Derived.Test.YtcfjbaanahgpoaaFPi
import Derived.Test.YtcfjbaanahgpoaaTm
import Derived.Deep.CutBlock
namespace Go.Proofs.Ytcfjbaanahgpoaa
open Go Go.RowKit Go.Maps
set_option maxRecDepth 100000
set_option linter.unusedVariables false
set_option linter.unusedSimpArgs false
/-- How many items a token may put, when calls may be replaced so many times within each other. -/
def TT : Nat → Nat
  | 0 => 1
  | m + 1 => 50 + 9 * (20 * TT m + 6)
theorem TT_pos : ∀ m, 1 ≤ TT m
  | 0 => Nat.le_refl _
  | m + 1 => by rw [TT]; omega
theorem TT_le (m : Nat) (h : m ≤ 3) : 20 * TT m + 6 ≤ 200000000 := by
  rcases (show m = 0 ∨ m = 1 ∨ m = 2 ∨ m = 3 by omega) with rfl | rfl | rfl | rfl <;> simp [TT]
theorem lin_level (w0 : World) (gc : Nat) (L : List Ln) (hp : progS L = true) : ∀ (m : Nat) (pr : Prm) (nc : Nat), (nc : Int) + m = pr.inl → pr.inl ≤ 3 → pr.ins + m ≤ 99 → pr.n ≤ 60 → InLines w0 pr.A pr.n L → LinC w0 gc pr L nc (20 * TT m + 6) := by
  intro m
  induction m with
  | zero =>
    intro pr nc h1 h2 h3 h4 h5
    refine i_lines w0 gc nc 1 pr L (Nat.le_refl _) (by omega) h4 h5 hp (fun gs s line hs hl => ?_)
    intro w I ib k begin hlt
    exact absurd hlt (by omega)
  | succ m ih =>
    intro pr nc h1 h2 h3 h4 h5
    refine i_lines w0 gc nc (TT (m + 1)) pr L (TT_pos _) (by omega) h4 h5 hp (fun gs s line hs hl => ?_)
    refine i_replace w0 gc gs (20 * TT m + 6) pr s line L hl h2 h4 h5 hp (by omega) ?_
    rw [hs]
    exact ih { pr with ins := pr.ins + 1 } (nc + 1) (by show ((nc + 1 : Nat) : Int) + m = pr.inl; omega) h2 (by show pr.ins + 1 + m ≤ 99; omega) h4 h5
theorem locFold_ge (M : List Ln) : ∀ acc, acc.length ≤ (locFold M acc).length := by
  induction M with
  | nil => intro acc; exact Nat.le_refl _
  | cons x M ih =>
    intro acc
    have h1 := ih (locStep acc x)
    have h2 : acc.length ≤ (locStep acc x).length := by unfold locStep; split <;> simp
    exact Nat.le_trans h2 h1
theorem locF_ge {L : List Ln} {k e : Nat} (h : endOfF L k = e) (h0 : (lnAtD L k).1 = 0) : (lnAtD L k).2.2.1.length ≤ (locF L (k : Int)).length := by
  unfold locF
  rw [Int.toNat_natCast, if_pos ⟨by omega, h0⟩]
  exact locFold_ge _ _
theorem own_blk1 {w : World} {b base : Nat} {e : TypeId} {x : Value} (h : Blk w b e #[x]) (hb : base ≤ b) : w.ownsRow base e 1 (.slice (some ⟨b, 0, none⟩) 1 1) 1 [x] :=
  ⟨rfl, .inr ⟨b, 1, #[x], rfl, hb, h, Nat.le_refl _, by unfold maxLen; omega, by simp, by simp⟩⟩
/-- What holds of the items of a whole function. -/
def FinC (n : Nat) (inl : Int) (fu en : Nat) (L : List Ln) (words : Int) (I : List It) : Prop :=
  (∀ x ∈ I, 0 ≤ x.line ∧ x.line < (n : Int) ∧ (x.n : Int) ≤ inl ∧ (x.code = 10 ∨ x.code = 11 → 0 ≤ x.arg ∧ x.arg < (I.length : Int))) ∧ 3 ≤ I.length ∧ (∃ x, I[0]? = some x ∧ (x.code = 13 ∨ x.code = 15) ∧ (0 ≤ words → 0 ≤ x.arg)) ∧ ∀ l : Nat, fu < l → l < en → hasExprF (lnAtD L l).1 = true → StAt I (l : Int)
theorem finC_of {n : Nat} {inl : Int} {fu en : Nat} {L : List Ln} {words : Int} {x : It} {J : List It} {a : Nat} (hx : (x.code = 13 ∨ x.code = 15) ∧ x.arg = words ∧ (0 ≤ x.line ∧ x.line < (n : Int)) ∧ (x.n : Int) ≤ inl) (hg : Gro n inl ([] ++ [x]) J a) (hf : LinF fu en L n inl ([] ++ [x]) J) : FinC n inl fu en L words J := by
  obtain ⟨h1, h2, h3, h4⟩ := hx
  have hok : IOk n inl ([] ++ [x]) := fun y hy => by
    obtain rfl : y = x := by simpa using hy
    exact ⟨h3.1, h3.2, h4, fun e => by omega⟩
  obtain ⟨g1, g2, g3⟩ := hf
  refine ⟨fun y hy => ?_, by simp at g2; omega, ?_, g3⟩
  · obtain ⟨k1, k2, k3, _⟩ := hg.ok hok y hy
    exact ⟨k1, k2, k3, g1 hok y hy⟩
  · obtain ⟨y, hy, k⟩ := hg.kp 0 x (by simp)
    exact ⟨y, hy, by rw [k.1]; exact h1, fun hw => k.2.2.2.2 (by omega)⟩
/-- What compile answers. -/
def CmR (w : World) (n : Nat) (inl : Int) (fu en : Nat) (L : List Ln) (words : Int) (e : Ending) (w' : World) : Prop := ∃ (v : Value) (I : List It) (most : Int), e = .returned (.tuple #[v, .int .i64 most]) ∧ w'.ownsRow w.heap.size 49 7 v I.length (I.flatMap itC) ∧ 0 ≤ most ∧ I.length ≤ 1000000000000 ∧ FinC n inl fu en L words I
set_option maxHeartbeats 4000000 in
theorem i_compile (A : Option Addr) (n c k en : Nat) (fr inl words : Int) (fold split framed : Bool) (L : List Ln) (w : World) (hn : n ≤ 60) (h : InLines w A n L) (hp : progS L = true) (hk : k < n) (hk0 : (lnAtD L k).1 = 0) (hen : endOfF L k = en) (hinl : 0 ≤ inl ∧ inl ≤ 3) :
    Calls Try.prog 51 #[.slice A n c, .int .i64 k, .agg #[.int .i64 fr, .int .i64 inl, .bool fold, .bool split], .bool framed, .int .i64 words] w fun e w' => CmR w n inl k en L words e w' ∧ Below w.heap.size w w' := by
  have HR := hide h
  have HLN := hide h.len
  have HP := hide hp
  have hok := (prog_lines hp).2
  have hkl' : k < L.length := by rw [h.len]; exact hk
  obtain ⟨en', e1, hke, hel, hloc8, _⟩ := prog_fnk hp k hkl' hk0
  have hee : en' = en := by omega
  subst hee
  have hna8 := locF_ge e1 hk0
  rw [lnAtD_of L k hkl'] at hna8
  have HK0 := hide hk0
  have HEN := hide hen
  have hkl : k < L.length := by rw [HLN.out]; exact hk
  obtain ⟨b, o, A1, c1, A2, c2, hA', _, _, _, p2, _, _⟩ := h.ln k hkl
  have HSZ : Hid (∀ x ∈ L, LnSz x) := fun x hx => (lineOk_szQ (hok x hx)).1
  have hT : n + lnTot L ≤ 100000 := by have h1 := lnTot_leQ L (fun x hx => (lineOk_szQ (hok x hx)).2); have h2 := HLN.out; omega
  have hkn : (k : Int) < n := by omega
  have hk0 : (0 : Int) ≤ (k : Int) := by omega
  clear hok hen hp hk0 e1
  generalize L[k].2.2.1.length = na at *
  subst hA'
  go_enter Try.func51, Try.ntmps51
  go_upto_region 2 with fail
  have KC := hide (Blk.new ((w.alloc (.cells #[.int .i64 fr, .int .i64 inl, .bool fold, .bool split] 37)).alloc (.cells #[.int .i64 (k : Int)] 3)) 111 #[.slice (some ⟨b, o, none⟩) n c, .int .i64 fr, .int .i64 inl, .bool fold, .bool split, .bool framed, .int .i64 words, .int .i64 0, .slice none 0 0, .int .i64 0, .slice (some ⟨w.heap.size + 1, 0, none⟩) 1 1])
  have BI := hide ((blk_new' (w := w.alloc (.cells #[.int .i64 fr, .int .i64 inl, .bool fold, .bool split] 37)) (b := w.heap.size + 1) (t := 3) (cs := #[.int .i64 (k : Int)]) (by simp)).alloc (.cells #[.slice (some ⟨b, o, none⟩) n c, .int .i64 fr, .int .i64 inl, .bool fold, .bool split, .bool framed, .int .i64 words, .int .i64 0, .slice none 0 0, .int .i64 0, .slice (some ⟨w.heap.size + 1, 0, none⟩) 1 1] 111))
  have hzz : ((w.alloc (.cells #[.int .i64 fr, .int .i64 inl, .bool fold, .bool split] 37)).alloc (.cells #[.int .i64 (k : Int)] 3)).heap.size = w.heap.size + 1 + 1 := by simp
  rw [hzz] at KC
  have BX := hide ((((Below.refl w.heap.size w).alloc (Nat.le_refl _) (.cells #[.int .i64 fr, .int .i64 inl, .bool fold, .bool split] 37)).alloc (by simp) (.cells #[.int .i64 (k : Int)] 3)).alloc (by simp; omega) (.cells #[.slice (some ⟨b, o, none⟩) n c, .int .i64 fr, .int .i64 inl, .bool fold, .bool split, .bool framed, .int .i64 words, .int .i64 0, .slice none 0 0, .int .i64 0, .slice (some ⟨w.heap.size + 1, 0, none⟩) 1 1] 111))
  generalize ((w.alloc (.cells #[.int .i64 fr, .int .i64 inl, .bool fold, .bool split] 37)).alloc (.cells #[.int .i64 (k : Int)] 3)).alloc (.cells #[.slice (some ⟨b, o, none⟩) n c, .int .i64 fr, .int .i64 inl, .bool fold, .bool split, .bool framed, .int .i64 words, .int .i64 0, .slice none 0 0, .int .i64 0, .slice (some ⟨w.heap.size + 1, 0, none⟩) 1 1] 111) = wX at *
  have hgc : w.heap.size ≤ w.heap.size + 1 + 1 := by omega
  have hgc1 : w.heap.size + 1 < w.heap.size + 1 + 1 := by omega
  generalize w.heap.size + 1 + 1 = gc at *
  obtain ⟨pr, hpr⟩ : ∃ pr : Prm, pr = ⟨some ⟨b, o, none⟩, n, c, fr, inl, fold, split, framed, words, 1⟩ := ⟨_, rfl⟩
  have CX : Hid (CSt wX w.heap.size gc pr [] [w.heap.size + 1]) := by
    show CSt _ _ _ _ _ _
    rw [hpr]
    exact ⟨hgc, by simp; omega, by show (1 : Nat) ≤ 100; omega, 0, 0, none, 0, some ⟨w.heap.size + 1, 0, none⟩, 1, [(k : Int)], Int.le_refl _, KC.out, World.ownsRow_nil _ _ _ _, own_blk1 BI.out (Nat.le_succ _), fun b hb => (by cases hb), rfl⟩
  have HPR := hide hpr
  have px := (BX.out.cell (block_lt_of_cell p2)).trans p2
  have RX := hide (HR.out.below (BX.out.drew))
  have PX : Hid (∀ w', Below wX.heap.size wX w' → w'.cell? ⟨b, o + k * 4 + 2, none⟩ = some (.slice A1 na c1)) := fun w' hb => (hb.cell (block_lt_of_cell px)).trans px
  have hgX := KC.out.lt
  clear p2 hzz KC hpr
  go_cut [13] from 23 to 38 (fun s13 wx => ∃ (gs : Nat) (s : Scd), s13 = .pointer (some ⟨gs, 0, none⟩) ∧ ScJ wx w.heap.size gc [w.heap.size + 1] gs s [] [] 0 ∧ s.nc = 0 ∧ s.fu = k ∧ s.en = en' ∧ s.nl ≤ 8 ∧ s.ar ≤ s.nl ∧ 0 ≤ s.ar ∧ wX.heap.size ≤ gs ∧ Below wX.heap.size wX wx)
  case first =>
    go_region_held3 (fun w' => w'.cell? ⟨b, o + k * 4 + 2, none⟩ = some (.slice A1 na c1)) (first | exact px | exact PX.out _ HB5.out | exact PX.out _ (HB5.out.alloc HB5.out.size _)) (first
      | (go_at_call 11; refine (i_endOf _ n c L _ wX.drew (by omega) RX.out).mono ?_; rintro e w' ⟨he, hww⟩; subst hww; rw [HEN.out] at he; subst he)
      | (go_at_call 11; refine (i_endOf _ n c L _ w5 (by omega) R5.out).mono ?_; rintro e w' ⟨he, hww⟩; subst hww; rw [HEN.out] at he; subst he)
      | (go_at_call 16; refine (i_localsOf _ n c L _ wX.drew (by omega) RX.out).mono ?_; rintro e w5 ⟨⟨v, rfl, ho⟩, hb5⟩; obtain ⟨Al, cl, rfl, _, _, har, _⟩ := Arr.own2 ho; have HAR := hide har; have HB5 := hide (below_transD (B := wX.heap.size) (a := wX) hb5 (Below.refl _ _).drew); have R5 := hide (RX.out.below hb5); clear ho har hb5)
      | fail)
    all_goals
      go_wp2_with fail
    all_goals
      go_meet
      have hz5 := HB5.out.size
      have hdz : wX.drew.heap.size = wX.heap.size := rfl
      refine ⟨w5.heap.size, ⟨k, en', na, 0, words, Al, (locF L (k : Int)).length, cl, locF L (k : Int), none, 0, 0, [], .slice none 0 0⟩, rfl, ⟨Blk.new w5 _ _, by show w5.heap.size ≠ gc; omega, by simp; omega, by show (locF L (k : Int)).length ≤ 100000; omega, by show 0 ≤ 100000; omega, ⟨(InRow.of_arr HAR.out).below ((Below.refl _ _).alloc (Nat.le_refl _) _), fun hn0 ad e1 => ?_⟩, RowG.nil_ _ _ _ _, ⟨none, 0, rfl⟩, World.ownsRow_nil _ _ _ _, rfl, fun b hb => (by cases hb), fun j hj => (by cases hj)⟩, rfl, rfl, rfl, hloc8, by show (na : Int) ≤ ((locF L (k : Int)).length : Nat); omega, by show (0 : Int) ≤ (na : Int); omega, hz5, HB5.out.alloc HB5.out.size _⟩
      obtain ⟨bb, e2, h1, h2, _⟩ := HAR.out.2 hn0
      change Al = some ad at e1
      rw [e1] at e2
      cases e2
      exact ⟨by show bb ≠ gc; omega, fun e3 => by
        have e4 : bb = w5.heap.size ∨ bb = w.heap.size + 1 := by simpa using e3
        omega⟩
  case rest =>
    obtain ⟨gs, s, rfl, hs, hnc, hfu, hend, hsl, hsa, hsa0, hgs, hbc⟩ := hcut
    have SCJ := hide hs
    have SC := hide hs.scp
    have HNC := hide hnc
    have HFU := hide hfu
    have HEND := hide hend
    have BC := hide (BX.out.trans (hbc.mono BX.out.size))
    have CC := hide (CX.out.kept hbc)
    have m2 := hs.k.cell 2
    have m3 := hs.k.cell 3
    simp at m2 m3
    obtain ⟨_, _, _, most, depth, Ai, ci, An, cn, ns, _, hkk, _, _, _, _⟩ := CC.out
    have k7 := hkk.cell 7
    have f7 := hkk.frozen 7
    simp at k7
    clear hs hnc hfu hend hbc hkk px
    go_upto_region 3 with fail
    go_still_tail 13, (by kernel_rfl)
    change wpList _ _ _ _ _ wc.drew
    have hfc : w.heap.size ≤ wc.heap.size := BC.out.size
    go_wp2_with fail
    all_goals
      have CM := hide (CC.out.most ((s.nl : Int) - s.ar) (by omega))
      have C7 := hide (CM.out.1.kept (Below.refl _ _).drew)
      have V7 := hide (CM.out.2.trans (Ev.of_below (Below.refl _ _).drew _ _))
      have S7 := hide (SC.out.ev V7.out)
      have J7 := hide (SCJ.out.ev V7.out (Nat.le_refl _))
      have B7 := hide (BC.out.trans (CC.out.below V7.out hfc))
      refine (i_addS _ _ gc gs _ pr _ s _ _ _ _ C7.out S7.out (by simp) B7.out.size).mono ?_
      rintro e w5 ⟨rfl, x, ib1, ⟨h1, h2, h3, h4, h5⟩, hc5, hv5⟩
      have C8 := hide hc5
      have V8 := hide hv5
      have S8 := hide (J7.out.ev hv5 (show 0 ≤ ([] ++ [x] : List It).length by omega))
      have HX5 : Hid ((x.code = 13 ∨ x.code = 15) ∧ x.arg = words ∧ (0 ≤ x.line ∧ x.line < (n : Int)) ∧ (x.n : Int) ≤ inl) := ⟨by omega, h2, by rw [h3]; omega, by rw [h5, HNC.out]; exact hinl.1⟩
      have B8 := hide (B7.out.trans (C7.out.below hv5 B7.out.size))
      clear hc5 hv5
      go_wp2_with fail
      have hbd := TT_le inl.toNat (by omega)
      have LL := hide (lin_level w gc L HP.out inl.toNat pr 0 (by rw [HPR.out]; show ((0 : Nat) : Int) + (inl.toNat : Int) = inl; omega) (by rw [HPR.out]; exact hinl.2) (by rw [HPR.out]; show 1 + inl.toNat ≤ 99; omega) (by rw [HPR.out]; exact hn) (by rw [HPR.out]; exact HR.out) w5 gs ([] ++ [x]) _ s k en' HNC.out HFU.out HEND.out (by rw [HPR.out]; exact hk) HK0.out HEN.out C8.out S8.out B8.out (by have h1 := BX.out.size; omega) (by simp) (by
        have h1 : (en' - k) * (20 * TT inl.toNat + 6) ≤ 60 * 200000000 := Nat.mul_le_mul (by have := HLN.out; omega) hbd
        simp only [List.nil_append, List.length_singleton]
        omega))
      refine (LL.out).mono ?_
      rintro e w6 ⟨rfl, J, ib2, jb2, Jm2, vj2, hg, hc6, hj6, hv6, hlf⟩
      have B9 := hide (B8.out.trans (hv6.below C8.out.1 (fun b hb => by
        rcases List.mem_cons.1 hb with hb | hb
        · have h1 := BX.out.size; omega
        · exact (C8.out.rows b hb).1) B8.out.size))
      obtain ⟨_, _, _, most6, depth6, Ai6, ci6, An6, cn6, ns6, hm6, hkk6, hown6, _, _, _⟩ := hc6
      have O6 := hide hown6
      have G6 := hide hg
      have k8 := hkk6.cell 8
      have k7' := hkk6.cell 7
      simp at k8 k7'
      have HX : Hid (0 ≤ most6 ∧ J.length ≤ 1000000000000 ∧ FinC n inl k en' L words J) := by
        have hgo : Gro n inl ([] ++ [x]) J ((en' - k) * (20 * TT inl.toNat + 6)) := by have := hg; rw [HPR.out] at this; exact this
        have hlo : LinF k en' L n inl ([] ++ [x]) J := by have := hlf rfl; rw [HPR.out] at this; exact this
        refine ⟨hm6, ?_, finC_of HX5.out hgo hlo⟩
        have h1 : (en' - k) * (20 * TT inl.toNat + 6) ≤ 60 * 200000000 := Nat.mul_le_mul (by have := HLN.out; omega) hbd
        have h2 := hgo.hi
        simp only [List.nil_append, List.length_singleton] at h2
        omega
      clear hkk6 hown6 hg hv6 hlf hj6 h1 h2 h3 h4 h5
      go_wp2_with fail
      go_quiet (fail)
      go_wp2_with fail
      go_ret2
      first
        | exact ⟨⟨_, J, most6, rfl, own_belowZ O6.out (below_drewN (Below.refl _ _) _), HX.out⟩, below_drewN B9.out _⟩
        | exact ⟨⟨_, J, most6, rfl, O6.out, HX.out⟩, B9.out⟩
end Go.Proofs.Ytcfjbaanahgpoaa
namespace Go.Proofs.Ytcfjbaanahgpoaa
open Go Go.RowKit Go.Maps
set_option maxRecDepth 100000
set_option linter.unusedVariables false
set_option linter.unusedSimpArgs false
/-- What CompileFunction answers for a program in order. -/
def CfR (w : World) (n : Nat) (inl : Int) (fu en : Nat) (L : List Ln) (e : Ending) (w' : World) : Prop := ∃ (v : Value) (I : List It), e = .returned v ∧ w'.ownsRow w.heap.size 49 7 v I.length (I.flatMap itC) ∧ I.length ≤ 1000000000000 ∧ FinC n inl fu en L 0 I
theorem finC_fold {n : Nat} {inl : Int} {fu en : Nat} {L L2 : List Ln} {words : Int} {I : List It} (hw : 0 ≤ words) (hk : ∀ l : Nat, (lnAtD L2 l).1 = (lnAtD L l).1) (h : FinC n inl fu en L2 words I) : FinC n inl fu en L 0 I := by
  obtain ⟨h1, h2, ⟨x, h3, h4, h5⟩, h6⟩ := h
  exact ⟨h1, h2, ⟨x, h3, h4, fun _ => h5 hw⟩, fun l a b c => h6 l a b (by rw [hk l]; exact c)⟩
set_option maxHeartbeats 4000000 in
theorem i_compileNil (A : Option Addr) (n c f : Nat) (fr inl : Int) (fold split : Bool) (L : List Ln) (w : World) (h : InLines w A n L) (hsz : ∀ x ∈ L, LnSz x) (hT : n + lnTot L ≤ 1048576) (hp : progS L = false) :
    Calls Try.prog 25 #[.slice A n c, .int .i64 f, .agg #[.int .i64 fr, .int .i64 inl, .bool fold, .bool split]] w fun e w' => e = .returned (.slice none 0 0) ∧ Below w.heap.size w w' := by
  have H := hide h
  have HSZ := hide hsz
  have HP := hide hp
  clear h hsz hp
  go_enter Try.func25, Try.ntmps25
  go_wp2_with fail
  have BB := hide ((Below.refl w.heap.size w).alloc (Nat.le_refl _) (.cells #[.int .i64 fr, .int .i64 inl, .bool fold, .bool split] 37))
  generalize w.alloc (.cells #[.int .i64 fr, .int .i64 inl, .bool fold, .bool split] 37) = w0 at *
  refine (i_programOkF A n c L _ hT (H.out.below BB.out) HSZ.out).mono ?_
  rintro e w1 ⟨rfl, hb1⟩
  rw [HP.out]
  have B1 := hide (BB.out.trans (hb1.mono BB.out.size))
  clear hb1
  go_wp2_with fail
  go_ret
  exact ⟨rfl, B1.out⟩
set_option maxHeartbeats 4000000 in
theorem i_compileFunction (A : Option Addr) (n c f k en : Nat) (fr inl : Int) (fold split : Bool) (L : List Ln) (w : World) (h : InLines w A n L) (hp : progS L = true) (hf : f < (funsF L).length) (hfk : (funsF L)[f] = (k : Int)) (hen : endOfF L k = en) (hfr : 0 ≤ fr ∧ fr ≤ 63) (hinl : 0 ≤ inl ∧ inl ≤ 3) :
    Calls Try.prog 25 #[.slice A n c, .int .i64 f, .agg #[.int .i64 fr, .int .i64 inl, .bool fold, .bool split]] w fun e w' => CfR w n inl k en L e w' ∧ Below w.heap.size w w' := by
  have H := hide h
  have HL := hide h.len
  have hlen := h.len
  obtain ⟨⟨hl1, hl60⟩, hok⟩ := prog_lines hp
  have HOK := hide hok
  have HSZ : Hid (∀ x ∈ L, LnSz x) := fun x hx => (lineOk_szQ (hok x hx)).1
  have hT : n + lnTot L ≤ 1048576 := by have h1 := lnTot_leQ L (fun x hx => (lineOk_szQ (hok x hx)).2); omega
  have hf6 : (funsF L).length ≤ 6 := (yes_out hp).2.2.2.1
  obtain ⟨k', en', e1, e2, hke, hel⟩ := prog_end hp _ (List.getElem_mem hf)
  rw [hfk] at e1 e2
  have e1' : k = k' := by omega
  subst e1'
  have e2' : en = en' := by rw [hen] at e2; omega
  subst e2'
  have HEN := hide hen
  have HFK := hide hfk
  have HP := hide hp
  obtain ⟨k0', hk0', hkl', hkind⟩ := funsF_mem L _ (List.getElem_mem hf)
  have hkk : k0' = k := by omega
  subst hkk
  have HKD := hide hkind
  have hn60 : n ≤ 60 := by omega
  have hhe : en < n := by omega
  clear h hok hfk hen e2 hp hk0' hkind
  go_enter Try.func25, Try.ntmps25
  go_wp2_with fail
  have KB := hide (Blk.new w 37 #[.int .i64 fr, .int .i64 inl, .bool fold, .bool split])
  have BB := hide ((Below.refl w.heap.size w).alloc (Nat.le_refl _) (.cells #[.int .i64 fr, .int .i64 inl, .bool fold, .bool split] 37))
  generalize w.alloc (.cells #[.int .i64 fr, .int .i64 inl, .bool fold, .bool split] 37) = w0 at *
  refine (i_programOkF A n c L _ hT (H.out.below BB.out) HSZ.out).mono ?_
  rintro e w1 ⟨rfl, hb1⟩
  rw [HP.out]
  have B1 := hide (BB.out.trans (hb1.mono BB.out.size))
  have K1 := hide (KB.out.below hb1 KB.out.lt)
  have n0 := K1.out.cell 0
  have n1 := K1.out.cell 1
  have n2 := K1.out.cell 2
  have n3 := K1.out.cell 3
  simp at n0 n1 n2 n3
  clear hb1
  go_wp2_with fail
  have hbu : (btw fr 0 63 && btw inl 0 3) = true := by simp [btw]; omega
  refine (i_buildOk _ _ _ _ _).mono ?_
  rintro e w2 ⟨rfl, hb2⟩
  rw [hbu]
  have B2 := hide (B1.out.trans (hb2.mono B1.out.size))
  have K2 := hide (K1.out.below hb2 K1.out.lt)
  clear hb2 n0 n1 n2 n3 hbu
  go_wp2_with fail
  refine (i_funs A n c L _ (by omega) (H.out.below B2.out)).mono ?_
  rintro e w3 ⟨⟨v, rfl, hown⟩, hb3⟩
  obtain ⟨Af, cf, rfl, _, haf⟩ := Arr.of_own hown
  have B3 := hide (B2.out.trans (hb3.mono B2.out.size))
  have K3 := hide (K2.out.below hb3 K2.out.lt)
  clear hown hb3 haf
  have hbt : btw (f : Int) 0 (((funsF L).length : Int) - 1) = true := by simp [btw]; omega
  go_wp2_with fail
  refine (i_between _ _ _ _).mono ?_
  rintro e w' ⟨he, hww⟩
  subst he
  subst hww
  rw [hbt]
  have n0 := K3.out.cell 0
  have n1 := K3.out.cell 1
  have n2 := K3.out.cell 2
  have n3 := K3.out.cell 3
  simp at n0 n1 n2 n3
  clear hbt
  go_upto_if 31 with fail
  go_cut [0] from 30 to 33 (fun s0 wx => ∃ (A2 : Option Addr) (c2 : Nat) (L2 : List Ln), s0 = .slice A2 n c2 ∧ InLines wx A2 n L2 ∧ progS L2 = true ∧ funsF L2 = funsF L ∧ endOfF L2 k0' = en ∧ (∀ l : Nat, (lnAtD L2 l).1 = (lnAtD L l).1) ∧ Below w3.heap.size w3 wx)
  case first =>
    cases fold
    · go_wp2_with fail
      go_meet
      exact ⟨A, c, L, rfl, H.out.below B3.out, HP.out, rfl, HEN.out, fun _ => rfl, Below.refl _ _⟩
    · go_wp2_with fail
      refine (i_foldProgram A n c L _ hT (H.out.below B3.out) HSZ.out).mono ?_
      rintro e w4 ⟨⟨A4, c4, rfl, ho4⟩, hb4⟩
      have hpf : foldPF L = L.map foldLn := by unfold foldPF; rw [if_pos HP.out]
      rw [hpf] at ho4 ⊢
      have hln : (L.map foldLn).length = n := by rw [List.length_map]; exact hlen
      have O4 := hide (ho4.in_ hln)
      have B4 := hide hb4
      rw [hln]
      clear ho4 hb4 hpf hln
      go_wp2_with fail
      go_meet
      exact ⟨A4, c4, L.map foldLn, rfl, O4.out, prog_fold HP.out, funsF_fold L, by rw [endOfF_fold]; exact HEN.out, fun l => by rw [lnAtD_fold]; rfl, B4.out⟩
  case rest =>
    obtain ⟨A2, c2, L2, rfl, hr2, hok2, hfu2, hen2, hcs2, hbc⟩ := hcut
    have R2 := hide hr2
    have OK2 := hide hok2
    have FU2 := hide hfu2
    have EN2 := hide hen2
    have CS2 := hide hcs2
    have BC := hide (B3.out.trans (hbc.mono B3.out.size))
    have KC := hide (K3.out.below hbc K3.out.lt)
    clear hr2 hok2 hfu2 hen2 hcs2 hbc n0 n1 n2 n3
    go_wp2_with fail
    refine (i_funs A2 n c2 L2 _ (by omega) R2.out).mono ?_
    rintro e w5 ⟨⟨v, rfl, hown⟩, hb5⟩
    rw [FU2.out] at hown
    obtain ⟨Af5, cf5, rfl, _, haf5⟩ := Arr.of_own hown
    obtain ⟨bo, oo, rfl, _, cfk⟩ := (InRow.of_arr haf5).int f hf
    rw [HFK.out] at cfk
    have hfi : (f : Int) < ((funsF L).length : Int) := by omega
    have B5 := hide (BC.out.trans (hb5.mono BC.out.size))
    have K5 := hide (KC.out.below hb5 KC.out.lt)
    have R5 := hide (R2.out.below hb5)
    have hkn : k0' < n := by omega
    clear hown haf5 hb5
    have n0 := K5.out.cell 0
    have n1 := K5.out.cell 1
    have n2 := K5.out.cell 2
    have n3 := K5.out.cell 3
    simp at n0 n1 n2 n3
    go_wp2_with fail
    refine (i_compile A2 n c2 k0' en fr inl 0 fold split _ L2 _ hn60 R5.out OK2.out hkn ((CS2.out k0').trans HKD.out) EN2.out hinl).mono ?_
    rintro e w6 ⟨⟨v6, I6, most, rfl, _, hmost, _, _⟩, hb6⟩
    have B6 := hide (B5.out.trans (hb6.mono B5.out.size))
    have K6 := hide (K5.out.below hb6 K5.out.lt)
    have R6 := hide (R5.out.below hb6)
    clear hb6 n0 n1 n2 n3
    have n0 := K6.out.cell 0
    have n1 := K6.out.cell 1
    have n2 := K6.out.cell 2
    have n3 := K6.out.cell 3
    simp at n0 n1 n2 n3
    go_wp2_with fail
    refine (i_compile A2 n c2 k0' en fr inl _ fold split _ L2 _ hn60 R6.out OK2.out hkn ((CS2.out k0').trans HKD.out) EN2.out hinl).mono ?_
    rintro e w7 ⟨⟨v7, I7, most7, rfl, ho7, _, h71, h72⟩, hb7⟩
    have B7 := hide (B6.out.trans (hb7.mono B6.out.size))
    have X7 := hide (And.intro (own_base ho7 B6.out.size) (And.intro h71 (finC_fold hmost CS2.out h72)))
    clear hb7 ho7 h71 h72
    go_wp2_with fail
    go_ret
    exact ⟨⟨v7, I7, rfl, X7.out.1, X7.out.2.1, X7.out.2.2⟩, B7.out⟩
end Go.Proofs.Ytcfjbaanahgpoaa
