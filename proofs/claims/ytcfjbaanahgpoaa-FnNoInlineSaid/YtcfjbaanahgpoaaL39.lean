import Derived.Test.YtcfjbaanahgpoaaCmJK
import Derived.Test.YtcfjbaanahgpoaaDrBl
import Derived.Test.YtcfjbaanahgpoaaIn
namespace Go.Proofs.Ytcfjbaanahgpoaa
open Go Go.RowKit
set_option maxRecDepth 100000
set_option linter.unusedVariables false
set_option linter.unusedSimpArgs false
namespace fnNoInline
theorem endFrom_seven : ∀ (M : List Ln) (i : Nat) (o : Int) (e : Nat), 1 ≤ o → endFrom M i o = e → i ≤ e ∧ ∃ h : e - i < M.length, (M[e - i]).1 = 7 := by
  intro M
  induction M with
  | nil => intro i o e _ h; simp only [endFrom] at h; omega
  | cons x M ih =>
    intro i o e ho h
    rw [endFrom] at h
    by_cases h0 : o + depF x.1 = 0
    · rw [if_pos h0] at h
      obtain rfl : i = e := by omega
      refine ⟨Nat.le_refl _, by simp, ?_⟩
      have hd := dep_cases x.1
      simp only [Nat.sub_self, List.getElem_cons_zero]
      omega
    · rw [if_neg h0] at h
      have hd := dep_cases x.1
      obtain ⟨h1, h2, h3⟩ := ih (i + 1) _ e (by omega) h
      refine ⟨by omega, by simp; omega, ?_⟩
      have e1 : e - i = (e - (i + 1)) + 1 := by omega
      simp only [e1, List.getElem_cons_succ]
      exact h3
theorem endOf_seven {L : List Ln} {k e : Nat} (h : endOfF L k = e) : (lnAtD L e).1 = 7 := by
  obtain ⟨p, hk, hp, hop, h1, h2, h3⟩ := endOf_pos L k (by omega)
  have hk' : p = k := by omega
  subst hk'
  rw [h] at h3
  obtain ⟨g1, g2, g3⟩ := endFrom_seven _ _ _ _ (by omega) h3.symm
  rw [List.length_drop] at g2
  rw [lnAtD_of L e (by omega)]
  simp only [List.getElem_drop] at g3
  have e1 : p + 1 + (e - (p + 1)) = e := by omega
  simp only [e1] at g3
  exact g3
theorem calls_none {x : Ln} (h : lineOkF x = true) (hx : hasExprF x.1 = false) : callsOf x = 0 := by
  have := (lineOk_partsQ h).2.2.2.2.2.2 hx
  unfold callsOf
  rw [this]
  rfl
/-- The calls of a function's lines, its first and its last line with them or without. -/
theorem cSum_fn {L : List Ln} (hok : ∀ x ∈ L, lineOkF x = true) {k e : Nat} (hk : (lnAtD L k).1 = 0) (he : (lnAtD L e).1 = 7) (hke : k < e) (hel : e < L.length) : cSum L (k + 1) (e + 1) = cSum L k e := by
  have hkl : k < L.length := by omega
  rw [lnAtD_of L k hkl] at hk
  rw [lnAtD_of L e hel] at he
  have c1 : callsOf L[k] = 0 := calls_none (hok _ (List.getElem_mem hkl)) (by rw [hk]; decide)
  have c2 : callsOf L[e] = 0 := calls_none (hok _ (List.getElem_mem hel)) (by rw [he]; decide)
  rw [cSum_succ L (k + 1) e (by omega) hel, c2]
  unfold cSum
  rw [List.drop_eq_getElem_cons hkl, show e - k = (e - (k + 1)) + 1 by omega, List.take_succ_cons, List.map_cons, List.sum_cons, c1]
  omega
/-- How many of the first are calls. -/
def preT (l : List Tk) (i : Nat) : Nat := ((l.take i).filter fun t => decide (t.1 = 7)).length
theorem preT_succ (l : List Tk) (i : Nat) (h : i < l.length) : preT l (i + 1) = preT l i + (if l[i].1 = 7 then 1 else 0) := by
  unfold preT
  rw [List.take_succ_eq_append_getElem h, List.filter_append, List.length_append]
  by_cases h7 : l[i].1 = 7 <;> simp [h7]
theorem preT_all (l : List Tk) : preT l l.length = (l.filter fun t => decide (t.1 = 7)).length := by unfold preT; rw [List.take_length]
def preI (l : List It) (i : Nat) : Nat := cntI (l.take i)
theorem preI_succ (l : List It) (i : Nat) (h : i < l.length) : preI l (i + 1) = preI l i + (if l[i].code = 12 then 1 else 0) := by
  unfold preI cntI
  rw [List.take_succ_eq_append_getElem h, List.filter_append, List.length_append]
  by_cases h7 : l[i].code = 12 <;> simp [h7]
theorem preT_le (l : List Tk) (i : Nat) : preT l i ≤ i := by
  unfold preT
  have h1 := List.length_filter_le (fun t : Tk => decide (t.1 = 7)) (l.take i)
  have h2 := List.length_take_le i l
  omega
theorem preI_le (l : List It) (i : Nat) : preI l i ≤ i := by
  unfold preI cntI
  have h1 := List.length_filter_le (fun t : It => decide (t.code = 12)) (l.take i)
  have h2 := List.length_take_le i l
  omega
theorem cSum_mono {L : List Ln} (a b e : Nat) (h1 : a ≤ b) (h2 : b ≤ e) (h3 : e ≤ L.length) : cSum L a b ≤ cSum L a e := by
  obtain ⟨d, rfl⟩ : ∃ d, e = b + d := ⟨e - b, by omega⟩
  clear h2
  induction d with
  | zero => exact Nat.le_refl _
  | succ d ih =>
    have := ih (by omega)
    rw [← Nat.add_assoc, cSum_succ L a (b + d) (by omega) (by omega)]
    omega
theorem preT_mono (l : List Tk) (i : Nat) (h : i ≤ l.length) : preT l i ≤ (l.filter fun t => decide (t.1 = 7)).length := by
  rw [← preT_all]
  obtain ⟨d, hd⟩ : ∃ d, l.length = i + d := ⟨l.length - i, by omega⟩
  rw [hd]
  have key : ∀ d, i + d ≤ l.length → preT l i ≤ preT l (i + d) := by
    intro d
    induction d with
    | zero => intro _; exact Nat.le_refl _
    | succ d ih => intro h; have := ih (by omega); rw [← Nat.add_assoc, preT_succ l (i + d) (by omega)]; omega
  exact key d (by omega)
def b2i (b : Bool) : Nat := if b = true then 1 else 0
theorem l_btoi (b : Bool) (w : World) : Calls Try.prog 29 #[.bool b] w fun e w' => e = .returned (.int .i64 (b2i b : Nat)) ∧ w = w' := by
  cases b
  all_goals
    go_enter Try.func29, Try.ntmps29
    go_wp2_with fail
    go_ret
    exact ⟨rfl, rfl⟩
theorem preI_b (l : List It) (i : Nat) (h : i < l.length) : preI l (i + 1) = preI l i + b2i (l[i].code == 12) := by
  rw [preI_succ l i h]
  unfold b2i
  by_cases h7 : l[i].code = 12 <;> simp [h7]
theorem preT_b (l : List Tk) (i : Nat) (h : i < l.length) : preT l (i + 1) = preT l i + b2i (l[i].1 == 7) := by
  rw [preT_succ l i h]
  unfold b2i
  by_cases h7 : l[i].1 = 7 <;> simp [h7]
theorem b2i_le (b : Bool) : b2i b ≤ 1 := by cases b <;> decide
set_option maxHeartbeats 4000000 in
theorem walk (v0 : Value) (w : World) (h0 : InBytes w v0) : Calls Try.prog 6 #[v0] w fun e w' => e = .returned (.bool true) ∧ Below w.heap.size w w' := by
  obtain ⟨A, n, c, rfl, hnc, hc, hrow⟩ := h0
  have hn : n ≤ maxLen := by omega
  have HR := hide (CodeAt.of_in hnc hc hrow)
  clear hrow
  by_cases hbig : 1048576 < n
  · have hd : decide (1048576 < n) = true := by simpa using hbig
    go_enter Try.func6, Try.ntmps6
    go_wp2_with (go_at_call 7; refine (l_big _ _ _ hn _).mono ?_; rintro e w' ⟨rfl, rfl⟩)
    go_ret
    exact ⟨rfl, Below.refl _ _⟩
  have hd : decide (1048576 < n) = false := by simpa using hbig
  go_enter Try.func6, Try.ntmps6
  go_wp2_with fail
  refine (l_big _ _ _ hn _).mono ?_
  rintro e w' ⟨rfl, rfl⟩
  go_wp2_with fail
  refine (s_drawBuild _ _ _ _ HR.out).mono ?_
  rintro e w1 ⟨⟨A1, n1, c1, L, fr, inl, fr', inl', fold, split, fold', split', rfl, hX, hok, hn1, hn4, hbl⟩, hb1⟩
  have B1 := hide hb1
  have X1 := hide hX
  have OK := hide hok
  have HLN := hide hX.len
  have HSZ : Hid (∀ x ∈ L, LnSz x) := fun x hx => (lineOk_szQ (hok x hx)).1
  have hT : n1 + lnTot L ≤ 100000 := by have h1 := lnTot_leQ L (fun x hx => (lineOk_szQ (hok x hx)).2); have h2 := hX.len; omega
  obtain ⟨⟨hf0, hf63⟩, _, _⟩ := hbl
  clear hX hok hb1 hd hbig hn hn1
  go_wp2_with fail
  have KB := hide ((Blk.new w1 37 #[.int .i64 fr, .int .i64 0, .bool fold, .bool split]).alloc (.cells #[.int .i64 fr', .int .i64 inl', .bool fold', .bool split'] 37))
  have BX := hide (((Below.refl w1.heap.size w1).alloc (Nat.le_refl _) (.cells #[.int .i64 fr, .int .i64 0, .bool fold, .bool split] 37)).alloc (by simp) (.cells #[.int .i64 fr', .int .i64 inl', .bool fold', .bool split'] 37))
  generalize (w1.alloc (.cells #[.int .i64 fr, .int .i64 0, .bool fold, .bool split] 37)).alloc (.cells #[.int .i64 fr', .int .i64 inl', .bool fold', .bool split'] 37) = wX at *
  have BW := hide (B1.out.trans (BX.out.mono B1.out.size))
  obtain ⟨gb, hgb⟩ : ∃ gb, gb = w1.heap.size := ⟨_, rfl⟩
  rw [← hgb] at KB ⊢
  refine (s_programOk A1 n1 c1 L _ (by omega) (X1.out.below BX.out) HSZ.out).mono ?_
  rintro e w2 ⟨rfl, hb2⟩
  have B2 := hide (BW.out.trans (hb2.mono BW.out.size))
  have K2 := hide (KB.out.below hb2 KB.out.lt)
  have X2 := hide ((X1.out.below BX.out).below hb2)
  clear hb2 hgb
  cases hp : progS L
  · go_wp2_with fail
    go_ret
    exact ⟨rfl, B2.out⟩
  have n2 := K2.out.cell 2
  simp at n2
  have HP := hide hp
  clear hp
  go_upto_if 26 with fail
  go_cut [3] from 25 to 28 (fun s3 wx => ∃ (A2 : Option Addr) (c2 : Nat) (L2 : List Ln), s3 = .slice A2 n1 c2 ∧ InLines wx A2 n1 L2 ∧ progS L2 = true ∧ Below w2.heap.size w2 wx)
  case first =>
    cases fold
    · go_wp2_with fail
      go_meet
      exact ⟨A1, c1, L, rfl, X2.out, HP.out, Below.refl _ _⟩
    · go_wp2_with fail
      refine (s_foldProgram A1 n1 c1 L _ (by omega) X2.out HSZ.out).mono ?_
      rintro e w4 ⟨⟨A4, c4, rfl, ho4⟩, hb4⟩
      have hpf : foldPF L = L.map foldLn := by unfold foldPF; rw [if_pos HP.out]
      rw [hpf] at ho4 ⊢
      have hln : (L.map foldLn).length = n1 := by rw [List.length_map]; exact HLN.out
      have O4 := hide (ho4.in_ hln)
      have B4 := hide hb4
      rw [hln]
      clear ho4 hb4 hpf hln
      go_wp2_with fail
      go_meet
      exact ⟨A4, c4, L.map foldLn, rfl, O4.out, prog_fold HP.out, B4.out⟩
  case rest =>
    obtain ⟨A2, c2, L2, rfl, hr2, hp2, hbc⟩ := hcut
    have R2 := hide hr2
    have P2 := hide hp2
    have BC := hide (B2.out.trans (hbc.mono B2.out.size))
    have KC := hide (K2.out.below hbc K2.out.lt)
    have HL2 := hide hr2.len
    have OK2 := hide (prog_lines hp2).2
    have hn60 : n1 ≤ 60 := by have h1 := (prog_lines hp2).1; have h2 := hr2.len; omega
    have hf6 : (funsF L2).length ≤ 6 := (yes_out hp2).2.2.2.1
    have PE := hide (prog_end hp2)
    have FM := hide (funsF_mem L2)
    clear hr2 hp2 hbc n2
    go_wp2_with fail
    refine (s_funs A2 n1 c2 L2 _ (by omega) R2.out).mono ?_
    rintro e w5 ⟨⟨v, rfl, hown⟩, hb5⟩
    obtain ⟨F, cf, rfl, _, haf⟩ := Arr.of_own hown
    have XF := hide (InRow.of_arr haf)
    have B5 := hide (BC.out.trans (hb5.mono BC.out.size))
    have K5 := hide (KC.out.below hb5 KC.out.lt)
    have R5 := hide (R2.out.below hb5)
    obtain ⟨nf, hnf⟩ : ∃ nf, nf = (funsF L2).length := ⟨_, rfl⟩
    rw [← hnf] at XF hf6 ⊢
    have HNF := hide hnf
    clear hown haf hb5 hnf
    go_wp2_with fail
    go_loopw [7] (fun fv wr => ∃ f : Nat, fv = .int .i64 f ∧ f ≤ nf ∧ Below w5.heap.size w5 wr) (fun fv _ => nf - (intOf fv).toNat)
    case atStart => exact ⟨0, rfl, Nat.zero_le _, Below.refl _ _⟩
    case round =>
      obtain ⟨f, rfl, hf, hbr⟩ := hrel
      have BR := hide hbr
      have KR := hide (K5.out.below hbr K5.out.lt)
      have RR := hide (R5.out.below hbr)
      have XR := hide (XF.out.below hbr)
      clear hbr
      by_cases hlt : f < nf
      · have z : decide ((f : Int) < (nf : Int)) = true := decide_eq_true (by omega)
        have z' : decide (f < nf) = true := decide_eq_true hlt
        have n0 := KR.out.cell 0
        have n1' := KR.out.cell 1
        have n2 := KR.out.cell 2
        have n3 := KR.out.cell 3
        simp at n0 n1' n2 n3
        go_wp2_with fail
        have hfl : f < (funsF L2).length := by have := HNF.out; omega
        obtain ⟨k0, e0, hk0, he0, hke, hel⟩ := PE.out _ (List.getElem_mem hfl)
        obtain ⟨k0', hk0', _, hkind⟩ := FM.out _ (List.getElem_mem hfl)
        have hkk : k0' = k0 := by omega
        subst hkk
        have hen : endOfF L2 (k0' : Int) = e0 := by rw [← hk0]; exact he0
        have CS := hide (cSum_fn OK2.out hkind (endOf_seven hen) hke hel)
        have hlc : 1 ≤ n1 := by have := HL2.out; omega
        have heln : e0 < n1 := by have := HL2.out; omega
        have HEN := hide hen
        have CF := hide (i_compileFunction0 A2 n1 c2 f k0' e0 fr fold split L2 wr RR.out P2.out hfl hk0 hen ⟨hf0, hf63⟩)
        obtain ⟨bo, oo, hF, _, cfk⟩ := XR.out.int f hfl
        rw [hk0] at cfk
        subst hF
        have CFK : Hid (∀ w', Below wr.heap.size wr w' → w'.cell? ⟨bo, oo + f, none⟩ = some (.int .i64 (k0' : Int))) := fun w' hb => (hb.cell (block_lt_of_cell cfk)).trans cfk
        clear hk0 he0 hk0' hen hkind cfk
        generalize k0' = k at *
        refine (CF.out).mono ?_
        rintro e w6 ⟨⟨v, I, rfl, ho6, hn6, hc6, hl6, hm6⟩, hb6⟩
        obtain ⟨AI, cI, rfl, _, har6⟩ := Arr.of_own ho6
        have I6 := hide (InRow.of_arr har6)
        have N6 := hide hn6
        have C6 := hide (hc6.trans CS.out)
        have B6 := hide hb6
        have BR6 := hide (BR.out.trans (hb6.mono BR.out.size))
        obtain ⟨ni, hni⟩ : ∃ ni, ni = I.length := ⟨_, rfl⟩
        rw [← hni] at I6 hl6 hm6 ⊢
        have HNI := hide hni
        have cf6 := CFK.out w6 hb6
        have R6 := hide (RR.out.below hb6)
        clear ho6 har6 hn6 hc6 hb6 CF CS n0 n1' n2 n3 hni
        go_wp2_with fail
        go_loopw [9, 10] (fun cv iv wi => ∃ i : Nat, iv = .int .i64 i ∧ i ≤ ni ∧ cv = .int .i64 (preI I i) ∧ wi = w6) (fun _ iv _ => ni - (intOf iv).toNat)
        case atStart => exact ⟨0, rfl, Nat.zero_le _, rfl, rfl⟩
        case round =>
          obtain ⟨i, rfl, hi, rfl, rfl⟩ := hrel
          by_cases hil : i < ni
          · have z2 : decide (i < ni) = true := decide_eq_true hil
            have hii : i < I.length := by rw [← HNI.out]; exact hil
            obtain ⟨bI, oI, hAI, hbI, hcI⟩ := I6.out.2 (by omega)
            have q0 := (hcI (i * 7) (by omega)).trans (flat_at itC 7 (fun _ => rfl) I i 0 hii (by omega))
            have q4 := (hcI (i * 7 + 4) (by omega)).trans (flat_at itC 7 (fun _ => rfl) I i 4 hii (by omega))
            have hn0 := N6.out _ (List.getElem_mem hii)
            have PS := hide (preI_succ I i hii)
            have hpl := preI_le I i
            simp [itC] at q0 q4
            rw [hn0, ← Nat.add_assoc] at q4
            subst hAI
            clear hcI hn0
            go_wp2_with fail
            refine (l_btoi _ _).mono ?_
            rintro e w' ⟨rfl, rfl⟩
            obtain ⟨d, hd⟩ : ∃ d, b2i (I[i].code == 12) = d := ⟨_, rfl⟩
            have hd1 : d ≤ 1 := hd ▸ b2i_le _
            have PB := hide (preI_b I i hii)
            rw [hd] at PB ⊢
            obtain ⟨pv, hpv⟩ : ∃ pv, preI I i = pv := ⟨_, rfl⟩
            rw [hpv] at PB hpl ⊢
            clear hd hpv PS
            go_wp2_with fail
            go_roundw
            case rel => exact ⟨i + 1, by go_num, by omega, by rw [PB.out]; go_num, trivial⟩
            case measure => simp [intOf]; omega
          · have z2 : decide (i < ni) = false := decide_eq_false hil
            have hpe : Hid (preI I i = cSum L2 k e0) := by
              show _ = _
              rw [← C6.out, show i = I.length by have := HNI.out; omega]
              unfold preI
              rw [List.take_length]
            rw [hpe.out]
            have hcl : cSum L2 k e0 ≤ 100000 := by rw [← hpe.out]; have := preI_le I i; omega
            clear hpe
            go_wp2_with fail
            have hfi : (f : Int) < (nf : Int) := by omega
            go_loopw [9, 11] (fun cv kv wk => ∃ j x : Nat, kv = .int .i64 j ∧ k ≤ j ∧ j ≤ e0 ∧ cv = .int .i64 x ∧ x + cSum L2 k j = cSum L2 k e0 ∧ wk = wr) (fun _ kv _ => e0 - (intOf kv).toNat)
            case atStart => exact ⟨k, cSum L2 k e0, rfl, Nat.le_refl _, by omega, rfl, by rw [cSum_self]; rfl, rfl⟩
            case round =>
              obtain ⟨j, x, rfl, hkj, hje, rfl, hxs, rfl⟩ := hrel
              have HXS := hide hxs
              have hxl : x ≤ 100000 := by omega
              clear hxs
              go_wp2_with fail
              refine (s_endOf A2 n1 c2 L2 _ _ (by omega) R6.out).mono ?_
              rintro e w' ⟨he, hww⟩
              subst hww
              rw [HEN.out] at he
              subst he
              by_cases hjl : j < e0
              · have z3 : decide ((j : Int) < (e0 : Int)) = true := decide_eq_true (by omega)
                have hjn : j < L2.length := by omega
                obtain ⟨b3, o3, A3, c3, A4, c4, hA, _, _, _, _, p3, _, hE, _⟩ := R6.out.ln j hjn
                have HT := hide (cSum_mono k (j + 1) e0 (by omega) (by omega) (show e0 ≤ L2.length by omega))
                rw [cSum_succ L2 k j hkj hjn] at HT
                have HCO : Hid (callsOf L2[j] = (L2[j].2.2.2.filter fun t => decide (t.1 = 7)).length) := rfl
                have hxc : callsOf L2[j] ≤ x := by have h1 := HT.out; have h2 := HXS.out; omega
                have HSJ := hide (cSum_succ L2 k j hkj hjn)
                have hn24 : L2[j].2.2.2.length ≤ 24 := by have := (lineOk_szQ (OK2.out _ (List.getElem_mem hjn))).2; omega
                generalize L2[j].2.2.2 = ex at *
                obtain ⟨ne, hne⟩ : ∃ ne, ex.length = ne := ⟨_, rfl⟩
                rw [hne] at p3 hE hn24
                have HNE := hide hne
                have E4 := hide hE
                subst hA
                have hn1j : j < n1 := by omega
                clear hE hne HT
                go_wp2_with fail
                go_loopw [9, 12] (fun cv iv wk => ∃ i2 y : Nat, iv = .int .i64 i2 ∧ i2 ≤ ne ∧ cv = .int .i64 y ∧ y + preT ex i2 = x ∧ wk = wr) (fun _ iv _ => ne - (intOf iv).toNat)
                case atStart => exact ⟨0, x, rfl, Nat.zero_le _, rfl, rfl, rfl⟩
                case round =>
                  obtain ⟨i2, y, rfl, hi2, rfl, hy, rfl⟩ := hrel
                  have HY := hide hy
                  have hyl : y ≤ 100000 := by omega
                  clear hy
                  by_cases hil2 : i2 < ne
                  · have z4 : decide ((i2 : Int) < (ne : Int)) = true := decide_eq_true (by omega)
                    have z4' : decide (i2 < ne) = true := decide_eq_true hil2
                    have hie : i2 < ex.length := by have := HNE.out; omega
                    obtain ⟨bT, oT, hAT, _, t0, _, _⟩ := E4.out.tok i2 hie
                    have PT := hide (preT_b ex i2 hie)
                    have PM := preT_mono ex (i2 + 1) (by omega)
                    have hcx : callsOf L2[j] ≤ x := hxc
                    rw [HCO.out] at hcx
                    subst hAT
                    go_wp2_with fail
                    refine (l_btoi _ _).mono ?_
                    rintro e w' ⟨he, hww⟩
                    subst he
                    subst hww
                    obtain ⟨d, hd⟩ : ∃ d, b2i (ex[i2].1 == 7) = d := ⟨_, rfl⟩
                    have hd1 : d ≤ 1 := hd ▸ b2i_le _
                    rw [hd] at PT ⊢
                    have hdy : d ≤ y := by have h1 := PT.out; have h2 := HY.out; omega
                    have HYD : Hid (∃ y' : Nat, (y : Int) - (d : Int) = (y' : Int) ∧ y' + preT ex (i2 + 1) = x) := ⟨y - d, by omega, by have h1 := PT.out; have h2 := HY.out; omega⟩
                    clear hd PT PM hcx
                    go_wp2_with fail
                    obtain ⟨y', hy1, hy2⟩ := HYD.out
                    go_roundw
                    case rel => exact ⟨i2 + 1, y', by go_num, by omega, by rw [← hy1], hy2, trivial⟩
                    case measure => simp [intOf]; omega
                  · have z4 : decide ((i2 : Int) < (ne : Int)) = false := decide_eq_false (by omega)
                    have z4' : decide (i2 < ne) = false := decide_eq_false hil2
                    have HF : Hid (y + cSum L2 k (j + 1) = cSum L2 k e0) := by
                      show _ = _
                      have h1 := HSJ.out
                      have h2 := HCO.out
                      have h3 := HY.out
                      have h4 := HXS.out
                      have h5 : preT ex i2 = (ex.filter fun t => decide (t.1 = 7)).length := by rw [show i2 = ex.length by have := HNE.out; omega, preT_all]
                      omega
                    go_wp2_with fail
                    go_roundw
                    case rel => exact ⟨j + 1, y, by go_num, by omega, by omega, rfl, HF.out, trivial⟩
                    case measure => simp [intOf]; omega
              · have z3 : decide ((j : Int) < (e0 : Int)) = false := decide_eq_false (by omega)
                have hx0 : x = 0 := by
                  have h1 := HXS.out
                  rw [show j = e0 by omega] at h1
                  omega
                subst hx0
                go_wp2_with fail
                go_roundw
                case rel => exact ⟨f + 1, by go_num, by omega, BR6.out⟩
                case measure => simp [intOf]; omega
      · have z : decide ((f : Int) < (nf : Int)) = false := decide_eq_false (by omega)
        have z' : decide (f < nf) = false := decide_eq_false hlt
        have BF := hide (B5.out.trans (BR.out.mono B5.out.size))
        go_wp2_with fail
        go_ret
        exact ⟨rfl, BF.out⟩
end fnNoInline
end Go.Proofs.Ytcfjbaanahgpoaa
