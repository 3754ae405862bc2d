import Derived.Test.YtcfjbaanahgpoaaCnJK
import Derived.Test.YtcfjbaanahgpoaaDrBl
import Derived.Test.YtcfjbaanahgpoaaIn
namespace Go.Proofs.Ytcfjbaanahgpoaa
open Go Go.RowKit
set_option maxRecDepth 100000
set_option linter.unusedVariables false
set_option linter.unusedSimpArgs false
namespace fnItems
/-- Whether a number is in a row: where it is. -/
theorem l_has (A : Option Addr) (n c : Nat) (l : List Int) (k : Int) (w : World) (hn : n ≤ 1000000000000) (hl : l.length = n) (h : InRow w A n 1 (intCells l)) (hk : k ∈ l) :
    Calls Try.prog 21 #[.slice A n c, .int .i64 k] w fun e w' => e = .returned (.bool true) ∧ w = w' := by
  have H := hide h
  have HL := hide hl
  obtain ⟨p, hp, hpk⟩ := List.getElem_of_mem hk
  have hpn : p < n := by omega
  have HP := hide hpk
  clear h hl hk hpk
  go_enter Try.func21, Try.ntmps21
  go_wp2_with fail
  go_loopw [5] (fun iv wr => ∃ i : Nat, i ≤ p ∧ iv = .int .i64 i ∧ wr = w) (fun iv _ => n - (intOf iv).toNat)
  case atStart => exact ⟨0, Nat.zero_le _, rfl, rfl⟩
  case round =>
    obtain ⟨i, hi, rfl, rfl⟩ := hrel
    have hin : i < n := by omega
    have z : decide ((i : Int) < (n : Int)) = true := decide_eq_true (by omega)
    have z' : decide (i < n) = true := decide_eq_true hin
    have hil : i < l.length := by have := HL.out; omega
    obtain ⟨b, o, hA, _, c0⟩ := H.out.int i hil
    subst hA
    by_cases heq : l[i] = k
    · have z2 : (l[i] == k) = true := by simpa using heq
      clear heq
      go_wp2_with fail
      go_ret
      exact ⟨rfl, rfl⟩
    · have z2 : (l[i] == k) = false := by simpa using heq
      have hip : i < p := by
        rcases Nat.lt_or_ge i p with h1 | h1
        · exact h1
        · exfalso
          have : i = p := by omega
          subst this
          exact heq HP.out
      clear heq
      go_wp2_with fail
      go_roundw
      case rel => exact ⟨i + 1, by omega, by go_num, trivial⟩
      case measure => simp [intOf]; omega
/-- The number of words that the first item tells. -/
theorem i_varWords (A : Option Addr) (n c : Nat) (I : List It) (x : It) (w : World) (hn : n ≤ 1000000000000) (hl : I.length = n) (h : InRow w A n 7 (I.flatMap itC)) (hx : I[0]? = some x) (hc : x.code = 13 ∨ x.code = 15) :
    Calls Try.prog 26 #[.slice A n c] w fun e w' => e = .returned (.int .i64 x.arg) ∧ w = w' := by
  obtain ⟨h0, hx0⟩ := List.getElem?_eq_some_iff.1 hx
  obtain ⟨b, o, hA, hb, hcc⟩ := h.2 (by omega)
  have q0 := (hcc 0 (by omega)).trans (flat_at itC 7 (fun _ => rfl) I 0 0 h0 (by omega))
  have q1 := (hcc 1 (by omega)).trans (flat_at itC 7 (fun _ => rfl) I 0 1 h0 (by omega))
  rw [hx0] at q0 q1
  simp [itC] at q0 q1
  have z : ((n : Int) == 0) = false := by simpa using (show ¬ ((n : Int) = 0) by omega)
  have z' : (n == 0) = false := by simpa using (show ¬ (n = 0) by omega)
  have hn0 : 0 < n := by omega
  clear hcc hx hx0 h
  subst hA
  rcases hc with hc | hc
  · rw [hc] at q0
    clear hc
    go_enter Try.func26, Try.ntmps26
    go_wp2_with fail
    go_ret
    exact ⟨rfl, rfl⟩
  · rw [hc] at q0
    clear hc
    go_enter Try.func26, Try.ntmps26
    go_wp2_with fail
    go_ret
    exact ⟨rfl, rfl⟩
set_option maxHeartbeats 8000000 in
theorem walk (v0 : Value) (w : World) (h0 : InBytes w v0) : Calls Try.prog 5 #[v0] w fun e w' => e = .returned (.bool true) ∧ Below w.heap.size w w' := by
  obtain ⟨i1, hi1, hy0, hy1, hy2⟩ := info_parts Try.infoIntC
  have HI1 := hide hi1
  clear hi1
  obtain ⟨A, n, c, rfl, hnc, hc, hrow⟩ := h0
  have hn : n ≤ maxLen := by omega
  have HR := hide (CodeAt.of_in hnc hc hrow)
  clear hrow
  by_cases hbig : 1048576 < n
  · have hd : decide (1048576 < n) = true := by simpa using hbig
    go_enter Try.func5, Try.ntmps5
    go_wp2_with (go_at_call 7; refine (l_big _ _ _ hn _).mono ?_; rintro e w' ⟨rfl, rfl⟩)
    go_ret
    exact ⟨rfl, Below.refl _ _⟩
  have hd : decide (1048576 < n) = false := by simpa using hbig
  go_enter Try.func5, Try.ntmps5
  go_wp2_with fail
  refine (l_big _ _ _ hn _).mono ?_
  rintro e w' ⟨rfl, rfl⟩
  go_wp2_with fail
  refine (s_drawBuild _ _ _ _ HR.out).mono ?_
  rintro e w1 ⟨⟨A1, n1, c1, L, fr, inl, fr', inl', fold, split, fold', split', rfl, hX, hok, hn1, hn4, hbl⟩, hb1⟩
  have B1 := hide hb1
  have X1 := hide hX
  have OK := hide hok
  have HLN := hide hX.len
  have HSZ : Hid (∀ x ∈ L, LnSz x) := fun x hx => (lineOk_szQ (hok x hx)).1
  have hT : n1 + lnTot L ≤ 100000 := by have h1 := lnTot_leQ L (fun x hx => (lineOk_szQ (hok x hx)).2); have h2 := hX.len; omega
  obtain ⟨⟨hf0, hf63⟩, hl0, hl3⟩ := hbl
  clear hX hok hb1 hd hbig hn hn1
  go_wp2_with fail
  have KB := hide ((Blk.new w1 37 #[.int .i64 fr, .int .i64 inl, .bool fold, .bool split]).alloc (.cells #[.int .i64 fr', .int .i64 inl', .bool fold', .bool split'] 37))
  have BX := hide (((Below.refl w1.heap.size w1).alloc (Nat.le_refl _) (.cells #[.int .i64 fr, .int .i64 inl, .bool fold, .bool split] 37)).alloc (by simp) (.cells #[.int .i64 fr', .int .i64 inl', .bool fold', .bool split'] 37))
  generalize (w1.alloc (.cells #[.int .i64 fr, .int .i64 inl, .bool fold, .bool split] 37)).alloc (.cells #[.int .i64 fr', .int .i64 inl', .bool fold', .bool split'] 37) = wX at *
  have BW := hide (B1.out.trans (BX.out.mono B1.out.size))
  obtain ⟨gb, hgb⟩ : ∃ gb, gb = w1.heap.size := ⟨_, rfl⟩
  rw [← hgb] at KB ⊢
  refine (s_programOk A1 n1 c1 L _ (by omega) (X1.out.below BX.out) HSZ.out).mono ?_
  rintro e w2 ⟨rfl, hb2⟩
  have B2 := hide (BW.out.trans (hb2.mono BW.out.size))
  have K2 := hide (KB.out.below hb2 KB.out.lt)
  have X2 := hide ((X1.out.below BX.out).below hb2)
  have n0 := K2.out.cell 0
  have n1' := K2.out.cell 1
  have n2 := K2.out.cell 2
  have n3 := K2.out.cell 3
  simp at n0 n1' n2 n3
  clear hb2 hgb
  cases hp : progS L
  · have NC := hide (i_compileNil A1 n1 c1 0 fr inl fold split L w2 X2.out HSZ.out (by omega) hp)
    clear hp
    go_wp2_with fail
    refine (NC.out).mono ?_
    rintro e w3 ⟨rfl, hb3⟩
    have B3 := hide (B2.out.trans (hb3.mono B2.out.size))
    clear hb3
    go_wp2_with fail
    go_ret
    exact ⟨rfl, B3.out⟩
  have HP := hide hp
  have hn60 : n1 ≤ 60 := by have h1 := (prog_lines hp).1; have h2 := HLN.out; omega
  have hf6 : (funsF L).length ≤ 6 := (yes_out hp).2.2.2.1
  have PE := hide (prog_end hp)
  have FM := hide (funsF_mem L)
  have OK2 := hide (prog_lines hp).2
  clear hp n0 n1' n2 n3
  go_wp2_with fail
  refine (s_funs A1 n1 c1 L _ (by omega) X2.out).mono ?_
  rintro e w5 ⟨⟨v, rfl, hown⟩, hb5⟩
  obtain ⟨F, cf, rfl, _, haf⟩ := Arr.of_own hown
  have XF := hide (InRow.of_arr haf)
  have B5 := hide (B2.out.trans (hb5.mono B2.out.size))
  have K5 := hide (K2.out.below hb5 K2.out.lt)
  have R5 := hide (X2.out.below hb5)
  obtain ⟨nf, hnf⟩ : ∃ nf, nf = (funsF L).length := ⟨_, rfl⟩
  rw [← hnf] at XF hf6 ⊢
  have HNF := hide hnf
  clear hown haf hb5 hnf
  go_wp2_with fail
  go_loopw [7] (fun fv wr => ∃ f : Nat, fv = .int .i64 f ∧ f ≤ nf ∧ Below w5.heap.size w5 wr) (fun fv _ => nf - (intOf fv).toNat)
  case atStart => exact ⟨0, rfl, Nat.zero_le _, Below.refl _ _⟩
  case round =>
    obtain ⟨f, rfl, hf, hbr⟩ := hrel
    have BR := hide hbr
    have KR := hide (K5.out.below hbr K5.out.lt)
    have RR := hide (R5.out.below hbr)
    have XR := hide (XF.out.below hbr)
    clear hbr
    have n0 := KR.out.cell 0
    have n1' := KR.out.cell 1
    have n2 := KR.out.cell 2
    have n3 := KR.out.cell 3
    simp at n0 n1' n2 n3
    by_cases hlt : f < nf
    · have z : decide ((f : Int) < (nf : Int)) = true := decide_eq_true (by omega)
      have z' : decide (f < nf) = true := decide_eq_true hlt
      go_wp2_with fail
      have hfl : f < (funsF L).length := by have := HNF.out; omega
      obtain ⟨k0, e0, hk0, he0, hke, hel⟩ := PE.out _ (List.getElem_mem hfl)
      have hen : endOfF L (k0 : Int) = e0 := by rw [← hk0]; exact he0
      have heln : e0 < n1 := by have := HLN.out; omega
      have HEN := hide hen
      have CF := hide (i_compileFunction A1 n1 c1 f k0 e0 fr inl fold split L wr RR.out HP.out hfl hk0 hen ⟨hf0, hf63⟩ ⟨hl0, hl3⟩)
      obtain ⟨bo, oo, hF, _, cfk⟩ := XR.out.int f hfl
      rw [hk0] at cfk
      subst hF
      have CFK : Hid (∀ w', Below wr.heap.size wr w' → w'.cell? ⟨bo, oo + f, none⟩ = some (.int .i64 (k0 : Int))) := fun w' hb => (hb.cell (block_lt_of_cell cfk)).trans cfk
      clear hk0 he0 hen cfk
      refine (CF.out).mono ?_
      rintro e w6 ⟨⟨v, I, rfl, ho6, hl6, hfc⟩, hb6⟩
      obtain ⟨AI, cI, rfl, _, har6⟩ := Arr.of_own ho6
      have I6 := hide (InRow.of_arr har6)
      have FC := hide hfc
      have B6 := hide hb6
      have K6 := hide (KR.out.below hb6 KR.out.lt)
      have BR6 := hide (BR.out.trans (hb6.mono BR.out.size))
      obtain ⟨ni, hni⟩ : ∃ ni, ni = I.length := ⟨_, rfl⟩
      have h3 := hfc.2.1
      rw [← hni] at I6 hl6 h3 ⊢
      have HNI := hide hni
      have R6 := hide (RR.out.below hb6)
      clear ho6 har6 hfc hb6 CF n0 n1' n2 n3 hni
      go_wp2_with fail
      go_loopw [9, 10] (fun sv iv wi => ∃ (i : Nat) (S : List Int), iv = .int .i64 i ∧ i ≤ ni ∧ S.length ≤ i ∧ wi.ownsRow w6.heap.size 3 1 sv S.length (intCells S) ∧ (∀ (j : Nat) (x : It), j < i → I[j]? = some x → x.start = true → x.n = 0 → x.line ∈ S) ∧ Below w6.heap.size w6 wi) (fun _ iv _ => ni - (intOf iv).toNat)
      case atStart =>
        refine ⟨0, [], rfl, Nat.zero_le _, Nat.le_refl _, ?_, fun j x hj => absurd hj (Nat.not_lt_zero _), ?_⟩
        · exact ownsRow_blk (Blk.new w6 3 #[]) (Nat.le_refl _)
        · exact (Below.refl _ _).alloc (Nat.le_refl _) _
      case round =>
        obtain ⟨i, S, rfl, hi, hSl, hso, hsm, hbi⟩ := hrel
        obtain ⟨SA, sc, hsv, _⟩ := Arr.of_own hso
        subst hsv
        have SO := hide hso
        have SM := hide hsm
        have BI := hide hbi
        have K7 := hide (K6.out.below hbi K6.out.lt)
        have I7 := hide (I6.out.below hbi)
        have R7 := hide (R6.out.below hbi)
        clear hso hsm hbi
        by_cases hil : i < ni
        · have z2 : decide ((i : Int) < (ni : Int)) = true := decide_eq_true (by omega)
          have z2' : decide (i < ni) = true := decide_eq_true hil
          have hii : i < I.length := by rw [← HNI.out]; exact hil
          have HXI := hide (List.getElem?_eq_getElem hii)
          obtain ⟨bI, oI, hAI, hbI, hcI⟩ := I7.out.2 (by omega)
          have q0 := (hcI (i * 7) (by omega)).trans (flat_at itC 7 (fun _ => rfl) I i 0 hii (by omega))
          have q1 := (hcI (i * 7 + 1) (by omega)).trans (flat_at itC 7 (fun _ => rfl) I i 1 hii (by omega))
          have q2 := (hcI (i * 7 + 2) (by omega)).trans (flat_at itC 7 (fun _ => rfl) I i 2 hii (by omega))
          have q3 := (hcI (i * 7 + 3) (by omega)).trans (flat_at itC 7 (fun _ => rfl) I i 3 hii (by omega))
          have q4 := (hcI (i * 7 + 4) (by omega)).trans (flat_at itC 7 (fun _ => rfl) I i 4 hii (by omega))
          have q5 := (hcI (i * 7 + 5) (by omega)).trans (flat_at itC 7 (fun _ => rfl) I i 5 hii (by omega))
          have q6 := (hcI (i * 7 + 6) (by omega)).trans (flat_at itC 7 (fun _ => rfl) I i 6 hii (by omega))
          obtain ⟨fl1, fl2, fl3, fl4⟩ := FC.out.1 _ (List.getElem_mem hii)
          simp [itC] at q0 q1 q2 q3 q4 q5 q6
          rw [← Nat.add_assoc] at q1 q2 q3 q4 q5 q6
          rw [← HNI.out] at fl4
          generalize I[i] = x at *
          subst hAI
          clear hcI
          go_upto_region 16 with fail
          have KX := hide (Blk.new wr 49 #[.int .i64 x.code, .int .i64 x.arg, .int .i64 x.line, .bool x.start, .slice x.A x.n x.c, .int .i64 x.dep, .bool x.ent])
          have BY := hide ((Below.refl wr.heap.size wr).alloc (Nat.le_refl _) (.cells #[.int .i64 x.code, .int .i64 x.arg, .int .i64 x.line, .bool x.start, .slice x.A x.n x.c, .int .i64 x.dep, .bool x.ent] 49))
          have hYs : w6.heap.size ≤ wr.heap.size := BI.out.size
          generalize wr.alloc (.cells #[.int .i64 x.code, .int .i64 x.arg, .int .i64 x.line, .bool x.start, .slice x.A x.n x.c, .int .i64 x.dep, .bool x.ent] 49) = wY at *
          have KY := hide (K7.out.below BY.out K7.out.lt)
          have SY := hide (own_belowZ SO.out BY.out)
          have BIY := hide (BI.out.trans (BY.out.mono hYs))
          have y0 := KX.out.cell 0
          have y1 := KX.out.cell 1
          have y2 := KX.out.cell 2
          have y3 := KX.out.cell 3
          have y4 := KX.out.cell 4
          have nb1 := KY.out.cell 1
          simp at y0 y1 y2 y3 y4 nb1
          have hYz : w6.heap.size ≤ wY.heap.size := BIY.out.size
          have zc : decide (inl < (x.n : Int)) = false := decide_eq_false (by omega)
          have zl : decide (x.line < 0) = false := decide_eq_false (by omega)
          have zm : decide ((n1 : Int) ≤ x.line) = false := decide_eq_false (by omega)
          have FL := hide fl4
          generalize wr.heap.size = xb at *
          clear q0 q1 q2 q3 q4 q5 q6 fl4
          go_cut [95] from 52 to 95 (fun s95 wx => s95 = .bool false ∧ wx = wY)
          case first =>
            by_cases h10 : x.code = 10
            · obtain ⟨g1, g2⟩ := FL.out (.inl h10)
              rw [h10] at y0
              have za : decide (x.arg < 0) = false := decide_eq_false (by omega)
              have zb : decide ((ni : Int) ≤ x.arg) = false := decide_eq_false (by omega)
              clear h10 g1 g2
              go_wp2_with fail
              go_meet
              exact ⟨rfl, rfl⟩
            · by_cases h11 : x.code = 11
              · obtain ⟨g1, g2⟩ := FL.out (.inr h11)
                rw [h11] at y0
                have za : decide (x.arg < 0) = false := decide_eq_false (by omega)
                have zb : decide ((ni : Int) ≤ x.arg) = false := decide_eq_false (by omega)
                clear h10 h11 g1 g2
                go_wp2_with fail
                go_meet
                exact ⟨rfl, rfl⟩
              · have z10 : (x.code == 10) = false := by simpa using h10
                have z11 : (x.code == 11) = false := by simpa using h11
                clear h10 h11
                go_wp2_with fail
                go_meet
                exact ⟨rfl, rfl⟩
          case rest =>
            obtain ⟨rfl, rfl⟩ := hcut
            have HN : Hid (∀ S' : List Int, (∀ a ∈ S, a ∈ S') → (x.start = true → x.n = 0 → x.line ∈ S') → ∀ (j : Nat) (y : It), j < i + 1 → I[j]? = some y → y.start = true → y.n = 0 → y.line ∈ S') := fun S' h1 h2 j y hj hy hs hn => by
              rcases Nat.lt_or_ge j i with h3 | h3
              · exact h1 _ (SM.out j y h3 hy hs hn)
              · have : j = i := by omega
                subst this
                rw [HXI.out] at hy
                injection hy with hy
                subst hy
                exact h2 hs hn
            cases hst : x.start
            · rw [hst] at y3 HN
              clear hst
              go_wp2_with fail
              go_roundw
              case rel => exact ⟨i + 1, S, by go_num, by omega, by omega, SY.out, HN.out S (fun a h => h) (fun e => by cases e), BIY.out⟩
              case measure => simp [intOf]; omega
            · rw [hst] at y3 HN
              clear hst
              by_cases hn0 : x.n = 0
              · rw [hn0] at y4
                have HN0 := hide hn0
                clear hn0 zc
                go_wp2_with (first | (at_builtin; refine wpList_appN _ rfl (.tmp 104) (.tmp 107) _ rfl w6.heap.size 3 i1 _ 1 8 Try.underlying28 HI1.out hy0 hy1 hy2 rfl (by decide) (.slice SA S.length sc) S.length (intCells S) rfl SY.out 1 [.int .i64 x.line] rfl rfl rfl (by intro u hu; simp at hu; subst hu; rfl) (by omega) (by decide) hYz ?_) | fail)
                intro v9 w9 hown9 hb9 hg9 hv9
                have e1 : intCells (S ++ [x.line]) = intCells S ++ [.int .i64 x.line] := by simp [intCells]
                have e2 : (S ++ [x.line]).length = S.length + 1 := by simp
                rw [← e1, ← e2] at hown9
                have O9 := hide hown9
                have E2 := hide e2
                have B9 := hide (BIY.out.trans hb9)
                clear hown9 hb9 hg9 hv9 e1 e2
                go_wp2_with fail
                go_roundw
                case rel => exact ⟨i + 1, S ++ [x.line], by go_num, by omega, by have := E2.out; omega, O9.out, HN.out _ (fun a h => List.mem_append_left _ h) (fun _ _ => by simp), B9.out⟩
                case measure => simp [intOf]; omega
              · have zn : ((x.n : Int) == 0) = false := by simpa using hn0
                have zn' : (x.n == 0) = false := by simpa using hn0
                have HN0 := hide hn0
                clear hn0
                go_wp2_with fail
                go_roundw
                case rel => exact ⟨i + 1, S, by go_num, by omega, by omega, SY.out, HN.out S (fun a h => h) (fun _ e => absurd e HN0.out), BIY.out⟩
                case measure => simp [intOf]; omega
        · have z2 : decide ((i : Int) < (ni : Int)) = false := decide_eq_false (by omega)
          have z2' : decide (i < ni) = false := decide_eq_false hil
          have hin : i = ni := by omega
          have SMF : Hid (∀ (j : Nat) (x : It), I[j]? = some x → x.start = true → x.n = 0 → x.line ∈ S) := fun j x h1 => SM.out j x (by have := (List.getElem?_eq_some_iff.1 h1).1; have := HNI.out; omega) h1
          obtain ⟨SA', sc', e9, _, hars⟩ := Arr.of_own SO.out
          cases e9
          have SX := hide (InRow.of_arr hars)
          have cf7 := CFK.out _ (B6.out.trans (BI.out.mono B6.out.size))
          have hfi : (f : Int) < (nf : Int) := by omega
          have BRW := hide (BR6.out.trans (BI.out.mono (Nat.le_trans BR.out.size B6.out.size)))
          clear hin hars
          go_wp2_with fail
          go_loopw [12] (fun kv wk => ∃ j : Nat, kv = .int .i64 j ∧ k0 + 1 ≤ j ∧ j ≤ e0 ∧ wk = wr) (fun kv _ => e0 - (intOf kv).toNat)
          case atStart => exact ⟨k0 + 1, by go_num, Nat.le_refl _, by omega, rfl⟩
          case round =>
            obtain ⟨j, rfl, hkj, hje, rfl⟩ := hrel
            go_wp2_with fail
            refine (s_endOf A1 n1 c1 L _ _ (by omega) R7.out).mono ?_
            rintro e w' ⟨he, hww⟩
            subst hww
            rw [HEN.out] at he
            subst he
            by_cases hjl : j < e0
            · have z3 : decide ((j : Int) < (e0 : Int)) = true := decide_eq_true (by omega)
              have hjn : j < L.length := by omega
              have HLJ := hide (lnAtD_of L j hjn)
              obtain ⟨b3, o3, A3, c3, A4, c4, hA, _, _, _, _, p3, _⟩ := R7.out.ln j hjn
              obtain ⟨_, _, _, _, _, _, hx2⟩ := lineOk_partsQ (OK2.out _ (List.getElem_mem hjn))
              have hjn1 : (j : Int) < (n1 : Int) := by omega
              by_cases hex : 0 < L[j].2.2.2.length
              · have hhe : hasExprF L[j].1 = true := by
                  cases hh : hasExprF L[j].1
                  · rw [hx2 hh] at hex; exact absurd hex (by simp)
                  · rfl
                obtain ⟨jj, x, g1, g2, g3, g4⟩ := FC.out.2.2.2 j (by omega) hjl (by rw [HLJ.out]; exact hhe)
                have hmem := SMF.out jj x g1 g2 g3
                rw [g4] at hmem
                have HM := hide hmem
                generalize L[j].2.2.2.length = ne at *
                have z4 : decide ((0 : Int) < (ne : Int)) = true := decide_eq_true (by omega)
                have z4' : decide (0 < ne) = true := decide_eq_true hex
                subst hA
                clear hmem hx2 hhe g1 g2 g3 g4
                go_wp2_with fail
                refine (l_has _ _ _ S _ _ (by omega) rfl SX.out HM.out).mono ?_
                rintro e w' ⟨rfl, rfl⟩
                go_wp2_with fail
                go_roundw
                case rel => exact ⟨j + 1, by go_num, by omega, by omega, trivial⟩
                case measure => simp [intOf]; omega
              · generalize L[j].2.2.2.length = ne at *
                have z4 : decide ((0 : Int) < (ne : Int)) = false := decide_eq_false (by omega)
                have z4' : decide (0 < ne) = false := decide_eq_false hex
                subst hA
                clear hx2
                go_wp2_with fail
                go_roundw
                case rel => exact ⟨j + 1, by go_num, by omega, by omega, trivial⟩
                case measure => simp [intOf]; omega
            · have z3 : decide ((j : Int) < (e0 : Int)) = false := decide_eq_false (by omega)
              obtain ⟨x0, g1, g2, g3⟩ := FC.out.2.2.1
              have hx0 := g3 (Int.le_refl _)
              have z5 : decide (x0.arg < 0) = false := decide_eq_false (by omega)
              have z6 : decide ((ni : Int) < 3) = false := decide_eq_false (by omega)
              have z6' : decide (ni < 3) = false := decide_eq_false (by omega)
              have VW := hide (i_varWords AI ni cI I x0 wr (by omega) HNI.out.symm I7.out g1 g2)
              clear g1 g2 g3
              go_wp2_with fail
              refine (VW.out).mono ?_
              rintro e w' ⟨rfl, rfl⟩
              go_wp2_with fail
              go_roundw
              case rel => exact ⟨f + 1, by go_num, by omega, BRW.out⟩
              case measure => simp [intOf]; omega
    · have z : decide ((f : Int) < (nf : Int)) = false := decide_eq_false (by omega)
      have z' : decide (f < nf) = false := decide_eq_false hlt
      have BF := hide (B5.out.trans (BR.out.mono B5.out.size))
      have hbu : (btw fr 0 63 && btw inl 0 3) = true := by simp [btw]; omega
      go_wp2_with fail
      refine (i_buildOk _ _ _ _ _).mono ?_
      rintro e w8 ⟨rfl, hb8⟩
      rw [hbu]
      have B8 := hide (BF.out.trans (hb8.mono BF.out.size))
      clear hb8
      go_wp2_with fail
      go_ret
      exact ⟨rfl, B8.out⟩
end fnItems
end Go.Proofs.Ytcfjbaanahgpoaa
