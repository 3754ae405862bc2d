import Derived.Test.YtcfjbaanahgpoaaDrQ
import Derived.Test.YtcfjbaanahgpoaaBlkF
import Derived.Test.YtcfjbaanahgpoaaIn
import Derived.Deep.RegionHeld3
namespace Go.Proofs.Ytcfjbaanahgpoaa
open Go Go.RowKit
set_option maxRecDepth 100000
set_option linter.unusedVariables false
set_option linter.unusedSimpArgs false
namespace fnBlocks
set_option maxHeartbeats 4000000 in
theorem walk (v0 : Value) (w : World) (h0 : InBytes w v0) : Calls Try.prog 3 #[v0] w fun e w' => e = .returned (.bool true) ∧ Below w.heap.size w w' := by
  obtain ⟨A, n, c, rfl, hnc, hc, hrow⟩ := h0
  have hn : n ≤ maxLen := by omega
  have HR := hide (CodeAt.of_in hnc hc hrow)
  clear hrow
  by_cases hbig : 1048576 < n
  · have hd : decide (1048576 < n) = true := by simpa using hbig
    go_enter Try.func3, Try.ntmps3
    go_wp2_with (go_at_call 7; refine (l_big _ _ _ hn _).mono ?_; rintro e w' ⟨rfl, rfl⟩)
    go_ret
    exact ⟨rfl, Below.refl _ _⟩
  have hd : decide (1048576 < n) = false := by simpa using hbig
  go_enter Try.func3, Try.ntmps3
  go_wp2_with fail
  refine (l_big _ _ _ hn _).mono ?_
  rintro e w' ⟨rfl, rfl⟩
  go_wp2_with fail
  refine (s_drawProgram _ _ _ _ HR.out).mono ?_
  rintro e w1 ⟨⟨A', c', L, rfl, hO, hok, hl0, hl1⟩, hb1⟩
  have B1 := hide hb1
  obtain ⟨m, hm⟩ : ∃ m, L.length = m := ⟨_, rfl⟩
  have R1 := hide (hO.in_ hm)
  have HSZ : Hid (∀ x ∈ L, LnSz x) := fun x hx => (lineOk_szQ (hok x hx)).1
  have hT : m + lnTot L ≤ 10000 := by have := lnTot_leQ L (fun x hx => (lineOk_szQ (hok x hx)).2); omega
  rw [hm]
  have HL := hide hm
  have hm400 : m ≤ 400 := by omega
  clear hO hok hb1 hd hbig hn hl0 hl1 hm
  go_wp2_with fail
  refine (i_programOk A' m c' L _ (by omega) R1.out HSZ.out).mono ?_
  rintro e w2 ⟨rfl, hb2⟩
  have B2 := hide (B1.out.trans (hb2.mono B1.out.size))
  have R2 := hide (R1.out.below hb2)
  clear hb2 B1 R1
  cases hq : progI L
  · have hq' : progS L = false := (prog_eq L).symm.trans hq
    go_wp2_with fail
    refine (s_programOk A' m c' L _ (by omega) R2.out HSZ.out).mono ?_
    rintro e w3 ⟨rfl, hb3⟩
    rw [hq']
    go_wp2_with fail
    go_ret
    exact ⟨rfl, B2.out.trans (hb3.mono B2.out.size)⟩
  obtain ⟨_, hf1, hfs⟩ := progI_yes hq
  have hflen := funsFrom_len L 0
  obtain ⟨fs, hfe, hf1, hfm, FS, FM⟩ : ∃ fs : List Int, fs = funsF L ∧ 1 ≤ fs.length ∧ fs.length ≤ 400 ∧ Hid (∀ (k : Nat) (hk : k < fs.length), findF L (lnAtD L fs[k].toNat).2.1 = fs[k] ∧ (locF L (fs[k].toNat : Int)).length ≤ 8 ∧ (∀ h : 0 < k, fs[k] = endOfF L (fs[k - 1]'(by omega)) + 1)) ∧ Hid (∀ x ∈ fs, ∃ j : Nat, x = j ∧ j < L.length ∧ (lnAtD L j).1 = 0) := ⟨_, rfl, hf1, by have := HL.out; show (funsFrom L 0).length ≤ 400; omega, hfs, funsF_mem L⟩
  have HFE := hide hfe
  clear hfs hq hflen hfe
  go_wp2_with fail
  go_loopw [4] (fun av wr => ∃ a : Nat, av = .int .i64 a ∧ a ≤ m ∧ wr = w2) (fun av _ => m - (intOf av).toNat)
  case atStart => exact ⟨0, rfl, Nat.zero_le _, rfl⟩
  case round =>
    obtain ⟨a, rfl, ha, rfl⟩ := hrel
    by_cases hlt : a < m
    · obtain ⟨hx1, he1⟩ := else_range L a
      have HN : Hid (∀ b : Nat, 0 ≤ endOfF L a → a < b → ¬ (0 ≤ endOfF L b ∧ (b : Int) < endOfF L a ∧ endOfF L a ≤ endOfF L b)) := fun b => nest_range L a b
      go_wp2_with fail
      refine (i_endOf A' m c' L _ _ (by omega) R2.out).mono ?_
      rintro e w' ⟨rfl, rfl⟩
      go_wp2_with fail
      refine (i_elseOf A' m c' L _ _ (by omega) R2.out).mono ?_
      rintro e w' ⟨rfl, rfl⟩
      generalize endOfF L (a : Int) = x at *
      generalize elseOfF L (a : Int) = el at *
      go_upto_region 11 with fail
      go_cut [53] from 33 to 52 (fun s53 wx => s53 = .bool false ∧ wx = wr)
      case first =>
        by_cases hx : 0 ≤ x
        · have z1 : decide (0 ≤ x) = true := decide_eq_true hx
          have z2 : decide (x ≤ (a : Int)) = false := decide_eq_false (by omega)
          by_cases he : 0 ≤ el
          · have z3 : decide (0 ≤ el) = true := decide_eq_true he
            have z4 : decide (el ≤ (a : Int)) = false := decide_eq_false (by omega)
            have z5 : decide (x ≤ el) = false := decide_eq_false (by omega)
            go_wp2_with fail
            go_meet
            exact ⟨rfl, rfl⟩
          · have z3 : decide (0 ≤ el) = false := decide_eq_false he
            go_wp2_with fail
            go_meet
            exact ⟨rfl, rfl⟩
        · have z1 : decide (0 ≤ x) = false := decide_eq_false hx
          by_cases he : 0 ≤ el
          · have z3 : decide (0 ≤ el) = true := decide_eq_true he
            have z4 : decide (el ≤ (a : Int)) = false := decide_eq_false (by omega)
            have z5 : decide (x ≤ el) = false := decide_eq_false (by omega)
            go_wp2_with fail
            go_meet
            exact ⟨rfl, rfl⟩
          · have z3 : decide (0 ≤ el) = false := decide_eq_false he
            go_wp2_with fail
            go_meet
            exact ⟨rfl, rfl⟩
      case rest =>
        obtain ⟨rfl, rfl⟩ := hcut
        clear he1 hx1
        go_wp2_with fail
        go_loopw [7] (fun bv wr => ∃ b : Nat, bv = .int .i64 b ∧ a + 1 ≤ b ∧ b ≤ m ∧ wr = wc) (fun bv _ => m - (intOf bv).toNat)
        case atStart => exact ⟨a + 1, by go_num, Nat.le_refl _, hlt, rfl⟩
        case round =>
          obtain ⟨b, rfl, hab, hbm, rfl⟩ := hrel
          by_cases hx : 0 ≤ x
          · have z1 : decide (0 ≤ x) = true := decide_eq_true hx
            by_cases hbl : b < m
            · have z2 : decide (b < m) = true := decide_eq_true hbl
              have hnb := HN.out b hx (by omega)
              go_wp2_with fail
              refine (s_endOf A' m c' L _ _ (by omega) R2.out).mono ?_
              rintro e w' ⟨rfl, rfl⟩
              generalize endOfF L (b : Int) = y at *
              go_upto_region 17 with fail
              go_cut [80] from 69 to 79 (fun s80 wx => s80 = .bool false ∧ wx = wr)
              case first =>
                by_cases hy : 0 ≤ y
                · have z3 : decide (0 ≤ y) = true := decide_eq_true hy
                  by_cases hbx : (b : Int) < x
                  · have z4 : decide ((b : Int) < x) = true := decide_eq_true hbx
                    have z5 : decide (x ≤ y) = false := decide_eq_false (by omega)
                    go_wp2_with fail
                    go_meet
                    exact ⟨rfl, rfl⟩
                  · have z4 : decide ((b : Int) < x) = false := decide_eq_false hbx
                    go_wp2_with fail
                    go_meet
                    exact ⟨rfl, rfl⟩
                · have z3 : decide (0 ≤ y) = false := decide_eq_false hy
                  go_wp2_with fail
                  go_meet
                  exact ⟨rfl, rfl⟩
              case rest =>
                obtain ⟨rfl, rfl⟩ := hcut
                go_wp2_with fail
                go_roundw
                case rel => exact ⟨b + 1, by go_num, by omega, by omega, trivial⟩
                case measure => simp [intOf]; omega
            · have z2 : decide (b < m) = false := decide_eq_false hbl
              go_wp2_with fail
              go_roundw
              case rel => exact ⟨a + 1, by go_num, by omega, trivial⟩
              case measure => simp [intOf]; omega
          · have z1 : decide (0 ≤ x) = false := decide_eq_false hx
            go_wp2_with fail
            go_roundw
            case rel => exact ⟨a + 1, by go_num, by omega, trivial⟩
            case measure => simp [intOf]; omega
    · have z : decide (a < m) = false := decide_eq_false hlt
      go_wp2_with fail
      refine (i_funs A' m c' L _ (by omega) R2.out).mono ?_
      rintro e w3 ⟨⟨v, rfl, ho⟩, hb3⟩
      have B3 := hide (B2.out.trans (hb3.mono B2.out.size))
      have R3 := hide (R2.out.below hb3)
      obtain ⟨F, cf, rfl, _, har⟩ := Arr.of_own ho
      have X3 := hide (InRow.of_arr har)
      clear ho har hb3 B2 R2
      rw [← HFE.out] at X3 ⊢
      obtain ⟨nf, hnf⟩ : ∃ nf, nf = fs.length := ⟨_, rfl⟩
      rw [← hnf] at X3 hf1 hfm ⊢
      have HNF := hide hnf
      clear hnf HFE
      go_wp2_with fail
      go_loopw [10] (fun kv wr => ∃ k : Nat, kv = .int .i64 k ∧ k ≤ nf ∧ Below w.heap.size w wr ∧ Below w3.heap.size w3 wr) (fun kv _ => nf - (intOf kv).toNat)
      case atStart => exact ⟨0, rfl, Nat.zero_le _, B3.out, Below.refl _ _⟩
      case round =>
        obtain ⟨k, rfl, hk, hb, hb'⟩ := hrel
        have B4 := hide hb
        have R4 := hide (R3.out.below hb')
        have X4 := hide (X3.out.below hb')
        have BB := hide hb'
        clear hb hb'
        by_cases hlt : k < nf
        · have hkf : k < fs.length := by rw [← HNF.out]; exact hlt
          obtain ⟨hF, hL8, hE⟩ := FS.out k hkf
          obtain ⟨j, hj, hjl, _⟩ := FM.out _ (List.getElem_mem hkf)
          rw [hj, Int.toNat_natCast] at hF hL8
          rw [lnAtD_of L j hjl] at hF
          obtain ⟨bf, of', rfl, _, cf0⟩ := X4.out.int k hkf
          rw [hj] at cf0
          obtain ⟨bl, ol, A1, c1, A2, c2, hA', _, _, cl0, _⟩ := R4.out.ln j hjl
          subst hA'
          have hjm : (j : Int) < m := by have := HL.out; omega
          have hj0 : (0 : Int) ≤ (j : Int) := by omega
          have hkn : (k : Int) < nf := by omega
          have hk0 : (0 : Int) ≤ (k : Int) := by omega
          have hnfi : (nf : Int) ≤ 400 := by omega
          have hwj : IntKind.i64.wrap (j : Int) = (j : Int) := IntWalk.i64_in _ (by omega)
          have hwj1 : IntKind.i64.wrap ((j : Int) - 1 + 1) = (j : Int) := by rw [show (j : Int) - 1 + 1 = j by omega]; exact hwj
          obtain ⟨nl, hnl⟩ : ∃ nl, nl = (locF L (j : Int)).length := ⟨_, rfl⟩
          have HNL := hide hnl
          have hl1 : decide (8 < nl) = false := decide_eq_false (by omega)
          have hl2 : decide ((8 : Int) < (nl : Int)) = false := decide_eq_false (by omega)
          have CB : Hid (∀ w', Below wr.heap.size wr w' → ∀ a v, wr.cell? a = some v → w'.cell? a = some v) := fun w' hb a v h => (hb.cell (block_lt_of_cell h)).trans h
          generalize L[j].2.1 = nm at *
          have HF := hide hF
          have hEk := hE
          clear hF hnl hL8 hE
          by_cases hkz : k = 0
          · have z1 : decide (0 < k) = false := decide_eq_false (by omega)
            clear hkz hEk
            go_upto_region 23 with fail
            go_cut [132] from 89 to 131 (fun s132 wx => s132 = .bool false ∧ Below w.heap.size w wx ∧ Below w3.heap.size w3 wx)
            case first =>
              refine wp_region_noPanic ?_
              refine wp_region_held_drew (S := fun w' => w'.cell? ⟨bf, of' + k, none⟩ = some (.int .i64 j) ∧ w'.cell? ⟨bl, ol + j * 4 + 1, none⟩ = some (.string nm)) (by kernel_rfl) (by first | exact ⟨cf0, cl0⟩ | (dsimp only; exact ⟨cf0, cl0⟩)) (fun hHeld => ?_)
              refine wpAnyH_take (i := 0) (v := ?tv0) rfl (by kernel_rfl) (by kernel_rfl) (by kernel_rfl) (fun _ _ _ h => h) (Or.inl ⟨by rfl, ?ty0⟩) (by assumption) ?tr0
              case ty0 => (intro w hSw; (try dsimp only at hSw); go_simp; first | done | with_reducible rfl)
              case tr0 =>
              try simp only [List.getElem_toArray, List.getElem_cons_succ, List.getElem_cons_zero, Act.put, List.setIfInBounds_toArray, List.set_cons_zero, List.set_cons_succ]
              refine wpAnyH_take (i := 1) (v := ?tv1) rfl (by kernel_rfl) (by kernel_rfl) (by kernel_rfl) (fun _ _ _ h => h) (Or.inl ⟨by rfl, ?ty1⟩) (by assumption) ?tr1
              case ty1 => (intro w hSw; (try dsimp only at hSw); go_simp; first | done | with_reducible rfl)
              case tr1 =>
              try simp only [List.getElem_toArray, List.getElem_cons_succ, List.getElem_cons_zero, Act.put, List.setIfInBounds_toArray, List.set_cons_zero, List.set_cons_succ]
              refine wpAnyH_take (i := 2) (v := ?tv2) rfl (by kernel_rfl) (by kernel_rfl) (by kernel_rfl) (fun _ _ _ h => h) (Or.inl ⟨by rfl, ?ty2⟩) (by assumption) ?tr2
              case ty2 => (intro w hSw; (try dsimp only at hSw); go_simp; first | done | with_reducible rfl)
              case tr2 =>
              try simp only [List.getElem_toArray, List.getElem_cons_succ, List.getElem_cons_zero, Act.put, List.setIfInBounds_toArray, List.set_cons_zero, List.set_cons_succ]
              refine wpAnyH_take (i := 3) (v := ?tv3) rfl (by kernel_rfl) (by kernel_rfl) (by kernel_rfl) (fun _ _ _ h => h) (Or.inl ⟨by rfl, ?ty3⟩) (by assumption) ?tr3
              case ty3 => (intro w hSw; (try dsimp only at hSw); go_simp; first | done | with_reducible rfl)
              case tr3 =>
              try simp only [List.getElem_toArray, List.getElem_cons_succ, List.getElem_cons_zero, Act.put, List.setIfInBounds_toArray, List.set_cons_zero, List.set_cons_succ]
              refine wpAnyH_take (i := 4) (v := ?tv4) rfl (by kernel_rfl) (by kernel_rfl) (by kernel_rfl) (fun _ _ _ h => h) (Or.inl ⟨by rfl, ?ty4⟩) (by assumption) ?tr4
              case ty4 => (intro w hSw; (try dsimp only at hSw); go_simp; first | done | with_reducible rfl)
              case tr4 =>
              try simp only [List.getElem_toArray, List.getElem_cons_succ, List.getElem_cons_zero, Act.put, List.setIfInBounds_toArray, List.set_cons_zero, List.set_cons_succ]
              refine wpAnyH_take (i := 5) (v := ?tv5) rfl (by kernel_rfl) (by kernel_rfl) (by kernel_rfl) (fun _ _ _ h => h) (Or.inl ⟨by rfl, ?ty5⟩) (by assumption) ?tr5
              case ty5 => (intro w hSw; (try dsimp only at hSw); go_simp; first | done | with_reducible rfl)
              case tr5 =>
              try simp only [List.getElem_toArray, List.getElem_cons_succ, List.getElem_cons_zero, Act.put, List.setIfInBounds_toArray, List.set_cons_zero, List.set_cons_succ]
              refine wpAnyH_take (i := 6) (v := ?tv6) rfl (by kernel_rfl) (by kernel_rfl) (by kernel_rfl) (fun _ _ _ h => h) (Or.inl ⟨by rfl, ?ty6⟩) (by assumption) ?tr6
              case ty6 => (intro w hSw; (try dsimp only at hSw); go_simp; first | done | with_reducible rfl)
              case tr6 =>
              try simp only [List.getElem_toArray, List.getElem_cons_succ, List.getElem_cons_zero, Act.put, List.setIfInBounds_toArray, List.set_cons_zero, List.set_cons_succ]
              refine wpAnyH_take (i := 7) (v := ?tv7) rfl (by kernel_rfl) (by kernel_rfl) (by kernel_rfl) (fun _ _ _ h => h) (Or.inl ⟨by rfl, ?ty7⟩) (by assumption) ?tr7
              case ty7 => (intro w hSw; (try dsimp only at hSw); go_simp; first | done | with_reducible rfl)
              case tr7 =>
              try simp only [List.getElem_toArray, List.getElem_cons_succ, List.getElem_cons_zero, Act.put, List.setIfInBounds_toArray, List.set_cons_zero, List.set_cons_succ]
              refine wpAnyH_take (i := 8) (v := ?tv8) rfl (by kernel_rfl) (by kernel_rfl) (by kernel_rfl) (fun _ _ _ h => h) (Or.inl ⟨by rfl, ?ty8⟩) (by assumption) ?tr8
              case ty8 => (intro w hSw; (try dsimp only at hSw); go_simp; first | done | with_reducible rfl)
              case tr8 =>
              try simp only [List.getElem_toArray, List.getElem_cons_succ, List.getElem_cons_zero, Act.put, List.setIfInBounds_toArray, List.set_cons_zero, List.set_cons_succ]
              refine wpAnyH_take (i := 10) (v := ?tv10) rfl (by kernel_rfl) (by kernel_rfl) (by kernel_rfl) (fun _ _ _ h => h) (Or.inl ⟨by rfl, ?ty10⟩) (by assumption) ?tr10
              case ty10 => (intro w hSw; (try dsimp only at hSw); go_simp; first | done | with_reducible rfl)
              case tr10 =>
              try simp only [List.getElem_toArray, List.getElem_cons_succ, List.getElem_cons_zero, Act.put, List.setIfInBounds_toArray, List.set_cons_zero, List.set_cons_succ]
              refine wpAnyH_take (i := 11) (v := ?tv11) rfl (by kernel_rfl) (by kernel_rfl) (by kernel_rfl) (fun _ _ _ h => h) (Or.inl ⟨by rfl, ?ty11⟩) (by assumption) ?tr11
              case ty11 => (intro w hSw; (try dsimp only at hSw); go_simp; first | done | with_reducible rfl)
              case tr11 =>
              try simp only [List.getElem_toArray, List.getElem_cons_succ, List.getElem_cons_zero, Act.put, List.setIfInBounds_toArray, List.set_cons_zero, List.set_cons_succ]
              refine wpAnyH_take (i := 12) (v := ?tv12) rfl (by kernel_rfl) (by kernel_rfl) (by kernel_rfl) (fun _ _ _ h => h) (Or.inl ⟨by rfl, ?ty12⟩) (by assumption) ?tr12
              case ty12 => (intro w hSw; (try dsimp only at hSw); go_simp; first | done | with_reducible rfl)
              case tr12 =>
              try simp only [List.getElem_toArray, List.getElem_cons_succ, List.getElem_cons_zero, Act.put, List.setIfInBounds_toArray, List.set_cons_zero, List.set_cons_succ]
              refine wpAnyH_take (i := 13) (v := ?tv13) rfl (by kernel_rfl) (by kernel_rfl) (by kernel_rfl) (fun _ _ _ h => h) (Or.inl ⟨by rfl, ?ty13⟩) (by assumption) ?tr13
              case ty13 => (intro w hSw; (try dsimp only at hSw); go_simp; first | done | with_reducible rfl)
              case tr13 =>
              try simp only [List.getElem_toArray, List.getElem_cons_succ, List.getElem_cons_zero, Act.put, List.setIfInBounds_toArray, List.set_cons_zero, List.set_cons_succ]
              refine wpAnyH_ready (rs := [9]) (by kernel_rfl) (by simp) ?_
              refine AllReadyH.cons rfl (fun K hK => ?tc9) AllReadyH.nil
              case tc9 =>
              go_simp
              go_at_call 15
              refine (i_findFunction _ m c' L _ _ (by omega) (R4.out.below (by first | with_reducible exact (Below.refl _ _).drew | with_reducible exact Below.refl _ _))).mono ?_
              rintro e w5 ⟨he, hb5⟩
              rw [HF.out] at he
              subst he
              have HB5 := hide (below_transD (B := wr.heap.size) (a := wr) hb5 (by first | with_reducible exact (Below.refl _ _).drew | with_reducible exact Below.refl _ _))
              have R5 := hide (R4.out.below HB5.out)
              clear hb5
              go_wp2_with fail
              refine hK.out _ _ ⟨CB.out _ HB5.out _ _ cf0, CB.out _ HB5.out _ _ cl0⟩ (fun hHeld => ?th9)
              case th9 =>
              clear hK K
              try simp only [List.getElem_toArray, List.getElem_cons_succ, List.getElem_cons_zero, Act.put, List.setIfInBounds_toArray, List.set_cons_zero, List.set_cons_succ]
              refine wpAnyH_take (i := 14) (v := ?tv14) rfl (by kernel_rfl) (by kernel_rfl) (by kernel_rfl) (fun _ _ _ h => h) (Or.inl ⟨by rfl, ?ty14⟩) (by assumption) ?tr14
              case ty14 => (intro w hSw; (try dsimp only at hSw); go_simp; first | done | with_reducible rfl)
              case tr14 =>
              try simp only [List.getElem_toArray, List.getElem_cons_succ, List.getElem_cons_zero, Act.put, List.setIfInBounds_toArray, List.set_cons_zero, List.set_cons_succ]
              refine wpAnyH_take (i := 15) (v := ?tv15) rfl (by kernel_rfl) (by kernel_rfl) (by kernel_rfl) (fun _ _ _ h => h) (Or.inl ⟨by rfl, ?ty15⟩) (by assumption) ?tr15
              case ty15 => (intro w hSw; (try dsimp only at hSw); go_simp; first | done | with_reducible rfl)
              case tr15 =>
              try simp only [List.getElem_toArray, List.getElem_cons_succ, List.getElem_cons_zero, Act.put, List.setIfInBounds_toArray, List.set_cons_zero, List.set_cons_succ]
              refine wpAnyH_take (i := 16) (v := ?tv16) rfl (by kernel_rfl) (by kernel_rfl) (by kernel_rfl) (fun _ _ _ h => h) (Or.inl ⟨by rfl, ?ty16⟩) (by assumption) ?tr16
              case ty16 => (intro w hSw; (try dsimp only at hSw); go_simp; first | done | with_reducible rfl)
              case tr16 =>
              try simp only [List.getElem_toArray, List.getElem_cons_succ, List.getElem_cons_zero, Act.put, List.setIfInBounds_toArray, List.set_cons_zero, List.set_cons_succ]
              refine wpAnyH_take (i := 17) (v := ?tv17) rfl (by kernel_rfl) (by kernel_rfl) (by kernel_rfl) (fun _ _ _ h => h) (Or.inl ⟨by rfl, ?ty17⟩) (by assumption) ?tr17
              case ty17 => (intro w hSw; (try dsimp only at hSw); go_simp; first | done | with_reducible rfl)
              case tr17 =>
              try simp only [List.getElem_toArray, List.getElem_cons_succ, List.getElem_cons_zero, Act.put, List.setIfInBounds_toArray, List.set_cons_zero, List.set_cons_succ]
              refine wpAnyH_take (i := 18) (v := ?tv18) rfl (by kernel_rfl) (by kernel_rfl) (by kernel_rfl) (fun _ _ _ h => h) (Or.inl ⟨by rfl, ?ty18⟩) (by assumption) ?tr18
              case ty18 => (intro w hSw; (try dsimp only at hSw); go_simp; first | done | with_reducible rfl)
              case tr18 =>
              try simp only [List.getElem_toArray, List.getElem_cons_succ, List.getElem_cons_zero, Act.put, List.setIfInBounds_toArray, List.set_cons_zero, List.set_cons_succ]
              refine wpAnyH_take (i := 19) (v := undef) rfl (by kernel_rfl) (by kernel_rfl) (by kernel_rfl) (fun _ _ _ h => h) (Or.inr ⟨by rfl, rfl⟩) (by assumption) ?tr19
              case tr19 =>
              try simp only [List.getElem_toArray, List.getElem_cons_succ, List.getElem_cons_zero, Act.put, List.setIfInBounds_toArray, List.set_cons_zero, List.set_cons_succ]
              refine wpAnyH_take (i := 20) (v := undef) rfl (by kernel_rfl) (by kernel_rfl) (by kernel_rfl) (fun _ _ _ h => h) (Or.inr ⟨by rfl, rfl⟩) (by assumption) ?tr20
              case tr20 =>
              try simp only [List.getElem_toArray, List.getElem_cons_succ, List.getElem_cons_zero, Act.put, List.setIfInBounds_toArray, List.set_cons_zero, List.set_cons_succ]
              refine wpAnyH_take (i := 21) (v := undef) rfl (by kernel_rfl) (by kernel_rfl) (by kernel_rfl) (fun _ _ _ h => h) (Or.inr ⟨by rfl, rfl⟩) (by assumption) ?tr21
              case tr21 =>
              try simp only [List.getElem_toArray, List.getElem_cons_succ, List.getElem_cons_zero, Act.put, List.setIfInBounds_toArray, List.set_cons_zero, List.set_cons_succ]
              refine wpAnyH_take (i := 22) (v := undef) rfl (by kernel_rfl) (by kernel_rfl) (by kernel_rfl) (fun _ _ _ h => h) (Or.inr ⟨by rfl, rfl⟩) (by assumption) ?tr22
              case tr22 =>
              try simp only [List.getElem_toArray, List.getElem_cons_succ, List.getElem_cons_zero, Act.put, List.setIfInBounds_toArray, List.set_cons_zero, List.set_cons_succ]
              refine wpAnyH_take (i := 23) (v := undef) rfl (by kernel_rfl) (by kernel_rfl) (by kernel_rfl) (fun _ _ _ h => h) (Or.inr ⟨by rfl, rfl⟩) (by assumption) ?tr23
              case tr23 =>
              try simp only [List.getElem_toArray, List.getElem_cons_succ, List.getElem_cons_zero, Act.put, List.setIfInBounds_toArray, List.set_cons_zero, List.set_cons_succ]
              refine wpAnyH_take (i := 24) (v := undef) rfl (by kernel_rfl) (by kernel_rfl) (by kernel_rfl) (fun _ _ _ h => h) (Or.inr ⟨by rfl, rfl⟩) (by assumption) ?tr24
              case tr24 =>
              try simp only [List.getElem_toArray, List.getElem_cons_succ, List.getElem_cons_zero, Act.put, List.setIfInBounds_toArray, List.set_cons_zero, List.set_cons_succ]
              refine wpAnyH_take (i := 25) (v := undef) rfl (by kernel_rfl) (by kernel_rfl) (by kernel_rfl) (fun _ _ _ h => h) (Or.inr ⟨by rfl, rfl⟩) (by assumption) ?tr25
              case tr25 =>
              try simp only [List.getElem_toArray, List.getElem_cons_succ, List.getElem_cons_zero, Act.put, List.setIfInBounds_toArray, List.set_cons_zero, List.set_cons_succ]
              refine wpAnyH_take (i := 26) (v := undef) rfl (by kernel_rfl) (by kernel_rfl) (by kernel_rfl) (fun _ _ _ h => h) (Or.inr ⟨by rfl, rfl⟩) (by assumption) ?tr26
              case tr26 =>
              try simp only [List.getElem_toArray, List.getElem_cons_succ, List.getElem_cons_zero, Act.put, List.setIfInBounds_toArray, List.set_cons_zero, List.set_cons_succ]
              refine wpAnyH_take (i := 27) (v := undef) rfl (by kernel_rfl) (by kernel_rfl) (by kernel_rfl) (fun _ _ _ h => h) (Or.inr ⟨by rfl, rfl⟩) (by assumption) ?tr27
              case tr27 =>
              try simp only [List.getElem_toArray, List.getElem_cons_succ, List.getElem_cons_zero, Act.put, List.setIfInBounds_toArray, List.set_cons_zero, List.set_cons_succ]
              refine wpAnyH_take (i := 28) (v := undef) rfl (by kernel_rfl) (by kernel_rfl) (by kernel_rfl) (fun _ _ _ h => h) (Or.inr ⟨by rfl, rfl⟩) (by assumption) ?tr28
              case tr28 =>
              try simp only [List.getElem_toArray, List.getElem_cons_succ, List.getElem_cons_zero, Act.put, List.setIfInBounds_toArray, List.set_cons_zero, List.set_cons_succ]
              refine wpAnyH_take (i := 29) (v := undef) rfl (by kernel_rfl) (by kernel_rfl) (by kernel_rfl) (fun _ _ _ h => h) (Or.inr ⟨by rfl, rfl⟩) (by assumption) ?tr29
              case tr29 =>
              try simp only [List.getElem_toArray, List.getElem_cons_succ, List.getElem_cons_zero, Act.put, List.setIfInBounds_toArray, List.set_cons_zero, List.set_cons_succ]
              refine wpAnyH_take (i := 30) (v := undef) rfl (by kernel_rfl) (by kernel_rfl) (by kernel_rfl) (fun _ _ _ h => h) (Or.inr ⟨by rfl, rfl⟩) (by assumption) ?tr30
              case tr30 =>
              try simp only [List.getElem_toArray, List.getElem_cons_succ, List.getElem_cons_zero, Act.put, List.setIfInBounds_toArray, List.set_cons_zero, List.set_cons_succ]
              refine wpAnyH_take (i := 31) (v := undef) rfl (by kernel_rfl) (by kernel_rfl) (by kernel_rfl) (fun _ _ _ h => h) (Or.inr ⟨by rfl, rfl⟩) (by assumption) ?tr31
              case tr31 =>
              try simp only [List.getElem_toArray, List.getElem_cons_succ, List.getElem_cons_zero, Act.put, List.setIfInBounds_toArray, List.set_cons_zero, List.set_cons_succ]
              refine wpAnyH_take (i := 32) (v := ?tv32) rfl (by kernel_rfl) (by kernel_rfl) (by kernel_rfl) (fun _ _ _ h => h) (Or.inl ⟨by rfl, ?ty32⟩) (by assumption) ?tr32
              case ty32 => (intro w hSw; (try dsimp only at hSw); go_simp; first | done | with_reducible rfl)
              case tr32 =>
              try simp only [List.getElem_toArray, List.getElem_cons_succ, List.getElem_cons_zero, Act.put, List.setIfInBounds_toArray, List.set_cons_zero, List.set_cons_succ]
              refine wpAnyH_take (i := 33) (v := ?tv33) rfl (by kernel_rfl) (by kernel_rfl) (by kernel_rfl) (fun _ _ _ h => h) (Or.inl ⟨by rfl, ?ty33⟩) (by assumption) ?tr33
              case ty33 => (intro w hSw; (try dsimp only at hSw); go_simp; first | done | with_reducible rfl)
              case tr33 =>
              try simp only [List.getElem_toArray, List.getElem_cons_succ, List.getElem_cons_zero, Act.put, List.setIfInBounds_toArray, List.set_cons_zero, List.set_cons_succ]
              refine wpAnyH_take (i := 34) (v := ?tv34) rfl (by kernel_rfl) (by kernel_rfl) (by kernel_rfl) (fun _ _ _ h => h) (Or.inl ⟨by rfl, ?ty34⟩) (by assumption) ?tr34
              case ty34 => (intro w hSw; (try dsimp only at hSw); go_simp; first | done | with_reducible rfl)
              case tr34 =>
              try simp only [List.getElem_toArray, List.getElem_cons_succ, List.getElem_cons_zero, Act.put, List.setIfInBounds_toArray, List.set_cons_zero, List.set_cons_succ]
              refine wpAnyH_take (i := 35) (v := ?tv35) rfl (by kernel_rfl) (by kernel_rfl) (by kernel_rfl) (fun _ _ _ h => h) (Or.inl ⟨by rfl, ?ty35⟩) (by assumption) ?tr35
              case ty35 => (intro w hSw; (try dsimp only at hSw); go_simp; first | done | with_reducible rfl)
              case tr35 =>
              try simp only [List.getElem_toArray, List.getElem_cons_succ, List.getElem_cons_zero, Act.put, List.setIfInBounds_toArray, List.set_cons_zero, List.set_cons_succ]
              refine wpAnyH_take (i := 36) (v := ?tv36) rfl (by kernel_rfl) (by kernel_rfl) (by kernel_rfl) (fun _ _ _ h => h) (Or.inl ⟨by rfl, ?ty36⟩) (by assumption) ?tr36
              case ty36 => (intro w hSw; (try dsimp only at hSw); go_simp; first | done | with_reducible rfl)
              case tr36 =>
              try simp only [List.getElem_toArray, List.getElem_cons_succ, List.getElem_cons_zero, Act.put, List.setIfInBounds_toArray, List.set_cons_zero, List.set_cons_succ]
              refine wpAnyH_take (i := 37) (v := ?tv37) rfl (by kernel_rfl) (by kernel_rfl) (by kernel_rfl) (fun _ _ _ h => h) (Or.inl ⟨by rfl, ?ty37⟩) (by assumption) ?tr37
              case ty37 => (intro w hSw; (try dsimp only at hSw); go_simp; first | done | with_reducible rfl)
              case tr37 =>
              try simp only [List.getElem_toArray, List.getElem_cons_succ, List.getElem_cons_zero, Act.put, List.setIfInBounds_toArray, List.set_cons_zero, List.set_cons_succ]
              refine wpAnyH_take (i := 38) (v := ?tv38) rfl (by kernel_rfl) (by kernel_rfl) (by kernel_rfl) (fun _ _ _ h => h) (Or.inl ⟨by rfl, ?ty38⟩) (by assumption) ?tr38
              case ty38 => (intro w hSw; (try dsimp only at hSw); go_simp; first | done | with_reducible rfl)
              case tr38 =>
              try simp only [List.getElem_toArray, List.getElem_cons_succ, List.getElem_cons_zero, Act.put, List.setIfInBounds_toArray, List.set_cons_zero, List.set_cons_succ]
              refine wpAnyH_take (i := 39) (v := ?tv39) rfl (by kernel_rfl) (by kernel_rfl) (by kernel_rfl) (fun _ _ _ h => h) (Or.inl ⟨by rfl, ?ty39⟩) (by assumption) ?tr39
              case ty39 => (intro w hSw; (try dsimp only at hSw); go_simp; first | done | with_reducible rfl)
              case tr39 =>
              try simp only [List.getElem_toArray, List.getElem_cons_succ, List.getElem_cons_zero, Act.put, List.setIfInBounds_toArray, List.set_cons_zero, List.set_cons_succ]
              refine wpAnyH_ready (rs := [40]) (by kernel_rfl) (by simp) ?_
              refine AllReadyH.cons rfl (fun K hK => ?tc40) AllReadyH.nil
              case tc40 =>
              go_simp
              go_at_call 16
              refine (i_localsOf _ m c' L _ _ (by omega) R5.out).mono ?_
              rintro e w6 ⟨⟨v, rfl, ho⟩, hb6⟩
              rw [← HNL.out] at ho
              obtain ⟨AL, cL, rfl, _⟩ := Arr.of_own ho
              have HB6 := hide (HB5.out.trans (hb6.mono HB5.out.size))
              clear ho hb6
              go_wp2_with fail
              refine hK.out _ _ ⟨CB.out _ HB6.out _ _ cf0, CB.out _ HB6.out _ _ cl0⟩ (fun hHeld => ?th40)
              case th40 =>
              clear hK K
              try simp only [List.getElem_toArray, List.getElem_cons_succ, List.getElem_cons_zero, Act.put, List.setIfInBounds_toArray, List.set_cons_zero, List.set_cons_succ]
              refine wpAnyH_take (i := 41) (v := ?tv41) rfl (by kernel_rfl) (by kernel_rfl) (by kernel_rfl) (fun _ _ _ h => h) (Or.inl ⟨by rfl, ?ty41⟩) (by assumption) ?tr41
              case ty41 => (intro w hSw; (try dsimp only at hSw); go_simp; first | done | with_reducible rfl)
              case tr41 =>
              try simp only [List.getElem_toArray, List.getElem_cons_succ, List.getElem_cons_zero, Act.put, List.setIfInBounds_toArray, List.set_cons_zero, List.set_cons_succ]
              refine wpAnyH_take (i := 42) (v := ?tv42) rfl (by kernel_rfl) (by kernel_rfl) (by kernel_rfl) (fun _ _ _ h => h) (Or.inl ⟨by rfl, ?ty42⟩) (by assumption) ?tr42
              case ty42 => (intro w hSw; (try dsimp only at hSw); go_simp; first | done | with_reducible rfl)
              case tr42 =>
              try simp only [List.getElem_toArray, List.getElem_cons_succ, List.getElem_cons_zero, Act.put, List.setIfInBounds_toArray, List.set_cons_zero, List.set_cons_succ]
              refine wpAnyH_take (i := 43) (v := ?tv43) rfl (by kernel_rfl) (by kernel_rfl) (by kernel_rfl) (fun _ _ _ h => h) (Or.inl ⟨by rfl, ?ty43⟩) (by assumption) ?tr43
              case ty43 => (intro w hSw; (try dsimp only at hSw); go_simp; first | done | with_reducible rfl)
              case tr43 =>
              try simp only [List.getElem_toArray, List.getElem_cons_succ, List.getElem_cons_zero, Act.put, List.setIfInBounds_toArray, List.set_cons_zero, List.set_cons_succ]
              refine wpAnyH_done (by kernel_rfl) ?_ _
              refine NoPanic.normal ?_
              go_wp2_with fail
              go_meet
              exact ⟨rfl, B4.out.trans (HB6.out.mono B4.out.size), BB.out.trans (HB6.out.mono BB.out.size)⟩
            case rest =>
              obtain ⟨rfl, hx, hy⟩ := hcut
              have HX := hide hx
              have HY := hide hy
              clear hx hy
              go_wp2_with fail
              go_roundw
              case rel => exact ⟨k + 1, by go_num, by omega, HX.out, HY.out⟩
              case measure => simp [intOf]; omega
          · have z1 : decide (0 < k) = true := decide_eq_true (by omega)
            obtain ⟨kp, hkp⟩ : ∃ kp : Nat, k = kp + 1 := ⟨k - 1, by omega⟩
            have hkpf : kp < fs.length := by omega
            have hE := hEk (by omega)
            obtain ⟨jp, hjp, hjpl, _⟩ := FM.out _ (List.getElem_mem hkpf)
            have hE2 : fs[k - 1]'(by omega) = (jp : Int) := by rw [← hjp]; congr 1; omega
            rw [hj, hE2] at hE
            have HE : Hid (endOfF L (jp : Int) = (j : Int) - 1) := by show _ = _; omega
            obtain ⟨bf', of2, e2, _, cp0⟩ := X4.out.int kp hkpf
            cases e2
            rw [hjp] at cp0
            have hkw : IntKind.i64.wrap ((k : Int) - 1) = (kp : Int) := by rw [IntWalk.i64_in _ (by omega)]; omega
            have hkpn : (kp : Int) < nf := by omega
            have hkp0 : (0 : Int) ≤ (kp : Int) := by omega
            clear hE hEk hE2 hkp
            go_upto_region 23 with fail
            go_cut [132] from 89 to 131 (fun s132 wx => s132 = .bool false ∧ Below w.heap.size w wx ∧ Below w3.heap.size w3 wx)
            case first =>
              go_region_held3 (fun w' => w'.cell? ⟨bf, of' + k, none⟩ = some (.int .i64 j) ∧ w'.cell? ⟨bf, of' + kp, none⟩ = some (.int .i64 jp) ∧ w'.cell? ⟨bl, ol + j * 4 + 1, none⟩ = some (.string nm)) (first | exact ⟨cf0, cp0, cl0⟩ | exact ⟨CB.out _ HB6.out _ _ cf0, CB.out _ HB6.out _ _ cp0, CB.out _ HB6.out _ _ cl0⟩ | exact ⟨CB.out _ HB5.out _ _ cf0, CB.out _ HB5.out _ _ cp0, CB.out _ HB5.out _ _ cl0⟩) (first | (go_at_call 15; refine (i_findFunction _ m c' L _ _ (by omega) (R4.out.below (by first | with_reducible exact (Below.refl _ _).drew | with_reducible exact Below.refl _ _))).mono ?_; rintro e w5 ⟨he, hb5⟩; rw [HF.out] at he; subst he; have HB5 := hide (below_transD (B := wr.heap.size) (a := wr) hb5 (by first | with_reducible exact (Below.refl _ _).drew | with_reducible exact Below.refl _ _)); have R5 := hide (R4.out.below HB5.out); clear hb5) | (go_at_call 13; refine (s_endOf _ m c' L _ _ (by omega) R5.out).mono ?_; rintro e w' ⟨he, hww⟩; subst hww; rw [HE.out] at he; subst he) | (go_at_call 16; refine (i_localsOf _ m c' L _ _ (by omega) R5.out).mono ?_; rintro e w6 ⟨⟨v, rfl, ho⟩, hb6⟩; rw [← HNL.out] at ho; obtain ⟨AL, cL, rfl, _⟩ := Arr.of_own ho; have HB6 := hide (HB5.out.trans (hb6.mono HB5.out.size)); clear ho hb6))
              all_goals
                go_wp2_with fail
              all_goals
                go_meet
                exact ⟨rfl, B4.out.trans (HB6.out.mono B4.out.size), BB.out.trans (HB6.out.mono BB.out.size)⟩
            case rest =>
              obtain ⟨rfl, hx, hy⟩ := hcut
              have HX := hide hx
              have HY := hide hy
              clear hx hy
              go_wp2_with fail
              go_roundw
              case rel => exact ⟨k + 1, by go_num, by omega, HX.out, HY.out⟩
              case measure => simp [intOf]; omega
        · have hpos : decide (0 < nf) = true := decide_eq_true (by omega)
          go_wp2_with fail
          go_ret
          exact ⟨rfl, B4.out⟩
end fnBlocks
end Go.Proofs.Ytcfjbaanahgpoaa
