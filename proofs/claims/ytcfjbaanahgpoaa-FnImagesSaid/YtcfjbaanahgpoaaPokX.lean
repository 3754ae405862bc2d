import Derived.Test.YtcfjbaanahgpoaaPok0
import Derived.Deep.CutRange
import Derived.Deep.CutBlock
namespace Go.Proofs.Ytcfjbaanahgpoaa
open Go Go.RowKit
set_option maxRecDepth 100000
set_option linter.unusedVariables false
set_option linter.unusedSimpArgs false
theorem findFrom_ge (s : ByteArray) : ∀ (M : List Ln) (k : Nat), findFrom s M k = -1 ∨ ((k : Int) ≤ findFrom s M k ∧ findFrom s M k < k + M.length) := by
  intro M
  induction M with
  | nil => intro k; exact .inl rfl
  | cons x M ih =>
    intro k
    rw [findFrom]
    split
    · right; simp; omega
    · rcases ih (k + 1) with h | h
      · exact .inl h
      · right; simp; omega
theorem findF_range (L : List Ln) (s : ByteArray) : findF L s = -1 ∨ (0 ≤ findF L s ∧ findF L s < L.length) := by
  rcases findFrom_ge s L 0 with h | h
  · exact .inl h
  · right; unfold findF; omega
theorem names_step (L : List Ln) (loc : List ByteArray) (ex : List Tk) (k : Nat) (hk : k < ex.length) (h : (ex.take k).all (nameX L loc) = true) (hx : nameX L loc ex[k] = true) : (ex.take (k + 1)).all (nameX L loc) = true := by
  rw [List.take_succ_eq_append_getElem hk, List.all_append, h]
  simp [hx]
theorem names_bad (L : List Ln) (loc : List ByteArray) (ex : List Tk) (k : Nat) (hk : k < ex.length) (hx : nameX L loc ex[k] = false) : namesX L loc ex = false := by
  unfold namesX
  rw [List.all_eq_false]
  exact ⟨ex[k], List.getElem_mem hk, by rw [hx]; simp⟩
theorem names_end (L : List Ln) (loc : List ByteArray) (ex : List Tk) (k : Nat) (hk : ex.length ≤ k) (h : (ex.take k).all (nameX L loc) = true) : namesX L loc ex = true := by
  rw [List.take_of_length_le hk] at h; exact h
theorem nameX_var (L : List Ln) (loc : List ByteArray) (t : Tk) (h : t.1 = 1) : nameX L loc t = decide (0 ≤ idxF loc t.2.2) := by
  unfold nameX
  rw [decide_eq_true (p := t.1 = 7 → _) (fun e => by omega), Bool.and_true]
  by_cases hq : 0 ≤ idxF loc t.2.2
  · rw [decide_eq_true hq]; exact decide_eq_true (fun _ => hq)
  · rw [decide_eq_false hq]; exact decide_eq_false (fun e => hq (e h))
theorem nameX_call (L : List Ln) (loc : List ByteArray) (t : Tk) (h : t.1 = 7) : nameX L loc t = decide (0 ≤ findF L t.2.2 ∧ ((lnAtD L (findF L t.2.2).toNat).2.2.1.length : Int) = t.2.1) := by
  unfold nameX
  rw [decide_eq_true (p := t.1 = 1 → _) (fun e => by omega), Bool.true_and]
  by_cases hq : 0 ≤ findF L t.2.2 ∧ ((lnAtD L (findF L t.2.2).toNat).2.2.1.length : Int) = t.2.1
  · rw [decide_eq_true hq]; exact decide_eq_true (fun _ => hq)
  · rw [decide_eq_false hq]; exact decide_eq_false (fun e => hq (e h))
theorem nameX_other (L : List Ln) (loc : List ByteArray) (t : Tk) (h1 : t.1 ≠ 1) (h : t.1 ≠ 7) : nameX L loc t = true := by
  unfold nameX
  rw [decide_eq_true (p := t.1 = 1 → _) (fun e => absurd e h1), decide_eq_true (p := t.1 = 7 → _) (fun e => absurd e h)]; rfl
set_option maxHeartbeats 1000000 in
theorem i_exprNames (A Al Ae : Option Addr) (n c nl cl ne ce : Nat) (L : List Ln) (loc : List ByteArray) (ex : List Tk) (w : World) (hn : n + lnTot L ≤ 1048576) (h : InLines w A n L) (hnl : nl ≤ 1048576) (hl : InRow w Al nl 1 (strCells loc)) (hne : ne ≤ 1048576) (hle : ex.length = ne) (he : InRow w Ae ne 3 (tokCells ex)) :
    Calls Try.prog 61 #[.slice A n c, .slice Al nl cl, .slice Ae ne ce] w fun e w' => e = .returned (.bool (namesX L loc ex)) ∧ Below w.heap.size w w' := by
  have H := hide h
  have HLL := hide h.len
  have HL := hide hl
  have HE := hide he
  have HEL := hide hle
  clear h hl he hle
  go_enter Try.func61, Try.ntmps61
  go_wp2_with fail
  go_loopw [12] (fun i wr => ∃ k : Nat, k ≤ ne ∧ i = .int .i64 k ∧ (ex.take k).all (nameX L loc) = true ∧ Below w.heap.size w wr) (fun i _ => ne - (intOf i).toNat)
  case atStart => exact ⟨0, Nat.zero_le _, rfl, rfl, Below.refl _ _⟩
  case round =>
    obtain ⟨k, hk, rfl, hall, hb⟩ := hrel
    have HB := hide hb
    have HA := hide hall
    clear hb hall
    by_cases hlt : k < ne
    · have hkl : k < ex.length := by rw [HEL.out]; exact hlt
      obtain ⟨b, o, rfl, hbl, c0, c1, c2⟩ := (HE.out.below HB.out).tok k hkl
      have HSTEP := hide (names_step L loc ex k hkl HA.out)
      have HBAD := hide (names_bad L loc ex k hkl)
      obtain ⟨t, ht⟩ : ∃ t, ex[k] = t := ⟨_, rfl⟩
      rw [ht] at HSTEP HBAD c0 c1 c2
      obtain ⟨tk, tn, ts⟩ := t
      simp only at c0 c1 c2
      have B0 := hide (HB.out.alloc HB.out.size (.cells #[.int .i64 tk, .int .i64 tn, .string ts] 64))
      have R0 := hide (H.out.below B0.out)
      have RL := hide (HL.out.below B0.out)
      clear ht
      by_cases h1 : tk = 1
      · have HX := hide (nameX_var L loc (tk, tn, ts) h1)
        have z1 : (tk == 1) = true := by simp [h1]
        have z7 : (tk == 7) = false := by simp [h1]
        clear h1
        by_cases hm : ts ∈ loc
        · have hy := yes_of hm
          have HN := hide (HSTEP.out (by rw [HX.out]; exact decide_eq_true ((idxF_mem loc ts).2 hm)))
          go_wp2_with fail
          refine (i_contains Al nl cl loc ts _ (by omega) RL.out).mono ?_
          rintro e w' ⟨rfl, rfl⟩
          rw [hy]
          go_wp2_with fail
          go_roundw
          case rel => exact ⟨k + 1, by omega, by go_num, HN.out, B0.out⟩
          case measure => simp [intOf]; omega
        · have hy := yes_not hm
          have HN := hide (HBAD.out (by rw [HX.out]; exact decide_eq_false (fun h => hm ((idxF_mem loc ts).1 h))))
          go_wp2_with fail
          refine (i_contains Al nl cl loc ts _ (by omega) RL.out).mono ?_
          rintro e w' ⟨rfl, rfl⟩
          rw [hy]
          go_wp2_with fail
          go_ret
          exact ⟨by rw [HN.out]; rfl, B0.out⟩
      · have z1 : (tk == 1) = false := by simp [h1]
        by_cases h7 : tk = 7
        · have HX := hide (nameX_call L loc (tk, tn, ts) h7)
          have z7 : (tk == 7) = true := by simp [h7]
          have hfr := findF_range L ts
          clear h1 h7
          have hfi := i_findFunction A n c L ts _ (by omega) R0.out
          have HF := hide hfi
          have K0 := hide (Blk.new wr 64 #[.int .i64 tk, .int .i64 tn, .string ts])
          clear hfi
          simp only at HX
          generalize findF L ts = f at *
          rcases hfr with hf | ⟨hf0, hf1⟩
          · subst hf
            have HN := hide (HBAD.out (by rw [HX.out]; exact decide_eq_false (fun h => by omega)))
            go_wp2_with fail
            refine HF.out.mono ?_
            rintro e w1 ⟨rfl, hb1⟩
            have B1 := hide (B0.out.trans (hb1.mono B0.out.size))
            have k1 := (K0.out.below hb1 (by simp)).cell 1
            simp at k1
            clear hb1
            go_wp2_with fail
            go_quiet (fail)
            go_wp2_with fail
            go_ret
            exact ⟨by rw [HN.out]; rfl, below_drewN B1.out nq⟩
          · obtain ⟨j, rfl⟩ := Int.eq_ofNat_of_zero_le hf0
            have hj : j < L.length := by omega
            have hjn : j < n := by have := HLL.out; omega
            obtain ⟨b2, o2, B1, d1, B2, d2, rfl, hbl2, e0, e1, e2, e3, _⟩ := R0.out.ln j hj
            rw [Int.toNat_natCast, lnAtD_of L j hj] at HX
            have hlen : L[j].2.2.1.length ≤ 1048576 := by have := lnTot_mem L _ (List.getElem_mem hj); omega
            by_cases hq : (L[j].2.2.1.length : Int) = tn
            · have HN := hide (HSTEP.out (by rw [HX.out]; exact decide_eq_true ⟨hf0, hq⟩))
              have zq : ((L[j].2.2.1.length : Int) != tn) = false := by simp [hq]
              go_wp2_with fail
              refine HF.out.mono ?_
              rintro e w1 ⟨rfl, hb1⟩
              have B1 := hide (B0.out.trans (hb1.mono B0.out.size))
              have k1 := (K0.out.below hb1 (by simp)).cell 1
              simp at k1
              obtain ⟨b2, o2, B1', d1, B2', d2, eA, hbl2, e0, e1, e2, e3, _⟩ := (R0.out.below hb1).ln j hj
              cases eA
              clear hb1
              go_wp2_with fail
              go_quiet (fail)
              go_wp2_with fail
              go_roundw
              case rel => exact ⟨k + 1, by omega, by go_num, HN.out, below_drewN B1.out nq⟩
              case measure => simp [intOf]; omega
            · have HN := hide (HBAD.out (by rw [HX.out]; exact decide_eq_false (fun h => hq h.2)))
              have zq : ((L[j].2.2.1.length : Int) != tn) = true := by simp [hq]
              go_wp2_with fail
              refine HF.out.mono ?_
              rintro e w1 ⟨rfl, hb1⟩
              have B1 := hide (B0.out.trans (hb1.mono B0.out.size))
              have k1 := (K0.out.below hb1 (by simp)).cell 1
              simp at k1
              obtain ⟨b2, o2, B1', d1, B2', d2, eA, hbl2, e0, e1, e2, e3, _⟩ := (R0.out.below hb1).ln j hj
              cases eA
              clear hb1
              go_wp2_with fail
              go_quiet (fail)
              go_wp2_with fail
              go_ret
              exact ⟨by rw [HN.out]; rfl, below_drewN B1.out nq⟩
        · have z7 : (tk == 7) = false := by simp [h7]
          have HN := hide (HSTEP.out (nameX_other L loc (tk, tn, ts) h1 h7))
          clear h1 h7
          go_wp2_with fail
          go_roundw
          case rel => exact ⟨k + 1, by omega, by go_num, HN.out, B0.out⟩
          case measure => simp [intOf]; omega
    · have HN := hide (names_end L loc ex k (by rw [HEL.out]; omega) HA.out)
      go_wp2_with fail
      go_ret
      exact ⟨by rw [HN.out]; rfl, HB.out⟩
end Go.Proofs.Ytcfjbaanahgpoaa
namespace Go.Proofs.Ytcfjbaanahgpoaa
open Go Go.RowKit
set_option maxRecDepth 100000
set_option linter.unusedVariables false
set_option linter.unusedSimpArgs false
theorem own_cut {w : World} {base e size n c m : Nat} {A : Option Addr} {xs : List Value} (h : w.ownsRow base e size (.slice A n c) n xs) (hm : m ≤ n) : w.ownsRow base e size (.slice A m c) m (xs.take (m * size)) := by
  obtain ⟨h1, h2⟩ := h
  have hms : m * size ≤ n * size := Nat.mul_le_mul_right _ hm
  refine ⟨by rw [List.length_take, h1, Nat.min_eq_left hms], ?_⟩
  rcases h2 with ⟨h2, rfl⟩ | ⟨g, cap, cur, h2, h3, h4, h5, h6, h7, h8⟩
  · cases h2
    obtain rfl : m = 0 := by omega
    exact .inl ⟨rfl, rfl⟩
  · cases h2
    exact .inr ⟨g, c, cur, rfl, h3, h4, by omega, h6, h7, by rw [← h8, List.take_take, Nat.min_eq_left hms]⟩
def slLen : Value → Nat
  | .slice _ n _ => n
  | _ => 0
def ixFrom (x : Int) : List Int → Nat → Int
  | [], _ => -1
  | y :: l, k => if y = x then (k : Int) else ixFrom x l (k + 1)
def ixF (l : List Int) (x : Int) : Int := ixFrom x l 0
theorem ixFrom_mem (x : Int) (l : List Int) : ∀ k : Nat, (0 ≤ ixFrom x l k ↔ x ∈ l) ∧ -1 ≤ ixFrom x l k := by
  induction l with
  | nil => intro k; simp [ixFrom]
  | cons y l ih =>
    intro k
    rw [ixFrom]
    by_cases h : y = x
    · rw [if_pos h]; simp [h]
    · rw [if_neg h]
      have := ih (k + 1)
      refine ⟨?_, this.2⟩
      rw [this.1, List.mem_cons]
      constructor
      · exact .inr
      · rintro (e | e)
        · exact absurd e.symm h
        · exact e
theorem ixF_mem (l : List Int) (x : Int) : 0 ≤ ixF l x ↔ x ∈ l := (ixFrom_mem x l 0).1
set_option maxHeartbeats 400000 in
theorem i_ixInt (A : Option Addr) (n c : Nat) (l : List Int) (s : Int) (w : World) (hn : n ≤ 1099511627776) (hl : l.length = n) (h : InRow w A n 1 (intCells l)) :
    Calls Try.prog 62 #[.slice A n c, .int .i64 s] w fun e w' => e = .returned (.int .i64 (ixF l s)) ∧ w = w' := by
  have H := hide h
  have HL := hide hl
  clear h hl
  go_enter Try.func62, Try.ntmps62
  go_wp2
  go_loop [8] (fun i => ∃ k : Nat, k ≤ n ∧ i = .int .i64 k ∧ ixF l s = ixFrom s (l.drop k) k) (fun i => n - (intOf i).toNat)
  case atStart => exact ⟨0, Nat.zero_le _, rfl, rfl⟩
  case round =>
    obtain ⟨k, hk, rfl, hx⟩ := hrel
    have HX := hide hx
    clear hx
    by_cases hlt : k < n
    · have hkl : k < l.length := by rw [HL.out]; exact hlt
      obtain ⟨b, o, rfl, _, c0⟩ := H.out.int k hkl
      have HD := hide (List.drop_eq_getElem_cons hkl)
      by_cases heq : l[k] = s
      · have HN : Hid (ixF l s = k) := by show _ = _; rw [HX.out, HD.out, ixFrom, if_pos heq]
        have z : (s == l[k]) = true := by simp [heq]
        clear heq
        go_wp2
        go_ret
        exact ⟨by rw [HN.out]; rfl, rfl⟩
      · have HN : Hid (ixF l s = ixFrom s (l.drop (k + 1)) (k + 1)) := by show _ = _; rw [HX.out, HD.out, ixFrom, if_neg heq]
        have z : (s == l[k]) = false := by simp; exact fun e => heq e.symm
        clear heq
        go_wp2
        go_round
        case rel => exact ⟨k + 1, by omega, by go_num, HN.out⟩
        case measure => simp [intOf]; omega
    · have HN : Hid (ixF l s = -1) := by show _ = _; rw [HX.out, List.drop_of_length_le (by rw [HL.out]; omega)]; rfl
      go_wp2
      go_ret
      exact ⟨by rw [HN.out]; rfl, rfl⟩
set_option maxHeartbeats 400000 in
theorem i_hasInt (A : Option Addr) (n c : Nat) (l : List Int) (s : Int) (w : World) (hn : n ≤ 1099511627776) (hl : l.length = n) (h : InRow w A n 1 (intCells l)) :
    Calls Try.prog 35 #[.slice A n c, .int .i64 s] w fun e w' => e = .returned (.bool (decide (s ∈ l))) ∧ w = w' := by
  have hm := ixF_mem l s
  have hc := i_ixInt A n c l s w hn hl h
  have HC := hide hc
  clear hc h
  have HD : Hid (decide (0 ≤ ixF l s) = decide (s ∈ l)) := by
    show _ = _
    by_cases hs : s ∈ l
    · rw [decide_eq_true hs, decide_eq_true (hm.2 hs)]
    · rw [decide_eq_false hs, decide_eq_false (fun h => hs (hm.1 h))]
  clear hm
  generalize ixF l s = q at *
  go_enter Try.func35, Try.ntmps35
  go_wp2_with fail
  refine HC.out.mono ?_
  rintro e w' ⟨rfl, rfl⟩
  go_wp2
  go_ret
  exact ⟨ret_bool HD.out, rfl⟩
theorem scanI_step (L : List Ln) (loc : List ByteArray) (e i : Nat) (st : List Int) (hi : i ≤ e) : scanI L loc e i st = if (lnAtD L i).1 = 0 then false else if 4 < (pushF L i (popF st i)).length then false else if namesX L loc (lnAtD L i).2.2.2 = false then false else scanI L loc e (i + 1) (pushF L i (popF st i)) := by
  rw [scanI, if_pos hi]
theorem scanI_done (L : List Ln) (loc : List ByteArray) (e i : Nat) (st : List Int) (hi : e < i) : scanI L loc e i st = true := by
  rw [scanI, if_neg (by omega)]
set_option maxHeartbeats 4000000 in
theorem i_functionOk (A : Option Addr) (n c k e : Nat) (L : List Ln) (w : World) (hn : n + lnTot L ≤ 1048576) (h : InLines w A n L) (hke : k ≤ e) (he : e < n) :
    Calls Try.prog 34 #[.slice A n c, .int .i64 k, .int .i64 e] w fun e' w' => e' = .returned (.bool (fnI L k e)) ∧ Below w.heap.size w w' := by
  obtain ⟨i0, hi, hz0, hz1, hz2⟩ := info_parts Try.infoInt
  have H := hide h
  have HL := hide h.len
  have HI := hide hi
  clear h hi
  go_enter Try.func34, Try.ntmps34
  go_wp2_with fail
  refine (i_localsOf A n c L (k : Int) _ hn H.out).mono ?_
  rintro e1 W1 ⟨⟨v, rfl, hown⟩, hb1⟩
  have B1 := hide hb1
  obtain ⟨Al, cl, hv, hncl, hal⟩ := Arr.of_own hown
  subst hv
  have HLOC := hide (InRow.of_arr hal)
  have HR1 := hide (H.out.below hb1)
  have hll := locF_length L (k : Int) (lnTot L) (fun x hx => by have := lnTot_mem L x hx; omega)
  have hnl : L.length = n := HL.out
  have HFN : Hid (fnI L k e = (decide ((locF L (k : Int)).length ≤ 8) && scanI L (locF L (k : Int)) e (k + 1) [])) := rfl
  generalize locF L (k : Int) = loc at *
  clear hown hb1 hal
  by_cases h8 : 8 < loc.length
  · have HN : Hid (fnI L k e = false) := by show _ = _; rw [HFN.out, decide_eq_false (by omega)]; rfl
    go_wp2_with fail
    go_ret
    exact ⟨by rw [HN.out]; rfl, B1.out⟩
  · have HS : Hid (fnI L k e = scanI L loc e (k + 1) []) := by show _ = _; rw [HFN.out, decide_eq_true (by omega), Bool.true_and]
    go_wp2_with fail
    go_loopw [8, 9] (fun v i wr => ∃ (q : Nat) (st : List Int), k + 1 ≤ q ∧ q ≤ e + 1 ∧ st.length ≤ q ∧ i = .int .i64 q ∧ fnI L k e = scanI L loc e q st ∧ wr.ownsRow W1.heap.size 3 1 v st.length (intCells st) ∧ Below W1.heap.size W1 wr) (fun _ i _ => e + 1 - (intOf i).toNat)
    case atStart => exact ⟨k + 1, [], by omega, by omega, by simp, by go_num, HS.out, World.ownsRow_lit W1 #[] 0 (Nat.le_refl _) (Nat.zero_le _) rfl, (Below.refl _ _).alloc (Nat.le_refl _) _⟩
    case round =>
      obtain ⟨q, st, hq1, hq2, hst, rfl, hres, hown, hb⟩ := hrel
      have HB := hide hb
      have HO := hide hown
      have HX := hide hres
      have R := hide (HR1.out.below hb)
      have RL := hide (HLOC.out.below hb)
      clear hown hb hres HS
      by_cases hqe : q ≤ e
      · have hql : q < L.length := by omega
        have HSC := hide (scanI_step L loc e q st hqe)
        rw [lnAtD_of L q hql] at HSC
        obtain ⟨b, o, A1, c1, A2, c2, rfl, hbl, d0, d1, d2, d3, hin⟩ := R.out.ln q hql
        have HEX := hide hin.2.1
        have htot := lnTot_mem L _ (List.getElem_mem hql)
        clear hin
        go_upto_block 2 with fail
        go_cut [8] from 24 to 41 (fun v wx => wx = wr ∧ wr.ownsRow W1.heap.size 3 1 v (popF st q).length (intCells (popF st q)))
        case first =>
          go_wp2_with fail
          go_loop [8] (fun v => ∃ s : List Int, popF st q = popF s q ∧ s.length ≤ st.length ∧ wr.ownsRow W1.heap.size 3 1 v s.length (intCells s)) (fun v => slLen v)
          case atStart => exact ⟨st, rfl, Nat.le_refl _, HO.out⟩
          case round =>
            obtain ⟨s, hs1, hs2, hs3⟩ := hrel
            obtain ⟨As, cs, hv, hncs, hars⟩ := Arr.of_own hs3
            subst hv
            have HS1 := hide hs1
            have HS3 := hide hs3
            clear hs1 hs3
            rcases List.eq_nil_or_concat s with rfl | ⟨s', x, rfl⟩
            · have hz : decide (0 < ([] : List Int).length) = false := rfl
              go_wp2_with fail
              go_meet
              rw [HS1.out]
              exact ⟨rfl, HS3.out⟩
            · rw [List.concat_eq_append] at hs2 hncs hars HS1 HS3 ⊢
              have hlen : (s' ++ [x]).length = s'.length + 1 := by simp
              obtain ⟨b3, o3, rfl, _, x0⟩ := (InRow.of_arr hars).int s'.length (by simp)
              rw [hlen] at HS3 hs2 hncs ⊢
              have hxe : (s' ++ [x])[s'.length]'(by simp) = x := by simp
              rw [hxe] at x0
              have hz : decide (0 < s'.length + 1) = true := by simp
              have hbig : s'.length ≤ 1048576 := by omega
              clear hars hxe hlen
              by_cases hx : x < (q : Int)
              · have HP2 : Hid (popF st q = popF s' q) := by show _ = _; rw [HS1.out, popF_snoc, if_pos hx]
                have HC : Hid (wr.ownsRow W1.heap.size 3 1 (.slice (some ⟨b3, o3, none⟩) s'.length cs) s'.length (intCells s')) := by
                  show wr.ownsRow W1.heap.size 3 1 (.slice (some ⟨b3, o3, none⟩) s'.length cs) s'.length (intCells s')
                  have := own_cut HS3.out (m := s'.length) (by omega)
                  simpa [intCells] using this
                have zx : decide (x < (q : Int)) = true := decide_eq_true hx
                clear hx
                go_wp2_with fail
                go_round
                case rel => exact ⟨s', HP2.out, by omega, HC.out⟩
                case measure => simp [slLen]
              · have HP2 : Hid (popF st q = s' ++ [x]) := by show _ = _; rw [HS1.out, popF_snoc, if_neg hx]
                have zx : decide (x < (q : Int)) = false := decide_eq_false hx
                clear hx
                go_wp2_with fail
                go_meet
                rw [HP2.out]
                refine ⟨rfl, ?_⟩
                have := HS3.out
                simpa using this
        case rest =>
          obtain ⟨rfl, hown⟩ := hcut
          have hpl := popF_length st q
          generalize popF st q = P at *
          obtain ⟨Ap, cp, hv, hncp, _⟩ := Arr.of_own hown
          subst hv
          have O1 := hide hown
          clear hown HO
          go_upto_block 4 with fail
          go_cut [8] from 47 to 57 (fun v wx => L[q].1 ≠ 0 ∧ wx.ownsRow W1.heap.size 3 1 v (pushF L q P).length (intCells (pushF L q P)) ∧ Below W1.heap.size W1 wx)
          case first =>
            by_cases h0 : L[q].1 = 0
            · have HN : Hid (fnI L k e = false) := by show _ = _; rw [HX.out, HSC.out, if_pos h0]
              have z0 : (L[q].1 == 0) = true := by simp [h0]
              clear h0
              go_wp2_with fail
              go_ret
              exact ⟨by rw [HN.out]; rfl, B1.out.trans (HB.out.mono B1.out.size)⟩
            · have z0 : (L[q].1 == 0) = false := by simp [h0]
              by_cases h35 : L[q].1 = 3 ∨ L[q].1 = 5
              · have HPU : Hid (pushF L q P = P ++ [endOfF L (q : Int)]) := by show _ = _; unfold pushF; rw [lnAtD_of L q hql, if_pos h35]
                have hsn := hide (intCells_snoc P (endOfF L (q : Int)))
                have hei := i_endOf (some ⟨b, o, none⟩) n c L (q : Int) wc (by omega) R.out
                have HEI := hide hei
                clear hei
                generalize endOfF L (q : Int) = ee at *
                have H0 := hide h0
                clear h0
                rcases h35 with h3 | h5
                · have z3 : (L[q].1 == 3) = true := by simp [h3]
                  clear h3
                  go_wp2_with fail
                  refine HEI.out.mono ?_
                  rintro e' w' ⟨rfl, rfl⟩
                  go_wp2_with (first | (at_builtin; refine wpList_app _ rfl (.tmp 52) (.tmp 56) _ rfl W1.heap.size 3 i0 _ 1 8 Try.underlying28 HI.out hz0 hz1 hz2 rfl (by decide) _ _ _ rfl O1.out 1 [.int .i64 ee] rfl ?c1 ?c2 ?c3 ?c4 ?c5 ?_) | fail)
                  try case c1 => rfl
                  try case c2 => first | rfl | (intro u hu; obtain rfl := List.mem_singleton.1 hu; rfl)
                  try case c3 => omega
                  try case c4 => decide
                  try case c5 => exact HB.out.size
                  intro v' w3 hown3 hb3 _ _
                  rw [← hsn.out] at hown3
                  have HO3 := hide hown3
                  have HB3 := hide (HB.out.trans hb3)
                  clear hown3 hb3
                  go_wp2_with fail
                  go_meet
                  rw [HPU.out]
                  exact ⟨H0.out, by simpa using HO3.out, HB3.out⟩
                · have z3 : (L[q].1 == 3) = false := by simp [h5]
                  have z5 : (L[q].1 == 5) = true := by simp [h5]
                  clear h5
                  go_wp2_with fail
                  refine HEI.out.mono ?_
                  rintro e' w' ⟨rfl, rfl⟩
                  go_wp2_with (first | (at_builtin; refine wpList_app _ rfl (.tmp 52) (.tmp 56) _ rfl W1.heap.size 3 i0 _ 1 8 Try.underlying28 HI.out hz0 hz1 hz2 rfl (by decide) _ _ _ rfl O1.out 1 [.int .i64 ee] rfl ?d1 ?d2 ?d3 ?d4 ?d5 ?_) | fail)
                  try case d1 => rfl
                  try case d2 => first | rfl | (intro u hu; obtain rfl := List.mem_singleton.1 hu; rfl)
                  try case d3 => omega
                  try case d4 => decide
                  try case d5 => exact HB.out.size
                  intro v' w3 hown3 hb3 _ _
                  rw [← hsn.out] at hown3
                  have HO3 := hide hown3
                  have HB3 := hide (HB.out.trans hb3)
                  clear hown3 hb3
                  go_wp2_with fail
                  go_meet
                  rw [HPU.out]
                  exact ⟨H0.out, by simpa using HO3.out, HB3.out⟩
              · have HPU : Hid (pushF L q P = P) := by show _ = _; unfold pushF; rw [lnAtD_of L q hql, if_neg h35]
                have z3 : (L[q].1 == 3) = false := by simp; exact fun h => h35 (.inl h)
                have z5 : (L[q].1 == 5) = false := by simp; exact fun h => h35 (.inr h)
                have H0 := hide h0
                clear h35 h0
                go_wp2_with fail
                go_meet
                rw [HPU.out]
                exact ⟨H0.out, O1.out, HB.out⟩
          case rest =>
            obtain ⟨h0, hown, hb⟩ := hcut
            have hpu : (pushF L q P).length ≤ q + 1 := by
              unfold pushF
              split
              · rw [List.length_append]; simp; omega
              · omega
            rw [if_neg h0] at HSC
            generalize pushF L q P = S at *
            obtain ⟨As, cs, hv, hncs, _⟩ := Arr.of_own hown
            subst hv
            have O2 := hide hown
            have HB2 := hide hb
            have R2 := hide (HR1.out.below hb)
            have RL2 := hide (HLOC.out.below hb)
            clear hown hb h0 d0 d1 d2 d3 HB HEX
            obtain ⟨b', o', A1', c1', A2', c2', eA, hbl', d0, d1, d2, d3, hin⟩ := R2.out.ln q hql
            cases eA
            have HEX := hide hin.2.1
            clear hin
            by_cases h4 : 4 < S.length
            · have HN : Hid (fnI L k e = false) := by show _ = _; rw [HX.out, HSC.out, if_pos h4]
              have z4 : decide ((4 : Int) < (S.length : Int)) = true := decide_eq_true (by omega)
              go_wp2_with fail
              go_ret
              exact ⟨by rw [HN.out]; rfl, B1.out.trans (HB2.out.mono B1.out.size)⟩
            · have z4 : decide ((4 : Int) < (S.length : Int)) = false := decide_eq_false (by omega)
              rw [if_neg h4] at HSC
              have hne := i_exprNames (some ⟨b, o, none⟩) Al A2' n c loc.length cl L[q].2.2.2.length c2' L loc L[q].2.2.2 wc hn R2.out (by omega) RL2.out (by omega) rfl HEX.out
              have HNE := hide hne
              clear hne h4
              cases hnx : namesX L loc L[q].2.2.2
              · have HN : Hid (fnI L k e = false) := by show _ = _; rw [HX.out, HSC.out, if_pos hnx]
                rw [hnx] at HNE
                clear hnx
                go_wp2_with fail
                refine HNE.out.mono ?_
                rintro e' w3 ⟨rfl, hb3⟩
                have HB3 := hide (HB2.out.trans (hb3.mono HB2.out.size))
                clear hb3
                go_wp2_with fail
                go_ret
                exact ⟨by rw [HN.out]; rfl, B1.out.trans (HB3.out.mono B1.out.size)⟩
              · have HN : Hid (fnI L k e = scanI L loc e (q + 1) S) := by show _ = _; rw [HX.out, HSC.out, if_neg (by rw [hnx]; simp)]
                rw [hnx] at HNE
                clear hnx
                go_wp2_with fail
                refine HNE.out.mono ?_
                rintro e' w3 ⟨rfl, hb3⟩
                have HB3 := hide (HB2.out.trans (hb3.mono HB2.out.size))
                have O3 := hide (own_belowZ O2.out hb3)
                clear hb3
                go_wp2_with fail
                go_roundw
                case rel => exact ⟨q + 1, S, by omega, by omega, hpu, by go_num, HN.out, O3.out, HB3.out⟩
                case measure => simp [intOf]; omega
      · have HN : Hid (fnI L k e = true) := by show _ = _; rw [HX.out, scanI_done L loc e q st (by omega)]
        go_wp2_with fail
        go_ret
        exact ⟨by rw [HN.out]; rfl, B1.out.trans (HB.out.mono B1.out.size)⟩
end Go.Proofs.Ytcfjbaanahgpoaa
namespace Go.Proofs.Ytcfjbaanahgpoaa
open Go Go.RowKit
set_option maxRecDepth 100000
set_option linter.unusedVariables false
set_option linter.unusedSimpArgs false
theorem funsFrom_mem (L : List Ln) : ∀ (m k : Nat), L.length - k ≤ m → ∀ x ∈ funsFrom (L.drop k) k, ∃ j : Nat, x = j ∧ k ≤ j ∧ j < L.length ∧ (lnAtD L j).1 = 0 := by
  intro m
  induction m with
  | zero => intro k hm x hx; rw [List.drop_of_length_le (by omega)] at hx; cases hx
  | succ m ih =>
    intro k hm x hx
    by_cases hk : k < L.length
    · rw [drop_step L k hk, funsFrom] at hx
      split at hx
      · rename_i h0
        rcases List.mem_cons.1 hx with rfl | hx
        · exact ⟨k, rfl, Nat.le_refl _, hk, by rw [lnAtD_of L k hk]; exact h0⟩
        · obtain ⟨j, h1, h2, h3⟩ := ih (k + 1) (by omega) x hx
          exact ⟨j, h1, by omega, h3⟩
      · obtain ⟨j, h1, h2, h3⟩ := ih (k + 1) (by omega) x hx
        exact ⟨j, h1, by omega, h3⟩
    · rw [List.drop_of_length_le (by omega)] at hx; cases hx
theorem funsF_mem (L : List Ln) : ∀ x ∈ funsF L, ∃ j : Nat, x = j ∧ j < L.length ∧ (lnAtD L j).1 = 0 := by
  intro x hx
  obtain ⟨j, h1, _, h3⟩ := funsFrom_mem L _ 0 (Nat.le_refl _) x hx
  exact ⟨j, h1, h3⟩
theorem funsFrom_len : ∀ (M : List Ln) (k : Nat), (funsFrom M k).length ≤ M.length := by
  intro M
  induction M with
  | nil => intro k; exact Nat.le_refl _
  | cons x M ih =>
    intro k
    rw [funsFrom]
    have := ih (k + 1)
    split <;> simp <;> omega
theorem progI_not {L : List Ln} (h : ¬ (L.length ≤ 60 ∧ 1 ≤ (funsF L).length ∧ (funsF L).length ≤ 6 ∧ (∀ k : Nat, k < L.length → lineOkF (lnAtD L k) = true) ∧ headOk L ∧ tileI L (funsF L) 0 = true ∧ elsesOk L)) : progI L = false := yes_not h
theorem progI_tile {L : List Ln} (h1 : L.length ≤ 60) (h2 : 1 ≤ (funsF L).length) (h3 : (funsF L).length ≤ 6) (h4 : ∀ k : Nat, k < L.length → lineOkF (lnAtD L k) = true) (h5 : headOk L) (h6 : elsesOk L) : progI L = tileI L (funsF L) 0 := by
  cases ht : tileI L (funsF L) 0
  · exact progI_not (fun h => by rw [ht] at h; exact absurd h.2.2.2.2.2.1 (by simp))
  · exact yes_of ⟨h1, h2, h3, h4, h5, ht, h6⟩
theorem tileI_bad {L : List Ln} {k : Int} {fs : List Int} {next : Int} (h : ¬ (k = next ∧ findF L (lnAtD L k.toNat).2.1 = k ∧ 0 ≤ endOfF L k ∧ fnI L k.toNat (endOfF L k).toNat = true)) : tileI L (k :: fs) next = false := by rw [tileI, if_neg h]
theorem tileI_good {L : List Ln} {k : Int} {fs : List Int} {next : Int} (h : k = next ∧ findF L (lnAtD L k.toNat).2.1 = k ∧ 0 ≤ endOfF L k ∧ fnI L k.toNat (endOfF L k).toNat = true) : tileI L (k :: fs) next = tileI L fs (endOfF L k + 1) := by rw [tileI, if_pos h]
def elsL (L : List Ln) (n : Nat) : List Int := (List.range n).map fun k : Nat => elseOfF L (k : Int)
theorem elsL_succ (L : List Ln) (n : Nat) : elsL L (n + 1) = elsL L n ++ [elseOfF L (n : Int)] := by simp [elsL, List.range_succ]
theorem elsL_length (L : List Ln) (n : Nat) : (elsL L n).length = n := by simp [elsL]
theorem elsL_mem (L : List Ln) (n : Nat) (i : Int) : decide (i ∈ elsL L n) = elseIn L 0 n i := by
  by_cases h : i ∈ elsL L n
  · rw [decide_eq_true h]
    obtain ⟨k, hk, e⟩ := List.mem_map.1 h
    exact (yes_of ⟨k, Nat.zero_le _, List.mem_range.1 hk, e⟩).symm
  · rw [decide_eq_false h]
    refine (yes_not fun hh => h ?_).symm
    obtain ⟨j, _, h2, h3⟩ := hh
    exact List.mem_map.2 ⟨j, List.mem_range.2 h2, h3⟩
theorem main_eq {s : ByteArray} (h : s = mainW) : (s.toList == [109, 97, 105, 110]) = true := by rw [h]; unfold mainW; rw [ByteArray.toList_eq]; rfl
theorem main_ne {s : ByteArray} (h : ¬ s = mainW) : (s.toList == [109, 97, 105, 110]) = false := by
  have := beqF (show s ≠ ⟨#[109, 97, 105, 110]⟩ from h)
  have e : (⟨#[109, 97, 105, 110]⟩ : ByteArray).toList = [109, 97, 105, 110] := by rw [ByteArray.toList_eq]
  rw [e] at this
  exact this
set_option maxHeartbeats 4000000 in
theorem i_programOk (A : Option Addr) (n c : Nat) (L : List Ln) (w : World) (hn : n + lnTot L ≤ 1048576) (h : InLines w A n L) (hs : ∀ x ∈ L, LnSz x) :
    Calls Try.prog 9 #[.slice A n c] w fun e w' => e = .returned (.bool (progI L)) ∧ Below w.heap.size w w' := by
  obtain ⟨i0, hi, hz0, hz1, hz2⟩ := info_parts Try.infoInt
  have H := hide h
  have HL := hide h.len
  have HI := hide hi
  have HS := hide hs
  clear h hi hs
  go_enter Try.func9, Try.ntmps9
  go_wp2_with fail
  refine (i_funs A n c L _ (by omega) H.out).mono ?_
  rintro e1 W1 ⟨⟨v, rfl, hown⟩, hb1⟩
  have B1 := hide hb1
  obtain ⟨Af, cf, hv, hncf, haf⟩ := Arr.of_own hown
  subst hv
  have HFS := hide (InRow.of_arr haf)
  have HR1 := hide (H.out.below hb1)
  have hnl : L.length = n := HL.out
  have hfl := funsFrom_len L 0
  have HMEM := hide (funsF_mem L)
  have hfe : funsF L = funsFrom L 0 := rfl
  rw [← hfe] at hfl
  have HNOT := hide (@progI_not L)
  have HTILE := hide (@progI_tile L)
  clear hfe hown hb1 haf
  obtain ⟨fs, hfs⟩ : ∃ fs, funsF L = fs := ⟨_, rfl⟩
  rw [hfs] at HFS HMEM HNOT HTILE hfl
  rw [hfs]
  clear hfs
  by_cases h60 : 60 < n
  · have HN : Hid (progI L = false) := HNOT.out (fun h => by omega)
    have z : decide ((60 : Int) < (n : Int)) = true := decide_eq_true (by omega)
    go_wp2_with fail
    go_ret
    exact ⟨by rw [HN.out]; rfl, B1.out⟩
  · have z : decide ((60 : Int) < (n : Int)) = false := decide_eq_false (by omega)
    cases hbt : btw (fs.length : Int) 1 6
    · have HN : Hid (progI L = false) := HNOT.out (fun h => by
        unfold btw at hbt
        exact of_decide_eq_false hbt ⟨by omega, by omega⟩)
      go_wp2_with (go_at_call 32; refine (i_between _ _ _ _).mono ?_; rintro e w' ⟨rfl, rfl⟩)
      go_ret
      exact ⟨by rw [HN.out]; rfl, B1.out⟩
    · obtain ⟨hf1, hf6⟩ : 1 ≤ fs.length ∧ fs.length ≤ 6 := by unfold btw at hbt; have := of_decide_eq_true hbt; omega
      go_wp2_with (go_at_call 32; refine (i_between _ _ _ _).mono ?_; rintro e w' ⟨rfl, rfl⟩)
      clear hbt
      go_loopw [27] (fun i wr => ∃ k : Nat, k ≤ n ∧ i = .int .i64 k ∧ (∀ j : Nat, j < k → lineOkF (lnAtD L j) = true) ∧ Below W1.heap.size W1 wr) (fun i _ => n - (intOf i).toNat)
      case atStart => exact ⟨0, Nat.zero_le _, rfl, fun j hj => absurd hj (Nat.not_lt_zero j), Below.refl _ _⟩
      case round =>
        obtain ⟨k, hk, rfl, hall, hb⟩ := hrel
        have HB := hide hb
        have HA := hide hall
        have R := hide (HR1.out.below hb)
        clear hb hall
        by_cases hlt : k < n
        · have hkl : k < L.length := by omega
          obtain ⟨b, o, A1, d1, A2, d2, rfl, hbl, c0, c1, c2, c3, hin⟩ := R.out.ln k hkl
          have hsz := HS.out _ (List.getElem_mem hkl)
          have htot := lnTot_mem L _ (List.getElem_mem hkl)
          have HLK := hide (lnAtD_of L k hkl)
          have HIN := hide hin
          have HSZ := hide hsz
          clear hin hsz
          obtain ⟨x, hx⟩ : ∃ x, L[k] = x := ⟨_, rfl⟩
          rw [hx] at HLK HIN HSZ c0 c1 c2 c3 htot
          obtain ⟨xk, xs, xa, xe⟩ := x
          simp only at c0 c1 c2 c3 htot
          have B0 := hide (HB.out.alloc HB.out.size (.cells #[.int .i64 xk, .string xs, .slice A1 xa.length d1, .slice A2 xe.length d2] 34))
          have I0 := hide (HIN.out.below ((Below.refl _ _).alloc (Nat.le_refl _) (.cells #[.int .i64 xk, .string xs, .slice A1 xa.length d1, .slice A2 xe.length d2] 34)))
          clear hx
          cases hq : lineOkF (xk, xs, xa, xe)
          · have HN : Hid (progI L = false) := HNOT.out (fun h => by
              have := h.2.2.2.1 k hkl
              rw [HLK.out, hq] at this; cases this)
            go_wp2_with fail
            refine (i_lineOk (xk, xs, xa, xe) A1 A2 d1 d2 _ (by simp only; omega) I0.out HSZ.out).mono ?_
            rintro e w1 ⟨rfl, hb1⟩
            rw [hq]
            go_wp2_with fail
            go_ret
            exact ⟨by rw [HN.out]; rfl, B1.out.trans ((B0.out.trans (hb1.mono B0.out.size)).mono B1.out.size)⟩
          · have HN : Hid (∀ j : Nat, j < k + 1 → lineOkF (lnAtD L j) = true) := by
              intro j hj
              rcases Nat.lt_succ_iff_lt_or_eq.1 hj with h | h
              · exact HA.out j h
              · subst h; rw [HLK.out]; exact hq
            go_wp2_with fail
            refine (i_lineOk (xk, xs, xa, xe) A1 A2 d1 d2 _ (by simp only; omega) I0.out HSZ.out).mono ?_
            rintro e w1 ⟨rfl, hb1⟩
            rw [hq]
            have B2 := hide (B0.out.trans (hb1.mono B0.out.size))
            clear hb1 c0 c1 c2 c3
            go_wp2_with fail
            go_roundw
            case rel => exact ⟨k + 1, by omega, by go_num, HN.out, B2.out⟩
            case measure => simp [intOf]; omega
        · have hkn : k = n := by omega
          have zk0 : decide (k < n) = false := decide_eq_false hlt
          have HOK : Hid (∀ k : Nat, k < L.length → lineOkF (lnAtD L k) = true) := fun j hj => HA.out j (by omega)
          obtain ⟨wo, rfl⟩ : ∃ wo : World, wo = wr := ⟨_, rfl⟩
          have hn1 : 0 < L.length := by omega
          obtain ⟨b, o, A1, d1, A2, d2, rfl, hbl, c0, c1, c2, c3, hin⟩ := R.out.ln 0 hn1
          have HL0 := hide (lnAtD_of L 0 hn1)
          have htot := lnTot_mem L _ (List.getElem_mem hn1)
          clear hin HA
          simp only [Nat.zero_mul, Nat.add_zero] at c0 c1 c2 c3
          obtain ⟨x, hx⟩ : ∃ x, L[0] = x := ⟨_, rfl⟩
          rw [hx] at HL0 c0 c1 c2 c3 htot
          obtain ⟨xk, xs, xa, xe⟩ := x
          simp only at c0 c1 c2 c3 htot
          clear hx
          by_cases hhd : headOk L
          · have HHD := hide hhd
            obtain ⟨hh1, hh2, hh3⟩ := hhd
            rw [HL0.out] at hh1 hh2 hh3
            simp only at hh1 hh2 hh3
            have z0 : (xk != 0) = false := by simp [hh1]
            have z1 := main_eq hh2
            have z2 : decide (0 < xa.length) = false := decide_eq_false (by omega)
            clear hh1 hh2 hh3 hlt hkn
            go_wp2_with fail
            clear c0 c1 c2 c3 z0 z1 z2
            go_loopw [6, 57] (fun nx i wr => ∃ (j : Nat) (m : Int), j ≤ fs.length ∧ i = .int .i64 j ∧ nx = .int .i64 m ∧ 0 ≤ m ∧ m ≤ n ∧ tileI L fs 0 = tileI L (fs.drop j) m ∧ Below W1.heap.size W1 wr) (fun _ i _ => fs.length - (intOf i).toNat)
            case atStart => exact ⟨0, 0, Nat.zero_le _, rfl, rfl, by omega, by omega, rfl, HB.out⟩
            case round =>
              obtain ⟨j, m, hj, rfl, rfl, hm0, hm1, htl, hb⟩ := hrel
              have HB := hide hb
              have HT := hide htl
              have R := hide (HR1.out.below hb)
              have RF := hide (HFS.out.below hb)
              clear hb htl
              by_cases hjl : j < fs.length
              · obtain ⟨b4, o4, rfl, _, x0⟩ := RF.out.int j hjl
                obtain ⟨k, hke, hkl, hk0⟩ := HMEM.out _ (List.getElem_mem hjl)
                have hdr := List.drop_eq_getElem_cons hjl
                rw [hke] at x0 hdr
                have HD := hide hdr
                have HK0 := hide hk0
                have HLK := hide (lnAtD_of L k hkl)
                clear hke hdr hk0 htot
                obtain ⟨b5, o5, A1', d1', A2', d2', eA, hbl5, c0, c1, c2, c3, hin⟩ := R.out.ln k hkl
                cases eA
                clear hin
                have hkn : k < n := by omega
                have HEO : Hid (Calls Try.prog 11 #[.slice (some ⟨b, o, none⟩) n c, .int .i64 (k : Int)] wr fun e w' => e = .returned (.int .i64 (endOfF L (k : Int))) ∧ wr = w') := i_endOf (some ⟨b, o, none⟩) n c L (k : Int) wr (by omega) R.out
                have HFI : Hid (Calls Try.prog 15 #[.slice (some ⟨b, o, none⟩) n c, .string L[k].2.1] wr fun e w' => e = .returned (.int .i64 (findF L L[k].2.1)) ∧ Below wr.heap.size wr w') := i_findFunction (some ⟨b, o, none⟩) n c L L[k].2.1 wr (by omega) R.out
                have BW := hide (B1.out.trans (HB.out.mono B1.out.size))
                have HBAD : Hid (¬ ((k : Int) = m ∧ findF L L[k].2.1 = (k : Int) ∧ 0 ≤ endOfF L (k : Int) ∧ fnI L k (endOfF L (k : Int)).toNat = true) → progI L = false) := fun hh => HNOT.out (fun h => by
                  have h6 := h.2.2.2.2.2.1
                  rw [HT.out, HD.out, tileI_bad (fun h2 => hh (by rwa [Int.toNat_natCast, HLK.out] at h2))] at h6
                  cases h6)
                have HGOOD : Hid (((k : Int) = m ∧ findF L L[k].2.1 = (k : Int) ∧ 0 ≤ endOfF L (k : Int) ∧ fnI L k (endOfF L (k : Int)).toNat = true) → tileI L fs 0 = tileI L (fs.drop (j + 1)) (endOfF L (k : Int) + 1)) := fun hh => by
                  rw [HT.out, HD.out, tileI_good (by rwa [Int.toNat_natCast, HLK.out])]
                by_cases hkm : (k : Int) = m
                · have zkm : ((k : Int) != m) = false := by simp [hkm]
                  by_cases hfk : findF L L[k].2.1 = (k : Int)
                  · rw [hfk] at HFI
                    have zf : ((k : Int) != (k : Int)) = false := by simp
                    by_cases he0 : 0 ≤ endOfF L (k : Int)
                    · obtain ⟨p, hp, hpl, hop, hpe, hel, _⟩ := endOf_pos L (k : Int) he0
                      obtain ⟨ee, he⟩ := Int.eq_ofNat_of_zero_le he0
                      rw [he] at HEO HBAD HGOOD hpe hel
                      have hen : ee < n := by omega
                      have hke : k ≤ ee := by omega
                      have ze : decide ((ee : Int) < 0) = false := decide_eq_false (by omega)
                      rw [Int.toNat_natCast] at HBAD HGOOD
                      clear he0 he hp hpl hop hpe hel
                      cases hfn : fnI L k ee
                      · have HN := hide (HBAD.out (fun h => by rw [hfn] at h; exact absurd h.2.2.2 (by simp)))
                        clear hkm hfk
                        go_wp2_with fail
                        refine HEO.out.mono ?_
                        rintro e' w' ⟨rfl, rfl⟩
                        go_wp2_with fail
                        refine HFI.out.mono ?_
                        rintro e' w2 ⟨rfl, hb2⟩
                        have HB2 := hide (HB.out.trans (hb2.mono HB.out.size))
                        have R2 := hide (R.out.below hb2)
                        clear hb2
                        go_wp2_with fail
                        refine (i_functionOk (some ⟨b, o, none⟩) n c k ee L _ hn R2.out hke hen).mono ?_
                        rintro e' w3 ⟨rfl, hb3⟩
                        rw [hfn]
                        have HB3 := hide (HB2.out.trans (hb3.mono HB2.out.size))
                        clear hb3
                        go_wp2_with fail
                        go_ret
                        exact ⟨by rw [HN.out]; rfl, B1.out.trans (HB3.out.mono B1.out.size)⟩
                      · have HN := hide (HGOOD.out ⟨hkm, hfk, by omega, hfn⟩)
                        clear hkm hfk
                        go_wp2_with fail
                        refine HEO.out.mono ?_
                        rintro e' w' ⟨rfl, rfl⟩
                        go_wp2_with fail
                        refine HFI.out.mono ?_
                        rintro e' w2 ⟨rfl, hb2⟩
                        have HB2 := hide (HB.out.trans (hb2.mono HB.out.size))
                        have R2 := hide (R.out.below hb2)
                        clear hb2
                        go_wp2_with fail
                        refine (i_functionOk (some ⟨b, o, none⟩) n c k ee L _ hn R2.out hke hen).mono ?_
                        rintro e' w3 ⟨rfl, hb3⟩
                        rw [hfn]
                        have HB3 := hide (HB2.out.trans (hb3.mono HB2.out.size))
                        clear hb3
                        go_wp2_with fail
                        go_roundw
                        case rel => exact ⟨j + 1, _, by omega, by go_num, rfl, by omega, by omega, HN.out, HB3.out⟩
                        case measure => simp [intOf]; omega
                    · have HN := hide (HBAD.out (fun h => he0 h.2.2.1))
                      have ze : decide (endOfF L (k : Int) < 0) = true := decide_eq_true (by omega)
                      generalize endOfF L (k : Int) = ee at *
                      clear hkm hfk he0
                      go_wp2_with fail
                      refine HEO.out.mono ?_
                      rintro e' w' ⟨rfl, rfl⟩
                      go_wp2_with fail
                      refine HFI.out.mono ?_
                      rintro e' w2 ⟨rfl, hb2⟩
                      have HB2 := hide (HB.out.trans (hb2.mono HB.out.size))
                      clear hb2
                      go_wp2_with fail
                      go_ret
                      exact ⟨by rw [HN.out]; rfl, B1.out.trans (HB2.out.mono B1.out.size)⟩
                  · have HN := hide (HBAD.out (fun h => hfk h.2.1))
                    have zf : (findF L L[k].2.1 != (k : Int)) = true := by simp [hfk]
                    generalize endOfF L (k : Int) = ee at *
                    generalize findF L L[k].2.1 = ff at *
                    clear hkm hfk
                    go_wp2_with fail
                    refine HEO.out.mono ?_
                    rintro e' w' ⟨rfl, rfl⟩
                    go_wp2_with fail
                    refine HFI.out.mono ?_
                    rintro e' w2 ⟨rfl, hb2⟩
                    have HB2 := hide (HB.out.trans (hb2.mono HB.out.size))
                    clear hb2
                    go_wp2_with fail
                    go_ret
                    exact ⟨by rw [HN.out]; rfl, B1.out.trans (HB2.out.mono B1.out.size)⟩
                · have HN := hide (HBAD.out (fun h => hkm h.1))
                  have zkm : ((k : Int) != m) = true := by simp [hkm]
                  generalize endOfF L (k : Int) = ee at *
                  clear hkm
                  go_wp2_with fail
                  refine HEO.out.mono ?_
                  rintro e' w' ⟨rfl, rfl⟩
                  go_wp2_with fail
                  go_ret
                  exact ⟨by rw [HN.out]; rfl, BW.out⟩
              · have hjn : j = fs.length := by omega
                have HTE : Hid (tileI L fs 0 = decide (m = (L.length : Int))) := by show _ = _; rw [HT.out, List.drop_of_length_le (by omega)]; rfl
                obtain ⟨w2, rfl⟩ : ∃ w2 : World, w2 = wr := ⟨_, rfl⟩
                have zj : decide (j < fs.length) = false := decide_eq_false hjl
                clear HT hjn hjl
                go_wp2_with fail
                go_loopw [10, 95] (fun v i wr => ∃ k : Nat, k ≤ n ∧ i = .int .i64 k ∧ wr.ownsRow w2.heap.size 3 1 v k (intCells (elsL L k)) ∧ Below w2.heap.size w2 wr) (fun _ i _ => n - (intOf i).toNat)
                case atStart => exact ⟨0, Nat.zero_le _, rfl, World.ownsRow_lit w2 #[] 0 (Nat.le_refl _) (Nat.zero_le _) rfl, (Below.refl _ _).alloc (Nat.le_refl _) _⟩
                case round =>
                  obtain ⟨k, hk, rfl, hown, hb⟩ := hrel
                  have HO := hide hown
                  have HB3 := hide hb
                  have R3 := hide (R.out.below hb)
                  clear hown hb
                  by_cases hlt : k < n
                  · have hei := i_elseOf (some ⟨b, o, none⟩) n c L (k : Int) wr (by omega) R3.out
                    have HEI := hide hei
                    have hsn : Hid (intCells (elsL L (k + 1)) = intCells (elsL L k) ++ [.int .i64 (elseOfF L (k : Int))]) := by show _ = _; rw [elsL_succ, intCells_snoc]
                    clear hei
                    generalize elseOfF L (k : Int) = ee at *
                    go_wp2_with fail
                    refine HEI.out.mono ?_
                    rintro e' w' ⟨rfl, rfl⟩
                    go_wp2_with (first | (at_builtin; refine wpList_app _ rfl (.tmp 98) (.tmp 102) _ rfl w2.heap.size 3 i0 _ 1 8 Try.underlying28 HI.out hz0 hz1 hz2 rfl (by decide) _ _ _ rfl HO.out 1 [.int .i64 ee] rfl ?c1 ?c2 ?c3 ?c4 ?c5 ?_) | fail)
                    try case c1 => rfl
                    try case c2 => first | rfl | (intro u hu; obtain rfl := List.mem_singleton.1 hu; rfl)
                    try case c3 => omega
                    try case c4 => decide
                    try case c5 => exact HB3.out.size
                    intro v' w3 hown3 hb3 _ _
                    rw [← hsn.out] at hown3
                    have HO3 := hide hown3
                    have HB4 := hide (HB3.out.trans hb3)
                    clear hown3 hb3
                    go_wp2_with fail
                    go_roundw
                    case rel => exact ⟨k + 1, by omega, by go_num, HO3.out, HB4.out⟩
                    case measure => simp [intOf]; omega
                  · have hkn : k = n := by omega
                    rw [hkn] at HO
                    obtain ⟨Ae, ce, hv, hnce, hae⟩ := Arr.of_own HO.out
                    subst hv
                    have HE := hide (InRow.of_arr hae)
                    obtain ⟨w3, rfl⟩ : ∃ w3 : World, w3 = wr := ⟨_, rfl⟩
                    have zk : decide (k < n) = false := decide_eq_false hlt
                    clear hae HO hlt hkn
                    go_wp2_with fail
                    go_loopw [107] (fun i wr => ∃ k : Nat, k ≤ n ∧ i = .int .i64 k ∧ (∀ j : Nat, j < k → (lnAtD L j).1 = 4 → elseIn L 0 L.length j = true) ∧ Below w3.heap.size w3 wr) (fun i _ => n - (intOf i).toNat)
                    case atStart => exact ⟨0, Nat.zero_le _, rfl, fun j hj => absurd hj (Nat.not_lt_zero j), Below.refl _ _⟩
                    case round =>
                      obtain ⟨k, hk, rfl, hall, hb⟩ := hrel
                      have HB5 := hide hb
                      have HA := hide hall
                      have R5 := hide (R3.out.below hb)
                      have RE := hide (HE.out.below hb)
                      have BALL := hide (B1.out.trans (((HB.out.trans (HB3.out.mono HB.out.size)).trans (hb.mono (Nat.le_trans HB.out.size HB3.out.size))).mono B1.out.size))
                      clear hb hall
                      by_cases hlt : k < n
                      · have hkl : k < L.length := by omega
                        obtain ⟨b5, o5, A1, d1, A2, d2, eA, hbl, c0, c1, c2, c3, hin⟩ := R5.out.ln k hkl
                        cases eA
                        have HLK := hide (lnAtD_of L k hkl)
                        clear hin
                        by_cases h4 : L[k].1 = 4
                        · have hix := i_hasInt Ae n ce (elsL L n) (k : Int) _ (by omega) (elsL_length L n) (RE.out.below ((Below.refl _ _).alloc (Nat.le_refl _) (.cells #[.int .i64 L[k].1, .string L[k].2.1, .slice A1 L[k].2.2.1.length d1, .slice A2 L[k].2.2.2.length d2] 34)))
                          rw [elsL_mem] at hix
                          have HIX := hide hix
                          have z4 : (L[k].1 == 4) = true := by simp [h4]
                          have H4 := hide h4
                          clear hix h4
                          cases hel : elseIn L 0 n (k : Int)
                          · have HN : Hid (progI L = false) := HNOT.out (fun h => by
                              have := h.2.2.2.2.2.2 k hkl (by rw [HLK.out]; exact H4.out)
                              rw [hnl, hel] at this; cases this)
                            rw [hel] at HIX
                            clear hel
                            go_wp2_with fail
                            refine HIX.out.mono ?_
                            rintro e' w' ⟨rfl, rfl⟩
                            go_wp2_with fail
                            go_ret
                            exact ⟨by rw [HN.out]; rfl, BALL.out.alloc BALL.out.size _⟩
                          · have HN : Hid (∀ j : Nat, j < k + 1 → (lnAtD L j).1 = 4 → elseIn L 0 L.length j = true) := by
                              intro j hj hj4
                              rcases Nat.lt_succ_iff_lt_or_eq.1 hj with h | h
                              · exact HA.out j h hj4
                              · subst h; rw [hnl]; exact hel
                            rw [hel] at HIX
                            clear hel
                            go_wp2_with fail
                            refine HIX.out.mono ?_
                            rintro e' w' ⟨rfl, rfl⟩
                            go_wp2_with fail
                            go_roundw
                            case rel => exact ⟨k + 1, by omega, by go_num, HN.out, HB5.out.alloc HB5.out.size _⟩
                            case measure => simp [intOf]; omega
                        · have HN : Hid (∀ j : Nat, j < k + 1 → (lnAtD L j).1 = 4 → elseIn L 0 L.length j = true) := by
                            intro j hj hj4
                            rcases Nat.lt_succ_iff_lt_or_eq.1 hj with h | h
                            · exact HA.out j h hj4
                            · subst h; rw [HLK.out] at hj4; exact absurd hj4 h4
                          have z4 : (L[k].1 == 4) = false := by simp [h4]
                          clear h4
                          go_wp2_with fail
                          go_roundw
                          case rel => exact ⟨k + 1, by omega, by go_num, HN.out, HB5.out.alloc HB5.out.size _⟩
                          case measure => simp [intOf]; omega
                      · have HN : Hid (progI L = decide (m = (L.length : Int))) := by
                          show _ = _
                          rw [HTILE.out (by omega) hf1 hf6 HOK.out HHD.out (fun j hj => HA.out j (by omega)), HTE.out]
                        rw [hnl] at HN
                        by_cases hmn : m = (n : Int)
                        · have zm : (m == (n : Int)) = true := by simp [hmn]
                          rw [decide_eq_true hmn] at HN
                          clear hmn
                          go_wp2_with fail
                          go_ret
                          exact ⟨by rw [HN.out]; rfl, BALL.out⟩
                        · have zm : (m == (n : Int)) = false := by simp [hmn]
                          rw [decide_eq_false hmn] at HN
                          clear hmn
                          go_wp2_with fail
                          go_ret
                          exact ⟨by rw [HN.out]; rfl, BALL.out⟩
          · have HN : Hid (progI L = false) := HNOT.out (fun h => hhd h.2.2.2.2.1)
            unfold headOk at hhd
            rw [HL0.out] at hhd
            simp only at hhd
            by_cases hh1 : xk = 0
            · have z0 : (xk != 0) = false := by simp [hh1]
              by_cases hh2 : xs = mainW
              · have hh3 : xa.length ≠ 0 := fun h3 => hhd ⟨hh1, hh2, h3⟩
                have z1 := main_eq hh2
                have z2 : decide (0 < xa.length) = true := decide_eq_true (by omega)
                clear hhd hh1 hh2 hh3
                go_wp2_with fail
                go_ret
                exact ⟨by rw [HN.out]; rfl, B1.out.trans (HB.out.mono B1.out.size)⟩
              · have z1 := main_ne hh2
                clear hhd hh1 hh2
                go_wp2_with fail
                go_ret
                exact ⟨by rw [HN.out]; rfl, B1.out.trans (HB.out.mono B1.out.size)⟩
            · have z0 : (xk != 0) = true := by simp [hh1]
              clear hhd hh1
              go_wp2_with fail
              go_ret
              exact ⟨by rw [HN.out]; rfl, B1.out.trans (HB.out.mono B1.out.size)⟩
end Go.Proofs.Ytcfjbaanahgpoaa
