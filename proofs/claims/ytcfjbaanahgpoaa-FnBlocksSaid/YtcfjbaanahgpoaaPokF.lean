import Derived.Test.YtcfjbaanahgpoaaPokI
import Derived.Deep.CutRange
import Derived.Deep.CutBlock
namespace Go.Proofs.Ytcfjbaanahgpoaa
open Go Go.RowKit
set_option maxRecDepth 100000
set_option linter.unusedVariables false
set_option linter.unusedSimpArgs false
theorem own_cut {w : World} {base e size n c m : Nat} {A : Option Addr} {xs : List Value} (h : w.ownsRow base e size (.slice A n c) n xs) (hm : m ≤ n) : w.ownsRow base e size (.slice A m c) m (xs.take (m * size)) := by
  obtain ⟨h1, h2⟩ := h
  have hms : m * size ≤ n * size := Nat.mul_le_mul_right _ hm
  refine ⟨by rw [List.length_take, h1, Nat.min_eq_left hms], ?_⟩
  rcases h2 with ⟨h2, rfl⟩ | ⟨g, cap, cur, h2, h3, h4, h5, h6, h7, h8⟩
  · cases h2
    obtain rfl : m = 0 := by omega
    exact .inl ⟨rfl, rfl⟩
  · cases h2
    exact .inr ⟨g, c, cur, rfl, h3, h4, by omega, h6, h7, by rw [← h8, List.take_take, Nat.min_eq_left hms]⟩
def slLen : Value → Nat
  | .slice _ n _ => n
  | _ => 0
def ixFrom (x : Int) : List Int → Nat → Int
  | [], _ => -1
  | y :: l, k => if y = x then (k : Int) else ixFrom x l (k + 1)
def ixF (l : List Int) (x : Int) : Int := ixFrom x l 0
theorem ixFrom_mem (x : Int) (l : List Int) : ∀ k : Nat, (0 ≤ ixFrom x l k ↔ x ∈ l) ∧ -1 ≤ ixFrom x l k := by
  induction l with
  | nil => intro k; simp [ixFrom]
  | cons y l ih =>
    intro k
    rw [ixFrom]
    by_cases h : y = x
    · rw [if_pos h]; simp [h]
    · rw [if_neg h]
      have := ih (k + 1)
      refine ⟨?_, this.2⟩
      rw [this.1, List.mem_cons]
      constructor
      · exact .inr
      · rintro (e | e)
        · exact absurd e.symm h
        · exact e
theorem ixF_mem (l : List Int) (x : Int) : 0 ≤ ixF l x ↔ x ∈ l := (ixFrom_mem x l 0).1
set_option maxHeartbeats 400000 in
theorem i_ixInt (A : Option Addr) (n c : Nat) (l : List Int) (s : Int) (w : World) (hn : n ≤ 1099511627776) (hl : l.length = n) (h : InRow w A n 1 (intCells l)) :
    Calls Try.prog 62 #[.slice A n c, .int .i64 s] w fun e w' => e = .returned (.int .i64 (ixF l s)) ∧ w = w' := by
  have H := hide h
  have HL := hide hl
  clear h hl
  go_enter Try.func62, Try.ntmps62
  go_wp2
  go_loop [8] (fun i => ∃ k : Nat, k ≤ n ∧ i = .int .i64 k ∧ ixF l s = ixFrom s (l.drop k) k) (fun i => n - (intOf i).toNat)
  case atStart => exact ⟨0, Nat.zero_le _, rfl, rfl⟩
  case round =>
    obtain ⟨k, hk, rfl, hx⟩ := hrel
    have HX := hide hx
    clear hx
    by_cases hlt : k < n
    · have hkl : k < l.length := by rw [HL.out]; exact hlt
      obtain ⟨b, o, rfl, _, c0⟩ := H.out.int k hkl
      have HD := hide (List.drop_eq_getElem_cons hkl)
      by_cases heq : l[k] = s
      · have HN : Hid (ixF l s = k) := by show _ = _; rw [HX.out, HD.out, ixFrom, if_pos heq]
        have z : (s == l[k]) = true := by simp [heq]
        clear heq
        go_wp2
        go_ret
        exact ⟨by rw [HN.out]; rfl, rfl⟩
      · have HN : Hid (ixF l s = ixFrom s (l.drop (k + 1)) (k + 1)) := by show _ = _; rw [HX.out, HD.out, ixFrom, if_neg heq]
        have z : (s == l[k]) = false := by simp; exact fun e => heq e.symm
        clear heq
        go_wp2
        go_round
        case rel => exact ⟨k + 1, by omega, by go_num, HN.out⟩
        case measure => simp [intOf]; omega
    · have HN : Hid (ixF l s = -1) := by show _ = _; rw [HX.out, List.drop_of_length_le (by rw [HL.out]; omega)]; rfl
      go_wp2
      go_ret
      exact ⟨by rw [HN.out]; rfl, rfl⟩
set_option maxHeartbeats 400000 in
theorem i_hasInt (A : Option Addr) (n c : Nat) (l : List Int) (s : Int) (w : World) (hn : n ≤ 1099511627776) (hl : l.length = n) (h : InRow w A n 1 (intCells l)) :
    Calls Try.prog 35 #[.slice A n c, .int .i64 s] w fun e w' => e = .returned (.bool (decide (s ∈ l))) ∧ w = w' := by
  have hm := ixF_mem l s
  have hc := i_ixInt A n c l s w hn hl h
  have HC := hide hc
  clear hc h
  have HD : Hid (decide (0 ≤ ixF l s) = decide (s ∈ l)) := by
    show _ = _
    by_cases hs : s ∈ l
    · rw [decide_eq_true hs, decide_eq_true (hm.2 hs)]
    · rw [decide_eq_false hs, decide_eq_false (fun h => hs (hm.1 h))]
  clear hm
  generalize ixF l s = q at *
  go_enter Try.func35, Try.ntmps35
  go_wp2_with fail
  refine HC.out.mono ?_
  rintro e w' ⟨rfl, rfl⟩
  go_wp2
  go_ret
  exact ⟨ret_bool HD.out, rfl⟩
theorem scanI_step (L : List Ln) (loc : List ByteArray) (e i : Nat) (st : List Int) (hi : i ≤ e) : scanI L loc e i st = if (lnAtD L i).1 = 0 then false else if 4 < (pushF L i (popF st i)).length then false else if namesX L loc (lnAtD L i).2.2.2 = false then false else scanI L loc e (i + 1) (pushF L i (popF st i)) := by
  rw [scanI, if_pos hi]
theorem scanI_done (L : List Ln) (loc : List ByteArray) (e i : Nat) (st : List Int) (hi : e < i) : scanI L loc e i st = true := by
  rw [scanI, if_neg (by omega)]
set_option maxHeartbeats 4000000 in
theorem i_functionOk (A : Option Addr) (n c k e : Nat) (L : List Ln) (w : World) (hn : n + lnTot L ≤ 1048576) (h : InLines w A n L) (hke : k ≤ e) (he : e < n) :
    Calls Try.prog 34 #[.slice A n c, .int .i64 k, .int .i64 e] w fun e' w' => e' = .returned (.bool (fnI L k e)) ∧ Below w.heap.size w w' := by
  obtain ⟨i0, hi, hz0, hz1, hz2⟩ := info_parts Try.infoInt
  have H := hide h
  have HL := hide h.len
  have HI := hide hi
  clear h hi
  go_enter Try.func34, Try.ntmps34
  go_wp2_with fail
  refine (i_localsOf A n c L (k : Int) _ hn H.out).mono ?_
  rintro e1 W1 ⟨⟨v, rfl, hown⟩, hb1⟩
  have B1 := hide hb1
  obtain ⟨Al, cl, hv, hncl, hal⟩ := Arr.of_own hown
  subst hv
  have HLOC := hide (InRow.of_arr hal)
  have HR1 := hide (H.out.below hb1)
  have hll := locF_length L (k : Int) (lnTot L) (fun x hx => by have := lnTot_mem L x hx; omega)
  have hnl : L.length = n := HL.out
  have HFN : Hid (fnI L k e = (decide ((locF L (k : Int)).length ≤ 8) && scanI L (locF L (k : Int)) e (k + 1) [])) := rfl
  generalize locF L (k : Int) = loc at *
  clear hown hb1 hal
  by_cases h8 : 8 < loc.length
  · have HN : Hid (fnI L k e = false) := by show _ = _; rw [HFN.out, decide_eq_false (by omega)]; rfl
    go_wp2_with fail
    go_ret
    exact ⟨by rw [HN.out]; rfl, B1.out⟩
  · have HS : Hid (fnI L k e = scanI L loc e (k + 1) []) := by show _ = _; rw [HFN.out, decide_eq_true (by omega), Bool.true_and]
    go_wp2_with fail
    go_loopw [8, 9] (fun v i wr => ∃ (q : Nat) (st : List Int), k + 1 ≤ q ∧ q ≤ e + 1 ∧ st.length ≤ q ∧ i = .int .i64 q ∧ fnI L k e = scanI L loc e q st ∧ wr.ownsRow W1.heap.size 3 1 v st.length (intCells st) ∧ Below W1.heap.size W1 wr) (fun _ i _ => e + 1 - (intOf i).toNat)
    case atStart => exact ⟨k + 1, [], by omega, by omega, by simp, by go_num, HS.out, World.ownsRow_lit W1 #[] 0 (Nat.le_refl _) (Nat.zero_le _) rfl, (Below.refl _ _).alloc (Nat.le_refl _) _⟩
    case round =>
      obtain ⟨q, st, hq1, hq2, hst, rfl, hres, hown, hb⟩ := hrel
      have HB := hide hb
      have HO := hide hown
      have HX := hide hres
      have R := hide (HR1.out.below hb)
      have RL := hide (HLOC.out.below hb)
      clear hown hb hres HS
      by_cases hqe : q ≤ e
      · have hql : q < L.length := by omega
        have HSC := hide (scanI_step L loc e q st hqe)
        rw [lnAtD_of L q hql] at HSC
        obtain ⟨b, o, A1, c1, A2, c2, rfl, hbl, d0, d1, d2, d3, hin⟩ := R.out.ln q hql
        have HEX := hide hin.2.1
        have htot := lnTot_mem L _ (List.getElem_mem hql)
        clear hin
        go_upto_block 2 with fail
        go_cut [8] from 24 to 41 (fun v wx => wx = wr ∧ wr.ownsRow W1.heap.size 3 1 v (popF st q).length (intCells (popF st q)))
        case first =>
          go_wp2_with fail
          go_loop [8] (fun v => ∃ s : List Int, popF st q = popF s q ∧ s.length ≤ st.length ∧ wr.ownsRow W1.heap.size 3 1 v s.length (intCells s)) (fun v => slLen v)
          case atStart => exact ⟨st, rfl, Nat.le_refl _, HO.out⟩
          case round =>
            obtain ⟨s, hs1, hs2, hs3⟩ := hrel
            obtain ⟨As, cs, hv, hncs, hars⟩ := Arr.of_own hs3
            subst hv
            have HS1 := hide hs1
            have HS3 := hide hs3
            clear hs1 hs3
            rcases List.eq_nil_or_concat s with rfl | ⟨s', x, rfl⟩
            · have hz : decide (0 < ([] : List Int).length) = false := rfl
              go_wp2_with fail
              go_meet
              rw [HS1.out]
              exact ⟨rfl, HS3.out⟩
            · rw [List.concat_eq_append] at hs2 hncs hars HS1 HS3 ⊢
              have hlen : (s' ++ [x]).length = s'.length + 1 := by simp
              obtain ⟨b3, o3, rfl, _, x0⟩ := (InRow.of_arr hars).int s'.length (by simp)
              rw [hlen] at HS3 hs2 hncs ⊢
              have hxe : (s' ++ [x])[s'.length]'(by simp) = x := by simp
              rw [hxe] at x0
              have hz : decide (0 < s'.length + 1) = true := by simp
              have hbig : s'.length ≤ 1048576 := by omega
              clear hars hxe hlen
              by_cases hx : x < (q : Int)
              · have HP2 : Hid (popF st q = popF s' q) := by show _ = _; rw [HS1.out, popF_snoc, if_pos hx]
                have HC : Hid (wr.ownsRow W1.heap.size 3 1 (.slice (some ⟨b3, o3, none⟩) s'.length cs) s'.length (intCells s')) := by
                  show wr.ownsRow W1.heap.size 3 1 (.slice (some ⟨b3, o3, none⟩) s'.length cs) s'.length (intCells s')
                  have := own_cut HS3.out (m := s'.length) (by omega)
                  simpa [intCells] using this
                have zx : decide (x < (q : Int)) = true := decide_eq_true hx
                clear hx
                go_wp2_with fail
                go_round
                case rel => exact ⟨s', HP2.out, by omega, HC.out⟩
                case measure => simp [slLen]
              · have HP2 : Hid (popF st q = s' ++ [x]) := by show _ = _; rw [HS1.out, popF_snoc, if_neg hx]
                have zx : decide (x < (q : Int)) = false := decide_eq_false hx
                clear hx
                go_wp2_with fail
                go_meet
                rw [HP2.out]
                refine ⟨rfl, ?_⟩
                have := HS3.out
                simpa using this
        case rest =>
          obtain ⟨rfl, hown⟩ := hcut
          have hpl := popF_length st q
          generalize popF st q = P at *
          obtain ⟨Ap, cp, hv, hncp, _⟩ := Arr.of_own hown
          subst hv
          have O1 := hide hown
          clear hown HO
          go_upto_block 4 with fail
          go_cut [8] from 47 to 57 (fun v wx => L[q].1 ≠ 0 ∧ wx.ownsRow W1.heap.size 3 1 v (pushF L q P).length (intCells (pushF L q P)) ∧ Below W1.heap.size W1 wx)
          case first =>
            by_cases h0 : L[q].1 = 0
            · have HN : Hid (fnI L k e = false) := by show _ = _; rw [HX.out, HSC.out, if_pos h0]
              have z0 : (L[q].1 == 0) = true := by simp [h0]
              clear h0
              go_wp2_with fail
              go_ret
              exact ⟨by rw [HN.out]; rfl, B1.out.trans (HB.out.mono B1.out.size)⟩
            · have z0 : (L[q].1 == 0) = false := by simp [h0]
              by_cases h35 : L[q].1 = 3 ∨ L[q].1 = 5
              · have HPU : Hid (pushF L q P = P ++ [endOfF L (q : Int)]) := by show _ = _; unfold pushF; rw [lnAtD_of L q hql, if_pos h35]
                have hsn := hide (intCells_snoc P (endOfF L (q : Int)))
                have hei := i_endOf (some ⟨b, o, none⟩) n c L (q : Int) wc (by omega) R.out
                have HEI := hide hei
                clear hei
                generalize endOfF L (q : Int) = ee at *
                have H0 := hide h0
                clear h0
                rcases h35 with h3 | h5
                · have z3 : (L[q].1 == 3) = true := by simp [h3]
                  clear h3
                  go_wp2_with fail
                  refine HEI.out.mono ?_
                  rintro e' w' ⟨rfl, rfl⟩
                  go_wp2_with (first | (at_builtin; refine wpList_app _ rfl (.tmp 52) (.tmp 56) _ rfl W1.heap.size 3 i0 _ 1 8 Try.underlying28 HI.out hz0 hz1 hz2 rfl (by decide) _ _ _ rfl O1.out 1 [.int .i64 ee] rfl ?c1 ?c2 ?c3 ?c4 ?c5 ?_) | fail)
                  try case c1 => rfl
                  try case c2 => first | rfl | (intro u hu; obtain rfl := List.mem_singleton.1 hu; rfl)
                  try case c3 => omega
                  try case c4 => decide
                  try case c5 => exact HB.out.size
                  intro v' w3 hown3 hb3 _ _
                  rw [← hsn.out] at hown3
                  have HO3 := hide hown3
                  have HB3 := hide (HB.out.trans hb3)
                  clear hown3 hb3
                  go_wp2_with fail
                  go_meet
                  rw [HPU.out]
                  exact ⟨H0.out, by simpa using HO3.out, HB3.out⟩
                · have z3 : (L[q].1 == 3) = false := by simp [h5]
                  have z5 : (L[q].1 == 5) = true := by simp [h5]
                  clear h5
                  go_wp2_with fail
                  refine HEI.out.mono ?_
                  rintro e' w' ⟨rfl, rfl⟩
                  go_wp2_with (first | (at_builtin; refine wpList_app _ rfl (.tmp 52) (.tmp 56) _ rfl W1.heap.size 3 i0 _ 1 8 Try.underlying28 HI.out hz0 hz1 hz2 rfl (by decide) _ _ _ rfl O1.out 1 [.int .i64 ee] rfl ?d1 ?d2 ?d3 ?d4 ?d5 ?_) | fail)
                  try case d1 => rfl
                  try case d2 => first | rfl | (intro u hu; obtain rfl := List.mem_singleton.1 hu; rfl)
                  try case d3 => omega
                  try case d4 => decide
                  try case d5 => exact HB.out.size
                  intro v' w3 hown3 hb3 _ _
                  rw [← hsn.out] at hown3
                  have HO3 := hide hown3
                  have HB3 := hide (HB.out.trans hb3)
                  clear hown3 hb3
                  go_wp2_with fail
                  go_meet
                  rw [HPU.out]
                  exact ⟨H0.out, by simpa using HO3.out, HB3.out⟩
              · have HPU : Hid (pushF L q P = P) := by show _ = _; unfold pushF; rw [lnAtD_of L q hql, if_neg h35]
                have z3 : (L[q].1 == 3) = false := by simp; exact fun h => h35 (.inl h)
                have z5 : (L[q].1 == 5) = false := by simp; exact fun h => h35 (.inr h)
                have H0 := hide h0
                clear h35 h0
                go_wp2_with fail
                go_meet
                rw [HPU.out]
                exact ⟨H0.out, O1.out, HB.out⟩
          case rest =>
            obtain ⟨h0, hown, hb⟩ := hcut
            have hpu : (pushF L q P).length ≤ q + 1 := by
              unfold pushF
              split
              · rw [List.length_append]; simp; omega
              · omega
            rw [if_neg h0] at HSC
            generalize pushF L q P = S at *
            obtain ⟨As, cs, hv, hncs, _⟩ := Arr.of_own hown
            subst hv
            have O2 := hide hown
            have HB2 := hide hb
            have R2 := hide (HR1.out.below hb)
            have RL2 := hide (HLOC.out.below hb)
            clear hown hb h0 d0 d1 d2 d3 HB HEX
            obtain ⟨b', o', A1', c1', A2', c2', eA, hbl', d0, d1, d2, d3, hin⟩ := R2.out.ln q hql
            cases eA
            have HEX := hide hin.2.1
            clear hin
            by_cases h4 : 4 < S.length
            · have HN : Hid (fnI L k e = false) := by show _ = _; rw [HX.out, HSC.out, if_pos h4]
              have z4 : decide ((4 : Int) < (S.length : Int)) = true := decide_eq_true (by omega)
              go_wp2_with fail
              go_ret
              exact ⟨by rw [HN.out]; rfl, B1.out.trans (HB2.out.mono B1.out.size)⟩
            · have z4 : decide ((4 : Int) < (S.length : Int)) = false := decide_eq_false (by omega)
              rw [if_neg h4] at HSC
              have hne := i_exprNames (some ⟨b, o, none⟩) Al A2' n c loc.length cl L[q].2.2.2.length c2' L loc L[q].2.2.2 wc hn R2.out (by omega) RL2.out (by omega) rfl HEX.out
              have HNE := hide hne
              clear hne h4
              cases hnx : namesX L loc L[q].2.2.2
              · have HN : Hid (fnI L k e = false) := by show _ = _; rw [HX.out, HSC.out, if_pos hnx]
                rw [hnx] at HNE
                clear hnx
                go_wp2_with fail
                refine HNE.out.mono ?_
                rintro e' w3 ⟨rfl, hb3⟩
                have HB3 := hide (HB2.out.trans (hb3.mono HB2.out.size))
                clear hb3
                go_wp2_with fail
                go_ret
                exact ⟨by rw [HN.out]; rfl, B1.out.trans (HB3.out.mono B1.out.size)⟩
              · have HN : Hid (fnI L k e = scanI L loc e (q + 1) S) := by show _ = _; rw [HX.out, HSC.out, if_neg (by rw [hnx]; simp)]
                rw [hnx] at HNE
                clear hnx
                go_wp2_with fail
                refine HNE.out.mono ?_
                rintro e' w3 ⟨rfl, hb3⟩
                have HB3 := hide (HB2.out.trans (hb3.mono HB2.out.size))
                have O3 := hide (own_belowZ O2.out hb3)
                clear hb3
                go_wp2_with fail
                go_roundw
                case rel => exact ⟨q + 1, S, by omega, by omega, hpu, by go_num, HN.out, O3.out, HB3.out⟩
                case measure => simp [intOf]; omega
      · have HN : Hid (fnI L k e = true) := by show _ = _; rw [HX.out, scanI_done L loc e q st (by omega)]
        go_wp2_with fail
        go_ret
        exact ⟨by rw [HN.out]; rfl, B1.out.trans (HB.out.mono B1.out.size)⟩
end Go.Proofs.Ytcfjbaanahgpoaa
