import Derived.Test.YtcfjbaanahgpoaaCpL
import Derived.Test.YtcfjbaanahgpoaaPokY
import Derived.Test.YtcfjbaanahgpoaaLin3
namespace Go.Proofs.Ytcfjbaanahgpoaa
open Go Go.RowKit
set_option maxRecDepth 100000
set_option linter.unusedVariables false
set_option linter.unusedSimpArgs false
/-! A program, folded. -/
def foldLn (x : Ln) : Ln := (x.1, x.2.1, x.2.2.1, foldEx x.2.2.2)
noncomputable def foldPF (L : List Ln) : List Ln := if progS L = true then L.map foldLn else []
theorem foldEx_nil : foldEx [] = [] := by decide
theorem sub_flat {α β : Type} (f : α → List β) {l l' : List α} (h : l.Sublist l') : (l.flatMap f).Sublist (l'.flatMap f) := by
  induction h with
  | slnil => exact List.Sublist.refl _
  | cons a _ ih => rw [List.flatMap_cons]; exact List.Sublist.trans ih (List.sublist_append_right _ _)
  | cons_cons a _ ih => rw [List.flatMap_cons, List.flatMap_cons]; exact List.Sublist.append (List.Sublist.refl _) ih
theorem Own.sub {w : World} {lo hi : Nat} {rs rs' : List Rw} (h : Own w lo hi rs) (hs : rs'.Sublist rs) : Own w lo hi rs' :=
  ⟨fun r hr => h.rows r (hs.subset hr), List.Nodup.sublist (sub_flat rwB hs) h.apart⟩
theorem Own.perm {w : World} {lo hi : Nat} {rs rs' : List Rw} (h : Own w lo hi rs) (hp : rs.Perm rs') : Own w lo hi rs' :=
  ⟨fun r hr => h.rows r (hp.mem_iff.2 hr), (hp.flatMap_right rwB).nodup_iff.1 h.apart⟩
theorem OwnP.setExpr {w w1 : World} {lo hi g : Nat} {pre post : List LP} {x : Ln} {A1 A2 A' : Option Addr} {c1 c2 c' : Nat} {l' : List Tk}
    (h : OwnP w lo hi (some ⟨g, 0, none⟩) (pre ++ (x, A1, c1, A2, c2) :: post)) (hb : Below w.heap.size w w1)
    (hr : Arr w1 w.heap.size w1.heap.size A' l'.length 3 (tokCells l')) (hc : l'.length ≤ c' ∧ c' ≤ maxLen) :
    OwnP (w1.setCell ⟨g, pre.length * 4 + 3, none⟩ (.slice A' l'.length c')) lo w1.heap.size (some ⟨g, 0, none⟩) (pre ++ ((x.1, x.2.1, x.2.2.1, l'), A1, c1, A', c') :: post) ∧ Within lo hi w1 (w1.setCell ⟨g, pre.length * 4 + 3, none⟩ (.slice A' l'.length c')) := by
  obtain ⟨h2, h4⟩ := h
  have e1 : ∀ p : LP, (pre ++ p :: post).flatMap lnC = pre.flatMap lnC ++ (lnC p ++ post.flatMap lnC) := fun p => by simp
  have e2 : ∀ p : LP, (pre ++ p :: post).flatMap lnRows = pre.flatMap lnRows ++ (lnRows p ++ post.flatMap lnRows) := fun p => by simp
  have hlen : ∀ p : LP, (pre ++ p :: post).length = pre.length + post.length + 1 := fun p => by simp; omega
  obtain ⟨g0, eg, hlo, hghi, hhi, _⟩ := (h2.rows _ List.mem_cons_self).2 (by simp only; rw [hlen]; omega)
  simp only at eg
  cases eg
  rw [e1, e2, hlen] at h2
  have hsub : ((some ⟨g, 0, none⟩, pre.length + post.length + 1, 4, pre.flatMap lnC ++ (lnC (x, A1, c1, A2, c2) ++ post.flatMap lnC)) :: (pre.flatMap lnRows ++ ([(A1, x.2.2.1.length, 1, strCells x.2.2.1)] ++ post.flatMap lnRows))).Sublist ((some ⟨g, 0, none⟩, pre.length + post.length + 1, 4, pre.flatMap lnC ++ (lnC (x, A1, c1, A2, c2) ++ post.flatMap lnC)) :: (pre.flatMap lnRows ++ (lnRows (x, A1, c1, A2, c2) ++ post.flatMap lnRows))) := by
    refine List.Sublist.cons_cons _ (List.Sublist.append (List.Sublist.refl _) (List.Sublist.append ?_ (List.Sublist.refl _)))
    show [_].Sublist [_, _]
    exact List.Sublist.cons_cons _ (List.nil_sublist _)
  have hold := (h2.sub hsub).belowZ hb
  have hj := Own.join (lo := lo) (hi := w1.heap.size) hold (Own.one hr) (.inl hhi) (Nat.le_refl _) (Nat.le_trans hhi hb.size) (by omega) (Nat.le_refl _) (Nat.le_refl _)
  rw [List.cons_append] at hj
  have hperm : ((pre.flatMap lnRows ++ ([(A1, x.2.2.1.length, 1, strCells x.2.2.1)] ++ post.flatMap lnRows)) ++ [(A', l'.length, 3, tokCells l')]).Perm ((pre ++ ((x.1, x.2.1, x.2.2.1, l'), A1, c1, A', c') :: post).flatMap lnRows) := by
    rw [e2, List.append_assoc]
    refine List.Perm.append_left _ ?_
    show ([_] ++ post.flatMap lnRows ++ [_]).Perm ([_, _] ++ post.flatMap lnRows)
    rw [List.append_assoc]
    show (_ :: (post.flatMap lnRows ++ [_])).Perm (_ :: _ :: post.flatMap lnRows)
    exact List.Perm.cons _ (List.perm_append_comm)
  have hnew := hj.perm (List.Perm.cons _ hperm)
  have hset := hnew.setHead (j := pre.length * 4 + 3) (by omega) (.slice A' l'.length c')
  rw [mid_set (pre.flatMap lnC) (lnC (x, A1, c1, A2, c2)) (post.flatMap lnC) (pre.length * 4) 3 _ (flat_length lnC 4 (fun _ => rfl) pre) (by simp [lnC])] at hset
  refine ⟨⟨?_, ?_⟩, Within.setCell w1 (p := ⟨g, pre.length * 4 + 3, none⟩) hlo hghi _⟩
  · rw [hlen, e1]
    exact hset
  · intro p hp
    rcases List.mem_append.1 hp with hp | hp
    · exact h4 p (by simp [hp])
    · rcases List.mem_cons.1 hp with rfl | hp
      · have := h4 (x, A1, c1, A2, c2) (by simp)
        exact ⟨this.1, this.2.1, hc.1, hc.2⟩
      · exact h4 p (by simp [hp])
def LsRet (L : List Ln) (w : World) (e : Ending) (w' : World) : Prop := ∃ A c, e = .returned (.slice A L.length c) ∧ OwnLines w' w.heap.size w'.heap.size A L
theorem Try.infoLn' : (Try.prog.info? 34).map (fun i => (i.zero, i.size, i.bytes)) = some (some (.agg #[.int .i64 0, .string ByteArray.empty, .slice none 0 0, .slice none 0 0]), 4, 72) := by kernel_rfl
set_option maxHeartbeats 2000000 in
theorem s_copyAll (A : Option Addr) (n c : Nat) (L : List Ln) (w : World) (hn : n + lnTot L ≤ 1048576) (h : InLines w A n L) :
    Calls Try.prog 52 #[.slice A n c] w fun e w' => LsRet L w e w' ∧ Below w.heap.size w w' := by
  obtain ⟨i0, hi, hz0, hz1, hz2⟩ := info_parts Try.infoLn'
  have H := hide h
  have HL := hide h.len
  have HI := hide hi
  clear h hi
  go_enter Try.func52, Try.ntmps52
  go_wp2_with fail
  go_loopw [3, 4] (fun v i wr => ∃ (k : Nat) (P : List LP), k ≤ n ∧ i = .int .i64 k ∧ P.map Prod.fst = L.take k ∧ OwnL wr w.heap.size 34 v P P ∧ Below w.heap.size w wr) (fun _ i _ => n - (intOf i).toNat)
  case atStart => exact ⟨0, [], Nat.zero_le _, rfl, rfl, OwnL.nil_ (World.ownsRow_lit w #[] 0 (Nat.le_refl _) (Nat.zero_le _) rfl), (Below.refl _ _).alloc (Nat.le_refl _) _⟩
  case round =>
    obtain ⟨k, P, hk, rfl, hP, hown, hb⟩ := hrel
    have HO := hide hown
    have HB := hide hb
    have HPP := hide hP
    have R := hide (H.out.below hb)
    have hPl : P.length ≤ n := by have := congrArg List.length hP; rw [List.length_map, List.length_take] at this; omega
    clear hown hb hP
    obtain ⟨A0, cA, hv, _⟩ := Arr.of_own HO.out.1
    subst hv
    by_cases hlt : k < n
    · have hkl : k < L.length := by rw [HL.out]; exact hlt
      obtain ⟨b, o, A1, d1, A2, d2, rfl, hbl, c0, c1, c2, c3, hin⟩ := R.out.ln k hkl
      have htot := lnTot_mem L _ (List.getElem_mem hkl)
      have HIN := hide hin
      have HT : Hid (P.map Prod.fst ++ [L[k]] = L.take (k + 1)) := by show _ = _; rw [HPP.out, List.take_succ_eq_append_getElem hkl]
      clear hin
      generalize hx : L[k] = x at *
      obtain ⟨xk, xs, xa, xe⟩ := x
      simp only at c0 c1 c2 c3 htot
      clear hx
      go_wp2_with fail
      refine (s_copyLine (xk, xs, xa, xe) A1 A2 d1 d2 _ (by simp only; omega) HIN.out).mono ?_
      rintro e w2 ⟨⟨D1, e1, D2, e2, rfl, o2, p2⟩, hb2⟩
      have HX := hide (HO.out.line hb2 HB.out.size o2 p2)
      have B2 := hide (HB.out.trans (hb2.mono HB.out.size))
      clear hb2 o2 p2 c0 c1 c2 c3
      go_wp2_with (first | (at_builtin; refine wpList_appN _ rfl (.tmp 12) (.tmp 18) _ rfl w.heap.size 34 i0 _ 4 72 Try.underlying24 HI.out hz0 hz1 hz2 rfl (by decide) _ _ _ rfl HX.out.1 1 (lnC ((xk, xs, xa, xe), D1, e1, D2, e2)) rfl ?c0 ?c1 ?c2 ?c3 ?c4 ?c5 ?_) | fail)
      try case c0 => rfl
      try case c1 => rfl
      case c2 => intro u hu; simp [lnC] at hu; rcases hu with rfl | rfl | rfl | rfl <;> rfl
      case c3 => omega
      case c4 => decide
      case c5 => exact B2.out.size
      intro v' w5 hown5 hb5 hgr5 hwh5
      have HX5 := hide (HX.out.app hown5 hgr5 (by simpa using hwh5))
      have B5 := hide (B2.out.trans hb5)
      clear hown5 hb5 hgr5 hwh5
      go_wp2_with fail
      go_roundw
      case rel => exact ⟨k + 1, _, by omega, by go_num, by rw [← HT.out]; simp, HX5.out, B5.out⟩
      case measure => simp [intOf]; omega
    · have HA : Hid (P.map Prod.fst = L) := by show _ = _; rw [HPP.out, List.take_of_length_le (by rw [HL.out]; omega)]
      obtain ⟨A', c', hv, hl⟩ := HO.out.lines
      cases hv
      have HL2 := hide hl
      clear hl
      go_wp2_with fail
      go_ret
      refine ⟨⟨A0, cA, ?_, by rw [← HA.out]; exact HL2.out⟩, HB.out⟩
      rw [← HA.out, List.length_map]; rfl
set_option maxHeartbeats 4000000 in
theorem s_foldProgram (A : Option Addr) (n c : Nat) (L : List Ln) (w : World) (hn : n + lnTot L ≤ 1048576) (h : InLines w A n L) (hs : ∀ x ∈ L, LnSz x) :
    Calls Try.prog 28 #[.slice A n c] w fun e w' => LsRet (foldPF L) w e w' ∧ Below w.heap.size w w' := by
  have H := hide h
  have HL := hide h.len
  have HS := hide hs
  clear h hs
  go_enter Try.func28, Try.ntmps28
  go_wp2_with fail
  refine (s_programOk A n c L _ hn H.out HS.out).mono ?_
  rintro e w1 ⟨rfl, hb1⟩
  have B1 := hide hb1
  have R1 := hide (H.out.below hb1)
  clear hb1
  cases hok : progS L
  · have HF : Hid (foldPF L = []) := by show _ = _; unfold foldPF; rw [hok]; rfl
    clear hok
    go_wp2_with fail
    go_ret
    refine ⟨⟨some ⟨w1.heap.size, 0, none⟩, 0, by rw [HF.out]; rfl, ?_⟩, B1.out.alloc B1.out.size _⟩
    rw [HF.out]
    exact ⟨[], rfl, ⟨fun r hr => by obtain rfl := List.mem_singleton.1 hr; exact Arr.nil_ _ _ _ _ _, by simp [rwB]⟩, fun p hp => by simp at hp⟩
  · have HF : Hid (foldPF L = L.map foldLn) := by show _ = _; unfold foldPF; rw [hok]; rfl
    clear hok
    go_wp2_with fail
    refine (s_copyAll A n c L _ hn R1.out).mono ?_
    rintro e w2 ⟨⟨A2, c2, rfl, o2⟩, hb2⟩
    obtain ⟨P0, hP0, hO0, hC0⟩ := o2
    have hPl0 : P0.length = n := by have := congrArg List.length hP0; rw [List.length_map, HL.out] at this; exact this
    have hLl : L.length = n := HL.out
    rw [hLl]
    have B2 := hide (B1.out.trans (hb2.mono B1.out.size))
    have O0 := hide (show OwnP w2 w1.heap.size w2.heap.size A2 P0 from ⟨hO0, hC0⟩)
    have HP0 := hide hP0
    have hz12 := hb2.size
    have HB12 := hide hb2.block
    clear hb2 hO0 hC0 hP0
    go_wp2_with fail
    go_loopw [4] (fun i wr => ∃ (k : Nat) (P : List LP), k ≤ n ∧ i = .int .i64 k ∧ P.map Prod.fst = (L.take k).map foldLn ++ L.drop k ∧ OwnP wr w1.heap.size wr.heap.size A2 P ∧ Below w1.heap.size w1 wr) (fun i _ => n - (intOf i).toNat)
    case atStart => exact ⟨0, P0, Nat.zero_le _, rfl, by rw [HP0.out]; simp, O0.out, ⟨B2.out.os.trans B1.out.os.symm, B2.out.tape.trans B1.out.tape.symm, B2.out.output.trans B1.out.output.symm, hz12, HB12.out⟩⟩
    case round =>
      obtain ⟨k, P, hk, rfl, hP, hO, hb⟩ := hrel
      have O := hide hO
      have HB := hide hb
      have HPP := hide hP
      have hPl : P.length = n := by have := congrArg List.length hP; rw [List.length_map, List.length_append, List.length_map, List.length_take, List.length_drop] at this; omega
      clear hO hb hP
      by_cases hlt : k < n
      · have hkl : k < L.length := by omega
        have hkp : k < P.length := by omega
        have hPk : P[k].1 = L[k] := by
          have h1 : (P.map Prod.fst)[k]'(by simpa using hkp) = P[k].1 := by simp
          rw [← h1]
          have h3 : ((L.take k).map foldLn ++ L.drop k)[k]'(by simp; omega) = L[k] := by
            rw [List.getElem_append_right (by simp; omega)]
            simp [Nat.min_eq_left (Nat.le_of_lt hkl)]
          rw [← h3]
          congr 1 <;> exact HPP.out
        have hsplit : P = P.take k ++ P[k] :: P.drop (k + 1) := by rw [← List.drop_eq_getElem_cons hkp, List.take_append_drop]
        have hnext : ∀ A' c', (P.take k ++ (foldLn L[k], P[k].2.1, P[k].2.2.1, A', c') :: P.drop (k + 1)).map Prod.fst = (L.take (k + 1)).map foldLn ++ L.drop (k + 1) := fun A' c' => by
          have e1 := HPP.out
          have t1 : (P.take k).map Prod.fst = (L.take k).map foldLn := by
            rw [List.map_take, e1, List.take_append_of_le_length (by simp; omega), List.take_of_length_le (by simp; omega)]
          have t2 : (P.drop (k + 1)).map Prod.fst = L.drop (k + 1) := by
            rw [List.map_drop, e1, List.drop_append]
            simp [Nat.min_eq_left (Nat.le_of_lt hkl)]
          rw [List.map_append, List.map_cons, t1, t2, List.take_succ_eq_append_getElem hkl, List.map_append, List.append_assoc]
          rfl
        have HNX := hide hnext
        obtain ⟨p, hp⟩ : ∃ p, P[k] = p := ⟨_, rfl⟩
        rw [hp] at hsplit hPk HNX
        obtain ⟨x, A1, d1, A3, d3⟩ := p
        simp only at hPk HNX
        have hO := O.out
        rw [hsplit] at hO
        have hpre : (P.take k).length = k := by rw [List.length_take]; omega
        have htot := lnTot_mem L _ (List.getElem_mem hkl)
        have HSK := hide (HS.out _ (List.getElem_mem hkl))
        rw [← hPk] at HNX htot HSK
        obtain ⟨g, eg, g1, g2, g3, hc⟩ := (O.out.1.rows _ List.mem_cons_self).2 (by simp only; omega)
        simp only at eg hc
        subst eg
        have d3c : wr.cell? ⟨g, k * 4 + 3, none⟩ = some (.slice A3 x.2.2.2.length d3) := by
          rw [(hc (k * 4 + 3) (by omega)).1, flat_at lnC 4 (fun _ => rfl) P k 3 hkp (by omega), hp]; rfl
        have f3 : ∀ w', Below wr.heap.size wr w' → w'.frozen? ⟨g, k * 4 + 3, none⟩ = false := fun w' hb => (hb.frozen (p := ⟨g, k * 4 + 3, none⟩) (by show g < _; omega)).trans (hc (k * 4 + 3) (by omega)).2
        have F3 := hide f3
        have hrow : InRow wr A3 x.2.2.2.length 3 (tokCells x.2.2.2) := .of_arr (hO.1.rows (A3, x.2.2.2.length, 3, tokCells x.2.2.2) (by simp [lnRows]))
        have HROW := hide hrow
        have HO := hide hO
        have gl : g < wr.heap.size := by omega
        clear hc hrow hO f3 hp hPk
        obtain ⟨xk, xs, xa, xe⟩ := x
        simp only at d3c htot
        by_cases he0 : xe.length = 0
        · have hxe : xe = [] := List.eq_nil_of_length_eq_zero he0
          have HN : Hid (P.map Prod.fst = (L.take (k + 1)).map foldLn ++ L.drop (k + 1)) := by
            show _ = _
            have := HNX.out A3 d3
            have e : foldLn (xk, xs, xa, xe) = (xk, xs, xa, xe) := by unfold foldLn; simp only; rw [hxe, foldEx_nil]
            rw [e] at this
            rw [hsplit]; exact this
          have ze : decide (0 < xe.length) = false := decide_eq_false (by omega)
          clear he0 hxe
          go_wp2_with fail
          go_roundw
          case rel => exact ⟨k + 1, P, by omega, by go_num, HN.out, O.out, HB.out⟩
          case measure => simp [intOf]; omega
        · have ze : decide (0 < xe.length) = true := decide_eq_true (by omega)
          go_wp2_with fail
          refine (s_foldExpr A3 xe.length d3 xe _ (by omega) rfl HROW.out HSK.out.2.2).mono ?_
          rintro e w3 ⟨⟨v, rfl, hown⟩, hb3⟩
          obtain ⟨A4, d4, rfl, hd4, hm4, ha4, _⟩ := Arr.own2 hown
          have hfz := F3.out w3 hb3
          have d3d := (hb3.cell (p := ⟨g, k * 4 + 3, none⟩) gl).trans d3c
          obtain ⟨hs1, hs2⟩ := HO.out.setExpr hb3 ha4 ⟨hd4, hm4⟩
          rw [hpre] at hs1 hs2
          have HS1 := hide hs1
          have BB := hide (HB.out.trans ((hb3.mono (by have := HB.out.size; omega)).trans (hs2.below (B := w1.heap.size) (Nat.le_refl _) (by have := hb3.size; have := HB.out.size; omega))))
          have HN := hide (HNX.out A4 d4)
          clear hown hb3 ha4 hs1 hs2
          go_wp2_with fail
          go_roundw
          case rel => exact ⟨k + 1, _, by omega, by go_num, HN.out, by simpa [World.setCell, foldLn] using HS1.out, BB.out⟩
          case measure => simp [intOf]; omega
      · have HA : Hid (P.map Prod.fst = foldPF L) := by
          show _ = _
          rw [HPP.out, HF.out, List.take_of_length_le (by omega), List.drop_of_length_le (by omega), List.append_nil]
        go_wp2_with fail
        go_ret
        have hll : (foldPF L).length = n := by rw [← HA.out, List.length_map, hPl]
        refine ⟨⟨A2, c2, by rw [hll]; rfl, P, HA.out, ?_⟩, B1.out.trans (HB.out.mono B1.out.size)⟩
        exact ⟨O.out.1.more B1.out.size (Nat.le_refl _) (Nat.le_refl _), O.out.2⟩
end Go.Proofs.Ytcfjbaanahgpoaa
