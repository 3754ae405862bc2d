import Derived.Test.YtcfjbaanahgpoaaIp4
import Derived.Test.YtcfjbaanahgpoaaIn
namespace Go.Proofs.Ytcfjbaanahgpoaa
open Go Go.RowKit
set_option maxRecDepth 100000
set_option linter.unusedVariables false
set_option linter.unusedSimpArgs false
namespace fnImages
/-- Whether a number is in a row: where it is. -/
theorem l_has (A : Option Addr) (n c : Nat) (l : List Int) (k : Int) (w : World) (hn : n ≤ 1000000000000) (hl : l.length = n) (h : InRow w A n 1 (intCells l)) (hk : k ∈ l) :
    Calls Try.prog 21 #[.slice A n c, .int .i64 k] w fun e w' => e = .returned (.bool true) ∧ w = w' := by
  have H := hide h
  have HL := hide hl
  obtain ⟨p, hp, hpk⟩ := List.getElem_of_mem hk
  have hpn : p < n := by omega
  have HP := hide hpk
  clear h hl hk hpk
  go_enter Try.func21, Try.ntmps21
  go_wp2_with fail
  go_loopw [5] (fun iv wr => ∃ i : Nat, i ≤ p ∧ iv = .int .i64 i ∧ wr = w) (fun iv _ => n - (intOf iv).toNat)
  case atStart => exact ⟨0, Nat.zero_le _, rfl, rfl⟩
  case round =>
    obtain ⟨i, hi, rfl, rfl⟩ := hrel
    have hin : i < n := by omega
    have z : decide ((i : Int) < (n : Int)) = true := decide_eq_true (by omega)
    have z' : decide (i < n) = true := decide_eq_true hin
    have hil : i < l.length := by have := HL.out; omega
    obtain ⟨b, o, hA, _, c0⟩ := H.out.int i hil
    subst hA
    by_cases heq : l[i] = k
    · have z2 : (l[i] == k) = true := by simpa using heq
      clear heq
      go_wp2_with fail
      go_ret
      exact ⟨rfl, rfl⟩
    · have z2 : (l[i] == k) = false := by simpa using heq
      have hip : i < p := by
        rcases Nat.lt_or_ge i p with h1 | h1
        · exact h1
        · exfalso
          have : i = p := by omega
          subst this
          exact heq HP.out
      clear heq
      go_wp2_with fail
      go_roundw
      case rel => exact ⟨i + 1, by omega, by go_num, trivial⟩
      case measure => simp [intOf]; omega
theorem field_img (w : World) : (Instr.field 42 (.agg #[.string ⟨#[]⟩, .slice none 0 0]) 1).run Try.prog w = .ok (.slice none 0 0) w := by kernel_rfl
/-- How many functions the first images have. -/
def cntF (split : Bool) (nf : Nat) : Nat → Nat
  | 0 => 0
  | i + 1 => cntF split nf i + (imFs split i nf).length
set_option maxHeartbeats 8000000 in
theorem walk (v0 : Value) (w : World) (h0 : InBytes w v0) : Calls Try.prog 4 #[v0] w fun e w' => e = .returned (.bool true) ∧ Below w.heap.size w w' := by
  obtain ⟨i1, hi1, hy0, hy1, hy2⟩ := info_parts Try.infoIntC
  have HI1 := hide hi1
  clear hi1
  obtain ⟨A, n, c, rfl, hnc, hc, hrow⟩ := h0
  have hn : n ≤ maxLen := by omega
  have HR := hide (CodeAt.of_in hnc hc hrow)
  clear hrow
  by_cases hbig : 1048576 < n
  · have hd : decide (1048576 < n) = true := by simpa using hbig
    go_enter Try.func4, Try.ntmps4
    go_wp2_with (go_at_call 7; refine (l_big _ _ _ hn _).mono ?_; rintro e w' ⟨rfl, rfl⟩)
    go_ret
    exact ⟨rfl, Below.refl _ _⟩
  have hd : decide (1048576 < n) = false := by simpa using hbig
  go_enter Try.func4, Try.ntmps4
  go_wp2_with fail
  refine (l_big _ _ _ hn _).mono ?_
  rintro e w' ⟨rfl, rfl⟩
  go_wp2_with fail
  refine (s_drawBuild _ _ _ _ HR.out).mono ?_
  rintro e w1 ⟨⟨A1, n1, c1, L, fr, inl, fr', inl', fold, split, fold', split', rfl, hX, hok, hn1, hn4, hbl⟩, hb1⟩
  have B1 := hide hb1
  have X1 := hide hX
  have OK := hide hok
  have HLN := hide hX.len
  have HSZ : Hid (∀ x ∈ L, LnSz x) := fun x hx => (lineOk_szQ (hok x hx)).1
  have hT : n1 + lnTot L ≤ 100000 := by have h1 := lnTot_leQ L (fun x hx => (lineOk_szQ (hok x hx)).2); have h2 := hX.len; omega
  obtain ⟨hfr, hinl⟩ := hbl
  clear hX hok hb1 hd hbig hn hn1
  go_wp2_with fail
  have KB := hide ((Blk.new w1 37 #[.int .i64 fr, .int .i64 inl, .bool fold, .bool split]).alloc (.cells #[.int .i64 fr', .int .i64 inl', .bool fold', .bool split'] 37))
  have BX := hide (((Below.refl w1.heap.size w1).alloc (Nat.le_refl _) (.cells #[.int .i64 fr, .int .i64 inl, .bool fold, .bool split] 37)).alloc (by simp) (.cells #[.int .i64 fr', .int .i64 inl', .bool fold', .bool split'] 37))
  generalize (w1.alloc (.cells #[.int .i64 fr, .int .i64 inl, .bool fold, .bool split] 37)).alloc (.cells #[.int .i64 fr', .int .i64 inl', .bool fold', .bool split'] 37) = wX at *
  have BW := hide (B1.out.trans (BX.out.mono B1.out.size))
  obtain ⟨gb, hgb⟩ : ∃ gb, gb = w1.heap.size := ⟨_, rfl⟩
  rw [← hgb] at KB ⊢
  refine (s_programOk A1 n1 c1 L _ (by omega) (X1.out.below BX.out) HSZ.out).mono ?_
  rintro e w2 ⟨rfl, hb2⟩
  have B2 := hide (BW.out.trans (hb2.mono BW.out.size))
  have K2 := hide (KB.out.below hb2 KB.out.lt)
  have X2 := hide ((X1.out.below BX.out).below hb2)
  have n0 := K2.out.cell 0
  have n1' := K2.out.cell 1
  have n2 := K2.out.cell 2
  have n3 := K2.out.cell 3
  simp at n0 n1' n2 n3
  clear hb2 hgb
  cases hp : progS L
  · have NC := hide (i_assembleNil A1 n1 c1 0 fr inl fold split L w2 X2.out HSZ.out (by omega) hp)
    clear hp
    go_wp2_with fail
    refine (NC.out).mono ?_
    rintro e w3 ⟨rfl, hb3⟩
    have B3 := hide (B2.out.trans (hb3.mono B2.out.size))
    clear hb3
    have hfld := field_img w3
    go_wp2_with fail
    go_ret
    exact ⟨rfl, B3.out⟩
  have HP := hide hp
  have hf6 : (funsF L).length ≤ 6 := (yes_out hp).2.2.2.1
  obtain ⟨nf, hnf⟩ : ∃ nf, nf = (funsF L).length := ⟨_, rfl⟩
  have HNF := hide hnf
  rw [← hnf] at hf6
  obtain ⟨OF, hOF⟩ : ∃ OF : Nat → Ops, OF = ofF fr inl fold L := ⟨_, rfl⟩
  obtain ⟨nm, hnm⟩ : ∃ nm : Nat → ByteArray, nm = nmF L := ⟨_, rfl⟩
  have AI : Hid (∀ (i : Nat) (w' : World), i ≤ 1 → InLines w' A1 n1 L → Calls Try.prog 18 #[.slice A1 n1 c1, .agg #[.int .i64 fr, .int .i64 inl, .bool fold, .bool split], .int .i64 i] w' fun e w'' => AsR w'' OF nm (imFs split i nf) e ∧ Below w'.heap.size w' w'') := by
    rw [hOF, hnm, hnf]
    exact fun i w' hi h => i_assembleImage A1 n1 c1 i fr inl fold split L w' h hp hfr hinl hi
  have PL : Hid (∀ (i : Nat) (w' : World), i ≤ 1 → InLines w' A1 n1 L → Calls Try.prog 19 #[.slice A1 n1 c1, .agg #[.int .i64 fr, .int .i64 inl, .bool fold, .bool split], .int .i64 i] w' fun e w'' => PlR w' w'' OF (imFs split i nf) e ∧ Below w'.heap.size w' w'') := by
    rw [hOF, hnf]
    exact fun i w' hi h => i_placesOf A1 n1 c1 i fr inl fold split L w' h hp hfr hinl hi
  have NM : Hid (∀ i : Nat, NmOk nm (imFs split i nf)) := fun i => by
    rw [hnm]
    exact nm_ok hp (imFs_nodup split i nf) (fun f hf => by have := (imFs_lt hf).1; omega)
  clear hp hOF hnm hnf n0 n1' n2 n3
  go_wp2_with fail
  go_loopw [6, 7] (fun cv iv wr => ∃ i : Nat, iv = .int .i64 i ∧ i ≤ 2 ∧ cv = .int .i64 (cntF split nf i : Nat) ∧ Below w2.heap.size w2 wr) (fun _ iv _ => 2 - (intOf iv).toNat)
  case atStart => exact ⟨0, rfl, by omega, rfl, Below.refl _ _⟩
  case round =>
    obtain ⟨i, rfl, hi, rfl, hbr⟩ := hrel
    have BR := hide hbr
    have KR := hide (K2.out.below hbr K2.out.lt)
    have RR := hide (X2.out.below hbr)
    have n0 := KR.out.cell 0
    have n1' := KR.out.cell 1
    have n2 := KR.out.cell 2
    have n3 := KR.out.cell 3
    simp at n0 n1' n2 n3
    have hcl : ∀ i, cntF split nf i ≤ 6 * i := by
      intro i
      induction i with
      | zero => exact Nat.le_refl _
      | succ i ih => have := imFs_len split i nf; rw [cntF]; omega
    have hci := hcl i
    clear hbr hcl
    by_cases hlt : i < 2
    · have z : decide ((i : Int) < 2) = true := decide_eq_true (by omega)
      have z' : decide (i < 2) = true := decide_eq_true hlt
      have hfl6 : (imFs split i nf).length ≤ 6 := Nat.le_trans (imFs_len _ _ _) hf6
      have HCN : Hid (cntF split nf (i + 1) = cntF split nf i + (imFs split i nf).length) := rfl
      have NMI := hide (NM.out i)
      have AIi := hide (fun w' h => AI.out i w' (by omega) h)
      have PLi := hide (fun w' h => PL.out i w' (by omega) h)
      generalize cntF split nf i = cn0 at *
      generalize imFs split i nf = fs at *
      go_wp2_with fail
      refine (AIi.out wr RR.out).mono ?_
      rintro e w3 ⟨⟨SA, sc, rfl, him⟩, hb3⟩
      obtain ⟨S, hS⟩ : ∃ S : ByteArray, S = ⟨(cdF OF fs).toArray⟩ := ⟨_, rfl⟩
      obtain ⟨Y, hY⟩ : ∃ Y : List Sy, Y = syF OF nm 0 fs := ⟨_, rfl⟩
      rw [← hS, ← hY] at him ⊢
      have HS := hide hS
      have HY := hide hY
      have hYl : Y.length = fs.length := by rw [hY, syF_length]
      have HYL := hide hYl
      have hY6 : Y.length ≤ 6 := by omega
      have IM3 := hide him
      have B3 := hide (BR.out.trans (hb3.mono BR.out.size))
      have K3 := hide (KR.out.below hb3 KR.out.lt)
      have R3 := hide (RR.out.below hb3)
      clear him hb3 hS hY hYl n0 n1' n2 n3
      go_upto_region 11 with fail
      have KI := hide (Blk.new w3 42 #[.string S, .slice SA Y.length sc])
      have BI := hide ((Below.refl w3.heap.size w3).alloc (Nat.le_refl _) (.cells #[.string S, .slice SA Y.length sc] 42))
      generalize w3.alloc (.cells #[.string S, .slice SA Y.length sc] 42) = wI at *
      have hW3 : w2.heap.size ≤ w3.heap.size := B3.out.size
      have B4 := hide (B3.out.trans (BI.out.mono hW3))
      have K4 := hide (K3.out.below BI.out K3.out.lt)
      have R4 := hide (R3.out.below BI.out)
      have IM4 := hide (IM3.out.below BI.out)
      have hiW : w2.heap.size ≤ w3.heap.size := hW3
      obtain ⟨im, him⟩ : ∃ im, im = w3.heap.size := ⟨_, rfl⟩
      rw [← him] at KI hiW ⊢
      clear him
      have n0 := K4.out.cell 0
      have n1' := K4.out.cell 1
      have n2 := K4.out.cell 2
      have n3 := K4.out.cell 3
      simp at n0 n1' n2 n3
      clear B3 K3 R3 IM3 hW3
      go_wp2_with fail
      refine (PLi.out wI R4.out).mono ?_
      rintro e w4 ⟨⟨v, P, rfl, hoP, hPm, hPl, hoks⟩, hb4⟩
      obtain ⟨PA, pc, rfl, _, harP⟩ := Arr.of_own hoP
      have XP := hide (InRow.of_arr harP)
      have B5 := hide (B4.out.trans (hb4.mono B4.out.size))
      have K5 := hide (K4.out.below hb4 K4.out.lt)
      have KI5 := hide (KI.out.below hb4 KI.out.lt)
      have R5 := hide (R4.out.below hb4)
      have IM5 := hide (IM4.out.below hb4)
      have hPle : P.length ≤ 15600 := by omega
      obtain ⟨PO, hPO⟩ : ∃ PO : List Int, PO = P.map fun p => p.1 := ⟨_, rfl⟩
      have HPOl : Hid (PO.length = P.length) := by show _ = _; rw [hPO, List.length_map]
      have HPOg : Hid (∀ k (hk : k < P.length), intCells (PO.take (k + 1)) = intCells (PO.take k) ++ [.int .i64 P[k].1]) := by
        intro k hk
        rw [List.take_succ_eq_append_getElem (by rw [hPO, List.length_map]; exact hk)]
        simp [intCells, hPO]
      have HPF : Hid (PO = ((imG OF 0 fs).flatten).map Prod.fst) := by
        show _ = _
        rw [← hPm, List.map_map, hPO]
        rfl
      have PD : Hid (∀ k (hk : k < P.length), decOpF S.data.toList P[k].1 = some (P[k].2.code, P[k].2.arg) ∧ 0 ≤ P[k].1 ∧ P[k].1 ≤ 100000 ∧ -2147483648 ≤ P[k].2.arg ∧ P[k].2.arg ≤ 2147483647 ∧ (P[k].2.code = 10 ∨ P[k].2.code = 11 → P[k].1 + (opW P[k].2.code + 1) + P[k].2.arg ∈ PO ∧ symF Y (P[k].1 + (opW P[k].2.code + 1) + P[k].2.arg) = symF Y P[k].1)) := by
        intro k hk
        have h1 : plP P[k] ∈ (imG OF 0 fs).flatten := by rw [← hPm]; exact List.mem_map_of_mem (List.getElem_mem hk)
        have h2 := place_law (nm := nm) hoks hfl6 _ h1
        rw [HPF.out, HS.out, HY.out]
        exact h2
      have IOK : Hid (imgOkF (S, Y) = true) := by rw [HS.out, HY.out]; exact img_ok hoks NMI.out hfl6
      have hSl : S.size ≤ 78000 := by
        have h1 := cdF_len (OF := OF) fs hoks
        have h2 := sumS_bound (OF := OF) fs hoks
        have h3 : S.size = (cdF OF fs).length := by rw [HS.out]; exact List.size_toArray
        omega
      have ISZ : Hid (ImSz (S, Y)) := ⟨by show S.size ≤ maxLen; unfold maxLen; omega, by rw [HY.out]; exact sy_small NMI.out⟩
      have k1 := KI5.out.cell 1
      simp at k1
      clear hPO hoP hPm hPl hoks hb4 harP n0 n1' n2 n3 B4 K4 KI R4 IM4 AIi PLi
      go_wp2_with fail
      go_loopw [10, 11] (fun ov kv wr => ∃ k : Nat, kv = .int .i64 k ∧ k ≤ P.length ∧ wr.ownsRow w4.heap.size 3 1 ov k (intCells (PO.take k)) ∧ Below w4.heap.size w4 wr) (fun _ kv _ => P.length - (intOf kv).toNat)
      case atStart => exact ⟨0, rfl, Nat.zero_le _, ownsRow_blk (Blk.new w4 3 #[]) (Nat.le_refl _), (Below.refl _ _).alloc (Nat.le_refl _) _⟩
      case round =>
        obtain ⟨k, rfl, hk, hoo, hbo⟩ := hrel
        obtain ⟨OA, oc, hov, _⟩ := Arr.of_own hoo
        subst hov
        have OO := hide hoo
        have BO := hide hbo
        have XPr := hide (XP.out.below hbo)
        have hW4 : w4.heap.size ≤ wr.heap.size := hbo.size
        clear hoo hbo
        by_cases hkl : k < P.length
        · have z2 : decide ((k : Int) < (P.length : Int)) = true := decide_eq_true (by omega)
          have z2' : decide (k < P.length) = true := decide_eq_true hkl
          obtain ⟨bP, oP, hPA, _, hcP⟩ := XPr.out.2 (by omega)
          have q0 := (hcP (k * 8) (by omega)).trans (flat_at plC 8 (fun _ => rfl) P k 0 hkl (by omega))
          simp [plC] at q0
          have HTK := hide (HPOg.out k hkl)
          generalize P[k].1 = o at *
          subst hPA
          clear hcP
          go_wp2_with (first | (at_builtin; refine wpList_appN _ rfl (.tmp 58) (.tmp 64) _ rfl w4.heap.size 3 i1 _ 1 8 Try.underlying28 HI1.out hy0 hy1 hy2 rfl (by decide) (.slice OA k oc) k (intCells (PO.take k)) rfl OO.out 1 [.int .i64 o] rfl rfl rfl (by intro u hu; simp at hu; subst hu; rfl) (by omega) (by decide) hW4 ?_) | fail)
          intro v9 w9 hown9 hb9 hg9 hv9
          rw [← HTK.out] at hown9
          have O9 := hide hown9
          have B9 := hide (BO.out.trans hb9)
          clear hown9 hb9 hg9 hv9
          go_wp2_with fail
          go_roundw
          case rel => exact ⟨k + 1, by go_num, by omega, O9.out, B9.out⟩
          case measure => simp [intOf]; omega
        · have z2 : decide ((k : Int) < (P.length : Int)) = false := decide_eq_false (by omega)
          have z2' : decide (k < P.length) = false := decide_eq_false hkl
          obtain rfl : k = P.length := by omega
          have XO : Hid (InRow wr OA P.length 1 (intCells PO)) := by
            obtain ⟨A', c', e', _, har⟩ := Arr.of_own OO.out
            cases e'
            have h1 := InRow.of_arr har
            rw [List.take_of_length_le (by rw [HPOl.out]; exact Nat.le_refl _)] at h1
            exact h1
          have KIo := hide (KI5.out.below BO.out KI5.out.lt)
          have KBo := hide (K5.out.below BO.out K5.out.lt)
          have IMo := hide (IM5.out.below BO.out)
          have B6 := hide (B5.out.trans (BO.out.mono B5.out.size))
          clear k1
          go_wp2_with fail
          rename World => wp
          go_loopw [12] (fun kv wr => ∃ k : Nat, kv = .int .i64 k ∧ k ≤ P.length ∧ Below wp.heap.size wp wr) (fun kv _ => P.length - (intOf kv).toNat)
          case atStart => exact ⟨0, rfl, Nat.zero_le _, Below.refl _ _⟩
          case round =>
            obtain ⟨k, rfl, hk, hbk⟩ := hrel
            have BK := hide hbk
            have XPk := hide (XPr.out.below hbk)
            have XOk := hide (XO.out.below hbk)
            have KIk := hide (KIo.out.below hbk KIo.out.lt)
            have IMk := hide (IMo.out.below hbk)
            have hWk : wp.heap.size ≤ wr.heap.size := hbk.size
            have k0 := KIk.out.cell 0
            have k1 := KIk.out.cell 1
            simp at k0 k1
            clear hbk
            by_cases hkl2 : k < P.length
            · have z3 : decide ((k : Int) < (P.length : Int)) = true := decide_eq_true (by omega)
              have z3' : decide (k < P.length) = true := decide_eq_true hkl2
              obtain ⟨bP, oP, hPA, hbP, hcP⟩ := XPk.out.2 (by omega)
              have q0 := (hcP (k * 8) (by omega)).trans (flat_at plC 8 (fun _ => rfl) P k 0 hkl2 (by omega))
              have q1 := (hcP (k * 8 + 1) (by omega)).trans (flat_at plC 8 (fun _ => rfl) P k 1 hkl2 (by omega))
              have q2 := (hcP (k * 8 + 2) (by omega)).trans (flat_at plC 8 (fun _ => rfl) P k 2 hkl2 (by omega))
              simp [plC, itC] at q0 q1 q2
              rw [← Nat.add_assoc] at q1 q2
              obtain ⟨hdec, ho0, ho1, ha0, ha1, hjmp⟩ := PD.out k hkl2
              have DEC : Hid (∀ w', Calls Try.prog 20 #[.string S, .int .i64 P[k].1] w' fun e w'' => e = .returned (.tuple #[.agg #[.int .i64 P[k].2.code, .int .i64 P[k].2.arg], .int .i64 (opW P[k].2.code + 1), .bool true]) ∧ Below w'.heap.size w' w'') := by
                intro w'
                have h := s_decodeOp S (by omega) P[k].1 w'
                rw [hdec] at h
                exact h
              have HJM := hide hjmp
              obtain ⟨o, hho⟩ : ∃ o, o = P[k].1 := ⟨_, rfl⟩
              obtain ⟨cd, hcd⟩ : ∃ cd, cd = P[k].2.code := ⟨_, rfl⟩
              obtain ⟨ag, hag⟩ : ∃ ag, ag = P[k].2.arg := ⟨_, rfl⟩
              rw [← hho] at q0 ho0 ho1 DEC HJM
              rw [← hcd] at q1 DEC HJM
              rw [← hag] at q2 DEC HJM ha0 ha1
              have hw4 := opW_le cd
              obtain ⟨nn, hnn⟩ : ∃ nn : Int, nn = opW cd + 1 := ⟨_, rfl⟩
              rw [← hnn] at DEC HJM
              have hnn5 : 1 ≤ nn ∧ nn ≤ 5 := by omega
              clear hw4 hnn
              subst hPA
              clear hho hcd hag hdec hjmp hcP
              go_upto_region 21 with fail
              have hoim : im < wr.heap.size := KIk.out.lt
              have SKP : Hid (∀ w' : World, Below wr.heap.size wr w' → w'.cell? ⟨im, 0, none⟩ = some (.string S) ∧ w'.cell? ⟨bP, oP + k * 8, none⟩ = some (.int .i64 o)) := fun w' h => ⟨(h.cell (p := ⟨im, 0, none⟩) hoim).trans k0, (h.cell (p := ⟨bP, oP + k * 8, none⟩) hbP).trans q0⟩
              go_cut [13, 14, 15] from 72 to 83 (fun s13 s14 s15 wx => ∃ gN : Nat, s13 = .pointer (some ⟨gN, 0, none⟩) ∧ s14 = .int .i64 nn ∧ s15 = .bool true ∧ Blk wx gN 47 #[.int .i64 cd, .int .i64 ag] ∧ Below wr.heap.size wr wx)
              case first =>
                go_region_held3 (fun w' => w'.cell? ⟨im, 0, none⟩ = some (.string S) ∧ w'.cell? ⟨bP, oP + k * 8, none⟩ = some (.int .i64 o)) (first | (refine SKP.out _ ?_; (repeat (first | with_reducible exact Below.refl _ _ | with_reducible exact E5.out | with_reducible refine Below.drew ?_ | with_reducible refine Below.alloc ?_ (by first | exact Nat.le_refl _ | exact E5.out.size | (simp; done)) _ | with_reducible refine Below.setCell ?_ (by first | exact Nat.le_refl _ | exact E5.out.size | (simp; done)) _)); done) | fail) (first
                  | (go_at_call 20; refine (DEC.out wr.drew).mono ?_; rintro e w5 ⟨rfl, hb5⟩; have E5 : Hid (Below wr.heap.size wr w5) := ((Below.refl wr.heap.size wr).drew.trans hb5); clear hb5)
                  | (go_at_call 20; refine (DEC.out (wr.drew.alloc (.cells #[.int .i64 0, .int .i64 0] 47))).mono ?_; rintro e w5 ⟨rfl, hb5⟩; have E5 : Hid (Below wr.heap.size wr w5) := (((Below.refl wr.heap.size wr).drew.alloc (Nat.le_refl _) (.cells #[.int .i64 0, .int .i64 0] 47)).trans (hb5.mono (by simp))); have KN5 := hide ((blk_new' (w := wr.drew) (b := wr.heap.size) (t := 47) (cs := #[.int .i64 0, .int .i64 0]) rfl).below hb5 (by simp)); have m0 := KN5.out.cell 0; have m1 := KN5.out.cell 1; have fm0 := KN5.out.frozen 0; have fm1 := KN5.out.frozen 1; simp at m0 m1; clear hb5)
                  | fail)
                all_goals
                  go_wp2_with fail
                  go_meet
                  first
                    | exact ⟨w5.heap.size, rfl, rfl, rfl, Blk.new w5 _ _, E5.out.alloc E5.out.size _⟩
                    | exact ⟨wr.heap.size, rfl, rfl, rfl, by (have h1 := (KN5.out.set_ 0 (.int .i64 cd)).set_ 1 (.int .i64 ag); simpa using h1), (E5.out.setCell (p := ⟨wr.heap.size, 0, none⟩) (Nat.le_refl _) _).setCell (p := ⟨wr.heap.size, 1, none⟩) (Nat.le_refl _) _⟩
                    | fail
              case rest =>
                obtain ⟨gN, rfl, rfl, rfl, hkn, hbn⟩ := hcut
                have BN := hide hbn
                have m0 := hkn.cell 0
                have m1 := hkn.cell 1
                simp at m0 m1
                have p0 := (hbn.cell (p := ⟨bP, oP + k * 8, none⟩) hbP).trans q0
                have p1 := (hbn.cell (p := ⟨bP, oP + k * 8 + 1, none⟩) hbP).trans q1
                have p2 := (hbn.cell (p := ⟨bP, oP + k * 8 + 2, none⟩) hbP).trans q2
                have i0 := (hbn.cell (p := ⟨im, 0, none⟩) hoim).trans k0
                have i1' := (hbn.cell (p := ⟨im, 1, none⟩) hoim).trans k1
                have IMc := hide (IMk.out.below hbn)
                have XOc := hide (XOk.out.below hbn)
                have KNc := hide hkn
                have BPc : bP < wc.heap.size := Nat.lt_of_lt_of_le hbP hbn.size
                clear hkn hbn q0 q1 q2 k0 k1 SKP
                go_upto_region 22 with fail
                go_quiet (fail)
                go_wp2_with fail
                have zw1 : IntKind.i64.wrap (o + nn) = o + nn := IntWalk.i64_in _ (by omega)
                have zw2 : IntKind.i64.wrap (o + nn + ag) = o + nn + ag := IntWalk.i64_in _ (by omega)
                go_upto_region 24 with fail
                rename Nat => nq1
                go_quiet (fail)
                go_upto_region 25 with fail
                have BQ := hide (below_drewN (below_drewN BN.out nq1) nq)
                have XOq := hide (XOc.out.below (below_drewN (below_drewN (Below.refl wc.heap.size wc) nq1) nq))
                have IMq := hide (IMc.out.below (below_drewN (below_drewN (Below.refl wc.heap.size wc) nq1) nq))
                have KNq := hide (KNc.out.below (below_drewN (below_drewN (Below.refl wc.heap.size wc) nq1) nq) KNc.out.lt)
                have BC : Below wc.heap.size wc ((wc.drewN nq1).drewN nq) := below_drewN (below_drewN (Below.refl wc.heap.size wc) nq1) nq
                have hoic : im < wc.heap.size := Nat.lt_of_lt_of_le hoim BN.out.size
                have g0 := KNq.out.cell 0
                simp at g0
                have i0q := (BC.cell (p := ⟨im, 0, none⟩) hoic).trans i0
                have i1q := (BC.cell (p := ⟨im, 1, none⟩) hoic).trans i1'
                have p0q := (BC.cell (p := ⟨bP, oP + k * 8, none⟩) BPc).trans p0
                have SKQ : Hid (∀ w' : World, Below ((wc.drewN nq1).drewN nq).heap.size ((wc.drewN nq1).drewN nq) w' → w'.cell? ⟨gN, 0, none⟩ = some (.int .i64 cd) ∧ w'.cell? ⟨im, 0, none⟩ = some (.string S) ∧ w'.cell? ⟨im, 1, none⟩ = some (.slice SA Y.length sc) ∧ w'.cell? ⟨bP, oP + k * 8, none⟩ = some (.int .i64 o)) := fun w' h => ⟨(h.cell (block_lt_of_cell g0)).trans g0, (h.cell (block_lt_of_cell i0q)).trans i0q, (h.cell (block_lt_of_cell i1q)).trans i1q, (h.cell (block_lt_of_cell p0q)).trans p0q⟩
                clear BC m0 m1 p0 p1 p2 i0 i1' IMc XOc KNc
                generalize (wc.drewN nq1).drewN nq = wQ at *
                by_cases h10 : cd = 10
                · obtain ⟨hj1, hj2⟩ := HJM.out (.inl h10)
                  have HJ1 := hide hj1
                  have HJ2 := hide hj2
                  clear hj1 hj2 HJM zw1 zw2 DEC
                  subst h10
                  · -- ten
                    refine wp_region_noPanic ?_ -- a
                    refine wp_region_held_drew (S := fun w' => w'.cell? ⟨gN, 0, none⟩ = some (.int .i64 10) ∧ w'.cell? ⟨im, 0, none⟩ = some (.string S) ∧ w'.cell? ⟨im, 1, none⟩ = some (.slice SA Y.length sc) ∧ w'.cell? ⟨bP, oP + k * 8, none⟩ = some (.int .i64 o)) (by kernel_rfl) (by first | exact SKQ.out _ (Below.refl _ _).drew | (dsimp only; exact SKQ.out _ (Below.refl _ _).drew)) (fun hHeld => ?_)
                    refine wpAnyH_take (i := 0) (v := ?tva0) rfl (by kernel_rfl) (by kernel_rfl) (by kernel_rfl) (fun _ _ _ h => h) (Or.inl ⟨by rfl, ?tya0⟩) (by assumption) ?tra0
                    case tya0 => (intro w hSw; (try dsimp only at hSw); go_simp; first | done | with_reducible rfl)
                    case tra0 =>
                    try simp only [List.getElem_toArray, List.getElem_cons_succ, List.getElem_cons_zero, Act.put, List.setIfInBounds_toArray, List.set_cons_zero, List.set_cons_succ]
                    refine wpAnyH_take (i := 1) (v := ?tva1) rfl (by kernel_rfl) (by kernel_rfl) (by kernel_rfl) (fun _ _ _ h => h) (Or.inl ⟨by rfl, ?tya1⟩) (by assumption) ?tra1
                    case tya1 => (intro w hSw; (try dsimp only at hSw); go_simp; first | done | with_reducible rfl)
                    case tra1 =>
                    try simp only [List.getElem_toArray, List.getElem_cons_succ, List.getElem_cons_zero, Act.put, List.setIfInBounds_toArray, List.set_cons_zero, List.set_cons_succ]
                    refine wpAnyH_take (i := 2) (v := ?tva2) rfl (by kernel_rfl) (by kernel_rfl) (by kernel_rfl) (fun _ _ _ h => h) (Or.inl ⟨by rfl, ?tya2⟩) (by assumption) ?tra2
                    case tya2 => (intro w hSw; (try dsimp only at hSw); go_simp; first | done | with_reducible rfl)
                    case tra2 =>
                    try simp only [List.getElem_toArray, List.getElem_cons_succ, List.getElem_cons_zero, Act.put, List.setIfInBounds_toArray, List.set_cons_zero, List.set_cons_succ]
                    refine wpAnyH_take (i := 3) (v := ?tva3) rfl (by kernel_rfl) (by kernel_rfl) (by kernel_rfl) (fun _ _ _ h => h) (Or.inl ⟨by rfl, ?tya3⟩) (by assumption) ?tra3
                    case tya3 => (intro w hSw; (try dsimp only at hSw); go_simp; first | done | with_reducible rfl)
                    case tra3 =>
                    try simp only [List.getElem_toArray, List.getElem_cons_succ, List.getElem_cons_zero, Act.put, List.setIfInBounds_toArray, List.set_cons_zero, List.set_cons_succ]
                    refine wpAnyH_take (i := 4) (v := undef) rfl (by kernel_rfl) (by kernel_rfl) (by kernel_rfl) (fun _ _ _ h => h) (Or.inr ⟨by rfl, rfl⟩) (by assumption) ?tra4
                    case tra4 =>
                    try simp only [List.getElem_toArray, List.getElem_cons_succ, List.getElem_cons_zero, Act.put, List.setIfInBounds_toArray, List.set_cons_zero, List.set_cons_succ]
                    refine wpAnyH_take (i := 5) (v := undef) rfl (by kernel_rfl) (by kernel_rfl) (by kernel_rfl) (fun _ _ _ h => h) (Or.inr ⟨by rfl, rfl⟩) (by assumption) ?tra5
                    case tra5 =>
                    try simp only [List.getElem_toArray, List.getElem_cons_succ, List.getElem_cons_zero, Act.put, List.setIfInBounds_toArray, List.set_cons_zero, List.set_cons_succ]
                    refine wpAnyH_take (i := 6) (v := undef) rfl (by kernel_rfl) (by kernel_rfl) (by kernel_rfl) (fun _ _ _ h => h) (Or.inr ⟨by rfl, rfl⟩) (by assumption) ?tra6
                    case tra6 =>
                    try simp only [List.getElem_toArray, List.getElem_cons_succ, List.getElem_cons_zero, Act.put, List.setIfInBounds_toArray, List.set_cons_zero, List.set_cons_succ]
                    refine wpAnyH_take (i := 7) (v := ?tva7) rfl (by kernel_rfl) (by kernel_rfl) (by kernel_rfl) (fun _ _ _ h => h) (Or.inl ⟨by rfl, ?tya7⟩) (by assumption) ?tra7
                    case tya7 => (intro w hSw; (try dsimp only at hSw); go_simp; first | done | with_reducible rfl)
                    case tra7 =>
                    try simp only [List.getElem_toArray, List.getElem_cons_succ, List.getElem_cons_zero, Act.put, List.setIfInBounds_toArray, List.set_cons_zero, List.set_cons_succ]
                    refine wpAnyH_take (i := 8) (v := ?tva8) rfl (by kernel_rfl) (by kernel_rfl) (by kernel_rfl) (fun _ _ _ h => h) (Or.inl ⟨by rfl, ?tya8⟩) (by assumption) ?tra8
                    case tya8 => (intro w hSw; (try dsimp only at hSw); go_simp; first | done | with_reducible rfl)
                    case tra8 =>
                    try simp only [List.getElem_toArray, List.getElem_cons_succ, List.getElem_cons_zero, Act.put, List.setIfInBounds_toArray, List.set_cons_zero, List.set_cons_succ]
                    refine wpAnyH_take (i := 9) (v := ?tva9) rfl (by kernel_rfl) (by kernel_rfl) (by kernel_rfl) (fun _ _ _ h => h) (Or.inl ⟨by rfl, ?tya9⟩) (by assumption) ?tra9
                    case tya9 => (intro w hSw; (try dsimp only at hSw); go_simp; first | done | with_reducible rfl)
                    case tra9 =>
                    try simp only [List.getElem_toArray, List.getElem_cons_succ, List.getElem_cons_zero, Act.put, List.setIfInBounds_toArray, List.set_cons_zero, List.set_cons_succ]
                    refine wpAnyH_take (i := 10) (v := ?tva10) rfl (by kernel_rfl) (by kernel_rfl) (by kernel_rfl) (fun _ _ _ h => h) (Or.inl ⟨by rfl, ?tya10⟩) (by assumption) ?tra10
                    case tya10 => (intro w hSw; (try dsimp only at hSw); go_simp; first | done | with_reducible rfl)
                    case tra10 =>
                    try simp only [List.getElem_toArray, List.getElem_cons_succ, List.getElem_cons_zero, Act.put, List.setIfInBounds_toArray, List.set_cons_zero, List.set_cons_succ]
                    refine wpAnyH_ready (rs := [11]) (by kernel_rfl) (by simp) ?_
                    refine AllReadyH.cons rfl (fun K hK => ?tca11) AllReadyH.nil
                    case tca11 =>
                    go_simp
                    go_at_call 21
                    refine (l_has OA P.length oc PO _ wQ.drew (by omega) HPOl.out (XOq.out.below (Below.refl wQ.heap.size wQ).drew) HJ1.out).mono ?_
                    rintro e w' ⟨rfl, hww⟩
                    subst hww
                    go_wp2_with fail
                    refine hK.out _ _ (SKQ.out _ (Below.refl _ _).drew) (fun hHeld => ?tha11)
                    case tha11 =>
                    clear hK K
                    try simp only [List.getElem_toArray, List.getElem_cons_succ, List.getElem_cons_zero, Act.put, List.setIfInBounds_toArray, List.set_cons_zero, List.set_cons_succ]
                    refine wpAnyH_take (i := 12) (v := ?tva12) rfl (by kernel_rfl) (by kernel_rfl) (by kernel_rfl) (fun _ _ _ h => h) (Or.inl ⟨by rfl, ?tya12⟩) (by assumption) ?tra12
                    case tya12 => (intro w hSw; (try dsimp only at hSw); go_simp; first | done | with_reducible rfl)
                    case tra12 =>
                    try simp only [List.getElem_toArray, List.getElem_cons_succ, List.getElem_cons_zero, Act.put, List.setIfInBounds_toArray, List.set_cons_zero, List.set_cons_succ]
                    refine wpAnyH_take (i := 13) (v := ?tva13) rfl (by kernel_rfl) (by kernel_rfl) (by kernel_rfl) (fun _ _ _ h => h) (Or.inl ⟨by rfl, ?tya13⟩) (by assumption) ?tra13
                    case tya13 => (intro w hSw; (try dsimp only at hSw); go_simp; first | done | with_reducible rfl)
                    case tra13 =>
                    try simp only [List.getElem_toArray, List.getElem_cons_succ, List.getElem_cons_zero, Act.put, List.setIfInBounds_toArray, List.set_cons_zero, List.set_cons_succ]
                    refine wpAnyH_take (i := 14) (v := ?tva14) rfl (by kernel_rfl) (by kernel_rfl) (by kernel_rfl) (fun _ _ _ h => h) (Or.inl ⟨by rfl, ?tya14⟩) (by assumption) ?tra14
                    case tya14 => (intro w hSw; (try dsimp only at hSw); go_simp; first | done | with_reducible rfl)
                    case tra14 =>
                    try simp only [List.getElem_toArray, List.getElem_cons_succ, List.getElem_cons_zero, Act.put, List.setIfInBounds_toArray, List.set_cons_zero, List.set_cons_succ]
                    refine wpAnyH_take (i := 15) (v := ?tva15) rfl (by kernel_rfl) (by kernel_rfl) (by kernel_rfl) (fun _ _ _ h => h) (Or.inl ⟨by rfl, ?tya15⟩) (by assumption) ?tra15
                    case tya15 => (intro w hSw; (try dsimp only at hSw); go_simp; first | done | with_reducible rfl)
                    case tra15 =>
                    try simp only [List.getElem_toArray, List.getElem_cons_succ, List.getElem_cons_zero, Act.put, List.setIfInBounds_toArray, List.set_cons_zero, List.set_cons_succ]
                    refine wpAnyH_take (i := 17) (v := ?tva17) rfl (by kernel_rfl) (by kernel_rfl) (by kernel_rfl) (fun _ _ _ h => h) (Or.inl ⟨by rfl, ?tya17⟩) (by assumption) ?tra17
                    case tya17 => (intro w hSw; (try dsimp only at hSw); go_simp; first | done | with_reducible rfl)
                    case tra17 =>
                    try simp only [List.getElem_toArray, List.getElem_cons_succ, List.getElem_cons_zero, Act.put, List.setIfInBounds_toArray, List.set_cons_zero, List.set_cons_succ]
                    refine wpAnyH_take (i := 18) (v := ?tva18) rfl (by kernel_rfl) (by kernel_rfl) (by kernel_rfl) (fun _ _ _ h => h) (Or.inl ⟨by rfl, ?tya18⟩) (by assumption) ?tra18
                    case tya18 => (intro w hSw; (try dsimp only at hSw); go_simp; first | done | with_reducible rfl)
                    case tra18 =>
                    try simp only [List.getElem_toArray, List.getElem_cons_succ, List.getElem_cons_zero, Act.put, List.setIfInBounds_toArray, List.set_cons_zero, List.set_cons_succ]
                    refine wpAnyH_take (i := 19) (v := ?tva19) rfl (by kernel_rfl) (by kernel_rfl) (by kernel_rfl) (fun _ _ _ h => h) (Or.inl ⟨by rfl, ?tya19⟩) (by assumption) ?tra19
                    case tya19 => (intro w hSw; (try dsimp only at hSw); go_simp; first | done | with_reducible rfl)
                    case tra19 =>
                    try simp only [List.getElem_toArray, List.getElem_cons_succ, List.getElem_cons_zero, Act.put, List.setIfInBounds_toArray, List.set_cons_zero, List.set_cons_succ]
                    refine wpAnyH_take (i := 20) (v := ?tva20) rfl (by kernel_rfl) (by kernel_rfl) (by kernel_rfl) (fun _ _ _ h => h) (Or.inl ⟨by rfl, ?tya20⟩) (by assumption) ?tra20
                    case tya20 => (intro w hSw; (try dsimp only at hSw); go_simp; first | done | with_reducible rfl)
                    case tra20 =>
                    try simp only [List.getElem_toArray, List.getElem_cons_succ, List.getElem_cons_zero, Act.put, List.setIfInBounds_toArray, List.set_cons_zero, List.set_cons_succ]
                    refine wpAnyH_take (i := 21) (v := ?tva21) rfl (by kernel_rfl) (by kernel_rfl) (by kernel_rfl) (fun _ _ _ h => h) (Or.inl ⟨by rfl, ?tya21⟩) (by assumption) ?tra21
                    case tya21 => (intro w hSw; (try dsimp only at hSw); go_simp; first | done | with_reducible rfl)
                    case tra21 =>
                    try simp only [List.getElem_toArray, List.getElem_cons_succ, List.getElem_cons_zero, Act.put, List.setIfInBounds_toArray, List.set_cons_zero, List.set_cons_succ]
                    refine wpAnyH_take (i := 22) (v := ?tva22) rfl (by kernel_rfl) (by kernel_rfl) (by kernel_rfl) (fun _ _ _ h => h) (Or.inl ⟨by rfl, ?tya22⟩) (by assumption) ?tra22
                    case tya22 => (intro w hSw; (try dsimp only at hSw); go_simp; first | done | with_reducible rfl)
                    case tra22 =>
                    try simp only [List.getElem_toArray, List.getElem_cons_succ, List.getElem_cons_zero, Act.put, List.setIfInBounds_toArray, List.set_cons_zero, List.set_cons_succ]
                    refine wpAnyH_ready (rs := [16]) (by kernel_rfl) (by simp) ?_
                    refine AllReadyH.cons rfl (fun K hK => ?tca16) AllReadyH.nil
                    case tca16 =>
                    go_simp
                    go_at_call 22
                    refine (i_symbolAt (S, Y) SA sc _ wQ.drew (by show Y.length ≤ 1048576; omega) (IMq.out.below (Below.refl wQ.heap.size wQ).drew)).mono ?_
                    rintro e w5 ⟨he, hb5⟩
                    change e = .returned (.int .i64 (symF Y (o + nn + ag))) at he
                    rw [HJ2.out] at he
                    subst he
                    have E5 : Hid (Below wQ.heap.size wQ w5) := (Below.refl wQ.heap.size wQ).drew.trans hb5
                    have IM5q := hide ((IMq.out.below (Below.refl wQ.heap.size wQ).drew).below hb5)
                    clear hb5
                    go_wp2_with fail
                    refine hK.out _ _ (SKQ.out _ E5.out) (fun hHeld => ?tha16)
                    case tha16 =>
                    clear hK K
                    try simp only [List.getElem_toArray, List.getElem_cons_succ, List.getElem_cons_zero, Act.put, List.setIfInBounds_toArray, List.set_cons_zero, List.set_cons_succ]
                    refine wpAnyH_ready (rs := [23]) (by kernel_rfl) (by simp) ?_
                    refine AllReadyH.cons rfl (fun K hK => ?tca23) AllReadyH.nil
                    case tca23 =>
                    go_simp
                    go_at_call 22
                    refine (i_symbolAt (S, Y) SA sc _ w5 (by show Y.length ≤ 1048576; omega) IM5q.out).mono ?_
                    rintro e w7 ⟨he, hb7⟩
                    change e = .returned (.int .i64 (symF Y o)) at he
                    subst he
                    have E7 : Hid (Below wQ.heap.size wQ w7) := E5.out.trans (hb7.mono E5.out.size)
                    clear hb7
                    go_wp2_with fail
                    refine hK.out _ _ (SKQ.out _ E7.out) (fun hHeld => ?tha23)
                    case tha23 =>
                    clear hK K
                    try simp only [List.getElem_toArray, List.getElem_cons_succ, List.getElem_cons_zero, Act.put, List.setIfInBounds_toArray, List.set_cons_zero, List.set_cons_succ]
                    refine wpAnyH_take (i := 24) (v := ?tva24) rfl (by kernel_rfl) (by kernel_rfl) (by kernel_rfl) (fun _ _ _ h => h) (Or.inl ⟨by rfl, ?tya24⟩) (by assumption) ?tra24
                    case tya24 => (intro w hSw; (try dsimp only at hSw); go_simp; first | done | with_reducible rfl)
                    case tra24 =>
                    try simp only [List.getElem_toArray, List.getElem_cons_succ, List.getElem_cons_zero, Act.put, List.setIfInBounds_toArray, List.set_cons_zero, List.set_cons_succ]
                    refine wpAnyH_take (i := 25) (v := ?tva25) rfl (by kernel_rfl) (by kernel_rfl) (by kernel_rfl) (fun _ _ _ h => h) (Or.inl ⟨by rfl, ?tya25⟩) (by assumption) ?tra25
                    case tya25 => (intro w hSw; (try dsimp only at hSw); go_simp; first | done | with_reducible rfl)
                    case tra25 =>
                    try simp only [List.getElem_toArray, List.getElem_cons_succ, List.getElem_cons_zero, Act.put, List.setIfInBounds_toArray, List.set_cons_zero, List.set_cons_succ]
                    refine wpAnyH_take (i := 26) (v := ?tva26) rfl (by kernel_rfl) (by kernel_rfl) (by kernel_rfl) (fun _ _ _ h => h) (Or.inl ⟨by rfl, ?tya26⟩) (by assumption) ?tra26
                    case tya26 => (intro w hSw; (try dsimp only at hSw); go_simp; first | done | with_reducible rfl)
                    case tra26 =>
                    try simp only [List.getElem_toArray, List.getElem_cons_succ, List.getElem_cons_zero, Act.put, List.setIfInBounds_toArray, List.set_cons_zero, List.set_cons_succ]
                    refine wpAnyH_done (by kernel_rfl) ?_ _
                    refine NoPanic.normal ?_
                    go_wp2_with fail
                    go_roundw
                    case rel => exact ⟨k + 1, by go_num, by omega, BK.out.trans ((BQ.out.trans (E7.out.mono BQ.out.size)).mono hWk)⟩
                    case measure => simp [intOf]; omega
                    -- end a
                · by_cases h11 : cd = 11
                  · obtain ⟨hj1, hj2⟩ := HJM.out (.inr h11)
                    have HJ1 := hide hj1
                    have HJ2 := hide hj2
                    clear hj1 hj2 HJM zw1 zw2 DEC h10
                    subst h11
                    refine wp_region_noPanic ?_ -- b
                    refine wp_region_held_drew (S := fun w' => w'.cell? ⟨gN, 0, none⟩ = some (.int .i64 11) ∧ w'.cell? ⟨im, 0, none⟩ = some (.string S) ∧ w'.cell? ⟨im, 1, none⟩ = some (.slice SA Y.length sc) ∧ w'.cell? ⟨bP, oP + k * 8, none⟩ = some (.int .i64 o)) (by kernel_rfl) (by first | exact SKQ.out _ (Below.refl _ _).drew | (dsimp only; exact SKQ.out _ (Below.refl _ _).drew)) (fun hHeld => ?_)
                    refine wpAnyH_take (i := 0) (v := ?tvb0) rfl (by kernel_rfl) (by kernel_rfl) (by kernel_rfl) (fun _ _ _ h => h) (Or.inl ⟨by rfl, ?tyb0⟩) (by assumption) ?trb0
                    case tyb0 => (intro w hSw; (try dsimp only at hSw); go_simp; first | done | with_reducible rfl)
                    case trb0 =>
                    try simp only [List.getElem_toArray, List.getElem_cons_succ, List.getElem_cons_zero, Act.put, List.setIfInBounds_toArray, List.set_cons_zero, List.set_cons_succ]
                    refine wpAnyH_take (i := 1) (v := ?tvb1) rfl (by kernel_rfl) (by kernel_rfl) (by kernel_rfl) (fun _ _ _ h => h) (Or.inl ⟨by rfl, ?tyb1⟩) (by assumption) ?trb1
                    case tyb1 => (intro w hSw; (try dsimp only at hSw); go_simp; first | done | with_reducible rfl)
                    case trb1 =>
                    try simp only [List.getElem_toArray, List.getElem_cons_succ, List.getElem_cons_zero, Act.put, List.setIfInBounds_toArray, List.set_cons_zero, List.set_cons_succ]
                    refine wpAnyH_take (i := 2) (v := ?tvb2) rfl (by kernel_rfl) (by kernel_rfl) (by kernel_rfl) (fun _ _ _ h => h) (Or.inl ⟨by rfl, ?tyb2⟩) (by assumption) ?trb2
                    case tyb2 => (intro w hSw; (try dsimp only at hSw); go_simp; first | done | with_reducible rfl)
                    case trb2 =>
                    try simp only [List.getElem_toArray, List.getElem_cons_succ, List.getElem_cons_zero, Act.put, List.setIfInBounds_toArray, List.set_cons_zero, List.set_cons_succ]
                    refine wpAnyH_take (i := 3) (v := ?tvb3) rfl (by kernel_rfl) (by kernel_rfl) (by kernel_rfl) (fun _ _ _ h => h) (Or.inl ⟨by rfl, ?tyb3⟩) (by assumption) ?trb3
                    case tyb3 => (intro w hSw; (try dsimp only at hSw); go_simp; first | done | with_reducible rfl)
                    case trb3 =>
                    try simp only [List.getElem_toArray, List.getElem_cons_succ, List.getElem_cons_zero, Act.put, List.setIfInBounds_toArray, List.set_cons_zero, List.set_cons_succ]
                    refine wpAnyH_take (i := 4) (v := ?tvb4) rfl (by kernel_rfl) (by kernel_rfl) (by kernel_rfl) (fun _ _ _ h => h) (Or.inl ⟨by rfl, ?tyb4⟩) (by assumption) ?trb4
                    case tyb4 => (intro w hSw; (try dsimp only at hSw); go_simp; first | done | with_reducible rfl)
                    case trb4 =>
                    try simp only [List.getElem_toArray, List.getElem_cons_succ, List.getElem_cons_zero, Act.put, List.setIfInBounds_toArray, List.set_cons_zero, List.set_cons_succ]
                    refine wpAnyH_take (i := 5) (v := ?tvb5) rfl (by kernel_rfl) (by kernel_rfl) (by kernel_rfl) (fun _ _ _ h => h) (Or.inl ⟨by rfl, ?tyb5⟩) (by assumption) ?trb5
                    case tyb5 => (intro w hSw; (try dsimp only at hSw); go_simp; first | done | with_reducible rfl)
                    case trb5 =>
                    try simp only [List.getElem_toArray, List.getElem_cons_succ, List.getElem_cons_zero, Act.put, List.setIfInBounds_toArray, List.set_cons_zero, List.set_cons_succ]
                    refine wpAnyH_take (i := 6) (v := ?tvb6) rfl (by kernel_rfl) (by kernel_rfl) (by kernel_rfl) (fun _ _ _ h => h) (Or.inl ⟨by rfl, ?tyb6⟩) (by assumption) ?trb6
                    case tyb6 => (intro w hSw; (try dsimp only at hSw); go_simp; first | done | with_reducible rfl)
                    case trb6 =>
                    try simp only [List.getElem_toArray, List.getElem_cons_succ, List.getElem_cons_zero, Act.put, List.setIfInBounds_toArray, List.set_cons_zero, List.set_cons_succ]
                    refine wpAnyH_take (i := 7) (v := ?tvb7) rfl (by kernel_rfl) (by kernel_rfl) (by kernel_rfl) (fun _ _ _ h => h) (Or.inl ⟨by rfl, ?tyb7⟩) (by assumption) ?trb7
                    case tyb7 => (intro w hSw; (try dsimp only at hSw); go_simp; first | done | with_reducible rfl)
                    case trb7 =>
                    try simp only [List.getElem_toArray, List.getElem_cons_succ, List.getElem_cons_zero, Act.put, List.setIfInBounds_toArray, List.set_cons_zero, List.set_cons_succ]
                    refine wpAnyH_take (i := 8) (v := ?tvb8) rfl (by kernel_rfl) (by kernel_rfl) (by kernel_rfl) (fun _ _ _ h => h) (Or.inl ⟨by rfl, ?tyb8⟩) (by assumption) ?trb8
                    case tyb8 => (intro w hSw; (try dsimp only at hSw); go_simp; first | done | with_reducible rfl)
                    case trb8 =>
                    try simp only [List.getElem_toArray, List.getElem_cons_succ, List.getElem_cons_zero, Act.put, List.setIfInBounds_toArray, List.set_cons_zero, List.set_cons_succ]
                    refine wpAnyH_take (i := 9) (v := ?tvb9) rfl (by kernel_rfl) (by kernel_rfl) (by kernel_rfl) (fun _ _ _ h => h) (Or.inl ⟨by rfl, ?tyb9⟩) (by assumption) ?trb9
                    case tyb9 => (intro w hSw; (try dsimp only at hSw); go_simp; first | done | with_reducible rfl)
                    case trb9 =>
                    try simp only [List.getElem_toArray, List.getElem_cons_succ, List.getElem_cons_zero, Act.put, List.setIfInBounds_toArray, List.set_cons_zero, List.set_cons_succ]
                    refine wpAnyH_take (i := 10) (v := ?tvb10) rfl (by kernel_rfl) (by kernel_rfl) (by kernel_rfl) (fun _ _ _ h => h) (Or.inl ⟨by rfl, ?tyb10⟩) (by assumption) ?trb10
                    case tyb10 => (intro w hSw; (try dsimp only at hSw); go_simp; first | done | with_reducible rfl)
                    case trb10 =>
                    try simp only [List.getElem_toArray, List.getElem_cons_succ, List.getElem_cons_zero, Act.put, List.setIfInBounds_toArray, List.set_cons_zero, List.set_cons_succ]
                    refine wpAnyH_ready (rs := [11]) (by kernel_rfl) (by simp) ?_
                    refine AllReadyH.cons rfl (fun K hK => ?tcb11) AllReadyH.nil
                    case tcb11 =>
                    go_simp
                    go_at_call 21
                    refine (l_has OA P.length oc PO _ wQ.drew (by omega) HPOl.out (XOq.out.below (Below.refl wQ.heap.size wQ).drew) HJ1.out).mono ?_
                    rintro e w' ⟨rfl, hww⟩
                    subst hww
                    go_wp2_with fail
                    refine hK.out _ _ (SKQ.out _ (Below.refl _ _).drew) (fun hHeld => ?thb11)
                    case thb11 =>
                    clear hK K
                    try simp only [List.getElem_toArray, List.getElem_cons_succ, List.getElem_cons_zero, Act.put, List.setIfInBounds_toArray, List.set_cons_zero, List.set_cons_succ]
                    refine wpAnyH_take (i := 12) (v := ?tvb12) rfl (by kernel_rfl) (by kernel_rfl) (by kernel_rfl) (fun _ _ _ h => h) (Or.inl ⟨by rfl, ?tyb12⟩) (by assumption) ?trb12
                    case tyb12 => (intro w hSw; (try dsimp only at hSw); go_simp; first | done | with_reducible rfl)
                    case trb12 =>
                    try simp only [List.getElem_toArray, List.getElem_cons_succ, List.getElem_cons_zero, Act.put, List.setIfInBounds_toArray, List.set_cons_zero, List.set_cons_succ]
                    refine wpAnyH_take (i := 13) (v := ?tvb13) rfl (by kernel_rfl) (by kernel_rfl) (by kernel_rfl) (fun _ _ _ h => h) (Or.inl ⟨by rfl, ?tyb13⟩) (by assumption) ?trb13
                    case tyb13 => (intro w hSw; (try dsimp only at hSw); go_simp; first | done | with_reducible rfl)
                    case trb13 =>
                    try simp only [List.getElem_toArray, List.getElem_cons_succ, List.getElem_cons_zero, Act.put, List.setIfInBounds_toArray, List.set_cons_zero, List.set_cons_succ]
                    refine wpAnyH_take (i := 14) (v := ?tvb14) rfl (by kernel_rfl) (by kernel_rfl) (by kernel_rfl) (fun _ _ _ h => h) (Or.inl ⟨by rfl, ?tyb14⟩) (by assumption) ?trb14
                    case tyb14 => (intro w hSw; (try dsimp only at hSw); go_simp; first | done | with_reducible rfl)
                    case trb14 =>
                    try simp only [List.getElem_toArray, List.getElem_cons_succ, List.getElem_cons_zero, Act.put, List.setIfInBounds_toArray, List.set_cons_zero, List.set_cons_succ]
                    refine wpAnyH_take (i := 15) (v := ?tvb15) rfl (by kernel_rfl) (by kernel_rfl) (by kernel_rfl) (fun _ _ _ h => h) (Or.inl ⟨by rfl, ?tyb15⟩) (by assumption) ?trb15
                    case tyb15 => (intro w hSw; (try dsimp only at hSw); go_simp; first | done | with_reducible rfl)
                    case trb15 =>
                    try simp only [List.getElem_toArray, List.getElem_cons_succ, List.getElem_cons_zero, Act.put, List.setIfInBounds_toArray, List.set_cons_zero, List.set_cons_succ]
                    refine wpAnyH_take (i := 17) (v := ?tvb17) rfl (by kernel_rfl) (by kernel_rfl) (by kernel_rfl) (fun _ _ _ h => h) (Or.inl ⟨by rfl, ?tyb17⟩) (by assumption) ?trb17
                    case tyb17 => (intro w hSw; (try dsimp only at hSw); go_simp; first | done | with_reducible rfl)
                    case trb17 =>
                    try simp only [List.getElem_toArray, List.getElem_cons_succ, List.getElem_cons_zero, Act.put, List.setIfInBounds_toArray, List.set_cons_zero, List.set_cons_succ]
                    refine wpAnyH_take (i := 18) (v := ?tvb18) rfl (by kernel_rfl) (by kernel_rfl) (by kernel_rfl) (fun _ _ _ h => h) (Or.inl ⟨by rfl, ?tyb18⟩) (by assumption) ?trb18
                    case tyb18 => (intro w hSw; (try dsimp only at hSw); go_simp; first | done | with_reducible rfl)
                    case trb18 =>
                    try simp only [List.getElem_toArray, List.getElem_cons_succ, List.getElem_cons_zero, Act.put, List.setIfInBounds_toArray, List.set_cons_zero, List.set_cons_succ]
                    refine wpAnyH_take (i := 19) (v := ?tvb19) rfl (by kernel_rfl) (by kernel_rfl) (by kernel_rfl) (fun _ _ _ h => h) (Or.inl ⟨by rfl, ?tyb19⟩) (by assumption) ?trb19
                    case tyb19 => (intro w hSw; (try dsimp only at hSw); go_simp; first | done | with_reducible rfl)
                    case trb19 =>
                    try simp only [List.getElem_toArray, List.getElem_cons_succ, List.getElem_cons_zero, Act.put, List.setIfInBounds_toArray, List.set_cons_zero, List.set_cons_succ]
                    refine wpAnyH_take (i := 20) (v := ?tvb20) rfl (by kernel_rfl) (by kernel_rfl) (by kernel_rfl) (fun _ _ _ h => h) (Or.inl ⟨by rfl, ?tyb20⟩) (by assumption) ?trb20
                    case tyb20 => (intro w hSw; (try dsimp only at hSw); go_simp; first | done | with_reducible rfl)
                    case trb20 =>
                    try simp only [List.getElem_toArray, List.getElem_cons_succ, List.getElem_cons_zero, Act.put, List.setIfInBounds_toArray, List.set_cons_zero, List.set_cons_succ]
                    refine wpAnyH_take (i := 21) (v := ?tvb21) rfl (by kernel_rfl) (by kernel_rfl) (by kernel_rfl) (fun _ _ _ h => h) (Or.inl ⟨by rfl, ?tyb21⟩) (by assumption) ?trb21
                    case tyb21 => (intro w hSw; (try dsimp only at hSw); go_simp; first | done | with_reducible rfl)
                    case trb21 =>
                    try simp only [List.getElem_toArray, List.getElem_cons_succ, List.getElem_cons_zero, Act.put, List.setIfInBounds_toArray, List.set_cons_zero, List.set_cons_succ]
                    refine wpAnyH_take (i := 22) (v := ?tvb22) rfl (by kernel_rfl) (by kernel_rfl) (by kernel_rfl) (fun _ _ _ h => h) (Or.inl ⟨by rfl, ?tyb22⟩) (by assumption) ?trb22
                    case tyb22 => (intro w hSw; (try dsimp only at hSw); go_simp; first | done | with_reducible rfl)
                    case trb22 =>
                    try simp only [List.getElem_toArray, List.getElem_cons_succ, List.getElem_cons_zero, Act.put, List.setIfInBounds_toArray, List.set_cons_zero, List.set_cons_succ]
                    refine wpAnyH_ready (rs := [16]) (by kernel_rfl) (by simp) ?_
                    refine AllReadyH.cons rfl (fun K hK => ?tcb16) AllReadyH.nil
                    case tcb16 =>
                    go_simp
                    go_at_call 22
                    refine (i_symbolAt (S, Y) SA sc _ wQ.drew (by show Y.length ≤ 1048576; omega) (IMq.out.below (Below.refl wQ.heap.size wQ).drew)).mono ?_
                    rintro e w5 ⟨he, hb5⟩
                    change e = .returned (.int .i64 (symF Y (o + nn + ag))) at he
                    rw [HJ2.out] at he
                    subst he
                    have E5 : Hid (Below wQ.heap.size wQ w5) := (Below.refl wQ.heap.size wQ).drew.trans hb5
                    have IM5q := hide ((IMq.out.below (Below.refl wQ.heap.size wQ).drew).below hb5)
                    clear hb5
                    go_wp2_with fail
                    refine hK.out _ _ (SKQ.out _ E5.out) (fun hHeld => ?thb16)
                    case thb16 =>
                    clear hK K
                    try simp only [List.getElem_toArray, List.getElem_cons_succ, List.getElem_cons_zero, Act.put, List.setIfInBounds_toArray, List.set_cons_zero, List.set_cons_succ]
                    refine wpAnyH_ready (rs := [23]) (by kernel_rfl) (by simp) ?_
                    refine AllReadyH.cons rfl (fun K hK => ?tcb23) AllReadyH.nil
                    case tcb23 =>
                    go_simp
                    go_at_call 22
                    refine (i_symbolAt (S, Y) SA sc _ w5 (by show Y.length ≤ 1048576; omega) IM5q.out).mono ?_
                    rintro e w7 ⟨he, hb7⟩
                    change e = .returned (.int .i64 (symF Y o)) at he
                    subst he
                    have E7 : Hid (Below wQ.heap.size wQ w7) := E5.out.trans (hb7.mono E5.out.size)
                    clear hb7
                    go_wp2_with fail
                    refine hK.out _ _ (SKQ.out _ E7.out) (fun hHeld => ?thb23)
                    case thb23 =>
                    clear hK K
                    try simp only [List.getElem_toArray, List.getElem_cons_succ, List.getElem_cons_zero, Act.put, List.setIfInBounds_toArray, List.set_cons_zero, List.set_cons_succ]
                    refine wpAnyH_take (i := 24) (v := ?tvb24) rfl (by kernel_rfl) (by kernel_rfl) (by kernel_rfl) (fun _ _ _ h => h) (Or.inl ⟨by rfl, ?tyb24⟩) (by assumption) ?trb24
                    case tyb24 => (intro w hSw; (try dsimp only at hSw); go_simp; first | done | with_reducible rfl)
                    case trb24 =>
                    try simp only [List.getElem_toArray, List.getElem_cons_succ, List.getElem_cons_zero, Act.put, List.setIfInBounds_toArray, List.set_cons_zero, List.set_cons_succ]
                    refine wpAnyH_take (i := 25) (v := ?tvb25) rfl (by kernel_rfl) (by kernel_rfl) (by kernel_rfl) (fun _ _ _ h => h) (Or.inl ⟨by rfl, ?tyb25⟩) (by assumption) ?trb25
                    case tyb25 => (intro w hSw; (try dsimp only at hSw); go_simp; first | done | with_reducible rfl)
                    case trb25 =>
                    try simp only [List.getElem_toArray, List.getElem_cons_succ, List.getElem_cons_zero, Act.put, List.setIfInBounds_toArray, List.set_cons_zero, List.set_cons_succ]
                    refine wpAnyH_take (i := 26) (v := ?tvb26) rfl (by kernel_rfl) (by kernel_rfl) (by kernel_rfl) (fun _ _ _ h => h) (Or.inl ⟨by rfl, ?tyb26⟩) (by assumption) ?trb26
                    case tyb26 => (intro w hSw; (try dsimp only at hSw); go_simp; first | done | with_reducible rfl)
                    case trb26 =>
                    try simp only [List.getElem_toArray, List.getElem_cons_succ, List.getElem_cons_zero, Act.put, List.setIfInBounds_toArray, List.set_cons_zero, List.set_cons_succ]
                    refine wpAnyH_done (by kernel_rfl) ?_ _
                    refine NoPanic.normal ?_
                    go_wp2_with fail
                    go_roundw
                    case rel => exact ⟨k + 1, by go_num, by omega, BK.out.trans ((BQ.out.trans (E7.out.mono BQ.out.size)).mono hWk)⟩
                    case measure => simp [intOf]; omega
                    -- end b
                  · have z10 : (cd == 10) = false := by simpa using h10
                    have z11 : (cd == 11) = false := by simpa using h11
                    have g0q := (SKQ.out wQ (Below.refl _ _)).1
                    clear h10 h11
                    go_quiet (fail)
                    go_wp2_with fail
                    go_roundw
                    case rel => exact ⟨k + 1, by go_num, by omega, BK.out.trans ((below_drewN BQ.out _).mono hWk)⟩
                    case measure => simp [intOf]; omega
            · have z3 : decide ((k : Int) < (P.length : Int)) = false := decide_eq_false (by omega)
              have z3' : decide (k < P.length) = false := decide_eq_false hkl2
              have B7 := hide (B6.out.trans (BK.out.mono B6.out.size))
              have HCE : Hid ((cn0 : Int) + (Y.length : Int) = (cntF split nf (i + 1) : Nat)) := by
                show _ = _
                have h1 := HCN.out
                have h2 := HYL.out
                omega
              go_wp2_with fail
              refine (i_imageOk (S, Y) SA sc wr (by show S.size + Y.length ≤ 1048576; omega) IMk.out ISZ.out).mono ?_
              rintro e w7 ⟨rfl, hb7⟩
              rw [IOK.out]
              have B8 := hide (B7.out.trans (hb7.mono B7.out.size))
              clear hb7
              go_wp2_with fail
              go_roundw
              case rel => exact ⟨i + 1, by go_num, by omega, by rw [HCE.out], B8.out⟩
              case measure => simp [intOf]; omega
    · have z : decide ((i : Int) < 2) = false := decide_eq_false (by omega)
      have z' : decide (i < 2) = false := decide_eq_false hlt
      obtain rfl : i = 2 := by omega
      have HC2 : Hid (cntF split nf 2 = (funsF L).length) := by
        show _ = _
        rw [← HNF.out]
        have h1 := imFs_count split nf
        show 0 + (imFs split 0 nf).length + (imFs split 1 nf).length = nf
        omega
      have B3 := hide (B2.out.trans (BR.out.mono B2.out.size))
      rw [HC2.out]
      go_wp2_with fail
      refine (s_funs A1 n1 c1 L _ (by omega) RR.out).mono ?_
      rintro e w5 ⟨⟨v, rfl, hown⟩, hb5⟩
      obtain ⟨F, cf, rfl, _, haf⟩ := Arr.of_own hown
      have B5 := hide (B3.out.trans (hb5.mono B3.out.size))
      have zE : (((funsF L).length : Int) == ((funsF L).length : Int)) = true := by simp
      clear hown haf hb5
      go_wp2_with fail
      go_ret
      first | exact ⟨rfl, B5.out⟩ | exact ⟨ret_bool (by simp), B5.out⟩
end fnImages
end Go.Proofs.Ytcfjbaanahgpoaa
