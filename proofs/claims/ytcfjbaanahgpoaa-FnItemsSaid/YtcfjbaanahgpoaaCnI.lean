import Derived.Test.YtcfjbaanahgpoaaCnGH
namespace Go.Proofs.Ytcfjbaanahgpoaa
open Go Go.RowKit Go.Maps
set_option maxRecDepth 100000
set_option linter.unusedVariables false
set_option linter.unusedSimpArgs false
/-- What is known while the lines of a function are walked. -/
def LnF (nc fu en i : Nat) (L : List Ln) (n : Nat) (inl : Int) (I J : List It) : Prop :=
  nc = 0 → (∀ l : Nat, fu < l → l < i → hasExprF (lnAtD L l).1 = true → StAt J (l : Int)) ∧ (i = en + 1 → (IOk n inl I → ∀ x ∈ J, x.code = 10 ∨ x.code = 11 → 0 ≤ x.arg ∧ x.arg < (J.length : Int)) ∧ I.length + 2 ≤ J.length)
theorem endF_fin {nc n : Nat} {inl : Int} {I J K : List It} {a : Nat} (hg : Gro n inl I J a) (h : EndF nc J K) (hnc : nc = 0) : (IOk n inl I → ∀ x ∈ K, x.code = 10 ∨ x.code = 11 → 0 ≤ x.arg ∧ x.arg < (K.length : Int)) ∧ I.length + 2 ≤ K.length := by
  obtain ⟨x, y, rfl, h1, h2, h3, h4⟩ := h hnc
  have hl := hg.lo
  have hlen : ((J ++ [x]) ++ [y]).length = J.length + 2 := by simp
  refine ⟨fun hi z hz hc => ?_, by rw [hlen]; omega⟩
  rw [hlen]
  rcases List.mem_append.1 hz with hz | hz
  · rcases List.mem_append.1 hz with hz | hz
    · have := (hg.ok hi z hz).2.2.2 hc
      omega
    · obtain rfl := List.mem_singleton.1 hz
      omega
  · obtain rfl := List.mem_singleton.1 hz
    omega
theorem stAt_set {I : List It} {j : Nat} {line : Int} {nc : Nat} (hb : Bg I j line nc) (hj : j < I.length) (hnc : nc = 0) : StAt (I.set j { I[j] with start := true }) line := by
  have h := hb.2 _ (List.getElem?_eq_getElem hj)
  refine ⟨j, { I[j] with start := true }, ?_, rfl, by show I[j].n = 0; omega, h.1⟩
  rw [List.getElem?_set_self hj]
set_option maxHeartbeats 16000000 in
theorem i_lines (w0 : World) (gc nc T : Nat) (pr : Prm) (L : List Ln) (hT : 1 ≤ T) (hni : (nc : Int) ≤ pr.inl) (hpn : pr.n ≤ 60) (hR : InLines w0 pr.A pr.n L) (hp : progS L = true) (hrep : ∀ (gs : Nat) (s : Scd) (line : Int), s.nc = nc → 0 ≤ line ∧ line < (pr.n : Int) → RepC w0 gc gs pr s line L T) : LinC w0 gc pr L nc (20 * T + 6) := by
  obtain ⟨G, hG⟩ : ∃ G, 20 * T + 6 = G := ⟨_, rfl⟩
  rw [hG]
  intro w gs I ib s fu en hnc hfu hen hfn hk0 hef h hs hB hgs hI1 hIG
  have hmm := @run_makeMap Try.prog
  have HC := hide h
  have HS := hide hs
  have HR0 := hide hR
  have HLN := hide hR.len
  have HOK := hide (prog_lines hp).2
  have HNC := hide hnc
  have HREP := hide hrep
  have HGT := hide hG
  have HEF := hide hef
  have HK0 := hide hk0
  obtain ⟨en', he1, he2, he3, _, he4⟩ := prog_fnk hp fu (by rw [HLN.out]; exact hfn) hk0
  have hee : en' = en := by omega
  subst hee
  have HCL := hide he4
  have hel : en' < pr.n := by have := HLN.out; omega
  have hBs := hB.size
  have HB := hide hB
  obtain ⟨_, _, _, most, depth, Ai, ci, An, cn, ns, _, hkk, _, _, _, _⟩ := h
  have k0 := hkk.cell 0
  simp at k0
  have hgl := hkk.lt
  have hrows := HC.out.rows
  have SR0 := hide hs.sr
  have HJP := hide hs.jp
  have hgsl := hs.k.lt
  have hgsc := hs.ne
  have hgsi : gs ∉ ib := fun e => hs.ni (List.mem_append_right _ e)
  clear hkk hs hnc hB hrep hG hef hk0 he1 he4
  go_enter Try.func81, Try.ntmps81
  go_wp2_with fail
  refine (i_owners pr.A pr.n pr.c fu en' L _ (by omega) (hR.below HB.out) HEF.out hfn).mono ?_
  rintro e w1 ⟨⟨og, xs, rfl, hown, hxe⟩, hb1⟩
  have XE := hide hxe
  have C1 := hide (HC.out.kept hb1)
  have V1 := hide (Ev.of_below hb1 gc (gs :: ib))
  have SR1 : Hid (SR w1 gc (gs :: ib) s) := SR0.out.ev V1.out
  have JP1 := hide (HJP.out.ev (Ev.of_below hb1 gc ib) (Nat.le_refl _))
  have hog := (hown.at_ 0 (by omega))
  obtain ⟨_, _, _, _, hog1, hog2⟩ := hog
  have RO := hide (show RowG w1 gc (gs :: ib) (some ⟨og, 0, none⟩) pr.n (intCells xs) from ⟨InRow.of_arr hown.1, fun _ ad e1 => by cases e1; exact ⟨by show og ≠ gc; omega, fun e2 => by
    rcases List.mem_cons.1 e2 with e2 | e2
    · have : og = gs := e2
      omega
    · have := (hrows og e2).2; omega⟩⟩)
  have RX := hide hown.2
  have RL := hide hown.len
  have HB1 := hide (HB.out.trans (hb1.mono hBs))
  have hg1 : gc < w1.heap.size := C1.out.lt
  have hr1 := C1.out.rows
  have hgs1 : gs < w1.heap.size := by have := hb1.size; omega
  have HEB : Hid (∀ (w' : World) (R' : List Nat), Ev gc (gs :: ib) w1 R' w' → Below w0.heap.size w0 w') := fun w' R' hv => HB1.out.trans (hv.below C1.out.1 (fun b hb => by
    rcases List.mem_cons.1 hb with hb | hb
    · rw [hb]; exact hgs
    · exact (hr1 b hb).1) HB1.out.size)
  clear hown hb1 hR k0 hxe
  have MZ0 := hide (((MapP.made w1 (N := I.length) (by omega)).ev (gc := gc) (ib := []) (ib' := []) (w' := (w1.alloc (.map #[] 0)).alloc (.map #[] 0)) (Ev.of_below ((Below.refl _ _).alloc (Nat.le_refl _) _) _ _) (by omega) (by simp)).ev (gc := gc) (ib := []) (ib' := []) (w' := ((w1.alloc (.map #[] 0)).alloc (.map #[] 0)).alloc (.map #[] 0)) (Ev.of_below ((Below.refl _ _).alloc (Nat.le_refl _) _) _ _) (by omega) (by simp))
  have MO0 := hide ((MapP.made (w1.alloc (.map #[] 0)) (N := I.length) (by omega)).ev (gc := gc) (ib := []) (ib' := []) (w' := ((w1.alloc (.map #[] 0)).alloc (.map #[] 0)).alloc (.map #[] 0)) (Ev.of_below ((Below.refl _ _).alloc (Nat.le_refl _) _) _ _) (by simp; omega) (by simp))
  have MF0 := hide (MapP.made ((w1.alloc (.map #[] 0)).alloc (.map #[] 0)) (N := I.length + 1) (by omega))
  have BM := hide ((((Below.refl w1.heap.size w1).alloc (Nat.le_refl _) (.map #[] 0)).alloc (by simp) (.map #[] 0)).alloc (by simp; omega) (.map #[] 0))
  go_upto_region 4 with fail
  have hz2 : (w1.alloc (.map #[] 0)).heap.size = w1.heap.size + 1 := by simp
  have hz3 : ((w1.alloc (.map #[] 0)).alloc (.map #[] 0)).heap.size = w1.heap.size + 1 + 1 := by simp
  rw [hz2] at MO0
  rw [hz3] at MF0
  obtain ⟨zb, hzb⟩ : ∃ zb, zb = w1.heap.size := ⟨_, rfl⟩
  obtain ⟨ob, hob⟩ : ∃ ob, ob = w1.heap.size + 1 := ⟨_, rfl⟩
  obtain ⟨fb, hfb⟩ : ∃ fb, fb = w1.heap.size + 1 + 1 := ⟨_, rfl⟩
  have mc : MC w1 gc zb ob fb := ⟨by omega, by omega, by omega, by omega, by omega, by omega, by omega, by omega, by omega⟩
  rw [← hzb] at MZ0
  rw [← hob] at MO0
  rw [← hfb] at MF0
  generalize ((w1.alloc (.map #[] 0)).alloc (.map #[] 0)).alloc (.map #[] 0) = wA at *
  have hnw : ∀ b, w1.heap.size ≤ b → b ∉ gs :: ([] ++ ib) := fun b hb e => by
    rcases List.mem_cons.1 e with e | e
    · omega
    · have := (hr1 b (by simpa using e)).2; omega
  have LS0 : Hid (LSt w1 wA w0.heap.size gc pr gs s ib zb ob fb 0 I ib [] [] s.vj) := ⟨C1.out.kept BM.out, JP1.out.ev (Ev.of_below BM.out _ _) (Nat.le_refl _), Ev.of_below BM.out _ _, MZ0.out, MO0.out, MF0.out, hnw _ (by omega), hnw _ (by omega), hnw _ (by omega)⟩
  rw [← hfb, ← hob, ← hzb]
  have MCH := hide mc
  have HZB := hide hzb
  have m0 := LS0.out.j.k.cell 0
  simp at m0
  rw [hfu] at m0
  clear MZ0 MO0 MF0 BM hz2 hz3 hzb hob hfb mc hmm hnw JP1 HJP SR0
  go_wp2_with fail
  go_loopw [8] (fun iv wr => ∃ (i : Nat) (J : List It) (ib1 jb1 : List Nat) (Jm : List Int) (vj : Value), iv = .int .i64 i ∧ fu + 1 ≤ i ∧ i ≤ en' + 1 ∧ Gro pr.n pr.inl I J ((i - (fu + 1)) * G) ∧ LSt w1 wr w0.heap.size gc pr gs s ib zb ob fb (3 * i) J ib1 jb1 Jm vj ∧ Jm.length ≤ J.length ∧ LnF nc fu en' i L pr.n pr.inl I J) (fun iv _ => en' + 1 - (intOf iv).toNat)
  case atStart => exact ⟨fu + 1, I, ib, [], [], s.vj, by go_num, Nat.le_refl _, by omega, (Gro.refl _ _ I).mono (Nat.zero_le _), LS0.out.mono (by omega), Nat.zero_le _, fun _ => ⟨fun l h1 h2 => by omega, fun e => by omega⟩⟩
  case round =>
    obtain ⟨i, J, ib1, jb1, Jm, vj, rfl, hi1, hi2, hgr, hls, hjm, hlf⟩ := hrel
    have LS := hide hls
    have GR := hide hgr
    have HLF := hide hlf
    have hJ1 := hgr.lo
    have hJ2 := hgr.hi
    have m1 := hls.j.k.cell 1
    simp at m1
    rw [hen] at m1
    clear hls hgr LS0 m0 hlf
    by_cases hlt : i ≤ en'
    · have zl : decide ((i : Int) ≤ (en' : Int)) = true := decide_eq_true (by omega)
      have zl2 : decide (i ≤ en') = true := decide_eq_true hlt
      have hin' : i < pr.n := by omega
      have hiL : i < L.length := by rw [HLN.out]; exact hin'
      have hwB : Below w0.heap.size w0 wr := HEB.out _ _ LS.out.ev
      have R := hide (HR0.out.below hwB)
      have HWB := hide hwB
      obtain ⟨b, o, A1, c1, A2, c2, hA', _, p0', p1', p2', p3', hln⟩ := HR0.out.ln i hiL
      have p0 := (hwB.cell (block_lt_of_cell p0')).trans p0'
      have p1 := (hwB.cell (block_lt_of_cell p1')).trans p1'
      have p2 := (hwB.cell (block_lt_of_cell p2')).trans p2'
      have p3 := (hwB.cell (block_lt_of_cell p3')).trans p3'
      have HX0 := hide hln.2.1
      clear p0' p1' p2' p3' hln
      have hokx := HOK.out _ (List.getElem_mem hiL)
      have HLX := hide (lnAtD_of L i hiL)
      have HCX : Hid (∀ t ∈ L[i].2.2.2, t.1 = 7 → 0 ≤ findF L t.2.2) := fun t ht => (HCL.out i (by omega) hlt).2 t (by rw [HLX.out]; exact ht)
      have HKE : Hid (i = en' → L[i].1 = 7) := fun e => by
        have := endOf_kind L fu en' HEF.out
        rw [← e, HLX.out] at this
        exact this
      generalize L[i] = x at *
      obtain ⟨_, _, _, most2, depth2, Ai2, ci2, An2, cn2, ns2, _, hkk, _, _, _, _⟩ := LS.out.c
      have k0 := hkk.cell 0
      simp at k0
      rw [hA'] at k0
      clear hA'
      have hi0 : (0 : Int) ≤ (i : Int) := by omega
      have hinI : (i : Int) < pr.n := by omega
      clear hkk hwB hi2
      go_upto_region 8 with fail
      have KX2 := hide (Blk.new wr 34 #[.int .i64 x.1, .string x.2.1, .slice A1 x.2.2.1.length c1, .slice A2 x.2.2.2.length c2])
      have BX := hide ((Below.refl wr.heap.size wr).alloc (Nat.le_refl _) (.cells #[.int .i64 x.1, .string x.2.1, .slice A1 x.2.2.1.length c1, .slice A2 x.2.2.2.length c2] 34))
      generalize wr.alloc (.cells #[.int .i64 x.1, .string x.2.1, .slice A1 x.2.2.1.length c1, .slice A2 x.2.2.2.length c2] 34) = w2 at *
      have LS2 := hide (LS.out.below MCH.out BX.out)
      have xbg : wr.heap.size ≠ gc := by have := LS.out.c.lt; omega
      have xbi : wr.heap.size ∉ gs :: (jb1 ++ ib1) := fun e => by
        rcases List.mem_cons.1 e with e | e
        · have := LS.out.j.k.lt; omega
        · rcases List.mem_append.1 e with e | e
          · have := (LS.out.j.jlt _ e).2; omega
          · have := (LS.out.c.rows _ e).2; omega
      have xbz : zb < wr.heap.size := LS.out.z.lt
      have xbo : ob < wr.heap.size := LS.out.o.lt
      have xbf : fb < wr.heap.size := LS.out.f.lt
      have m6 := LS2.out.j.k.cell 6
      simp at m6
      obtain ⟨_, _, _, most3, depth3, Ai3, ci3, An3, cn3, ns3, _, hkk3, _, _, _, _⟩ := LS2.out.c
      have k9 := hkk3.cell 9
      have f9 := hkk3.frozen 9
      simp at k9
      generalize wr.heap.size = xb at *
      clear p0 p1 p2 p3 k0 m1 hkk3 BX
      go_upto_region 9 with fail
      have DP := hide (LS2.out.c.depth s.ba)
      have LS3 := hide (LS2.out.step MCH.out DP.out.1 DP.out.2 (Nat.le_refl _))
      have KX3 := hide (KX2.out.far (p := ⟨gc, 9, none⟩) xbg (.int .i64 s.ba))
      generalize w2.setCell ⟨gc, 9, none⟩ (.int .i64 s.ba) = w3 at *
      obtain ⟨_, _, _, most4, depth4, Ai4, ci4, An4, cn4, ns4, _, hkk4, _, _, _, _⟩ := LS3.out.c
      have k8 := hkk4.cell 8
      simp at k8
      obtain ⟨DF, hownf, hatf⟩ := LS3.out.f
      have HOF := hide hownf
      have HAF := hide hatf
      have HKEY : Hid (keyOf Try.prog 3 (.int .i64 (i : Int)) = some (Lit.int .i64 (i : Int))) := keyOf_int_mk Try.underlying3 (WalkArith.wf_i64 (by omega))
      have hJlen : J.length + G ≤ 1000000000000 := by
        have h2 := mul_one3 (a := fu) (c := i) G (by omega)
        have h3 : (i - fu) * G ≤ (en' - fu) * G := Nat.mul_le_mul_right G (by omega)
        omega
      have HGN : Hid (Gro pr.n pr.inl I J ((i - (fu + 1)) * G)) := GR.out
      have HWF : Hid ((Lit.int .i64 (J.length : Int)).wf = true) := WalkArith.wf_i64 (by omega)
      clear hkk4 hownf hatf k9 f9 m6 DP LS2 KX2
      go_wp2_with (first | (at_mapUpdate; refine wpList_mapUpdate_own _ rfl _ _ _ 121 rfl 3 3 keyInt Try.underlying121 _ fb (3 * i) DF rfl HOF.out ?mlen _ _ (.int .i64 (i : Int)) rfl rfl HKEY.out _ [] (plainElem_int Try.underlying3 HWF.out) ?_) | fail)
      case mlen => unfold maxLen; omega
      intro w4 hown4 hgrow4
      have LS4 := hide (LS3.out.putF MCH.out hgrow4 (mapp_put HAF.out HOF.out.isMap (by omega) hown4))
      have KX4 := hide (KX3.out.grown hgrow4 (by simp; omega))
      have n0 := KX4.out.cell 0
      have n3 := KX4.out.cell 3
      simp at n0 n3
      clear hown4 hgrow4 k8 HOF HAF LS3 KX3
      go_wp2_with fail
      refine (i_hasExpr _ _).mono ?_
      rintro e w' ⟨rfl, hww⟩
      subst hww
      obtain ⟨_, hz24⟩ := lineOk_szQ hokx
      have HSZX := hide (lineOk_szQ hokx).1.2.2
      obtain ⟨⟨kd, hkd, hkd8⟩, _, _, _, _, hx1, hx2⟩ := lineOk_partsQ hokx
      have HX1 := hide hx1
      have HX2 := hide hx2
      clear hx1 hx2 hokx
      rw [hkd] at n0 HX1 HX2 HKE ⊢
      have hJb : J.length ≤ 1000000000000 := by omega
      go_upto_if 56 with fail
      go_cut [10] from 56 to 70 (fun s10 wx => ∃ (J1 : List It) (ib2 : List Nat), J.length ≤ J1.length ∧ Gro pr.n pr.inl J J1 (20 * T) ∧ LSt w1 wx w0.heap.size gc pr gs s ib zb ob fb (3 * i + 1) J1 ib2 jb1 Jm vj ∧ Blk wx xb 34 #[.int .i64 (kd : Int), .string x.2.1, .slice A1 x.2.2.1.length c1, .slice A2 x.2.2.2.length c2] ∧ xb ∉ gs :: (jb1 ++ ib2) ∧ (nc = 0 → hasExprF (kd : Int) = true → StAt J1 (i : Int)))
      case first =>
        cases hhe : hasExprF (kd : Int)
        · go_wp2_with fail
          go_meet
          exact ⟨J, ib1, Nat.le_refl _, (Gro.refl _ _ J).mono (Nat.zero_le _), LS4.out, by rw [← hkd]; exact KX4.out, xbi, fun _ e => by rw [hhe] at e; cases e⟩
        · have hxo := HX1.out hhe
          have hxo' := hxo
          unfold exprOkF at hxo'
          simp only [Bool.and_eq_true, decide_eq_true_eq] at hxo'
          obtain ⟨⟨hn20, hn1⟩, hen1⟩ := hxo'
          rw [show (0 : Int) = ((0 : Nat) : Int) from rfl, exprEndF_nat] at hen1
          have hw4 : Below w0.heap.size w0 w4 := HEB.out _ _ LS4.out.ev
          have hneT : (x.2.2.2.length - 0) * T ≤ 20 * T := Nat.mul_le_mul_right T (by omega)
          have HNT := hide hneT
          have hli : 0 ≤ (i : Int) ∧ (i : Int) < (pr.n : Int) := ⟨by omega, by omega⟩
          have EX := hide (i_expr w0 gc gs T pr { s with vj := vj } (i : Int) L x.2.2.2 A2 x.2.2.2.length c2 hT hli (by show (s.nc : Int) ≤ pr.inl; rw [HNC.out]; exact hni) (by omega) HR0.out (HREP.out gs _ _ HNC.out hli) HCX.out rfl HX0.out hn20 HSZX.out x.2.2.2.length 0 w4 J ib1 J.length (by omega) (by rw [hen1]; omega) LS4.out.c (LS4.out.scj SR1.out).scp hw4 (by have := HGT.out; omega) ⟨Nat.le_refl _, fun y hy => by simp at hy⟩)
          rw [hen1, Int.toNat_natCast] at EX
          clear hxo hen1 hw4 hneT
          go_wp2_with fail
          refine (EX.out).mono ?_
          rintro e w5 ⟨rfl, K, hGK, ⟨hBK, hjl⟩, ib2, hc5, hv5⟩
          have C5 := hide hc5
          have V5 := hide hv5
          have GK := hide hGK
          have BK := hide hBK
          obtain ⟨g, hgi, hgg, cc, fc, ⟨cj, k8⟩, PT0⟩ := C5.out.item (j := J.length) (i := 3) hjl (by omega)
          obtain ⟨vv, hvv⟩ : ∃ vv, (itC K[J.length])[3]? = some vv := ⟨_, rfl⟩
          rw [hvv] at cc
          have PT := hide (PT0 (.bool true) { K[J.length] with start := true } rfl)
          have GS : Hid (Gro pr.n pr.inl K (K.set J.length { K[J.length] with start := true }) 0) := Gro.start hjl
          have ST : Hid (nc = 0 → StAt (K.set J.length { K[J.length] with start := true }) (i : Int)) := fun e => stAt_set BK.out hjl (HNC.out.trans e)
          have KX5 := hide (V5.out.big.blk KX4.out xbg xbi)
          have hji : (J.length : Int) < (K.length : Nat) := by omega
          have xb5 := hide (V5.out.big.ne KX4.out.lt xbi)
          have hgx : xb ≠ g := fun e => xb5.out (by rw [e]; exact List.mem_cons_of_mem _ (List.mem_append_right _ hgi))
          clear hc5 hv5 hGK hBK EX hvv PT0
          go_wp2_with fail
          go_meet
          exact ⟨_, _, by rw [List.length_set]; omega, (GK.out.trans GS.out).mono HNT.out, (LS4.out.step MCH.out C5.out V5.out (by omega)).step MCH.out PT.out.1 PT.out.2 (by rw [List.length_set]; omega), by rw [← hkd]; exact KX5.out.far (p := ⟨g, J.length * 7 + 3, none⟩) hgx _, xb5.out, fun e _ => ST.out e⟩
      case rest =>
        obtain ⟨J1, ib2, hl1, hg1, hs1, hkx1, hnx1, hst1⟩ := hcut
        have ST1 := hide hst1
        have LS5n := hide hnx1
        have LS5 := hide hs1
        have GR5 := hide hg1
        have KX5 := hide hkx1
        have hJ1b : J1.length + 6 ≤ 1000000000000 := by have h1 := hg1.hi; have h2 := HGT.out; omega
        have xb2 := KX5.out.lt
        have n0' := hkx1.cell 0
        have n1' := hkx1.cell 1
        simp at n0' n1'
        clear hs1 hkx1 hg1 hst1 n0 n3 LS4 KX4
        have FIN : Hid (∀ (w' : World) (J2 : List It) (ib3 jb3 : List Nat) (Jm3 : List Int) (vj3 : Value), Gro pr.n pr.inl J1 J2 3 → LSt w1 w' w0.heap.size gc pr gs s ib zb ob fb (3 * i + 2) J2 ib3 jb3 Jm3 vj3 → Jm3.length ≤ J2.length → (nc = 0 → i = en' → (IOk pr.n pr.inl J1 → ∀ y ∈ J2, y.code = 10 ∨ y.code = 11 → 0 ≤ y.arg ∧ y.arg < (J2.length : Int)) ∧ J1.length + 2 ≤ J2.length) → fu + 1 ≤ i + 1 ∧ i + 1 ≤ en' + 1 ∧ Gro pr.n pr.inl I J2 ((i + 1 - (fu + 1)) * G) ∧ LSt w1 w' w0.heap.size gc pr gs s ib zb ob fb (3 * (i + 1)) J2 ib3 jb3 Jm3 vj3 ∧ Jm3.length ≤ J2.length ∧ LnF nc fu en' (i + 1) L pr.n pr.inl I J2) := fun w' J2 ib3 jb3 Jm3 vj3 h1 h2 h3 h4 => by
          have hgg := (GR.out.trans GR5.out).trans h1
          refine ⟨by omega, by omega, hgg.mono ?_, h2.mono (by omega), h3, fun hz => ⟨fun l hl1 hl2 he => ?_, fun e => ?_⟩⟩
          · have e1 : i + 1 - (fu + 1) = (i - (fu + 1)) + 1 := by omega
            have e2 : (i - (fu + 1) + 1) * G = (i - (fu + 1)) * G + G := by rw [Nat.add_mul, Nat.one_mul]
            rw [e1, e2]
            have := HGT.out
            omega
          · by_cases hli : l = i
            · subst hli
              rw [HLX.out, hkd] at he
              exact (ST1.out hz he).gro h1
            · exact (((HLF.out hz).1 l hl1 (by omega) he).gro GR5.out).gro h1
          · obtain ⟨h5, h6⟩ := h4 hz (by omega)
            have hlo := (GR.out.trans GR5.out).lo
            exact ⟨fun hi => h5 ((GR.out.trans GR5.out).ok hi), by omega⟩
        have hwc : Below w0.heap.size w0 wc := HEB.out _ _ LS5.out.ev
        have HWC := hide hwc
        have hBc := hwc.size
        have SJ5 := hide (LS5.out.scj SR1.out)
        have SC := hide (LS5.out.scj SR1.out).scp
        have HNI : Hid (((({ s with vj := vj } : Scd)).nc : Int) ≤ pr.inl) := by show (s.nc : Int) ≤ pr.inl; rw [HNC.out]; exact hni
        have HLI : Hid (0 ≤ (i : Int) ∧ (i : Int) < (pr.n : Int)) := ⟨by omega, by omega⟩
        have hl2 := hl1
        have HGL := hide (show J1.length ≤ 1000000000000 by omega)
        have ih1 : 1 ≤ J1.length := by omega
        clear hwc
        have hkc : kd = 0 ∨ kd = 1 ∨ kd = 2 ∨ kd = 3 ∨ kd = 4 ∨ kd = 5 ∨ kd = 6 ∨ kd = 7 := by omega
        have HJ1 := hide (Nat.le_trans hjm hl2)
        have XB2 : Hid (xb ∉ ib2) := fun e => LS5n.out (List.mem_cons_of_mem _ (List.mem_append_right _ e))
        rcases hkc with rfl | rfl | rfl | rfl | rfl | rfl | rfl | rfl
        · go_wp2_with fail
          go_roundw
          case rel => exact ⟨i + 1, J1, ib2, jb1, Jm, vj, by go_num, FIN.out _ J1 ib2 jb1 Jm vj ((Gro.refl _ _ J1).mono (by omega)) (LS5.out.mono (by omega)) HJ1.out (fun _ e => absurd (HKE.out e) (by decide))⟩
          case measure => simp [intOf]; omega
        · have m2 := SC.out.1.cell 2
          simp at m2
          have XR := hide SC.out.2.2.2.2.2.1.1
          have hnl := SC.out.2.2.2.1
          have CK : Hid (CSt wc.drew w0.heap.size gc pr J1 ib2 ∧ ScP wc.drew gc ib2 gs { s with vj := vj }) := ⟨LS5.out.c.kept (Below.refl _ _).drew, SC.out.ev (Ev.of_below (Below.refl _ _).drew _ _)⟩
          go_wp2_with fail
          go_region_held3 (fun w' => w'.cell? ⟨gs, 2, none⟩ = some (.slice s.Al s.nl s.cl) ∧ w'.cell? ⟨xb, 1, none⟩ = some (.string x.2.1)) (first | exact ⟨m2, n1'⟩ | exact ⟨HM1.out, HM2.out⟩) (first
            | (go_at_call 70; refine (i_index _ _ _ s.xs _ _ (by omega) (XR.out.below (by first | with_reducible exact (Below.refl _ _).drew | with_reducible exact Below.refl _ _))).mono ?_; rintro e' w' ⟨rfl, hww⟩; subst hww)
            | (go_at_call 91; refine (i_access wc.drew _ gc gs ib2 pr J1 { s with vj := vj } _ _ true CK.out.1 CK.out.2 HGL.out hBc).mono ?_; rintro e' w5 ⟨rfl, hx⟩; have HX := hide hx; have HM1 := hide (one_slice2 CK.out.2 hx); have HM2 := hide (one_lnk KX5.out.drew xbg XB2.out hx); clear hx))
          all_goals
            obtain ⟨y, ib3, hy, hc3, hv3⟩ := HX.out
            have C6 := hide hc3
            have V6 := hide hv3
            have HY := hide hy
            clear hc3 hv3 hy
            go_wp2_with fail
            go_roundw
            case rel => exact ⟨i + 1, (J1 ++ [y]), ib3, jb1, Jm, vj, by go_num, FIN.out _ (J1 ++ [y]) ib3 jb1 Jm vj ((Gro.plain HY.out HLI.out HNI.out).mono (by omega)) (((LS5.out.below MCH.out (Below.refl _ _).drew).step MCH.out C6.out V6.out (by simp)).mono (by omega)) (by have := HJ1.out; simp; omega) (fun _ e => absurd (HKE.out e) (by decide))⟩
            case measure => simp [intOf]; omega
        · go_wp2_with fail
          refine (i_addS _ _ gc gs _ pr _ { s with vj := vj } _ _ _ _ LS5.out.c SC.out HGL.out hBc).mono ?_
          rintro e w5 ⟨rfl, y, ib3, ⟨h1, h2, h3, h4, h5⟩, hc3, hv3⟩
          have C6 := hide hc3
          have V6 := hide hv3
          have GY : Hid (Gro pr.n pr.inl J1 (J1 ++ [y]) 1) := Gro.one (by rw [h3]; exact HLI.out) (by rw [h5]; exact HNI.out) (fun e => by omega)
          clear hc3 hv3 h1 h2 h3 h4 h5
          go_wp2_with fail
          go_roundw
          case rel => exact ⟨i + 1, (J1 ++ [y]), ib3, jb1, Jm, vj, by go_num, FIN.out _ (J1 ++ [y]) ib3 jb1 Jm vj (GY.out.mono (by omega)) ((LS5.out.step MCH.out C6.out V6.out (by simp)).mono (by omega)) (by have := HJ1.out; simp; omega) (fun _ e => absurd (HKE.out e) (by decide))⟩
          case measure => simp [intOf]; omega
        · obtain ⟨DZ, hownz, hatz⟩ := LS5.out.z
          have HOZ := hide hownz
          have HAZ := hide hatz
          obtain ⟨_, _, _, most5, depth5, Ai5, ci5, An5, cn5, ns5, _, hkk5, _, _, _, _⟩ := LS5.out.c
          have k8 := hkk5.cell 8
          simp at k8
          have HWF2 : Hid ((Lit.int .i64 (J1.length : Int)).wf = true) := WalkArith.wf_i64 (by omega)
          clear hkk5 hownz hatz
          go_wp2_with (first | (at_mapUpdate; refine wpList_mapUpdate_own _ rfl _ _ _ 121 rfl 3 3 keyInt Try.underlying121 _ zb (3 * i + 1) DZ rfl HOZ.out ?mlz3 _ _ (.int .i64 (i : Int)) rfl rfl HKEY.out _ [] (plainElem_int Try.underlying3 HWF2.out) ?_) | fail)
          case mlz3 => unfold maxLen; omega
          intro w6 hown6 hgrow6
          have MZ6 := hide (mapp_put (N := J1.length + 1) (fun kl => by obtain ⟨c, q1, q2, q3⟩ := HAZ.out kl; exact ⟨c, q1, q2, by omega⟩) HOZ.out.isMap (by omega) hown6)
          have C6a := hide (LS5.out.c.grownM (gs := gs) (jb := jb1) hgrow6 MCH.out.z LS5.out.nz)
          have S6 := hide (LS5.out.scpM SR1.out hgrow6 MCH.out.mz LS5.out.nz)
          have G6 := hide hgrow6
          have hB6 : w0.heap.size ≤ w6.heap.size := Nat.le_trans hBc hgrow6.size
          clear hown6 hgrow6 k8 HOZ HAZ
          go_wp2_with fail
          refine (i_addS _ _ gc gs _ pr _ { s with vj := vj } _ _ _ _ C6a.out S6.out HGL.out hB6).mono ?_
          rintro e w5 ⟨rfl, y, ib3, ⟨h1, h2, h3, h4, h5⟩, hc3, hv3⟩
          have L6 := hide (LS5.out.putZ2 MCH.out G6.out MZ6.out hc3 hv3)
          have GY : Hid (Gro pr.n pr.inl J1 (J1 ++ [y]) 1) := Gro.one (by rw [h3]; exact HLI.out) (by rw [h5]; exact HNI.out) (fun e => by rw [h2]; omega)
          clear hc3 hv3 h1 h2 h3 h4 h5
          go_wp2_with fail
          go_roundw
          case rel => exact ⟨i + 1, (J1 ++ [y]), ib3, jb1, Jm, vj, by go_num, FIN.out _ (J1 ++ [y]) ib3 jb1 Jm vj (GY.out.mono (by omega)) (L6.out.mono (by omega)) (by have := HJ1.out; simp; omega) (fun _ e => absurd (HKE.out e) (by decide))⟩
          case measure => simp [intOf]; omega
        · obtain ⟨bo', oo', hoe, _, co⟩ := (RO.out.ev LS5.out.ev).1.int i (by rw [RL.out]; exact hin')
          cases hoe
          obtain ⟨hv0, hv1⟩ := RX.out _ (List.getElem_mem (show i < xs.length by rw [RL.out]; exact hin'))
          obtain ⟨kv, hkv⟩ := Int.eq_ofNat_of_zero_le hv0
          have HKV0 := hide hkv
          rw [hkv] at co hv1
          rw [Nat.zero_add] at co
          have hkvn : kv < pr.n := by omega
          have HKV : Hid (keyOf Try.prog 3 (.int .i64 (kv : Int)) = some (Lit.int .i64 (kv : Int))) := keyOf_int_mk Try.underlying3 (WalkArith.wf_i64 (by omega))
          obtain ⟨DO, howno, hato⟩ := LS5.out.o
          have HOO := hide howno
          have HAO := hide hato
          obtain ⟨_, _, _, most5, depth5, Ai5, ci5, An5, cn5, ns5, _, hkk5, _, _, _, _⟩ := LS5.out.c
          have k8 := hkk5.cell 8
          simp at k8
          have HWF2 : Hid ((Lit.int .i64 (J1.length : Int)).wf = true) := WalkArith.wf_i64 (by omega)
          clear hkv hv0 hkk5 howno hato
          go_upto_region 26 with fail
          go_still_tail 10, (by kernel_rfl)
          go_wp2_with (first | (at_mapUpdate; refine wpList_mapUpdate_own wc.drew rfl _ _ _ 121 rfl 3 3 keyInt Try.underlying121 _ ob (3 * i + 1) DO rfl HOO.out.drew ?mlo4 _ _ (.int .i64 (kv : Int)) rfl rfl HKV.out _ [] (plainElem_int Try.underlying3 HWF2.out) ?_) | fail)
          case mlo4 => unfold maxLen; omega
          intro w6 hown6 hgrow6'
          have hgrow6 : wc.grownBy w6 (some ob) := ⟨hgrow6'.os, hgrow6'.tape, hgrow6'.output, hgrow6'.size, hgrow6'.block⟩
          have MO6 := hide (mapp_put (N := J1.length + 1) (fun kl => by obtain ⟨c, q1, q2, q3⟩ := HAO.out kl; exact ⟨c, q1, q2, by omega⟩) HOO.out.isMap (by omega) hown6)
          have C6a := hide (LS5.out.c.grownM (gs := gs) (jb := jb1) hgrow6 MCH.out.o LS5.out.no)
          have S6 := hide (LS5.out.scpM SR1.out hgrow6 MCH.out.mo LS5.out.no)
          have G6 := hide hgrow6
          have hB6 : w0.heap.size ≤ w6.heap.size := Nat.le_trans hBc hgrow6.size
          clear hown6 hgrow6 hgrow6' k8 HOO HAO co
          go_wp2_with fail
          refine (i_addS _ _ gc gs _ pr _ { s with vj := vj } _ _ _ _ C6a.out S6.out HGL.out hB6).mono ?_
          rintro e w5 ⟨rfl, y, ib3, ⟨h1, h2, h3, h4, h5⟩, hc3, hv3⟩
          have L6 := hide (LS5.out.putO2 MCH.out G6.out MO6.out hc3 hv3)
          have GY : Hid (Gro pr.n pr.inl J1 (J1 ++ [y]) 1) := Gro.one (by rw [h3]; exact HLI.out) (by rw [h5]; exact HNI.out) (fun e => by rw [h2]; omega)
          clear hc3 hv3 h1 h2 h3 h4 h5
          have hll : (J1 ++ [y]).length = J1.length + 1 := by simp
          have HLL := hide hll
          generalize J1 ++ [y] = J2 at *
          obtain ⟨bo2, oo2, hoe2, _, co⟩ := (RO.out.ev L6.out.ev).1.int i (by rw [RL.out]; exact hin')
          cases hoe2
          rw [HKV0.out, Nat.zero_add] at co
          obtain ⟨DZ, hownz, hatz⟩ := L6.out.z
          obtain ⟨cz, hrun, hatcz, _⟩ := (hownz.drew).lookup_int keyInt Try.underlying121 Try.underlying3 (zeroInt _) HKV.out
          obtain ⟨cz', e1, e2, e3⟩ := hatz (.int .i64 (kv : Int))
          rw [hatcz] at e1
          injection e1 with e1
          injection e1 with _ e1
          subst e1
          obtain ⟨jz, rfl⟩ := Int.eq_ofNat_of_zero_le e2
          have hjl : jz < J2.length := by omega
          obtain ⟨g, hgi, hgg, cc, fc, ⟨cj, k8⟩, PT0⟩ := L6.out.c.item (j := jz) (i := 1) hjl (by omega)
          obtain ⟨vv, hvv⟩ : ∃ vv, (itC J2[jz])[1]? = some vv := ⟨_, rfl⟩
          rw [hvv] at cc
          have hjzi : (jz : Int) < (J2.length : Nat) := by omega
          have hjz0 : (0 : Int) ≤ (jz : Int) := by omega
          have PT := hide (PT0 (.int .i64 (J2.length : Nat)) { J2[jz] with arg := (J2.length : Nat) } rfl)
          have hog3 : og ≠ g := fun e => by have := ((RO.out.ev L6.out.ev).2 (by omega) _ rfl).2; exact this (by rw [e]; exact List.mem_cons_of_mem _ (List.mem_append_right _ hgi))
          obtain ⟨NL, hNL⟩ : ∃ NL, NL = J2.length := ⟨_, rfl⟩
          rw [← hNL] at k8 hjzi PT
          have GS : Hid (Gro pr.n pr.inl J2 (J2.set jz { J2[jz] with arg := (NL : Nat) }) 0) := Gro.arg hjl (Nat.le_of_eq hNL)
          have K8 : Hid (∀ u, (w5.drew.setCell ⟨g, jz * 7 + 1, none⟩ u).cell? ⟨gc, 8, none⟩ = some (.slice (some ⟨g, 0, none⟩) NL cj)) := fun u => (World.cell?_setCell_other _ _ _ _ (fun e => hgg (congrArg Addr.block e))).trans k8
          have KO : Hid (∀ u, (w5.drew.setCell ⟨g, jz * 7 + 1, none⟩ u).cell? ⟨og, i, none⟩ = some (.int .i64 (kv : Int))) := fun u => (World.cell?_setCell_other _ _ _ _ (fun e => hog3 (congrArg Addr.block e).symm)).trans co
          clear hNL hvv PT0 hatcz e2 e3 hownz hatz hll
          go_wp2_with fail
          go_cut [10] from 128 to 145 (fun s10 wx => ∃ (J3 : List It) (ib4 : List Nat), Gro pr.n pr.inl J2 J3 0 ∧ LSt w1 wx w0.heap.size gc pr gs s ib zb ob fb (3 * i + 1 + 1) J3 ib4 jb1 Jm vj)
          case first =>
            go_region_held3 (fun w' => w'.cell? ⟨og, i, none⟩ = some (.int .i64 (kv : Int)) ∧ w'.cell? ⟨gc, 8, none⟩ = some (.slice (some ⟨g, 0, none⟩) NL cj)) (first | exact ⟨co, k8⟩ | exact ⟨KO.out _, K8.out _⟩) (fail)
            all_goals
              go_wp2_with fail
            all_goals
              go_meet
              exact ⟨_, _, GS.out, L6.out.step MCH.out (PT.out.1.kept (Below.refl _ _).drew) (PT.out.2.trans (Ev.of_below (Below.refl _ _).drew _ _)) (by rw [List.length_set]; omega)⟩
          case rest =>
            obtain ⟨J3, ib4, hg3, hs3⟩ := hcut
            have L7 := hide hs3
            have G7 := hide hg3
            obtain ⟨bo3, oo3, hoe3, _, co3⟩ := (RO.out.ev L7.out.ev).1.int i (by rw [RL.out]; exact hin')
            cases hoe3
            rw [HKV0.out, Nat.zero_add] at co3
            obtain ⟨DY, howny, haty⟩ := L7.out.z
            have HOY := hide howny
            have HAY := hide haty
            have hj3 : 0 < J3.length := by have := hg3.lo; omega
            clear hs3 hg3 howny haty hrun k8 cc fc co
            go_wp2_with (first | (at_delete; refine wpList_delete_own _ rfl _ _ 121 3 rfl 3 keyInt Try.underlying121 _ zb (3 * i + 1 + 1) DY rfl HOY.out _ (.int .i64 (kv : Int)) rfl HKV.out ?_) | fail)
            intro w8 hown8 hturn8
            have L8 := hide (L7.out.delZ MCH.out hturn8.grown (mapp_del HAY.out hj3 hown8))
            clear hown8 hturn8
            go_wp2_with fail
            go_roundw
            case rel => exact ⟨i + 1, J3, ib4, jb1, Jm, vj, by go_num, FIN.out _ J3 ib4 jb1 Jm vj ((GY.out.trans G7.out).mono (by omega)) (L8.out.mono (by omega)) (by have h1 := HJ1.out; have h2 := G7.out.lo; have h3 := HLL.out; omega) (fun _ e => absurd (HKE.out e) (by decide))⟩
            case measure => simp [intOf]; omega
        · obtain ⟨DZ, hownz, hatz⟩ := LS5.out.z
          have HOZ := hide hownz
          have HAZ := hide hatz
          obtain ⟨_, _, _, most5, depth5, Ai5, ci5, An5, cn5, ns5, _, hkk5, _, _, _, _⟩ := LS5.out.c
          have k8 := hkk5.cell 8
          simp at k8
          have HWF2 : Hid ((Lit.int .i64 (J1.length : Int)).wf = true) := WalkArith.wf_i64 (by omega)
          clear hkk5 hownz hatz
          go_wp2_with (first | (at_mapUpdate; refine wpList_mapUpdate_own _ rfl _ _ _ 121 rfl 3 3 keyInt Try.underlying121 _ zb (3 * i + 1) DZ rfl HOZ.out ?mlz5 _ _ (.int .i64 (i : Int)) rfl rfl HKEY.out _ [] (plainElem_int Try.underlying3 HWF2.out) ?_) | fail)
          case mlz5 => unfold maxLen; omega
          intro w6 hown6 hgrow6
          have MZ6 := hide (mapp_put (N := J1.length + 1) (fun kl => by obtain ⟨c, q1, q2, q3⟩ := HAZ.out kl; exact ⟨c, q1, q2, by omega⟩) HOZ.out.isMap (by omega) hown6)
          have C6a := hide (LS5.out.c.grownM (gs := gs) (jb := jb1) hgrow6 MCH.out.z LS5.out.nz)
          have S6 := hide (LS5.out.scpM SR1.out hgrow6 MCH.out.mz LS5.out.nz)
          have G6 := hide hgrow6
          have hB6 : w0.heap.size ≤ w6.heap.size := Nat.le_trans hBc hgrow6.size
          clear hown6 hgrow6 k8 HOZ HAZ
          go_wp2_with fail
          refine (i_addS _ _ gc gs _ pr _ { s with vj := vj } _ _ _ _ C6a.out S6.out HGL.out hB6).mono ?_
          rintro e w5 ⟨rfl, y, ib3, ⟨h1, h2, h3, h4, h5⟩, hc3, hv3⟩
          have L6 := hide (LS5.out.putZ2 MCH.out G6.out MZ6.out hc3 hv3)
          have GY : Hid (Gro pr.n pr.inl J1 (J1 ++ [y]) 1) := Gro.one (by rw [h3]; exact HLI.out) (by rw [h5]; exact HNI.out) (fun e => by rw [h2]; omega)
          clear hc3 hv3 h1 h2 h3 h4 h5
          go_wp2_with fail
          go_roundw
          case rel => exact ⟨i + 1, (J1 ++ [y]), ib3, jb1, Jm, vj, by go_num, FIN.out _ (J1 ++ [y]) ib3 jb1 Jm vj (GY.out.mono (by omega)) (L6.out.mono (by omega)) (by have := HJ1.out; simp; omega) (fun _ e => absurd (HKE.out e) (by decide))⟩
          case measure => simp [intOf]; omega
        · by_cases hz0 : nc = 0
          · have HZ0 := hide (HNC.out.trans hz0)
            clear hz0
            go_wp2_with fail
            refine (i_leave0 _ _ gc gs _ pr _ { s with vj := vj } _ false LS5.out.c SC.out HZ0.out HGL.out hBc).mono ?_
            rintro e w5 ⟨rfl, y, ib3, hy, hc3, hv3⟩
            have C6 := hide hc3
            have V6 := hide hv3
            have HY := hide hy
            clear hc3 hv3 hy
            go_wp2_with fail
            go_roundw
            case rel => exact ⟨i + 1, (J1 ++ [y]), ib3, jb1, Jm, vj, by go_num, FIN.out _ (J1 ++ [y]) ib3 jb1 Jm vj ((Gro.plain HY.out HLI.out HNI.out).mono (by omega)) ((LS5.out.step MCH.out C6.out V6.out (by simp)).mono (by omega)) (by have := HJ1.out; simp; omega) (fun _ e => absurd (HKE.out e) (by decide))⟩
            case measure => simp [intOf]; omega
          · have HZ0 : Hid (0 < s.nc) := by show 0 < s.nc; have := HNC.out; omega
            clear hz0
            go_wp2_with fail
            refine (i_leaveJ _ _ gc gs _ _ pr _ { s with vj := vj } _ _ LS5.out.c SJ5.out HZ0.out HGL.out (Nat.le_trans HJ1.out HGL.out) hBc).mono ?_
            rintro e w5 ⟨rfl, y, ib3, jb3, vj3, ⟨h1, h2, h3, h4, h5⟩, hc3, hj3, hv3⟩
            have L6 := hide (LS5.out.stepJ MCH.out hc3 hj3.jp hv3 (by simp))
            have GY : Hid (Gro pr.n pr.inl J1 (J1 ++ [y]) 1) := Gro.one (by rw [h3]; exact HLI.out) (by rw [h5]; exact HNI.out) (fun e => by rw [h2]; omega)
            clear hc3 hj3 hv3 h1 h2 h3 h4 h5
            go_wp2_with fail
            go_roundw
            case rel => exact ⟨i + 1, (J1 ++ [y]), ib3, jb3, Jm ++ [(J1.length : Int)], vj3, by go_num, FIN.out _ (J1 ++ [y]) ib3 jb3 _ vj3 (GY.out.mono (by omega)) (L6.out.mono (by omega)) (by have := HJ1.out; simp; omega) (fun _ e => absurd (HKE.out e) (by decide))⟩
            case measure => simp [intOf]; omega
        · obtain ⟨bo', oo', hoe, _, co⟩ := (RO.out.ev LS5.out.ev).1.int i (by rw [RL.out]; exact hin')
          cases hoe
          obtain ⟨hv0, hv1⟩ := RX.out _ (List.getElem_mem (show i < xs.length by rw [RL.out]; exact hin'))
          obtain ⟨kv, hkv⟩ := Int.eq_ofNat_of_zero_le hv0
          rw [hkv] at co hv1
          rw [Nat.zero_add] at co
          have hkvn : kv < pr.n := by omega
          have HKV0 : Hid (i = en' → kv = fu) := fun e => by
            have h1 := XE.out
            rw [← e, List.getElem?_eq_getElem (show i < xs.length by rw [RL.out]; exact hin')] at h1
            injection h1 with h1
            omega
          clear hkv hv0
          go_wp2_with fail
          refine (i_end w0 _ gc gs _ pr _ { s with vj := vj } _ kv zb ob fb _ _ _ L LS5.out.c SC.out HLI.out HNI.out ⟨ih1, by omega⟩ HWC.out HR0.out (by omega) hkvn LS5.out.z LS5.out.o LS5.out.f ⟨MCH.out.z, fun e => LS5.out.nz (List.mem_cons_of_mem _ (List.mem_append_right _ e))⟩ ⟨MCH.out.o, fun e => LS5.out.no (List.mem_cons_of_mem _ (List.mem_append_right _ e))⟩).mono ?_
          rintro e w5 ⟨rfl, J2, hg2, ⟨ib3, hc3, hv3⟩, hef2⟩
          have C6 := hide hc3
          have V6 := hide hv3
          have G6 := hide hg2
          have EF : Hid (nc = 0 → i = en' → (IOk pr.n pr.inl J1 → ∀ y ∈ J2, y.code = 10 ∨ y.code = 11 → 0 ≤ y.arg ∧ y.arg < (J2.length : Int)) ∧ J1.length + 2 ≤ J2.length) := fun hz e => endF_fin (Gro.refl pr.n pr.inl J1) (hef2 (by rw [HKV0.out e]; exact HK0.out)) (HNC.out.trans hz)
          clear hc3 hv3 hg2 hef2
          go_wp2_with fail
          go_roundw
          case rel => exact ⟨i + 1, J2, ib3, jb1, Jm, vj, by go_num, FIN.out _ J2 ib3 jb1 Jm vj (G6.out.mono (by omega)) ((LS5.out.step MCH.out C6.out V6.out G6.out.lo).mono (by omega)) (Nat.le_trans HJ1.out G6.out.lo) EF.out⟩
          case measure => simp [intOf]; omega
    · have zl : decide (i ≤ en') = false := decide_eq_false hlt
      have zl2 : decide ((i : Int) ≤ (en' : Int)) = false := decide_eq_false (by omega)
      have hie : i = en' + 1 := by omega
      have GF : Hid (Gro pr.n pr.inl I J ((en' - fu) * G)) := GR.out.mono (Nat.le_of_eq (by rw [hie]; congr 1; omega))
      have HIE := hide hie
      clear hie
      have HRT : Hid (ScJ wr w0.heap.size gc ib1 gs { s with vj := vj } jb1 Jm J.length ∧ Ev gc (gs :: ib) w (gs :: (jb1 ++ ib1)) wr ∧ (nc = 0 → LinF fu en' L pr.n pr.inl I J)) := by
        refine ⟨LS.out.scj SR1.out, V1.out.trans LS.out.ev, fun hz => ?_⟩
        obtain ⟨h1, h2⟩ := HLF.out hz
        obtain ⟨h3, h4⟩ := h2 HIE.out
        exact ⟨h3, h4, fun l hl1 hl2 he => h1 l hl1 (by have := HIE.out; omega) he⟩
      go_wp2_with fail
      go_end0
      exact ⟨rfl, J, ib1, jb1, Jm, vj, GF.out, LS.out.c, HRT.out.1, HRT.out.2.1, HRT.out.2.2⟩
end Go.Proofs.Ytcfjbaanahgpoaa

