import Derived.Test.YtcfjbaanahgpoaaCoH
import Derived.Test.YtcfjbaanahgpoaaCoR
namespace Go.Proofs.Ytcfjbaanahgpoaa
open Go Go.RowKit Go.Maps
set_option maxRecDepth 100000
set_option linter.unusedVariables false
set_option linter.unusedSimpArgs false
/-- What is known while the lines of a function are walked. -/
def LnF (nc fu en i : Nat) (L : List Ln) (n : Nat) (inl : Int) (I J : List It) : Prop :=
  (i = en + 1 → I.length + 1 ≤ J.length) ∧ (nc = 0 → (∀ l : Nat, fu < l → l < i → hasExprF (lnAtD L l).1 = true → StAt J (l : Int)) ∧ (i = en + 1 → (IOk n inl I → ∀ x ∈ J, x.code = 10 ∨ x.code = 11 → 0 ≤ x.arg ∧ x.arg < (J.length : Int)) ∧ I.length + 2 ≤ J.length))
/-- The ifs whose else is still to come. -/
def KZ (L : List Ln) (fu i : Nat) (l : Nat) : Prop := fu < l ∧ l < i ∧ (lnAtD L l).1 = 3 ∧ ∃ e : Nat, elseOfF L l = e ∧ i ≤ e
theorem KZ.down {L : List Ln} {fu i l : Nat} (h : KZ L fu (i + 1) l) (hl : l ≠ i) : KZ L fu i l := by
  obtain ⟨h1, h2, h3, e, h4, h5⟩ := h
  exact ⟨h1, by omega, h3, e, h4, by omega⟩
theorem KZ.ne {L : List Ln} {fu i l : Nat} (h : KZ L fu (i + 1) l) (h3 : (lnAtD L i).1 ≠ 3) : l ≠ i := fun e => h3 (e ▸ h.2.2.1)
theorem endF_fin {nc n : Nat} {inl : Int} {J K : List It} (h : EndF nc J K) (hnc : nc = 0) : (IOk n inl J → ∀ x ∈ K, x.code = 10 ∨ x.code = 11 → 0 ≤ x.arg ∧ x.arg < (K.length : Int)) ∧ J.length + 2 ≤ K.length := by
  obtain ⟨x, y, rfl, h1, h2, h3, h4⟩ := h.2 hnc
  have hlen : ((J ++ [x]) ++ [y]).length = J.length + 2 := by simp
  refine ⟨fun hi z hz hc => ?_, by rw [hlen]; omega⟩
  rw [hlen]
  rcases List.mem_append.1 hz with hz | hz
  · rcases List.mem_append.1 hz with hz | hz
    · have := (hi z hz).2.2.2.1 hc
      omega
    · obtain rfl := List.mem_singleton.1 hz
      omega
  · obtain rfl := List.mem_singleton.1 hz
    omega
theorem stAt_set {I : List It} {j : Nat} {line : Int} {nc : Nat} (hb : Bg I j line nc) (hj : j < I.length) (hnc : nc = 0) : StAt (I.set j { I[j] with start := true }) line := by
  have h := hb.2 _ (List.getElem?_eq_getElem hj)
  refine ⟨j, { I[j] with start := true }, ?_, rfl, by show I[j].n = 0; omega, h.1⟩
  rw [List.getElem?_set_self hj]
/-- A line, by its kind. -/
def lineT (c : Cp) (sp : Sp) (i kd : Nat) (nm : ByteArray) (ow : Nat) (s : Ls) : Ls :=
  if kd = 1 then { s with g := accF c.fr sp s.g (idxF sp.xs nm) true }
  else if kd = 2 then { s with g := addF s.g 17 0 (-1) }
  else if kd = 3 ∨ kd = 5 then { s with g := addF s.g 11 0 (-1), z := setO s.z i s.g.ops.length }
  else if kd = 4 then { s with g := patchO (addF s.g 10 0 0) (s.z ow), z := delO s.z ow, o := setO s.o ow s.g.ops.length }
  else if kd = 6 then (if sp.nc = 0 then { s with g := leaF c.fr c.words sp s.g } else { s with g := addF s.g 10 0 (-1), J := s.J ++ [(s.g.ops.length : Int)] })
  else if kd = 7 then { s with g := endLn c sp ow s }
  else s
theorem lineK_T (c : Cp) (sp : Sp) (i kd : Nat) (s : Ls) (h : (lnAtD c.L i).1 = (kd : Int)) (h8 : kd < 8) : lineK c sp i s = lineT c sp i kd (lnAtD c.L i).2.1 (ownAt c.L i) s := by
  unfold lineK lineT
  rw [h]
  rcases (show kd = 0 ∨ kd = 1 ∨ kd = 2 ∨ kd = 3 ∨ kd = 4 ∨ kd = 5 ∨ kd = 6 ∨ kd = 7 by omega) with rfl | rfl | rfl | rfl | rfl | rfl | rfl | rfl <;> simp
set_option maxHeartbeats 16000000 in
theorem i_lines (Y : Nat) (w0 : World) (gc nc : Nat) (pr : Prm) (L : List Ln) (hni : (nc : Int) ≤ pr.inl) (hpn : pr.n ≤ 60) (hR : InLines w0 pr.A pr.n L) (hp : progS L = true) (hYG : Y + 60 * 26 ≤ 2800) (rep : Sp → Nat → Nat → Sg → Sg) (hrep : ∀ (T : List Nat) (gs : Nat) (s : Scd) (line : Int), s.nc = nc → s.fi ≤ 8 * (nc : Int) → 0 ≤ line ∧ line < (pr.n : Int) → RepC Y w0 gc gs { pr with tb := T } s line L 1 (rep s.sp)) : LinC Y w0 gc pr L nc 26 (fun sp g => linesF (pr.cp L) pr.ns (rep sp) sp g) := by
  obtain ⟨G, hG⟩ : ∃ G, 26 = G := ⟨_, rfl⟩
  rw [hG]
  intro w gs I ib s fu en hnc hfu hen hfn hk0 hef hgt h hs hB hgs hI1 hIG hba hfi
  obtain ⟨lsN, hLN⟩ : ∃ f : Nat → Ls, f = linesN (pr.cp L) pr.ns (rep s.sp) s.sp fu (ls0 (Vw w gc I)) := ⟨_, rfl⟩
  have HL0 : Hid (lsN 0 = ls0 (Vw w gc I)) := by rw [hLN]; rfl
  have HLS : Hid (∀ n, lsN (n + 1) = lineK (pr.cp L) s.sp (fu + 1 + n) (lineE (pr.cp L) pr.ns (rep s.sp) s.sp (fu + 1 + n) (lsN n))) := by
    intro n
    rw [hLN]
    rfl
  have HLF0 : Hid (linesF (pr.cp L) pr.ns (rep s.sp) s.sp (Vw w gc I) = ((lsN (en - fu)).g, (lsN (en - fu)).J)) := by
    show _ = _
    unfold linesF
    have e1 : s.sp.fu.toNat = fu := by show s.fu.toNat = fu; omega
    have e2 : (s.sp.en - s.sp.fu).toNat = en - fu := by show (s.en - s.fu).toNat = en - fu; omega
    rw [e1, e2, hLN]
  obtain ⟨RS, hRS⟩ : ∃ x : Sg × List Int, x = linesF (pr.cp L) pr.ns (rep s.sp) s.sp (Vw w gc I) := ⟨_, rfl⟩
  show Calls _ _ _ _ (fun e w' => e = .returned (.tuple #[]) ∧ ∃ (J : List It) (ib' jb' : List Nat) (Jm : List Int) (vj : Value), Gro pr.n pr.inl Y I J ((en - fu) * G) ∧ I.length + 1 ≤ J.length ∧ CSt w' w0.heap.size gc pr J ib' ∧ ScJ w' w0.heap.size gc ib' gs { s with vj := vj } jb' Jm (IsJ J) ∧ Ev gc (gs :: ib) w (gs :: (jb' ++ ib')) w' ∧ (nc = 0 → LinF fu en L pr.n pr.inl I J) ∧ Vw w' gc J = (linesF (pr.cp L) pr.ns (rep s.sp) s.sp (Vw w gc I)).1 ∧ Jm = (linesF (pr.cp L) pr.ns (rep s.sp) s.sp (Vw w gc I)).2)
  rw [← hRS]
  rw [← hRS] at HLF0
  clear hLN hRS
  have HBA := hide hba
  have HFI := hide hfi
  have hf6 : (funsF L).length ≤ 6 := (yes_out hp).2.2.2.1
  have HF6 := hide hf6
  have HPG := hide hp
  clear hba hfi hf6
  have hmm := @run_makeMap Try.prog
  have HC := hide h
  have HS := hide hs
  have HR0 := hide hR
  have HLN := hide hR.len
  have HOK := hide (prog_lines hp).2
  have HNC := hide hnc
  have HREP := hide hrep
  have HGT := hide hG
  have HEF := hide hef
  have HK0 := hide hk0
  obtain ⟨en', he1, he2, he3, _, he4⟩ := prog_fnk hp fu (by rw [HLN.out]; exact hfn) hk0
  have hee : en' = en := by omega
  subst hee
  have HCL := hide he4
  have hel : en' < pr.n := by have := HLN.out; omega
  have hBs := hB.size
  have HB := hide hB
  obtain ⟨_, _, _, most, depth, Ai, ci, An, cn, _, hkk, _, _, _, _⟩ := h
  have k0 := hkk.cell 0
  simp at k0
  have hgl := hkk.lt
  have hrows := HC.out.rows
  have SR0 := hide hs.sr
  have HJP := hide hs.jp
  have hgsl := hs.k.lt
  have hgsc := hs.ne
  have hgsi : gs ∉ ib := fun e => hs.ni (List.mem_append_right _ e)
  clear hkk hs hnc hB hrep hG hef hk0 he1 he4
  go_enter Try.func81, Try.ntmps81
  go_wp2_with fail
  refine (i_owners pr.A pr.n pr.c L _ (by omega) (hR.below HB.out)).mono ?_
  rintro e w1 ⟨⟨og, xs, rfl, hown, hxe, hxo⟩, hb1⟩
  have HOW : Hid (∀ (i : Nat) (h : i < xs.length), ownAt L i = xs[i].toNat) := by
    intro i h
    unfold ownAt
    rw [HLN.out, ← hxo, List.getD_eq_getElem?_getD, List.getElem?_eq_getElem h]
    rfl
  clear hxo
  have VW1 := hide (Vw_below hb1 hgl I)
  have XE := hide hxe
  have C1 := hide (HC.out.kept hb1)
  have V1 := hide (Ev.of_below hb1 gc (gs :: ib))
  have SR1 : Hid (SR w1 gc (gs :: ib) s) := SR0.out.ev V1.out
  have JP1 := hide (HJP.out.ev (Ev.of_below hb1 gc ib) (fun _ h => h))
  have hog := (hown.at_ 0 (by omega))
  obtain ⟨_, _, _, _, hog1, hog2⟩ := hog
  have RO := hide (show RowG w1 gc (gs :: ib) (some ⟨og, 0, none⟩) pr.n (intCells xs) from ⟨InRow.of_arr hown.1, fun _ ad e1 => by cases e1; exact ⟨by show og ≠ gc; omega, fun e2 => by
    rcases List.mem_cons.1 e2 with e2 | e2
    · have : og = gs := e2
      omega
    · have := (hrows og e2).2; omega⟩⟩)
  have RX := hide hown.2
  have RL := hide hown.len
  have HB1 := hide (HB.out.trans (hb1.mono hBs))
  have hg1 : gc < w1.heap.size := C1.out.lt
  have hr1 := C1.out.rows
  have hgs1 : gs < w1.heap.size := by have := hb1.size; omega
  have HEB : Hid (∀ (w' : World) (R' : List Nat), Ev gc (gs :: ib) w1 R' w' → Below w0.heap.size w0 w') := fun w' R' hv => HB1.out.trans (hv.below C1.out.1 (fun b hb => by
    rcases List.mem_cons.1 hb with hb | hb
    · rw [hb]; exact hgs
    · exact (hr1 b hb).1) HB1.out.size)
  clear hown hb1 hR k0 hxe
  have MZ0 := hide (((MapJ.made w1 (IsJ I)).ev (gc := gc) (ib := []) (ib' := []) (w' := (w1.alloc (.map #[] 0)).alloc (.map #[] 0)) (Ev.of_below ((Below.refl _ _).alloc (Nat.le_refl _) _) _ _) (by omega) (by simp)).ev (gc := gc) (ib := []) (ib' := []) (w' := ((w1.alloc (.map #[] 0)).alloc (.map #[] 0)).alloc (.map #[] 0)) (Ev.of_below ((Below.refl _ _).alloc (Nat.le_refl _) _) _ _) (by omega) (by simp))
  have MO0 := hide ((MapJ.made (w1.alloc (.map #[] 0)) (IsJ I)).ev (gc := gc) (ib := []) (ib' := []) (w' := ((w1.alloc (.map #[] 0)).alloc (.map #[] 0)).alloc (.map #[] 0)) (Ev.of_below ((Below.refl _ _).alloc (Nat.le_refl _) _) _ _) (by simp; omega) (by simp))
  have MF0 := hide (MapP.made ((w1.alloc (.map #[] 0)).alloc (.map #[] 0)) (N := I.length + 1) (by omega))
  have BM := hide ((((Below.refl w1.heap.size w1).alloc (Nat.le_refl _) (.map #[] 0)).alloc (by simp) (.map #[] 0)).alloc (by simp; omega) (.map #[] 0))
  go_upto_region 4 with fail
  have hz2 : (w1.alloc (.map #[] 0)).heap.size = w1.heap.size + 1 := by simp
  have hz3 : ((w1.alloc (.map #[] 0)).alloc (.map #[] 0)).heap.size = w1.heap.size + 1 + 1 := by simp
  rw [hz2] at MO0
  rw [hz3] at MF0
  obtain ⟨zb, hzb⟩ : ∃ zb, zb = w1.heap.size := ⟨_, rfl⟩
  obtain ⟨ob, hob⟩ : ∃ ob, ob = w1.heap.size + 1 := ⟨_, rfl⟩
  obtain ⟨fb, hfb⟩ : ∃ fb, fb = w1.heap.size + 1 + 1 := ⟨_, rfl⟩
  have mc : MC w1 gc zb ob fb := ⟨by omega, by omega, by omega, by omega, by omega, by omega, by omega, by omega, by omega⟩
  rw [← hzb] at MZ0
  rw [← hob] at MO0
  rw [← hfb] at MF0
  generalize ((w1.alloc (.map #[] 0)).alloc (.map #[] 0)).alloc (.map #[] 0) = wA at *
  have hnw : ∀ b, w1.heap.size ≤ b → b ∉ gs :: ([] ++ ib) := fun b hb e => by
    rcases List.mem_cons.1 e with e | e
    · omega
    · have := (hr1 b (by simpa using e)).2; omega
  have LS0 : Hid (LSt w1 wA w0.heap.size gc pr gs s ib zb ob fb 0 (fun _ => False) I ib [] [] s.vj (ls0 (Vw w gc I))) := ⟨C1.out.grow (C1.out.kept BM.out) [gs, zb, ob, fb] (fun b hb => by
    have hz1 := MZ0.out.lt
    have ho1 := MO0.out.lt
    have hf1 := MF0.out.lt
    have hb' : b = gs ∨ b = zb ∨ b = ob ∨ b = fb := by simpa using hb
    rcases hb' with e | e | e | e
    · exact ⟨.inl (e ▸ hgt), by omega⟩
    · exact ⟨.inr (by omega), by omega⟩
    · exact ⟨.inr (by omega), by omega⟩
    · exact ⟨.inr (by omega), by omega⟩), JP1.out.ev (Ev.of_below BM.out _ _) (fun _ h => h), Ev.of_below BM.out _ _, MZ0.out, MO0.out, MF0.out, hnw _ (by omega), hnw _ (by omega), hnw _ (by omega)⟩
  have VWA : Hid (Vw wA gc I = (ls0 (Vw w gc I)).g) := by
    show _ = _
    rw [Vw_below BM.out hg1, VW1.out]
    rfl
  rw [← hfb, ← hob, ← hzb]
  have MCH := hide mc
  have HZB := hide hzb
  have m0 := LS0.out.j.k.cell 0
  simp at m0
  rw [hfu] at m0
  clear MZ0 MO0 MF0 BM hz2 hz3 hzb hob hfb mc hmm hnw JP1 HJP SR0
  go_wp2_with fail
  go_loopw [8] (fun iv wr => ∃ (i : Nat) (J : List It) (ib1 jb1 : List Nat) (Jm : List Int) (vj : Value), iv = .int .i64 i ∧ fu + 1 ≤ i ∧ i ≤ en' + 1 ∧ Gro pr.n pr.inl Y I J ((i - (fu + 1)) * G) ∧ LSt w1 wr w0.heap.size gc pr gs s ib zb ob fb (3 * i) (KZ L fu i) J ib1 jb1 Jm vj (lsN (i - (fu + 1))) ∧ Jm.length ≤ J.length ∧ LnF nc fu en' i L pr.n pr.inl I J ∧ Vw wr gc J = (lsN (i - (fu + 1))).g ∧ Jm = (lsN (i - (fu + 1))).J) (fun iv _ => en' + 1 - (intOf iv).toNat)
  case atStart => exact ⟨fu + 1, I, ib, [], [], s.vj, by go_num, Nat.le_refl _, by omega, (Gro.refl _ _ _ I).mono (Nat.zero_le _), by rw [Nat.sub_self, HL0.out]; exact LS0.out.mono (by omega) (fun c hc => by have h1 := hc.1; have h2 := hc.2.1; omega), Nat.zero_le _, ⟨fun e => by omega, fun _ => ⟨fun l h1 h2 => by omega, fun e => by omega⟩⟩, by rw [Nat.sub_self, HL0.out]; exact VWA.out, by rw [Nat.sub_self, HL0.out]; rfl⟩
  case round =>
    obtain ⟨i, J, ib1, jb1, Jm, vj, rfl, hi1, hi2, hgr, hls, hjm, hlf, hvw, hjj⟩ := hrel
    have HLN1 : Hid (i ≤ en' → lsN (i + 1 - (fu + 1)) = lineK (pr.cp L) s.sp i (lineE (pr.cp L) pr.ns (rep s.sp) s.sp i (lsN (i - (fu + 1))))) := by
      intro _
      have h1 := HLS.out (i - (fu + 1))
      rw [show fu + 1 + (i - (fu + 1)) = i by omega, show i - (fu + 1) + 1 = i + 1 - (fu + 1) by omega] at h1
      exact h1
    have HEN : Hid (i = en' + 1 → lsN (i - (fu + 1)) = lsN (en' - fu)) := fun e => by rw [e]; congr 1; omega
    obtain ⟨E0, hE0⟩ : ∃ E0 : Ls, E0 = lsN (i - (fu + 1)) := ⟨_, rfl⟩
    rw [← hE0] at hls hvw hjj HLN1 HEN
    have HVW := hide hvw
    have HJJ := hide hjj
    clear hE0 hvw hjj
    have LS := hide hls
    have GR := hide hgr
    have HLF := hide hlf
    have hJ1 := hgr.lo
    have hJ2 := hgr.hi
    have m1 := hls.j.k.cell 1
    simp at m1
    rw [hen] at m1
    clear hls hgr LS0 m0 hlf
    by_cases hlt : i ≤ en'
    · have zl : decide ((i : Int) ≤ (en' : Int)) = true := decide_eq_true (by omega)
      have zl2 : decide (i ≤ en') = true := decide_eq_true hlt
      have hin' : i < pr.n := by omega
      have hiL : i < L.length := by rw [HLN.out]; exact hin'
      have hwB : Below w0.heap.size w0 wr := HEB.out _ _ LS.out.ev
      have R := hide (HR0.out.below hwB)
      have HWB := hide hwB
      obtain ⟨b, o, A1, c1, A2, c2, hA', _, p0', p1', p2', p3', hln⟩ := HR0.out.ln i hiL
      have p0 := (hwB.cell (block_lt_of_cell p0')).trans p0'
      have p1 := (hwB.cell (block_lt_of_cell p1')).trans p1'
      have p2 := (hwB.cell (block_lt_of_cell p2')).trans p2'
      have p3 := (hwB.cell (block_lt_of_cell p3')).trans p3'
      have HX0 := hide hln.2.1
      clear p0' p1' p2' p3' hln
      have hokx := HOK.out _ (List.getElem_mem hiL)
      have HLX := hide (lnAtD_of L i hiL)
      have HCX : Hid (∀ t ∈ L[i].2.2.2, t.1 = 7 → 0 ≤ findF L t.2.2) := fun t ht => (HCL.out i (by omega) hlt).2 t (by rw [HLX.out]; exact ht)
      have HKE : Hid (i = en' → L[i].1 = 7) := fun e => by
        have := endOf_kind L fu en' HEF.out
        rw [← e, HLX.out] at this
        exact this
      obtain ⟨E1, hE1⟩ : ∃ E1 : Ls, E1 = lineE (pr.cp L) pr.ns (rep s.sp) s.sp i E0 := ⟨_, rfl⟩
      obtain ⟨E2, hE2⟩ : ∃ E2 : Ls, E2 = lineK (pr.cp L) s.sp i E1 := ⟨_, rfl⟩
      have HEK : Hid (lsN (i + 1 - (fu + 1)) = E2) := by
        show _ = _
        rw [HLN1.out hlt, hE2, hE1]
      have HE1z : Hid (E1.z = E0.z) := by rw [hE1]; rfl
      have HE1o : Hid (E1.o = E0.o) := by rw [hE1]; rfl
      have HE1f : Hid (E1.f = setN E0.f i E0.g.ops.length) := by rw [hE1]; rfl
      have HE1J : Hid (E1.J = E0.J) := by rw [hE1]; rfl
      have HE1g : Hid (E1.g = if hasExprF L[i].1 then exprF (pr.cp L) pr.ns s.sp (rep s.sp) L[i].2.2.2 E0.g.ops.length L[i].2.2.2.length 0 { E0.g with d := s.ba } else { E0.g with d := s.ba }) := by
        show _ = _
        rw [hE1, ← lnAtD_of L i hiL]
        rfl
      have HE2 : Hid (∀ kd : Nat, L[i].1 = (kd : Int) → kd < 8 → E2 = lineT (pr.cp L) s.sp i kd L[i].2.1 (ownAt L i) E1) := by
        intro kd h1 h2
        rw [← lnAtD_of L i hiL] at h1 ⊢
        rw [hE2]
        exact lineK_T (pr.cp L) s.sp i kd E1 h1 h2
      have HEL : Hid (E0.g.ops.length = J.length) := by
        show _ = _
        rw [← HVW.out, Vw_len]
      clear hE1 hE2
      generalize L[i] = x at *
      obtain ⟨_, _, _, most2, depth2, Ai2, ci2, An2, cn2, _, hkk, _, _, _, _⟩ := LS.out.c
      have k0 := hkk.cell 0
      simp [Prm.at_] at k0
      rw [hA'] at k0
      clear hA'
      have hi0 : (0 : Int) ≤ (i : Int) := by omega
      have hinI : (i : Int) < pr.n := by omega
      clear hkk hwB hi2
      go_upto_region 8 with fail
      have KX2 := hide (Blk.new wr 34 #[.int .i64 x.1, .string x.2.1, .slice A1 x.2.2.1.length c1, .slice A2 x.2.2.2.length c2])
      have BX := hide ((Below.refl wr.heap.size wr).alloc (Nat.le_refl _) (.cells #[.int .i64 x.1, .string x.2.1, .slice A1 x.2.2.1.length c1, .slice A2 x.2.2.2.length c2] 34))
      generalize wr.alloc (.cells #[.int .i64 x.1, .string x.2.1, .slice A1 x.2.2.1.length c1, .slice A2 x.2.2.2.length c2] 34) = w2 at *
      have LS2 := hide (LS.out.below MCH.out BX.out)
      have VW2 : Hid (Vw w2 gc J = E0.g) := by
        show _ = _
        rw [Vw_below BX.out LS.out.c.lt]
        exact HVW.out
      have xbg : wr.heap.size ≠ gc := by have := LS.out.c.lt; omega
      have xbi : wr.heap.size ∉ gs :: (jb1 ++ ib1) := fun e => by
        rcases List.mem_cons.1 e with e | e
        · have := LS.out.j.k.lt; omega
        · rcases List.mem_append.1 e with e | e
          · have := (LS.out.j.jlt _ e).2; omega
          · have := (LS.out.c.rows _ e).2; omega
      have xbz : zb < wr.heap.size := LS.out.z.lt
      have xbo : ob < wr.heap.size := LS.out.o.lt
      have xbf : fb < wr.heap.size := LS.out.f.lt
      have m6 := LS2.out.j.k.cell 6
      simp at m6
      obtain ⟨_, _, _, most3, depth3, Ai3, ci3, An3, cn3, _, hkk3, _, _, _, _⟩ := LS2.out.c
      have k9 := hkk3.cell 9
      have f9 := hkk3.frozen 9
      simp at k9
      generalize wr.heap.size = xb at *
      clear p0 p1 p2 p3 k0 m1 hkk3 BX
      go_upto_region 9 with fail
      have DP := hide (LS2.out.c.depth s.ba (by have := HBA.out; omega))
      have LS3 := hide (LS2.out.step MCH.out DP.out.1 DP.out.2 (Nat.le_refl _) (fun _ h => h))
      have VW3 : Hid (Vw (w2.setCell ⟨gc, 9, none⟩ (.int .i64 s.ba)) gc J = { E0.g with d := s.ba }) := by
        show _ = _
        rw [LS2.out.c.depth_vw, VW2.out]
      have KX3 := hide (KX2.out.far (p := ⟨gc, 9, none⟩) xbg (.int .i64 s.ba))
      generalize w2.setCell ⟨gc, 9, none⟩ (.int .i64 s.ba) = w3 at *
      obtain ⟨_, _, _, most4, depth4, Ai4, ci4, An4, cn4, _, hkk4, _, _, _, _⟩ := LS3.out.c
      have k8 := hkk4.cell 8
      simp at k8
      obtain ⟨DF, hownf, hatf, hff⟩ := LS3.out.f
      have HFF := hide hff
      clear hff
      have HOF := hide hownf
      have HAF := hide hatf
      have HKEY : Hid (keyOf Try.prog 3 (.int .i64 (i : Int)) = some (Lit.int .i64 (i : Int))) := keyOf_int_mk Try.underlying3 (WalkArith.wf_i64 (by omega))
      have hJlen : J.length + G ≤ 2800 := by
        have h1 := GR.out.hi
        have h2 := mul_one3 (a := fu) (c := i) G (by omega)
        have h3 : (i - fu) * G ≤ (en' - fu) * G := Nat.mul_le_mul_right G (by omega)
        have h4 : (i - fu) * G ≤ 60 * G := Nat.mul_le_mul_right G (by omega)
        have h5 := HGT.out
        rw [← h5] at h4 h2 h3 h1 hIG ⊢
        omega
      have HWF : Hid ((Lit.int .i64 (J.length : Int)).wf = true) := WalkArith.wf_i64 (by omega)
      clear hkk4 hownf hatf k9 f9 m6 DP LS2 KX2
      go_wp2_with (first | (at_mapUpdate; refine wpList_mapUpdate_own _ rfl _ _ _ 121 rfl 3 3 keyInt Try.underlying121 _ fb (3 * i) DF rfl HOF.out ?mlen _ _ (.int .i64 (i : Int)) rfl rfl HKEY.out _ [] (plainElem_int Try.underlying3 HWF.out) ?_) | fail)
      case mlen => unfold maxLen; omega
      intro w4 hown4 hgrow4
      have LS4 : Hid (LSt w1 w4 w0.heap.size gc pr gs s ib zb ob fb (3 * i + 1) (KZ L fu i) J ib1 jb1 Jm vj E1) := LS3.out.putF MCH.out hgrow4 (by rw [HE1f.out, HEL.out]; exact mapp_put HAF.out HFF.out HOF.out.isMap (by omega) hown4) HE1z.out HE1o.out
      have VW4 : Hid (Vw w4 gc J = { E0.g with d := s.ba }) := by
        show _ = _
        rw [Vw_same (hgrow4.block gc LS3.out.c.lt (by simpa using fun e => MCH.out.f e.symm)), VW3.out]
      have KX4 := hide (KX3.out.grown hgrow4 (by simp; omega))
      have n0 := KX4.out.cell 0
      have n3 := KX4.out.cell 3
      simp at n0 n3
      clear hown4 hgrow4 k8 HOF HAF LS3 KX3
      go_wp2_with fail
      refine (i_hasExpr _ _).mono ?_
      rintro e w' ⟨rfl, hww⟩
      subst hww
      obtain ⟨_, hz24⟩ := lineOk_szQ hokx
      have HSZX := hide (lineOk_szQ hokx).1.2.2
      obtain ⟨⟨kd, hkd, hkd8⟩, _, _, _, _, hx1, hx2⟩ := lineOk_partsQ hokx
      have HX1 := hide hx1
      have HX2 := hide hx2
      clear hx1 hx2 hokx
      have HE2k := hide (HE2.out kd hkd (by omega))
      rw [hkd] at n0 HX1 HX2 HKE HE1g ⊢
      clear HE2
      have hJb : J.length ≤ 2800 := by omega
      have hGa : G ≤ 26 := Nat.le_of_eq HGT.out.symm
      have hGb : 26 ≤ G := Nat.le_of_eq HGT.out
      go_upto_if 56 with fail
      go_cut [10] from 56 to 70 (fun s10 wx => ∃ (J1 : List It) (ib2 : List Nat), J.length ≤ J1.length ∧ Gro pr.n pr.inl Y J J1 (20 * 1) ∧ (LSt w1 wx w0.heap.size gc pr gs s ib zb ob fb (3 * i + 1) (KZ L fu i) J1 ib2 jb1 Jm vj E1 ∧ Vw wx gc J1 = E1.g) ∧ Blk wx xb 34 #[.int .i64 (kd : Int), .string x.2.1, .slice A1 x.2.2.1.length c1, .slice A2 x.2.2.2.length c2] ∧ xb ∉ gs :: (jb1 ++ ib2) ∧ (nc = 0 → hasExprF (kd : Int) = true → StAt J1 (i : Int)))
      case first =>
        cases hhe : hasExprF (kd : Int)
        · have HEG : Hid (E1.g = { E0.g with d := s.ba }) := by
            have h1 := HE1g.out
            rw [hhe, if_neg (by decide)] at h1
            exact h1
          go_wp2_with fail
          go_meet
          exact ⟨J, ib1, Nat.le_refl _, (Gro.refl _ _ _ J).mono (Nat.zero_le _), ⟨LS4.out, VW4.out.trans HEG.out.symm⟩, by rw [← hkd]; exact KX4.out, xbi, fun _ e => by rw [hhe] at e; cases e⟩
        · have HEG : Hid (E1.g = exprF (pr.cp L) pr.ns s.sp (rep s.sp) x.2.2.2 J.length x.2.2.2.length 0 (Vw w4 gc J)) := by
            have h1 := HE1g.out
            rw [hhe, if_pos rfl, HEL.out, ← VW4.out] at h1
            exact h1
          have hxo := HX1.out hhe
          have hxo' := hxo
          unfold exprOkF at hxo'
          simp only [Bool.and_eq_true, decide_eq_true_eq] at hxo'
          obtain ⟨⟨hn20, hn1⟩, hen1⟩ := hxo'
          rw [show (0 : Int) = ((0 : Nat) : Int) from rfl, exprEndF_nat] at hen1
          have hw4 : Below w0.heap.size w0 w4 := HEB.out _ _ LS4.out.ev
          have hneT : (x.2.2.2.length - 0) * 1 ≤ 20 * 1 := Nat.mul_le_mul_right 1 (by omega)
          have HNT := hide hneT
          have hli : 0 ≤ (i : Int) ∧ (i : Int) < (pr.n : Int) := ⟨by omega, by omega⟩
          have EX := hide (i_expr Y w0 gc gs 1 (pr.at_ gs jb1 zb ob fb) { s with vj := vj } (i : Int) L x.2.2.2 A2 x.2.2.2.length c2 (Nat.le_refl _) hli (by show (s.nc : Int) ≤ pr.inl; rw [HNC.out]; exact hni) (show pr.n ≤ 1000 by omega) HR0.out (by omega) HF6.out (rep s.sp) (HREP.out _ gs { s with vj := vj } _ HNC.out HFI.out hli) HCX.out rfl HX0.out hn20 HSZX.out x.2.2.2.length 0 w4 J ib1 J.length (by omega) (by rw [hen1]; omega) LS4.out.c (LS4.out.scj SR1.out).scp hw4 (by omega) ⟨Nat.le_refl _, fun y hy => by simp at hy⟩)
          rw [hen1, Int.toNat_natCast] at EX
          clear hxo hen1 hw4 hneT
          go_wp2_with fail
          refine (EX.out).mono ?_
          rintro e w5 ⟨rfl, K, hGK, ⟨hBK, hjl⟩, ⟨ib2, hc5, hv5⟩, hw5⟩
          have VW5 : Hid (Vw w5 gc K = E1.g) := hw5.trans HEG.out.symm
          clear hw5
          have C5 := hide hc5
          have V5 := hide hv5
          have GK := hide hGK
          have BK := hide hBK
          obtain ⟨g, hgi, hgg, cc, fc, ⟨cj, k8⟩, PT0⟩ := C5.out.item (j := J.length) (i := 3) hjl (by omega)
          obtain ⟨vv, hvv⟩ : ∃ vv, (itC K[J.length])[3]? = some vv := ⟨_, rfl⟩
          rw [hvv] at cc
          have PT := hide (PT0 (.bool true) { K[J.length] with start := true } rfl ⟨rfl, rfl⟩)
          have PV : Hid (Vw (w5.setCell ⟨g, J.length * 7 + 3, none⟩ (.bool true)) gc (K.set J.length { K[J.length] with start := true }) = E1.g) := (Vw_start (x := { K[J.length] with start := true }) hgg hjl rfl rfl).trans VW5.out
          have GS : Hid (Gro pr.n pr.inl Y K (K.set J.length { K[J.length] with start := true }) 0) := Gro.start hjl
          have ST : Hid (nc = 0 → StAt (K.set J.length { K[J.length] with start := true }) (i : Int)) := fun e => stAt_set BK.out hjl (HNC.out.trans e)
          have KX5 := hide (V5.out.big.blk KX4.out xbg xbi)
          have hji : (J.length : Int) < (K.length : Nat) := by omega
          have xb5 := hide (V5.out.big.ne KX4.out.lt xbi)
          have hgx : xb ≠ g := fun e => xb5.out (by rw [e]; exact List.mem_cons_of_mem _ (List.mem_append_right _ hgi))
          clear hc5 hv5 hGK hBK EX hvv PT0
          go_wp2_with fail
          go_meet
          exact ⟨_, _, by rw [List.length_set]; omega, (GK.out.trans GS.out).mono HNT.out, ⟨(LS4.out.step MCH.out C5.out V5.out (by omega) (fun _ h => h.gro GK.out)).step MCH.out PT.out.1 PT.out.2 (by rw [List.length_set]; omega) (fun _ h => h.gro GS.out), PV.out⟩, by rw [← hkd]; exact KX5.out.far (p := ⟨g, J.length * 7 + 3, none⟩) hgx _, xb5.out, fun e _ => ST.out e⟩
      case rest =>
        obtain ⟨J1, ib2, hl1, hg1, ⟨hs1, hw1⟩, hkx1, hnx1, hst1⟩ := hcut
        have VWC := hide hw1
        have HJL1 : Hid (E1.g.ops.length = J1.length) := by
          show _ = _
          rw [← VWC.out, Vw_len]
        have HJ1J : Hid (Jm = E1.J) := HJJ.out.trans HE1J.out.symm
        clear hw1
        have ST1 := hide hst1
        have LS5n := hide hnx1
        have LS5 := hide hs1
        have GR5 := hide hg1
        have KX5 := hide hkx1
        have hJ1b : J1.length + 6 ≤ 2800 := by have h1 := hg1.hi; omega
        have xb2 := KX5.out.lt
        have n0' := hkx1.cell 0
        have n1' := hkx1.cell 1
        simp at n0' n1'
        clear hs1 hkx1 hg1 hst1 n0 n3 LS4 KX4
        have FIN : Hid (∀ (w' : World) (J2 : List It) (ib3 jb3 : List Nat) (Jm3 : List Int) (vj3 : Value), Gro pr.n pr.inl Y J1 J2 3 → LSt w1 w' w0.heap.size gc pr gs s ib zb ob fb (3 * i + 2) (KZ L fu (i + 1)) J2 ib3 jb3 Jm3 vj3 E2 → Jm3.length ≤ J2.length → (i = en' → J1.length + 1 ≤ J2.length ∧ (nc = 0 → (IOk pr.n pr.inl J1 → ∀ y ∈ J2, y.code = 10 ∨ y.code = 11 → 0 ≤ y.arg ∧ y.arg < (J2.length : Int)) ∧ J1.length + 2 ≤ J2.length)) → Vw w' gc J2 = E2.g → Jm3 = E2.J → fu + 1 ≤ i + 1 ∧ i + 1 ≤ en' + 1 ∧ Gro pr.n pr.inl Y I J2 ((i + 1 - (fu + 1)) * G) ∧ LSt w1 w' w0.heap.size gc pr gs s ib zb ob fb (3 * (i + 1)) (KZ L fu (i + 1)) J2 ib3 jb3 Jm3 vj3 (lsN (i + 1 - (fu + 1))) ∧ Jm3.length ≤ J2.length ∧ LnF nc fu en' (i + 1) L pr.n pr.inl I J2 ∧ Vw w' gc J2 = (lsN (i + 1 - (fu + 1))).g ∧ Jm3 = (lsN (i + 1 - (fu + 1))).J) := fun w' J2 ib3 jb3 Jm3 vj3 h1 h2 h3 h4 h7 h8 => by
          rw [HEK.out]
          have hgg := (GR.out.trans GR5.out).trans h1
          have hlo := (GR.out.trans GR5.out).lo
          refine ⟨by omega, by omega, hgg.mono ?_, h2.mono (by omega) (fun _ h => h), h3, ⟨fun e => ?_, fun hz => ⟨fun l hl1 hl2 he => ?_, fun e => ?_⟩⟩, h7, h8⟩
          · have e1 : i + 1 - (fu + 1) = (i - (fu + 1)) + 1 := by omega
            have e2 : (i - (fu + 1) + 1) * G = (i - (fu + 1)) * G + G := by rw [Nat.add_mul, Nat.one_mul]
            rw [e1, e2]
            omega
          · have := (h4 (by omega)).1; omega
          · by_cases hli : l = i
            · subst hli
              rw [HLX.out, hkd] at he
              exact (ST1.out hz he).gro h1
            · exact (((HLF.out.2 hz).1 l hl1 (by omega) he).gro GR5.out).gro h1
          · obtain ⟨h5, h6⟩ := (h4 (by omega)).2 hz
            exact ⟨fun hi => h5 ((GR.out.trans GR5.out).ok hi), by omega⟩
        have HKS : Hid ((kd : Int) ≠ 3 → ∀ c, KZ L fu (i + 1) c → KZ L fu i c) := fun h3 c hc => hc.down (hc.ne (by rw [HLX.out, hkd]; exact h3))
        have HKI : Hid (∀ c, KZ L fu (i + 1) c → KZ L fu i c ∨ c = i) := fun c hc => by
          by_cases hci : c = i
          · exact .inr hci
          · exact .inl (hc.down hci)
        have hwc : Below w0.heap.size w0 wc := HEB.out _ _ LS5.out.ev
        have HWC := hide hwc
        have hBc := hwc.size
        have SJ5 := hide (LS5.out.scj SR1.out)
        have SC := hide (LS5.out.scj SR1.out).scp
        have HNI : Hid (((({ s with vj := vj } : Scd)).nc : Int) ≤ pr.inl) := by show (s.nc : Int) ≤ pr.inl; rw [HNC.out]; exact hni
        have HLI : Hid (0 ≤ (i : Int) ∧ (i : Int) < (pr.n : Int)) := ⟨by omega, by omega⟩
        have hl2 := hl1
        have HGL := hide (show J1.length ≤ 1000000000000 by omega)
        have HGL3 := hide (show J1.length ≤ 3000 by omega)
        have ih1 : 1 ≤ J1.length := by omega
        clear hwc
        have hkc : kd = 0 ∨ kd = 1 ∨ kd = 2 ∨ kd = 3 ∨ kd = 4 ∨ kd = 5 ∨ kd = 6 ∨ kd = 7 := by omega
        have HJ1 := hide (Nat.le_trans hjm hl2)
        have XB2 : Hid (xb ∉ ib2) := fun e => LS5n.out (List.mem_cons_of_mem _ (List.mem_append_right _ e))
        rcases hkc with rfl | rfl | rfl | rfl | rfl | rfl | rfl | rfl
        · have HEE : Hid (E2 = E1) := HE2k.out.trans (by simp [lineT])
          have HEW : Hid (Vw wc gc J1 = E2.g) := by rw [HEE.out]; exact VWC.out
          have HEJ : Hid (Jm = E2.J) := by rw [HEE.out]; exact HJ1J.out
          go_wp2_with fail
          go_roundw
          case rel => exact ⟨i + 1, J1, ib2, jb1, Jm, vj, by go_num, FIN.out _ J1 ib2 jb1 Jm vj ((Gro.refl _ _ _ J1).mono (by omega)) (by rw [HEE.out]; exact LS5.out.mono (by omega) (HKS.out (by decide))) HJ1.out (fun e => absurd (HKE.out e) (by decide)) HEW.out HEJ.out⟩
          case measure => simp [intOf]; omega
        · have m2 := SC.out.1.cell 2
          simp at m2
          have XR := hide SC.out.2.2.2.2.2.1.1
          have hnl := SC.out.2.2.2.1.1
          have HIX : Hid (-1 ≤ idxF s.xs x.2.1 ∧ idxF s.xs x.2.1 ≤ 8) := by
            have h1 := idxF_le s.xs x.2.1
            have h2 := XR.out.1
            have h3 : (strCells s.xs).length = s.xs.length := by simp [strCells]
            have h4 : ({ s with vj := vj } : Scd).nl = s.nl := rfl
            have h5 : (strCells ({ s with vj := vj } : Scd).xs).length = (strCells s.xs).length := rfl
            exact ⟨h1.1, by omega⟩
          have CK : Hid (CSt wc.drew w0.heap.size gc (pr.at_ gs jb1 zb ob fb) J1 ib2 ∧ ScP wc.drew gc ib2 gs { s with vj := vj }) := ⟨LS5.out.c.kept (Below.refl _ _).drew, SC.out.ev (Ev.of_below (Below.refl _ _).drew _ _)⟩
          go_wp2_with fail
          go_region_held3 (fun w' => w'.cell? ⟨gs, 2, none⟩ = some (.slice s.Al s.nl s.cl) ∧ w'.cell? ⟨xb, 1, none⟩ = some (.string x.2.1)) (first | exact ⟨m2, n1'⟩ | exact ⟨HM1.out, HM2.out⟩) (first
            | (go_at_call 70; refine (i_index _ _ _ s.xs _ _ (by omega) (XR.out.below (by first | with_reducible exact (Below.refl _ _).drew | with_reducible exact Below.refl _ _))).mono ?_; rintro e' w' ⟨rfl, hww⟩; subst hww)
            | (go_at_call 91; refine (i_access wc.drew _ gc gs ib2 _ J1 { s with vj := vj } _ _ true CK.out.1 CK.out.2 HGL3.out HIX.out hBc).mono ?_; rintro e' w5 ⟨rfl, hx⟩; have HX := hide hx; have HM1 := hide (one_slice2 CK.out.2 hx); have HM2 := hide (one_lnk KX5.out.drew xbg XB2.out hx); clear hx))
          all_goals
            obtain ⟨y, ib3, hy, hc3, hv3, hw3⟩ := HX.out
            have HEE : Hid (E2 = { E1 with g := accF pr.framed s.sp E1.g (idxF s.xs x.2.1) true }) := HE2k.out.trans (by simp [lineT, Prm.cp, Scd.sp])
            have HEW : Hid (Vw w5 gc (J1 ++ [y]) = E2.g) := by
              show _ = _
              rw [hw3, HEE.out, ← VWC.out, Vw_below (w := wc) (w' := wc.drew) (Below.refl _ _).drew LS5.out.c.lt]
              rfl
            have HEJ : Hid (Jm = E2.J) := by rw [HEE.out]; exact HJ1J.out
            clear hw3
            have C6 := hide hc3
            have V6 := hide hv3
            have HY := hide hy
            clear hc3 hv3 hy
            go_wp2_with fail
            go_roundw
            case rel => exact ⟨i + 1, (J1 ++ [y]), ib3, jb1, Jm, vj, by go_num, FIN.out _ (J1 ++ [y]) ib3 jb1 Jm vj ((Gro.plain HY.out HLI.out HNI.out).mono (by omega)) ((((LS5.out.below MCH.out (Below.refl _ _).drew).step MCH.out C6.out V6.out (by simp) (fun _ h => h.app)).mono (by omega) (HKS.out (by decide))).as (by rw [HEE.out]) (by rw [HEE.out]) (by rw [HEE.out])) (by have := HJ1.out; simp; omega) (fun e => absurd (HKE.out e) (by decide)) HEW.out HEJ.out⟩
            case measure => simp [intOf]; omega
        · go_wp2_with fail
          refine (i_addS _ _ gc gs _ _ _ { s with vj := vj } _ _ _ _ LS5.out.c SC.out HGL.out hBc (by omega)).mono ?_
          rintro e w5 ⟨rfl, y, ib3, ⟨h1, h2, h3, h4, h5⟩, hc3, hv3, hw3⟩
          have HEE : Hid (E2 = { E1 with g := addF E1.g 17 0 (-1) }) := HE2k.out.trans (by simp [lineT])
          have HEW : Hid (Vw w5 gc (J1 ++ [y]) = E2.g) := by
            show _ = _
            rw [hw3, HEE.out, ← VWC.out]
          have HEJ : Hid (Jm = E2.J) := by rw [HEE.out]; exact HJ1J.out
          clear hw3
          have C6 := hide hc3
          have V6 := hide hv3
          have GY : Hid (Gro pr.n pr.inl Y J1 (J1 ++ [y]) 1) := Gro.one (by rw [h3]; exact HLI.out) (by rw [h5]; exact HNI.out) (fun e => by omega) (by rw [h1, h2]; unfold ArgOk; omega)
          clear hc3 hv3 h1 h2 h3 h4 h5
          go_wp2_with fail
          go_roundw
          case rel => exact ⟨i + 1, (J1 ++ [y]), ib3, jb1, Jm, vj, by go_num, FIN.out _ (J1 ++ [y]) ib3 jb1 Jm vj (GY.out.mono (by omega)) (((LS5.out.step MCH.out C6.out V6.out (by simp) (fun _ h => h.app)).mono (by omega) (HKS.out (by decide))).as (by rw [HEE.out]) (by rw [HEE.out]) (by rw [HEE.out])) (by have := HJ1.out; simp; omega) (fun e => absurd (HKE.out e) (by decide)) HEW.out HEJ.out⟩
          case measure => simp [intOf]; omega
        · obtain ⟨DZ, hownz, hatz, hkz⟩ := LS5.out.z
          have HKZ := hide hkz
          have HOZ := hide hownz
          have HAZ := hide hatz
          obtain ⟨_, _, _, most5, depth5, Ai5, ci5, An5, cn5, _, hkk5, _, _, _, _⟩ := LS5.out.c
          have k8 := hkk5.cell 8
          simp at k8
          have HWF2 : Hid ((Lit.int .i64 (J1.length : Int)).wf = true) := WalkArith.wf_i64 (by omega)
          clear hkk5 hownz hatz
          go_wp2_with (first | (at_mapUpdate; refine wpList_mapUpdate_own _ rfl _ _ _ 121 rfl 3 3 keyInt Try.underlying121 _ zb (3 * i + 1) DZ rfl HOZ.out ?mlz3 _ _ (.int .i64 (i : Int)) rfl rfl HKEY.out _ [] (plainElem_int Try.underlying3 HWF2.out) ?_) | fail)
          case mlz3 => unfold maxLen; omega
          intro w6 hown6 hgrow6
          have MZ6 := hide (mapj_put (P' := fun c => IsJ J1 c ∨ c = J1.length) HAZ.out HKZ.out HOZ.out.isMap (fun _ h => .inl h) (.inr rfl) hown6)
          have C6a := hide (LS5.out.c.grownM (gs := gs) (jb := jb1) hgrow6 MCH.out.z LS5.out.nz (by simp [Prm.at_]))
          have S6 := hide (LS5.out.scpM SR1.out hgrow6 MCH.out.mz LS5.out.nz)
          have G6 := hide hgrow6
          have VG6 : Hid (Vw w6 gc J1 = Vw wc gc J1) := Vw_same (hgrow6.block gc LS5.out.c.lt (by simpa using fun e => MCH.out.z e.symm)) J1
          have hB6 : w0.heap.size ≤ w6.heap.size := Nat.le_trans hBc hgrow6.size
          clear hown6 hgrow6 k8 HOZ HAZ
          go_wp2_with fail
          refine (i_addS _ _ gc gs _ _ _ { s with vj := vj } _ _ _ _ C6a.out S6.out HGL.out hB6 (by omega)).mono ?_
          rintro e w5 ⟨rfl, y, ib3, ⟨h1, h2, h3, h4, h5⟩, hc3, hv3, hw3⟩
          have HEE : Hid (E2 = { E1 with g := addF E1.g 11 0 (-1), z := setO E1.z i J1.length }) := HE2k.out.trans (by rw [← HJL1.out]; simp [lineT])
          have HEW : Hid (Vw w5 gc (J1 ++ [y]) = E2.g) := by
            show _ = _
            rw [hw3, HEE.out, ← VWC.out, VG6.out]
          have HEJ : Hid (Jm = E2.J) := by rw [HEE.out]; exact HJ1J.out
          clear hw3
          have L6 : Hid (LSt w1 w5 w0.heap.size gc pr gs s ib zb ob fb (3 * i + 1 + 1) (fun j => KZ L fu i j ∨ j = i) (J1 ++ [y]) ib3 jb1 Jm vj E2) := LS5.out.putZ2 MCH.out (.inr h1) G6.out (by rw [HEE.out]; exact MZ6.out) (by rw [HEE.out]) (by rw [HEE.out]) hc3 hv3
          have GY : Hid (Gro pr.n pr.inl Y J1 (J1 ++ [y]) 1) := Gro.one (by rw [h3]; exact HLI.out) (by rw [h5]; exact HNI.out) (fun e => by rw [h2]; omega) (by rw [h1, h2]; unfold ArgOk; omega)
          clear hc3 hv3 h1 h2 h3 h4 h5
          go_wp2_with fail
          go_roundw
          case rel => exact ⟨i + 1, (J1 ++ [y]), ib3, jb1, Jm, vj, by go_num, FIN.out _ (J1 ++ [y]) ib3 jb1 Jm vj (GY.out.mono (by omega)) (L6.out.mono (by omega) (fun c hc => HKI.out c hc)) (by have := HJ1.out; simp; omega) (fun e => absurd (HKE.out e) (by decide)) HEW.out HEJ.out⟩
          case measure => simp [intOf]; omega
        · obtain ⟨bo', oo', hoe, _, co⟩ := (RO.out.ev LS5.out.ev).1.int i (by rw [RL.out]; exact hin')
          cases hoe
          obtain ⟨hv0, hv1⟩ := RX.out _ (List.getElem_mem (show i < xs.length by rw [RL.out]; exact hin'))
          obtain ⟨kv, hkv⟩ := Int.eq_ofNat_of_zero_le hv0
          have HKV0 := hide hkv
          rw [hkv] at co hv1
          rw [Nat.zero_add] at co
          have hkvn : kv < pr.n := by omega
          have HKK : Hid (KZ L fu i kv ∧ elseOfF L kv = i) := by
            obtain ⟨j, hj1, hj2, hj3⟩ := prog_else HPG.out (by rw [HLN.out]; exact hfn) HK0.out HEF.out (show fu < i by omega) hlt (by rw [HLX.out, hkd]; rfl)
            have h1 := (XE.out j (by omega)).2 i hj3
            rw [List.getElem?_eq_getElem (show i < xs.length by rw [RL.out]; exact hin')] at h1
            injection h1 with h1
            have hjk : j = kv := by have := HKV0.out; omega
            subst hjk
            rcases elseOf_in L j with g | ⟨_, _, _, _, g5⟩
            · omega
            · rw [Int.toNat_natCast] at g5
              exact ⟨⟨hj1, hj2, g5, i, hj3, Nat.le_refl _⟩, hj3⟩
          have HKV : Hid (keyOf Try.prog 3 (.int .i64 (kv : Int)) = some (Lit.int .i64 (kv : Int))) := keyOf_int_mk Try.underlying3 (WalkArith.wf_i64 (by omega))
          obtain ⟨DO, howno, hato, hko⟩ := LS5.out.o
          have HKO := hide hko
          have HOO := hide howno
          have HAO := hide hato
          obtain ⟨_, _, _, most5, depth5, Ai5, ci5, An5, cn5, _, hkk5, _, _, _, _⟩ := LS5.out.c
          have k8 := hkk5.cell 8
          simp at k8
          have HWF2 : Hid ((Lit.int .i64 (J1.length : Int)).wf = true) := WalkArith.wf_i64 (by omega)
          clear hkv hv0 hkk5 howno hato
          go_upto_region 26 with fail
          go_still_tail 10, (by kernel_rfl)
          go_wp2_with (first | (at_mapUpdate; refine wpList_mapUpdate_own wc.drew rfl _ _ _ 121 rfl 3 3 keyInt Try.underlying121 _ ob (3 * i + 1) DO rfl HOO.out.drew ?mlo4 _ _ (.int .i64 (kv : Int)) rfl rfl HKV.out _ [] (plainElem_int Try.underlying3 HWF2.out) ?_) | fail)
          case mlo4 => unfold maxLen; omega
          intro w6 hown6 hgrow6'
          have hgrow6 : wc.grownBy w6 (some ob) := ⟨hgrow6'.os, hgrow6'.tape, hgrow6'.output, hgrow6'.size, hgrow6'.block⟩
          have MO6 : Hid (MapJ w6 ob (3 * i + 1 + 1) (fun c => IsJ J1 c ∨ c = J1.length) (fun _ => False) (setO E1.o kv J1.length)) := (mapj_put (P' := fun c => IsJ J1 c ∨ c = J1.length) HAO.out HKO.out HOO.out.isMap (fun _ h => .inl h) (.inr rfl) hown6).mono (Nat.le_refl _) (fun _ h => h) (fun _ h => h.elim)
          have C6a := hide (LS5.out.c.grownM (gs := gs) (jb := jb1) hgrow6 MCH.out.o LS5.out.no (by simp [Prm.at_]))
          have S6 := hide (LS5.out.scpM SR1.out hgrow6 MCH.out.mo LS5.out.no)
          have G6 := hide hgrow6
          have VG6 : Hid (Vw w6 gc J1 = Vw wc gc J1) := Vw_same (hgrow6.block gc LS5.out.c.lt (by simpa using fun e => MCH.out.o e.symm)) J1
          have hB6 : w0.heap.size ≤ w6.heap.size := Nat.le_trans hBc hgrow6.size
          clear hown6 hgrow6 hgrow6' k8 HOO HAO co
          go_wp2_with fail
          refine (i_addS _ _ gc gs _ _ _ { s with vj := vj } _ _ _ _ C6a.out S6.out HGL.out hB6 (by omega)).mono ?_
          rintro e w5 ⟨rfl, y, ib3, ⟨h1, h2, h3, h4, h5⟩, hc3, hv3, hw3⟩
          have VW6 : Hid (Vw w5 gc (J1 ++ [y]) = addF E1.g 10 0 0) := by
            show _ = _
            rw [hw3, ← VWC.out, VG6.out]
          clear hw3
          obtain ⟨E3, hE3⟩ : ∃ E3 : Ls, E3 = { E1 with o := setO E1.o kv J1.length } := ⟨_, rfl⟩
          have HE3z : Hid (E3.z = E1.z) := by show _ = _; rw [hE3]
          have HE3o : Hid (E3.o = setO E1.o kv J1.length) := by show _ = _; rw [hE3]
          have HE3f : Hid (E3.f = E1.f) := by show _ = _; rw [hE3]
          clear hE3
          have HOK4 : Hid (ownAt L i = kv) := by
            show _ = _
            rw [HOW.out i (by rw [RL.out]; exact hin'), HKV0.out, Int.toNat_natCast]
          have HEE : Hid (E2 = { E1 with g := patchO (addF E1.g 10 0 0) (E1.z kv), z := delO E1.z kv, o := setO E1.o kv J1.length }) := HE2k.out.trans (by rw [← HJL1.out, ← HOK4.out]; simp [lineT])
          have HEJ : Hid (Jm = E2.J) := by rw [HEE.out]; exact HJ1J.out
          have L6 : Hid (LSt w1 w5 w0.heap.size gc pr gs s ib zb ob fb (3 * i + 1 + 1) (KZ L fu i) (J1 ++ [y]) ib3 jb1 Jm vj E3) := LS5.out.putO2 MCH.out (.inl h1) G6.out (by rw [HE3o.out]; exact MO6.out) HE3z.out HE3f.out hc3 hv3
          have GY : Hid (Gro pr.n pr.inl Y J1 (J1 ++ [y]) 1) := Gro.one (by rw [h3]; exact HLI.out) (by rw [h5]; exact HNI.out) (fun e => by rw [h2]; omega) (by rw [h1, h2]; unfold ArgOk; omega)
          clear hc3 hv3 h1 h2 h3 h4 h5
          have hll : (J1 ++ [y]).length = J1.length + 1 := by simp
          have HLL := hide hll
          generalize J1 ++ [y] = J2 at *
          obtain ⟨bo2, oo2, hoe2, _, co⟩ := (RO.out.ev L6.out.ev).1.int i (by rw [RL.out]; exact hin')
          cases hoe2
          rw [HKV0.out, Nat.zero_add] at co
          obtain ⟨DZ, hownz, hatz, hkz⟩ := L6.out.z
          obtain ⟨cz, hrun, hatcz, _⟩ := (hownz.drew).lookup_int keyInt Try.underlying121 Try.underlying3 (zeroInt _) HKV.out
          obtain ⟨jz, e1, hij, hzq⟩ := (mapj_look hatz hkz.2 hatcz).1 (hkz.1 kv HKK.out.1)
          subst e1
          rw [HE3z.out] at hzq
          have HZQ := hide hzq
          clear hzq
          obtain ⟨hjl, hjc⟩ := hij.at_
          obtain ⟨g, hgi, hgg, cc, fc, ⟨cj, k8⟩, PT0⟩ := L6.out.c.item (j := jz) (i := 1) hjl (by omega)
          obtain ⟨vv, hvv⟩ : ∃ vv, (itC J2[jz])[1]? = some vv := ⟨_, rfl⟩
          rw [hvv] at cc
          have hjzi : (jz : Int) < (J2.length : Nat) := by omega
          have hjz0 : (0 : Int) ≤ (jz : Int) := by omega
          have PT := hide (PT0 (.int .i64 (J2.length : Nat)) { J2[jz] with arg := (J2.length : Nat) } rfl ⟨rfl, rfl⟩)
          have PV : Hid (Vw (w5.setCell ⟨g, jz * 7 + 1, none⟩ (.int .i64 (J2.length : Nat))) gc (J2.set jz { J2[jz] with arg := (J2.length : Nat) }) = E2.g) := by
            show _ = _
            rw [Vw_patch hgg hjl rfl, VW6.out, HEE.out]
            show _ = patchO _ (E1.z kv)
            rw [HZQ.out]
            rfl
          have hog3 : og ≠ g := fun e => by have := ((RO.out.ev L6.out.ev).2 (by omega) _ rfl).2; exact this (by rw [e]; exact List.mem_cons_of_mem _ (List.mem_append_right _ hgi))
          obtain ⟨NL, hNL⟩ : ∃ NL, NL = J2.length := ⟨_, rfl⟩
          rw [← hNL] at k8 hjzi PT PV
          have GS : Hid (Gro pr.n pr.inl Y J2 (J2.set jz { J2[jz] with arg := (NL : Nat) }) 0) := Gro.arg hjl hjc (Nat.le_of_eq hNL)
          have K8 : Hid (∀ u, (w5.drew.setCell ⟨g, jz * 7 + 1, none⟩ u).cell? ⟨gc, 8, none⟩ = some (.slice (some ⟨g, 0, none⟩) NL cj)) := fun u => (World.cell?_setCell_other _ _ _ _ (fun e => hgg (congrArg Addr.block e))).trans k8
          have KO : Hid (∀ u, (w5.drew.setCell ⟨g, jz * 7 + 1, none⟩ u).cell? ⟨og, i, none⟩ = some (.int .i64 (kv : Int))) := fun u => (World.cell?_setCell_other _ _ _ _ (fun e => hog3 (congrArg Addr.block e).symm)).trans co
          clear hNL hvv PT0 hatcz hjc hij hkz hownz hatz hll
          go_wp2_with fail
          go_cut [10] from 128 to 145 (fun s10 wx => ∃ (J3 : List It) (ib4 : List Nat), Gro pr.n pr.inl Y J2 J3 0 ∧ LSt w1 wx w0.heap.size gc pr gs s ib zb ob fb (3 * i + 1 + 1) (KZ L fu i) J3 ib4 jb1 Jm vj E3 ∧ Vw wx gc J3 = E2.g)
          case first =>
            go_region_held3 (fun w' => w'.cell? ⟨og, i, none⟩ = some (.int .i64 (kv : Int)) ∧ w'.cell? ⟨gc, 8, none⟩ = some (.slice (some ⟨g, 0, none⟩) NL cj)) (first | exact ⟨co, k8⟩ | exact ⟨KO.out _, K8.out _⟩) (fail)
            all_goals
              go_wp2_with fail
            all_goals
              go_meet
              exact ⟨_, _, GS.out, L6.out.step MCH.out (PT.out.1.kept (Below.refl _ _).drew) (PT.out.2.trans (Ev.of_below (Below.refl _ _).drew _ _)) (by rw [List.length_set]; omega) (fun _ h => h.gro GS.out), PV.out⟩
          case rest =>
            obtain ⟨J3, ib4, hg3, hs3, hw3⟩ := hcut
            have VWC3 := hide hw3
            clear hw3
            have L7 := hide hs3
            have G7 := hide hg3
            obtain ⟨bo3, oo3, hoe3, _, co3⟩ := (RO.out.ev L7.out.ev).1.int i (by rw [RL.out]; exact hin')
            cases hoe3
            rw [HKV0.out, Nat.zero_add] at co3
            obtain ⟨DY, howny, haty, hky⟩ := L7.out.z
            have HKY := hide hky
            have HOY := hide howny
            have HAY := hide haty
            have hj3 : 0 < J3.length := by have := hg3.lo; omega
            clear hs3 hg3 howny haty hrun k8 cc fc co
            go_wp2_with (first | (at_delete; refine wpList_delete_own _ rfl _ _ 121 3 rfl 3 keyInt Try.underlying121 _ zb (3 * i + 1 + 1) DY rfl HOY.out _ (.int .i64 (kv : Int)) rfl HKV.out ?_) | fail)
            intro w8 hown8 hturn8
            have L8 : Hid (LSt w1 w8 w0.heap.size gc pr gs s ib zb ob fb (3 * i + 1 + 1) (fun j => KZ L fu i j ∧ j ≠ kv) J3 ib4 jb1 Jm vj E2) := L7.out.delZ MCH.out hturn8.grown (by rw [HEE.out]; show MapJ _ _ _ _ _ (delO E1.z kv); rw [← HE3z.out]; exact mapj_del HAY.out HKY.out hown8) (by rw [HEE.out, HE3o.out]) (by rw [HEE.out, HE3f.out])
            have HEW : Hid (Vw w8 gc J3 = E2.g) := by
              show _ = _
              rw [Vw_same (hturn8.grown.block gc L7.out.c.lt (by simpa using fun e => MCH.out.z e.symm)), VWC3.out]
            clear hown8 hturn8
            go_wp2_with fail
            go_roundw
            case rel => exact ⟨i + 1, J3, ib4, jb1, Jm, vj, by go_num, FIN.out _ J3 ib4 jb1 Jm vj ((GY.out.trans G7.out).mono (by omega)) (L8.out.mono (by omega) (fun c hc => ⟨HKS.out (by decide) c hc, fun e => by obtain ⟨_, _, _, e4, h4, h5⟩ := hc; have h6 := HKK.out.2; rw [e, h6] at h4; omega⟩)) (by have h1 := HJ1.out; have h2 := G7.out.lo; have h3 := HLL.out; omega) (fun e => absurd (HKE.out e) (by decide)) HEW.out HEJ.out⟩
            case measure => simp [intOf]; omega
        · obtain ⟨DZ, hownz, hatz, hkz⟩ := LS5.out.z
          have HKZ := hide hkz
          have HOZ := hide hownz
          have HAZ := hide hatz
          obtain ⟨_, _, _, most5, depth5, Ai5, ci5, An5, cn5, _, hkk5, _, _, _, _⟩ := LS5.out.c
          have k8 := hkk5.cell 8
          simp at k8
          have HWF2 : Hid ((Lit.int .i64 (J1.length : Int)).wf = true) := WalkArith.wf_i64 (by omega)
          clear hkk5 hownz hatz
          go_wp2_with (first | (at_mapUpdate; refine wpList_mapUpdate_own _ rfl _ _ _ 121 rfl 3 3 keyInt Try.underlying121 _ zb (3 * i + 1) DZ rfl HOZ.out ?mlz5 _ _ (.int .i64 (i : Int)) rfl rfl HKEY.out _ [] (plainElem_int Try.underlying3 HWF2.out) ?_) | fail)
          case mlz5 => unfold maxLen; omega
          intro w6 hown6 hgrow6
          have MZ6 := hide (mapj_put (P' := fun c => IsJ J1 c ∨ c = J1.length) HAZ.out HKZ.out HOZ.out.isMap (fun _ h => .inl h) (.inr rfl) hown6)
          have C6a := hide (LS5.out.c.grownM (gs := gs) (jb := jb1) hgrow6 MCH.out.z LS5.out.nz (by simp [Prm.at_]))
          have S6 := hide (LS5.out.scpM SR1.out hgrow6 MCH.out.mz LS5.out.nz)
          have G6 := hide hgrow6
          have VG6 : Hid (Vw w6 gc J1 = Vw wc gc J1) := Vw_same (hgrow6.block gc LS5.out.c.lt (by simpa using fun e => MCH.out.z e.symm)) J1
          have hB6 : w0.heap.size ≤ w6.heap.size := Nat.le_trans hBc hgrow6.size
          clear hown6 hgrow6 k8 HOZ HAZ
          go_wp2_with fail
          refine (i_addS _ _ gc gs _ _ _ { s with vj := vj } _ _ _ _ C6a.out S6.out HGL.out hB6 (by omega)).mono ?_
          rintro e w5 ⟨rfl, y, ib3, ⟨h1, h2, h3, h4, h5⟩, hc3, hv3, hw3⟩
          have HEE : Hid (E2 = { E1 with g := addF E1.g 11 0 (-1), z := setO E1.z i J1.length }) := HE2k.out.trans (by rw [← HJL1.out]; simp [lineT])
          have HEW : Hid (Vw w5 gc (J1 ++ [y]) = E2.g) := by
            show _ = _
            rw [hw3, HEE.out, ← VWC.out, VG6.out]
          have HEJ : Hid (Jm = E2.J) := by rw [HEE.out]; exact HJ1J.out
          clear hw3
          have L6 : Hid (LSt w1 w5 w0.heap.size gc pr gs s ib zb ob fb (3 * i + 1 + 1) (fun j => KZ L fu i j ∨ j = i) (J1 ++ [y]) ib3 jb1 Jm vj E2) := LS5.out.putZ2 MCH.out (.inr h1) G6.out (by rw [HEE.out]; exact MZ6.out) (by rw [HEE.out]) (by rw [HEE.out]) hc3 hv3
          have GY : Hid (Gro pr.n pr.inl Y J1 (J1 ++ [y]) 1) := Gro.one (by rw [h3]; exact HLI.out) (by rw [h5]; exact HNI.out) (fun e => by rw [h2]; omega) (by rw [h1, h2]; unfold ArgOk; omega)
          clear hc3 hv3 h1 h2 h3 h4 h5
          go_wp2_with fail
          go_roundw
          case rel => exact ⟨i + 1, (J1 ++ [y]), ib3, jb1, Jm, vj, by go_num, FIN.out _ (J1 ++ [y]) ib3 jb1 Jm vj (GY.out.mono (by omega)) (L6.out.mono (by omega) (fun c hc => HKI.out c hc)) (by have := HJ1.out; simp; omega) (fun e => absurd (HKE.out e) (by decide)) HEW.out HEJ.out⟩
          case measure => simp [intOf]; omega
        · by_cases hz0 : nc = 0
          · have HZ0 := hide (HNC.out.trans hz0)
            clear hz0
            go_wp2_with fail
            refine (i_leave0 _ _ gc gs _ _ _ { s with vj := vj } _ false LS5.out.c SC.out HZ0.out HGL.out hBc).mono ?_
            rintro e w5 ⟨rfl, y, ib3, hy, hc3, hv3, hw3⟩
            have HEE : Hid (E2 = { E1 with g := leaF pr.framed pr.words s.sp E1.g }) := HE2k.out.trans (by unfold lineT; rw [if_neg (by decide), if_neg (by decide), if_neg (by decide), if_neg (by decide), if_pos rfl, if_pos (show s.sp.nc = 0 from HZ0.out)]; rfl)
            have HEW : Hid (Vw w5 gc (J1 ++ [y]) = E2.g) := by
              show _ = _
              rw [hw3, HEE.out, ← VWC.out]
              rfl
            have HEJ : Hid (Jm = E2.J) := by rw [HEE.out]; exact HJ1J.out
            clear hw3
            have C6 := hide hc3
            have V6 := hide hv3
            have HY := hide hy
            clear hc3 hv3 hy
            go_wp2_with fail
            go_roundw
            case rel => exact ⟨i + 1, (J1 ++ [y]), ib3, jb1, Jm, vj, by go_num, FIN.out _ (J1 ++ [y]) ib3 jb1 Jm vj ((Gro.plain HY.out HLI.out HNI.out).mono (by omega)) (((LS5.out.step MCH.out C6.out V6.out (by simp) (fun _ h => h.app)).mono (by omega) (HKS.out (by decide))).as (by rw [HEE.out]) (by rw [HEE.out]) (by rw [HEE.out])) (by have := HJ1.out; simp; omega) (fun e => absurd (HKE.out e) (by decide)) HEW.out HEJ.out⟩
            case measure => simp [intOf]; omega
          · have HZ0 : Hid (0 < s.nc) := by show 0 < s.nc; have := HNC.out; omega
            clear hz0
            go_wp2_with fail
            refine (i_leaveJ _ _ gc gs _ _ _ _ { s with vj := vj } _ _ LS5.out.c SJ5.out HZ0.out HGL.out (Nat.le_trans HJ1.out HGL.out) (by simp [Prm.at_]) (fun b hb => by simp [Prm.at_, hb]) hBc).mono ?_
            rintro e w5 ⟨rfl, y, ib3, jb3, vj3, ⟨h1, h2, h3, h4, h5⟩, hc3, hj3, hv3, hw3⟩
            have HEE : Hid (E2 = { E1 with g := addF E1.g 10 0 (-1), J := E1.J ++ [(J1.length : Int)] }) := HE2k.out.trans (by rw [← HJL1.out]; unfold lineT; rw [if_neg (by decide), if_neg (by decide), if_neg (by decide), if_neg (by decide), if_pos rfl, if_neg (show ¬ s.sp.nc = 0 from by have := HZ0.out; show ¬ s.nc = 0; omega)])
            have HEW : Hid (Vw w5 gc (J1 ++ [y]) = E2.g) := by
              show _ = _
              rw [hw3, HEE.out, ← VWC.out]
            have HEJ : Hid (Jm ++ [(J1.length : Int)] = E2.J) := by
              show _ = _
              rw [HEE.out, HJ1J.out]
            clear hw3
            have L6 := hide (LS5.out.stepJ MCH.out (hc3.shrink (T := gs :: zb :: ob :: fb :: (jb3 ++ pr.tb)) (fun b hb => by simp [Prm.at_] at hb ⊢; rcases hb with h | h | h | h | h | h <;> simp [h])) hj3.jp hv3 (by simp) (fun _ h => h.app))
            have GY : Hid (Gro pr.n pr.inl Y J1 (J1 ++ [y]) 1) := Gro.one (by rw [h3]; exact HLI.out) (by rw [h5]; exact HNI.out) (fun e => by rw [h2]; omega) (by rw [h1, h2]; unfold ArgOk; omega)
            clear hc3 hj3 hv3 h1 h2 h3 h4 h5
            go_wp2_with fail
            go_roundw
            case rel => exact ⟨i + 1, (J1 ++ [y]), ib3, jb3, Jm ++ [(J1.length : Int)], vj3, by go_num, FIN.out _ (J1 ++ [y]) ib3 jb3 _ vj3 (GY.out.mono (by omega)) ((L6.out.mono (by omega) (HKS.out (by decide))).as (by rw [HEE.out]) (by rw [HEE.out]) (by rw [HEE.out])) (by have := HJ1.out; simp; omega) (fun e => absurd (HKE.out e) (by decide)) HEW.out HEJ.out⟩
            case measure => simp [intOf]; omega
        · obtain ⟨bo', oo', hoe, _, co⟩ := (RO.out.ev LS5.out.ev).1.int i (by rw [RL.out]; exact hin')
          cases hoe
          obtain ⟨hv0, hv1⟩ := RX.out _ (List.getElem_mem (show i < xs.length by rw [RL.out]; exact hin'))
          obtain ⟨kv, hkv⟩ := Int.eq_ofNat_of_zero_le hv0
          rw [hkv] at co hv1
          rw [Nat.zero_add] at co
          have hkvn : kv < pr.n := by omega
          have HOK7 : Hid (ownAt L i = kv) := by
            show _ = _
            rw [HOW.out i (by rw [RL.out]; exact hin'), hkv, Int.toNat_natCast]
          have HEE : Hid (E2 = { E1 with g := endLn (pr.cp L) s.sp kv E1 }) := HE2k.out.trans (by rw [← HOK7.out]; simp [lineT])
          have HEJ : Hid (Jm = E2.J) := by rw [HEE.out]; exact HJ1J.out
          have HKV0 : Hid (i = en' → kv = fu) := fun e => by
            have h1 := (XE.out fu hfn).1 en' HEF.out
            rw [← e, List.getElem?_eq_getElem (show i < xs.length by rw [RL.out]; exact hin')] at h1
            injection h1 with h1
            omega
          clear hkv hv0
          go_wp2_with fail
          refine (i_end Y _ _ w0 _ gc gs _ _ _ { s with vj := vj } _ kv zb ob fb _ _ _ L LS5.out.c SC.out HLI.out HNI.out ⟨ih1, by omega⟩ HWC.out HR0.out (show pr.n ≤ 1000 by omega) hkvn E1 VWC.out.symm LS5.out.z LS5.out.o LS5.out.f ⟨MCH.out.z, fun e => LS5.out.nz (List.mem_cons_of_mem _ (List.mem_append_right _ e))⟩ ⟨MCH.out.o, fun e => LS5.out.no (List.mem_cons_of_mem _ (List.mem_append_right _ e))⟩).mono ?_
          rintro e w5 ⟨rfl, J2, hg2, ⟨ib3, hc3, hv3⟩, hef2, hw3⟩
          have HEW : Hid (Vw w5 gc J2 = E2.g) := by
            show _ = _
            rw [hw3, HEE.out]
            rfl
          clear hw3
          have C6 := hide hc3
          have V6 := hide hv3
          have G6 := hide hg2
          have EF : Hid (i = en' → J1.length + 1 ≤ J2.length ∧ (nc = 0 → (IOk pr.n pr.inl J1 → ∀ y ∈ J2, y.code = 10 ∨ y.code = 11 → 0 ≤ y.arg ∧ y.arg < (J2.length : Int)) ∧ J1.length + 2 ≤ J2.length)) := fun e => by
            have h1 := hef2 (by rw [HKV0.out e]; exact HK0.out)
            exact ⟨h1.1, fun hz => endF_fin h1 (HNC.out.trans hz)⟩
          clear hc3 hv3 hg2 hef2
          go_wp2_with fail
          go_roundw
          case rel => exact ⟨i + 1, J2, ib3, jb1, Jm, vj, by go_num, FIN.out _ J2 ib3 jb1 Jm vj (G6.out.mono (by omega)) (((LS5.out.step MCH.out C6.out V6.out G6.out.lo (fun _ h => h.gro G6.out)).mono (by omega) (HKS.out (by decide))).as (by rw [HEE.out]) (by rw [HEE.out]) (by rw [HEE.out])) (Nat.le_trans HJ1.out G6.out.lo) EF.out HEW.out HEJ.out⟩
          case measure => simp [intOf]; omega
    · have zl : decide (i ≤ en') = false := decide_eq_false hlt
      have zl2 : decide ((i : Int) ≤ (en' : Int)) = false := decide_eq_false (by omega)
      have hie : i = en' + 1 := by omega
      have GF : Hid (Gro pr.n pr.inl Y I J ((en' - fu) * G)) := GR.out.mono (Nat.le_of_eq (by rw [hie]; congr 1; omega))
      have HIE := hide hie
      clear hie
      have HRT : Hid (ScJ wr w0.heap.size gc ib1 gs { s with vj := vj } jb1 Jm (IsJ J) ∧ Ev gc (gs :: ib) w (gs :: (jb1 ++ ib1)) wr ∧ (nc = 0 → LinF fu en' L pr.n pr.inl I J) ∧ Vw wr gc J = RS.1 ∧ Jm = RS.2) := by
        have e9 := HEN.out HIE.out
        refine ⟨LS.out.scj SR1.out, V1.out.trans LS.out.ev, fun hz => ?_, by rw [HLF0.out, HVW.out, e9], by rw [HLF0.out, HJJ.out, e9]⟩
        obtain ⟨h1, h2⟩ := HLF.out.2 hz
        obtain ⟨h3, h4⟩ := h2 HIE.out
        exact ⟨h3, h4, fun l hl1 hl2 he => h1 l hl1 (by have := HIE.out; omega) he⟩
      go_wp2_with fail
      go_end0
      exact ⟨rfl, J, ib1, jb1, Jm, vj, GF.out, HLF.out.1 HIE.out, LS.out.c.shrink (T := pr.tb) (fun b hb => by simp [Prm.at_, hb]), HRT.out.1, HRT.out.2.1, HRT.out.2.2⟩
end Go.Proofs.Ytcfjbaanahgpoaa

