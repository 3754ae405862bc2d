import Derived.Test.YtcfjbaanahgpoaaCmEF
namespace Go.Proofs.Ytcfjbaanahgpoaa
open Go Go.RowKit Go.Maps
set_option maxRecDepth 100000
set_option linter.unusedVariables false
set_option linter.unusedSimpArgs false
theorem cntI_cons (x : It) (M : List It) : cntI (x :: M) = (if x.code = 12 then 1 else 0) + cntI M := by
  unfold cntI
  rw [List.filter_cons]
  by_cases h : x.code = 12
  · simp [h]; omega
  · simp [h]
/-- Items have been put, none was taken away; calls are counted. -/
structure Gro (I I' : List It) (a k : Nat) : Prop where
  lo : I.length ≤ I'.length
  hi : I'.length ≤ I.length + a
  cnt : cntI I' = cntI I + k
  all : (∀ x ∈ I, x.n = 0) → ∀ x ∈ I', x.n = 0
section
variable {I J K : List It} {a b k l : Nat}
theorem Gro.refl (I : List It) : Gro I I 0 0 := ⟨Nat.le_refl _, Nat.le_refl _, rfl, fun h => h⟩
theorem Gro.trans (h : Gro I J a k) (g : Gro J K b l) : Gro I K (a + b) (k + l) := by
  have h1 := h.lo; have h2 := h.hi; have h3 := h.cnt; have g1 := g.lo; have g2 := g.hi; have g3 := g.cnt
  exact ⟨by omega, by omega, by omega, fun hx => g.all (h.all hx)⟩
theorem Gro.mono (h : Gro I J a k) (hb : a ≤ b) (e : k = l) : Gro I J b l := ⟨h.lo, Nat.le_trans h.hi (by omega), e ▸ h.cnt, h.all⟩
theorem Gro.more {M : List It} {line : Int} {len calls : Nat} (h : EIt M line 0 len calls) : Gro I (I ++ M) len calls :=
  ⟨by simp, by rw [List.length_append, h.len]; omega, by rw [cntI_app, h.cnt], fun hx x hm => (List.mem_append.1 hm).elim (hx x) (fun h' => (h.all x h').2.2.1)⟩
theorem Gro.one {x : It} (hn : x.n = 0) (hc : x.code ≠ 12) : Gro I (I ++ [x]) 1 0 :=
  ⟨by simp, by simp, by rw [cntI_app]; simp [cntI, hc], fun hx y hm => (List.mem_append.1 hm).elim (hx y) (fun h' => by obtain rfl := List.mem_singleton.1 h'; exact hn)⟩
theorem Gro.set {j : Nat} (hj : j < I.length) {x : It} (hn : x.n = I[j].n) (hc : x.code = I[j].code) : Gro I (I.set j x) 0 0 := by
  have e1 : I = I.take j ++ (I[j] :: I.drop (j + 1)) := by rw [← List.drop_eq_getElem_cons hj, List.take_append_drop]
  have e2 : I.set j x = I.take j ++ (x :: I.drop (j + 1)) := by rw [List.set_eq_take_append_cons_drop, if_pos hj]
  refine ⟨by simp, by simp, ?_, fun hx y hm => ?_⟩
  · have e3 : cntI I = cntI (I.take j) + ((if I[j].code = 12 then 1 else 0) + cntI (I.drop (j + 1))) := by
      conv => lhs; rw [e1]
      rw [cntI_app, cntI_cons]
    rw [e2, cntI_app, cntI_cons, hc, e3]
    omega
  · rcases List.mem_or_eq_of_mem_set hm with h | h
    · exact hx y h
    · rw [h, hn]; exact hx _ (List.getElem_mem hj)
end
/-- The compiler goes on with other items. -/
def Step (w : World) (B gc : Nat) (pr : Prm) (ib : Option Nat) (I' : List It) (w' : World) : Prop := ∃ ib', CSt w' B gc pr I' ib' ∧ Ev gc ib w ib' w'
set_option maxHeartbeats 4000000 in
theorem i_end0 (w0 w : World) (gc gs : Nat) (ib : Option Nat) (pr : Prm) (I : List It) (s : Scd) (i : Int) (k zb ob fb mz mo mf : Nat) (L : List Ln) (h : CSt w w0.heap.size gc pr I ib) (hs : ScP w gc ib gs s) (hnc : s.nc = 0) (hI : 1 ≤ I.length ∧ I.length ≤ 10000000000) (hB : Below w0.heap.size w0 w) (hR : InLines w0 pr.A pr.n L) (hpn : pr.n ≤ 1000) (hk : k < pr.n)
    (hz : MapP w zb mz I.length) (ho : MapP w ob mo I.length) (hf : MapP w fb mf (I.length + 1)) (hzb : zb ≠ gc ∧ ib ≠ some zb) (hob : ob ≠ gc ∧ ib ≠ some ob) :
    Calls Try.prog 93 #[.pointer (some ⟨gc, 0, none⟩), .pointer (some ⟨gs, 0, none⟩), .int .i64 i, .int .i64 k, .map (some zb), .map (some ob), .map (some fb)] w fun e w' => e = .returned (.tuple #[]) ∧ ∃ I', Gro I I' 2 0 ∧ Step w w0.heap.size gc pr ib I' w' := by
  have HC := hide h
  have HS := hide hs
  have HR := hide (hR.below hB)
  have HLN := hide hR.len
  have HZ := hide hz
  have HO := hide ho
  have HF := hide hf
  have HNC := hide hnc
  have hBs := hB.size
  have hkl : k < L.length := by rw [HLN.out]; exact hk
  obtain ⟨_, _, most, depth, Ai, ci, vn, hkk, _, _⟩ := h
  have k0 := hkk.cell 0
  simp at k0
  obtain ⟨b, o, A1, c1, A2, c2, hA', _, p0, _⟩ := HR.out.ln k hkl
  have HKEY : Hid (keyOf Try.prog 3 (.int .i64 (k : Int)) = some (Lit.int .i64 (k : Int))) := keyOf_int_mk Try.underlying3 (WalkArith.wf_i64 (by omega))
  have hkn : (k : Int) < pr.n := by omega
  have hk0 : (0 : Int) ≤ (k : Int) := by omega
  rw [hA'] at k0
  clear hkk hs hz ho hf hnc
  generalize L[k].1 = kd at *
  by_cases h0 : kd = 0
  · subst h0
    go_enter Try.func93, Try.ntmps93
    go_wp2_with fail
    refine (i_addS _ _ gc gs _ pr _ s _ _ _ _ HC.out HS.out (by omega) hBs).mono ?_
    rintro e w1 ⟨rfl, x, ib1, ⟨h1, h2, h3, h4, h5⟩, hc1, hv1⟩
    have C1 := hide hc1
    have V1 := hide hv1
    clear hc1 hv1
    go_wp2_with fail
    refine (i_leave _ _ gc gs _ pr _ s _ true C1.out (HS.out.ev V1.out) HNC.out (by simp; omega) (Nat.le_trans hBs V1.out.size)).mono ?_
    rintro e w2 ⟨rfl, y, ib2, ⟨g1, g2, g3, g4, g5, g6⟩, hc2, hv2⟩
    have C2 := hide hc2
    have V2 := hide hv2
    clear hc2 hv2
    go_wp2_with fail
    first | go_end0 | ((try simp only [Exit.inBlock, Exit.then]); refine bodyPost_ret (results_none rfl _ _ _) rfl ?_)
    exact ⟨rfl, _, ((Gro.one (by rw [h5, HNC.out]) (by omega)).trans (Gro.one (by rw [g3, HNC.out]) g6)).mono (by omega) rfl, ib2, C2.out, V1.out.trans V2.out⟩
  · by_cases h5 : kd = 5
    · subst h5
      obtain ⟨DF, hownf, _⟩ := HF.out
      have HOF := hide hownf
      clear hownf
      go_enter Try.func93, Try.ntmps93
      go_wp2_with (first | (at_lookup; refine wpList_lookup_own_int _ rfl _ _ 121 rfl 3 3 .i64 keyInt Try.underlying121 Try.underlying3 (zeroInt _) fb mf DF rfl HOF.out _ (.int .i64 (k : Int)) rfl HKEY.out ?_) | fail)
      intro cf hatcf _
      go_wp2_with fail
      refine (i_addS _ _ gc gs _ pr _ s _ _ _ _ HC.out HS.out (by omega) hBs).mono ?_
      rintro e w1 ⟨rfl, x, ib1, ⟨h1, h2, h3, h4, h5⟩, hc1, hv1⟩
      have C1 := hide hc1
      have V1 := hide hv1
      have G1 : Hid (Gro I (I ++ [x]) 1 0) := Gro.one (by rw [h5, HNC.out]) (by omega)
      clear hc1 hv1 hatcf h1 h2 h3 h4 h5
      have Zb := hide (HZ.out.ev V1.out hzb.1 hzb.2)
      have OOb := hide (HO.out.ev V1.out hob.1 hob.2)
      obtain ⟨DZ, hownz, hatz⟩ := Zb.out
      obtain ⟨DO, howno, hato⟩ := OOb.out
      have HOZ := hide hownz
      have HOO := hide howno
      have HAZ := hide hatz
      have HAO := hide hato
      clear hownz howno hatz hato
      go_wp2_with (first | (at_lookup; refine wpList_lookup_own_ok_int _ rfl _ _ 121 rfl 3 3 .i64 keyInt Try.underlying121 Try.underlying3 (zeroInt _) zb mz DZ rfl HOZ.out _ (.int .i64 (k : Int)) rfl HKEY.out ?_) | fail)
      intro cz hatcz _
      obtain ⟨cz', e1, e2, e3⟩ := HAZ.out (.int .i64 (k : Int))
      rw [hatcz] at e1
      injection e1 with e1
      injection e1 with _ e1
      subst e1
      obtain ⟨jz, rfl⟩ := Int.eq_ofNat_of_zero_le e2
      have hjz : jz < I.length := by omega
      clear hatcz e2 e3
      generalize Maps.has DZ (.int .i64 (k : Int)) = bz
      go_upto_if 51 with fail
      go_cut [16] from 51 to 64 (fun s16 wx => ∃ I1, Gro I I1 1 0 ∧ I.length ≤ I1.length ∧ ∃ ib1, CSt wx w0.heap.size gc pr I1 ib1 ∧ Ev gc ib w ib1 wx)
      case first =>
        cases bz
        · go_wp2_with fail
          go_meet
          exact ⟨_, G1.out, by simp, _, C1.out, V1.out⟩
        · have hjl : jz < (I ++ [x]).length := by simp; omega
          obtain ⟨g, hgi, hgg, cc, fc, cj, k8⟩ := C1.out.item (j := jz) (i := 1) hjl (by omega)
          subst hgi
          have hcc : ∃ vv, (itC (I ++ [x])[jz])[1]? = some vv := ⟨_, rfl⟩
          obtain ⟨vv, hvv⟩ := hcc
          rw [hvv] at cc
          have hjzi : (jz : Int) < ((I ++ [x]).length : Nat) := by omega
          have hjz0 : (0 : Int) ≤ (jz : Int) := by omega
          have PT := hide (CSt.patch (i := 1) (u := .int .i64 ((I ++ [x]).length : Nat)) (x := { (I ++ [x])[jz] with arg := ((I ++ [x]).length : Nat) }) C1.out hjl (by decide) rfl)
          obtain ⟨NL, hNL⟩ : ∃ NL, NL = (I ++ [x]).length := ⟨_, rfl⟩
          rw [← hNL] at k8 hjzi PT
          have HNL := hide hNL
          have GS : Hid (Gro (I ++ [x]) ((I ++ [x]).set jz { (I ++ [x])[jz] with arg := (NL : Nat) }) 0 0) := Gro.set hjl rfl rfl
          have K8 : Hid (∀ u, (w1.drew.setCell ⟨g, jz * 7 + 1, none⟩ u).cell? ⟨gc, 8, none⟩ = some (.slice (some ⟨g, 0, none⟩) NL cj)) := fun u => (World.cell?_setCell_other _ _ _ _ (fun e => hgg (congrArg Addr.block e))).trans k8
          clear hNL hvv
          go_wp2_with fail
          go_region_held3 (fun w' => w'.cell? ⟨gc, 8, none⟩ = some (.slice (some ⟨g, 0, none⟩) NL cj)) (first | exact k8 | exact K8.out _) (fail)
          all_goals
            go_wp2_with fail
          all_goals
            go_meet
            exact ⟨_, (G1.out).trans GS.out, by rw [List.length_set]; exact by simp, _, PT.out.1.kept (Below.refl _ _).drew, V1.out.trans (PT.out.2.trans (Ev.of_below (Below.refl _ _).drew _ _))⟩
      case rest =>
        obtain ⟨I1, hg1, hl1, ib1, hc1, hv1⟩ := hcut
        have CC := hide hc1
        have VV := hide hv1
        have GG := hide hg1
        have O3 := hide (HO.out.ev hv1 hob.1 hob.2)
        obtain ⟨DP, hownp, hatp⟩ := O3.out
        have HOP := hide hownp
        have HAP := hide hatp
        clear hc1 hv1 hg1 hownp hatp
        go_wp2_with (first | (at_lookup; refine wpList_lookup_own_ok_int _ rfl _ _ 121 rfl 3 3 .i64 keyInt Try.underlying121 Try.underlying3 (zeroInt _) ob mo DP rfl HOP.out _ (.int .i64 (k : Int)) rfl HKEY.out ?_) | fail)
        intro co hatco _
        obtain ⟨co', e1, e2, e3⟩ := HAP.out (.int .i64 (k : Int))
        rw [hatco] at e1
        injection e1 with e1
        injection e1 with _ e1
        subst e1
        obtain ⟨jo, rfl⟩ := Int.eq_ofNat_of_zero_le e2
        have hjl : jo < I1.length := by omega
        clear hatco e2 e3
        generalize Maps.has DP (.int .i64 (k : Int)) = bo
        cases bo
        · go_wp2_with fail
          go_end0
          exact ⟨rfl, I1, GG.out.mono (by omega) rfl, ib1, CC.out, VV.out⟩
        · obtain ⟨g, hgi, hgg, cc, fc, cj, k8⟩ := CC.out.item (j := jo) (i := 1) hjl (by omega)
          subst hgi
          have hcc : ∃ vv, (itC I1[jo])[1]? = some vv := ⟨_, rfl⟩
          obtain ⟨vv, hvv⟩ := hcc
          rw [hvv] at cc
          have hjzi : (jo : Int) < (I1.length : Nat) := by omega
          have hjz0 : (0 : Int) ≤ (jo : Int) := by omega
          have PT := hide (CSt.patch (i := 1) (u := .int .i64 (I1.length : Nat)) (x := { I1[jo] with arg := (I1.length : Nat) }) CC.out hjl (by decide) rfl)
          obtain ⟨NL, hNL⟩ : ∃ NL, NL = I1.length := ⟨_, rfl⟩
          rw [← hNL] at k8 hjzi PT
          have GS : Hid (Gro I1 (I1.set jo { I1[jo] with arg := (NL : Nat) }) 0 0) := Gro.set hjl rfl rfl
          have K8 : Hid (∀ u, (wc.drew.setCell ⟨g, jo * 7 + 1, none⟩ u).cell? ⟨gc, 8, none⟩ = some (.slice (some ⟨g, 0, none⟩) NL cj)) := fun u => (World.cell?_setCell_other _ _ _ _ (fun e => hgg (congrArg Addr.block e))).trans k8
          clear hNL hvv
          go_wp2_with fail
          go_region_held3 (fun w' => w'.cell? ⟨gc, 8, none⟩ = some (.slice (some ⟨g, 0, none⟩) NL cj)) (first | exact k8 | exact K8.out _) (fail)
          all_goals
            go_wp2_with fail
          all_goals
            go_end0
            exact ⟨rfl, _, (GG.out.trans GS.out).mono (by omega) rfl, _, PT.out.1.kept (Below.refl _ _).drew, VV.out.trans (PT.out.2.trans (Ev.of_below (Below.refl _ _).drew _ _))⟩
    · have z0 : (kd == 0) = false := by simpa using h0
      have z5 : (kd == 5) = false := by simpa using h5
      have V0 := hide (Ev.refl gc ib w)
      clear h0 h5
      go_enter Try.func93, Try.ntmps93
      have Za := hide (HZ.out.ev V0.out hzb.1 hzb.2)
      have OOa := hide (HO.out.ev V0.out hob.1 hob.2)
      obtain ⟨DZ, hownz, hatz⟩ := Za.out
      obtain ⟨DO, howno, hato⟩ := OOa.out
      have HOZ := hide hownz
      have HOO := hide howno
      have HAZ := hide hatz
      have HAO := hide hato
      clear hownz howno hatz hato
      go_wp2_with (first | (at_lookup; refine wpList_lookup_own_ok_int _ rfl _ _ 121 rfl 3 3 .i64 keyInt Try.underlying121 Try.underlying3 (zeroInt _) zb mz DZ rfl HOZ.out _ (.int .i64 (k : Int)) rfl HKEY.out ?_) | fail)
      intro cz hatcz _
      obtain ⟨cz', e1, e2, e3⟩ := HAZ.out (.int .i64 (k : Int))
      rw [hatcz] at e1
      injection e1 with e1
      injection e1 with _ e1
      subst e1
      obtain ⟨jz, rfl⟩ := Int.eq_ofNat_of_zero_le e2
      have hjz : jz < I.length := by omega
      clear hatcz e2 e3
      generalize Maps.has DZ (.int .i64 (k : Int)) = bz
      go_upto_if 51 with fail
      go_cut [16] from 51 to 64 (fun s16 wx => ∃ I1, Gro I I1 1 0 ∧ I.length ≤ I1.length ∧ ∃ ib1, CSt wx w0.heap.size gc pr I1 ib1 ∧ Ev gc ib w ib1 wx)
      case first =>
        cases bz
        · go_wp2_with fail
          go_meet
          exact ⟨_, (Gro.refl I).mono (by omega) rfl, Nat.le_refl _, _, HC.out, V0.out⟩
        · have hjl : jz < (I).length := hjz
          obtain ⟨g, hgi, hgg, cc, fc, cj, k8⟩ := HC.out.item (j := jz) (i := 1) hjl (by omega)
          subst hgi
          have hcc : ∃ vv, (itC (I)[jz])[1]? = some vv := ⟨_, rfl⟩
          obtain ⟨vv, hvv⟩ := hcc
          rw [hvv] at cc
          have hjzi : (jz : Int) < ((I).length : Nat) := by omega
          have hjz0 : (0 : Int) ≤ (jz : Int) := by omega
          have PT := hide (CSt.patch (i := 1) (u := .int .i64 ((I).length : Nat)) (x := { (I)[jz] with arg := ((I).length : Nat) }) HC.out hjl (by decide) rfl)
          obtain ⟨NL, hNL⟩ : ∃ NL, NL = (I).length := ⟨_, rfl⟩
          rw [← hNL] at k8 hjzi PT
          have HNL := hide hNL
          have GS : Hid (Gro (I) ((I).set jz { (I)[jz] with arg := (NL : Nat) }) 0 0) := Gro.set hjl rfl rfl
          have K8 : Hid (∀ u, (w.drew.setCell ⟨g, jz * 7 + 1, none⟩ u).cell? ⟨gc, 8, none⟩ = some (.slice (some ⟨g, 0, none⟩) NL cj)) := fun u => (World.cell?_setCell_other _ _ _ _ (fun e => hgg (congrArg Addr.block e))).trans k8
          clear hNL hvv
          go_wp2_with fail
          go_region_held3 (fun w' => w'.cell? ⟨gc, 8, none⟩ = some (.slice (some ⟨g, 0, none⟩) NL cj)) (first | exact k8 | exact K8.out _) (fail)
          all_goals
            go_wp2_with fail
          all_goals
            go_meet
            exact ⟨_, ((Gro.refl I).mono (by omega) rfl).trans GS.out, by rw [List.length_set]; exact Nat.le_refl _, _, PT.out.1.kept (Below.refl _ _).drew, V0.out.trans (PT.out.2.trans (Ev.of_below (Below.refl _ _).drew _ _))⟩
      case rest =>
        obtain ⟨I1, hg1, hl1, ib1, hc1, hv1⟩ := hcut
        have CC := hide hc1
        have VV := hide hv1
        have GG := hide hg1
        have O3 := hide (HO.out.ev hv1 hob.1 hob.2)
        obtain ⟨DP, hownp, hatp⟩ := O3.out
        have HOP := hide hownp
        have HAP := hide hatp
        clear hc1 hv1 hg1 hownp hatp
        go_wp2_with (first | (at_lookup; refine wpList_lookup_own_ok_int _ rfl _ _ 121 rfl 3 3 .i64 keyInt Try.underlying121 Try.underlying3 (zeroInt _) ob mo DP rfl HOP.out _ (.int .i64 (k : Int)) rfl HKEY.out ?_) | fail)
        intro co hatco _
        obtain ⟨co', e1, e2, e3⟩ := HAP.out (.int .i64 (k : Int))
        rw [hatco] at e1
        injection e1 with e1
        injection e1 with _ e1
        subst e1
        obtain ⟨jo, rfl⟩ := Int.eq_ofNat_of_zero_le e2
        have hjl : jo < I1.length := by omega
        clear hatco e2 e3
        generalize Maps.has DP (.int .i64 (k : Int)) = bo
        cases bo
        · go_wp2_with fail
          go_end0
          exact ⟨rfl, I1, GG.out.mono (by omega) rfl, ib1, CC.out, VV.out⟩
        · obtain ⟨g, hgi, hgg, cc, fc, cj, k8⟩ := CC.out.item (j := jo) (i := 1) hjl (by omega)
          subst hgi
          have hcc : ∃ vv, (itC I1[jo])[1]? = some vv := ⟨_, rfl⟩
          obtain ⟨vv, hvv⟩ := hcc
          rw [hvv] at cc
          have hjzi : (jo : Int) < (I1.length : Nat) := by omega
          have hjz0 : (0 : Int) ≤ (jo : Int) := by omega
          have PT := hide (CSt.patch (i := 1) (u := .int .i64 (I1.length : Nat)) (x := { I1[jo] with arg := (I1.length : Nat) }) CC.out hjl (by decide) rfl)
          obtain ⟨NL, hNL⟩ : ∃ NL, NL = I1.length := ⟨_, rfl⟩
          rw [← hNL] at k8 hjzi PT
          have GS : Hid (Gro I1 (I1.set jo { I1[jo] with arg := (NL : Nat) }) 0 0) := Gro.set hjl rfl rfl
          have K8 : Hid (∀ u, (wc.drew.setCell ⟨g, jo * 7 + 1, none⟩ u).cell? ⟨gc, 8, none⟩ = some (.slice (some ⟨g, 0, none⟩) NL cj)) := fun u => (World.cell?_setCell_other _ _ _ _ (fun e => hgg (congrArg Addr.block e))).trans k8
          clear hNL hvv
          go_wp2_with fail
          go_region_held3 (fun w' => w'.cell? ⟨gc, 8, none⟩ = some (.slice (some ⟨g, 0, none⟩) NL cj)) (first | exact k8 | exact K8.out _) (fail)
          all_goals
            go_wp2_with fail
          all_goals
            go_end0
            exact ⟨rfl, _, (GG.out.trans GS.out).mono (by omega) rfl, _, PT.out.1.kept (Below.refl _ _).drew, VV.out.trans (PT.out.2.trans (Ev.of_below (Below.refl _ _).drew _ _))⟩
end Go.Proofs.Ytcfjbaanahgpoaa
namespace Go.Proofs.Ytcfjbaanahgpoaa
open Go Go.RowKit Go.Maps
set_option maxRecDepth 100000
set_option linter.unusedVariables false
set_option linter.unusedSimpArgs false
/-- How many calls stand in an expression; in the lines from a to b (b itself not). -/
def callsOf (x : Ln) : Nat := (x.2.2.2.filter fun t => decide (t.1 = 7)).length
def cSum (L : List Ln) (a b : Nat) : Nat := (((L.drop a).take (b - a)).map callsOf).sum
theorem cSum_self (L : List Ln) (a : Nat) : cSum L a a = 0 := by simp [cSum]
theorem cSum_succ (L : List Ln) (a b : Nat) (h : a ≤ b) (hb : b < L.length) : cSum L a (b + 1) = cSum L a b + callsOf L[b] := by
  unfold cSum
  rw [show b + 1 - a = (b - a) + 1 by omega, List.take_succ_eq_append_getElem (by simp; omega), List.map_append, List.sum_append]
  simp [show a + (b - a) = b by omega]
theorem ccT_all (e : List Tk) : ccT e 0 e.length = (e.filter fun t => decide (t.1 = 7)).length := by
  unfold ccT; rw [List.drop_zero, Nat.sub_zero, List.take_length]
/-- Blocks of the maps. -/
structure MC (wM : World) (gc zb ob fb : Nat) : Prop where
  z : zb ≠ gc
  o : ob ≠ gc
  f : fb ≠ gc
  zo : zb ≠ ob
  zf : zb ≠ fb
  of : ob ≠ fb
  mz : wM.heap.size ≤ zb
  mo : wM.heap.size ≤ ob
  mf : wM.heap.size ≤ fb
/-- The state of a walk over lines. -/
structure LSt (wM w : World) (B gc : Nat) (pr : Prm) (ib : Option Nat) (zb ob fb m : Nat) (I : List It) (ib' : Option Nat) : Prop where
  c : CSt w B gc pr I ib'
  ev : Ev gc ib wM ib' w
  z : MapP w zb m I.length
  o : MapP w ob m I.length
  f : MapP w fb m (I.length + 1)
  nz : ib' ≠ some zb
  no : ib' ≠ some ob
  nf : ib' ≠ some fb
section
variable {wM w w' : World} {B gc zb ob fb m : Nat} {pr : Prm} {ib ib1 ib2 : Option Nat} {I J : List It}
theorem LSt.step (h : LSt wM w B gc pr ib zb ob fb m I ib1) (mc : MC wM gc zb ob fb) (hc : CSt w' B gc pr J ib2) (hv : Ev gc ib1 w ib2 w') (hl : I.length ≤ J.length) : LSt wM w' B gc pr ib zb ob fb m J ib2 :=
  ⟨hc, h.ev.trans hv, (h.z.ev hv mc.z h.nz).mono (Nat.le_refl _) hl, (h.o.ev hv mc.o h.no).mono (Nat.le_refl _) hl, (h.f.ev hv mc.f h.nf).mono (Nat.le_refl _) (by omega), hv.ne h.z.lt h.nz, hv.ne h.o.lt h.no, hv.ne h.f.lt h.nf⟩
theorem LSt.below (h : LSt wM w B gc pr ib zb ob fb m I ib1) (mc : MC wM gc zb ob fb) (hb : Below w.heap.size w w') : LSt wM w' B gc pr ib zb ob fb m I ib1 :=
  h.step mc (h.c.kept hb) (Ev.of_below hb _ _) (Nat.le_refl _)
theorem CSt.grownM {b : Nat} (h : CSt w B gc pr I ib) (hg : w.grownBy w' (some b)) (h1 : b ≠ gc) (h2 : ib ≠ some b) : CSt w' B gc pr I ib := by
  obtain ⟨q1, q2, m, d, Ai, ci, vn, h3, h4, h5⟩ := h
  exact ⟨q1, q2, m, d, Ai, ci, vn, h3.grown hg (by simpa using fun e => h1 e.symm), own_grown h4 hg (fun g e e' => h2 (by rw [← h5, e, e'])), h5⟩
theorem Ev.grownM {b : Nat} (h : Ev gc ib wM ib1 w) (hg : w.grownBy w' (some b)) (hb : wM.heap.size ≤ b) : Ev gc ib wM ib1 w' :=
  ⟨hg.os.trans h.os, hg.tape.trans h.tape, hg.output.trans h.output, Nat.le_trans h.size hg.size, fun c hc h1 h2 => (hg.block c (Nat.lt_of_lt_of_le hc h.size) (by simp; omega)).trans (h.block c hc h1 h2), h.row⟩
theorem LSt.putZ (h : LSt wM w B gc pr ib zb ob fb m I ib1) (mc : MC wM gc zb ob fb) (hg : w.grownBy w' (some zb)) (hm : MapP w' zb (m + 1) I.length) : LSt wM w' B gc pr ib zb ob fb (m + 1) I ib1 :=
  ⟨h.c.grownM hg mc.z h.nz, h.ev.grownM hg mc.mz, hm, (h.o.kept hg (by simpa using fun e => mc.zo e.symm)).mono (by omega) (Nat.le_refl _), (h.f.kept hg (by simpa using fun e => mc.zf e.symm)).mono (by omega) (Nat.le_refl _), h.nz, h.no, h.nf⟩
theorem LSt.putO (h : LSt wM w B gc pr ib zb ob fb m I ib1) (mc : MC wM gc zb ob fb) (hg : w.grownBy w' (some ob)) (hm : MapP w' ob (m + 1) I.length) : LSt wM w' B gc pr ib zb ob fb (m + 1) I ib1 :=
  ⟨h.c.grownM hg mc.o h.no, h.ev.grownM hg mc.mo, (h.z.kept hg (by simpa using mc.zo)).mono (by omega) (Nat.le_refl _), hm, (h.f.kept hg (by simpa using fun e => mc.of e.symm)).mono (by omega) (Nat.le_refl _), h.nz, h.no, h.nf⟩
theorem LSt.putF (h : LSt wM w B gc pr ib zb ob fb m I ib1) (mc : MC wM gc zb ob fb) (hg : w.grownBy w' (some fb)) (hm : MapP w' fb (m + 1) (I.length + 1)) : LSt wM w' B gc pr ib zb ob fb (m + 1) I ib1 :=
  ⟨h.c.grownM hg mc.f h.nf, h.ev.grownM hg mc.mf, (h.z.kept hg (by simpa using mc.zf)).mono (by omega) (Nat.le_refl _), (h.o.kept hg (by simpa using mc.of)).mono (by omega) (Nat.le_refl _), hm, h.nz, h.no, h.nf⟩
theorem LSt.mono {m' : Nat} (h : LSt wM w B gc pr ib zb ob fb m I ib1) (hm : m ≤ m') : LSt wM w B gc pr ib zb ob fb m' I ib1 :=
  ⟨h.c, h.ev, h.z.mono hm (Nat.le_refl _), h.o.mono hm (Nat.le_refl _), h.f.mono hm (Nat.le_refl _), h.nz, h.no, h.nf⟩
theorem LSt.putZ2 {w1 : World} {y : It} (h : LSt wM w B gc pr ib zb ob fb m I ib1) (mc : MC wM gc zb ob fb) (hg : w.grownBy w1 (some zb)) (hm : MapP w1 zb (m + 1) (I.length + 1)) (hc : CSt w' B gc pr (I ++ [y]) ib2) (hv : Ev gc ib1 w1 ib2 w') : LSt wM w' B gc pr ib zb ob fb (m + 1) (I ++ [y]) ib2 := by
  have e : (I ++ [y]).length = I.length + 1 := by simp
  have ho := h.o.kept hg (by simpa using fun e => mc.zo e.symm)
  have hf := h.f.kept hg (by simpa using fun e => mc.zf e.symm)
  exact ⟨hc, (h.ev.grownM hg mc.mz).trans hv, (hm.ev hv mc.z h.nz).mono (Nat.le_refl _) (by omega), (ho.ev hv mc.o h.no).mono (by omega) (by omega), (hf.ev hv mc.f h.nf).mono (by omega) (by omega), hv.ne hm.lt h.nz, hv.ne ho.lt h.no, hv.ne hf.lt h.nf⟩
theorem LSt.putO2 {w1 : World} {y : It} (h : LSt wM w B gc pr ib zb ob fb m I ib1) (mc : MC wM gc zb ob fb) (hg : w.grownBy w1 (some ob)) (hm : MapP w1 ob (m + 1) (I.length + 1)) (hc : CSt w' B gc pr (I ++ [y]) ib2) (hv : Ev gc ib1 w1 ib2 w') : LSt wM w' B gc pr ib zb ob fb (m + 1) (I ++ [y]) ib2 := by
  have e : (I ++ [y]).length = I.length + 1 := by simp
  have hz := h.z.kept hg (by simpa using mc.zo)
  have hf := h.f.kept hg (by simpa using fun e => mc.of e.symm)
  exact ⟨hc, (h.ev.grownM hg mc.mo).trans hv, (hz.ev hv mc.z h.nz).mono (by omega) (by omega), (hm.ev hv mc.o h.no).mono (Nat.le_refl _) (by omega), (hf.ev hv mc.f h.nf).mono (by omega) (by omega), hv.ne hz.lt h.nz, hv.ne hm.lt h.no, hv.ne hf.lt h.nf⟩
theorem LSt.delZ (h : LSt wM w B gc pr ib zb ob fb m I ib1) (mc : MC wM gc zb ob fb) (hg : w.grownBy w' (some zb)) (hm : MapP w' zb m I.length) : LSt wM w' B gc pr ib zb ob fb m I ib1 :=
  ⟨h.c.grownM hg mc.z h.nz, h.ev.grownM hg mc.mz, hm, h.o.kept hg (by simpa using fun e => mc.zo e.symm), h.f.kept hg (by simpa using fun e => mc.zf e.symm), h.nz, h.no, h.nf⟩
theorem CSt.most (h : CSt w B gc pr I ib) (d : Int) : CSt (w.setCell ⟨gc, 7, none⟩ (.int .i64 d)) B gc pr I ib ∧ Ev gc ib w ib (w.setCell ⟨gc, 7, none⟩ (.int .i64 d)) := by
  obtain ⟨h1, h2, m, d0, Ai, ci, vn, h3, h4, h5⟩ := h
  refine ⟨⟨h1, h2, d, d0, Ai, ci, vn, ?_, own_setFar h4 (fun b hb e => h2 (by rw [← h5, hb]; exact congrArg some e)) _, h5⟩, Ev.of_cell (only_setCell (p := ⟨gc, 7, none⟩) (World.grownBy.refl w (some gc)) (Or.inl rfl) _) _⟩
  have := h3.set_ 7 (.int .i64 d)
  simpa using this
theorem CSt.depth (h : CSt w B gc pr I ib) (d : Int) : CSt (w.setCell ⟨gc, 9, none⟩ (.int .i64 d)) B gc pr I ib ∧ Ev gc ib w ib (w.setCell ⟨gc, 9, none⟩ (.int .i64 d)) := by
  obtain ⟨h1, h2, m, d0, Ai, ci, vn, h3, h4, h5⟩ := h
  refine ⟨⟨h1, h2, m, d, Ai, ci, vn, ?_, own_setFar h4 (fun b hb e => h2 (by rw [← h5, hb]; exact congrArg some e)) _, h5⟩, Ev.of_cell (only_setCell (p := ⟨gc, 9, none⟩) (World.grownBy.refl w (some gc)) (Or.inl rfl) _) _⟩
  have := h3.set_ 9 (.int .i64 d)
  simpa using this
end
theorem one_lnk {Q : It → Prop} {w w' : World} {B gc tb : Nat} {t : TypeId} {a b c d : Value} {pr : Prm} {I : List It} {ib : Option Nat} (hk : Blk w tb t #[a, b, c, d]) (h1 : tb ≠ gc) (h2 : ib ≠ some tb) (h : ∃ (x : It) (ib' : Option Nat), Q x ∧ CSt w' B gc pr (I ++ [x]) ib' ∧ Ev gc ib w ib' w') : w'.cell? ⟨tb, 1, none⟩ = some b := by
  obtain ⟨x, ib', _, _, hv⟩ := h
  have := (hv.blk hk h1 h2).cell 1
  simpa using this
end Go.Proofs.Ytcfjbaanahgpoaa
