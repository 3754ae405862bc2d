import Derived.Test.YtcfjbaanahgpoaaCnR
namespace Go.Proofs.Ytcfjbaanahgpoaa
open Go Go.RowKit Go.Maps
set_option maxRecDepth 100000
set_option linter.unusedVariables false
set_option linter.unusedSimpArgs false
/-- The end of a function that is compiled by itself. -/
def EndF (nc : Nat) (I I' : List It) : Prop := nc = 0 → ∃ x y : It, I' = (I ++ [x]) ++ [y] ∧ x.code ≠ 10 ∧ x.code ≠ 11 ∧ y.code ≠ 10 ∧ y.code ≠ 11
set_option maxHeartbeats 4000000 in
theorem i_end (w0 w : World) (gc gs : Nat) (ib : List Nat) (pr : Prm) (I : List It) (s : Scd) (i : Int) (k zb ob fb mz mo mf : Nat) (L : List Ln) (h : CSt w w0.heap.size gc pr I ib) (hs : ScP w gc ib gs s) (hln : 0 ≤ i ∧ i < (pr.n : Int)) (hni : (s.nc : Int) ≤ pr.inl) (hI : 1 ≤ I.length ∧ I.length ≤ 999999999994) (hB : Below w0.heap.size w0 w) (hR : InLines w0 pr.A pr.n L) (hpn : pr.n ≤ 1000) (hk : k < pr.n)
    (hz : MapP w zb mz I.length) (ho : MapP w ob mo I.length) (hf : MapP w fb mf (I.length + 1)) (hzb : zb ≠ gc ∧ zb ∉ ib) (hob : ob ≠ gc ∧ ob ∉ ib) :
    Calls Try.prog 93 #[.pointer (some ⟨gc, 0, none⟩), .pointer (some ⟨gs, 0, none⟩), .int .i64 i, .int .i64 k, .map (some zb), .map (some ob), .map (some fb)] w fun e w' => e = .returned (.tuple #[]) ∧ ∃ I', Gro pr.n pr.inl I I' 2 ∧ Step w w0.heap.size gc pr ib I' w' ∧ ((lnAtD L k).1 = 0 → EndF s.nc I I') := by
  have HC := hide h
  have HS := hide hs
  have HR := hide (hR.below hB)
  have HLN := hide hR.len
  have HZ := hide hz
  have HO := hide ho
  have HF := hide hf
  have HLI := hide hln
  have HNI := hide hni
  have hBs := hB.size
  have hkl : k < L.length := by rw [HLN.out]; exact hk
  obtain ⟨_, _, _, most, depth, Ai, ci, An, cn, ns, _, hkk, _, _, _, _⟩ := h
  have k0 := hkk.cell 0
  simp at k0
  obtain ⟨b, o, A1, c1, A2, c2, hA', _, p0, _⟩ := HR.out.ln k hkl
  have HKEY : Hid (keyOf Try.prog 3 (.int .i64 (k : Int)) = some (Lit.int .i64 (k : Int))) := keyOf_int_mk Try.underlying3 (WalkArith.wf_i64 (by omega))
  have hkn : (k : Int) < pr.n := by omega
  have hk0 : (0 : Int) ≤ (k : Int) := by omega
  rw [hA'] at k0
  have hlk := lnAtD_of L k hkl
  rw [hlk]
  clear hkk hs hz ho hf hln hni hlk
  generalize L[k].1 = kd at *
  by_cases h0 : kd = 0
  · subst h0
    by_cases hnc : s.nc = 0
    · have HNC := hide hnc
      clear hnc
      go_enter Try.func93, Try.ntmps93
      go_wp2_with fail
      refine (i_addS _ _ gc gs _ pr _ s _ _ _ _ HC.out HS.out (by omega) hBs).mono ?_
      rintro e w1 ⟨rfl, x, ib1, ⟨h1, h2, h3, h4, h5⟩, hc1, hv1⟩
      have C1 := hide hc1
      have V1 := hide hv1
      have GX : Hid (Gro pr.n pr.inl I (I ++ [x]) 1) := Gro.one (by rw [h3]; exact HLI.out) (by rw [h5]; exact HNI.out) (fun e => by omega)
      have HX1 := hide h1
      clear hc1 hv1 h1 h2 h3 h4 h5
      go_wp2_with fail
      refine (i_leave0 _ _ gc gs _ pr _ s _ true C1.out (HS.out.ev V1.out) HNC.out (by simp; omega) (Nat.le_trans hBs V1.out.size)).mono ?_
      rintro e w2 ⟨rfl, y, ib2, hy, hc2, hv2⟩
      have C2 := hide hc2
      have V2 := hide hv2
      have HY := hide hy
      clear hc2 hv2 hy
      go_wp2_with fail
      first | go_end0 | ((try simp only [Exit.inBlock, Exit.then]); refine bodyPost_ret (results_none rfl _ _ _) rfl ?_)
      exact ⟨rfl, _, (GX.out.trans (Gro.plain HY.out HLI.out HNI.out)).mono (by omega), ⟨ib2, C2.out, V1.out.trans V2.out⟩, fun _ _ => ⟨x, y, rfl, by have := HX1.out; omega, by have := HX1.out; omega, HY.out.2.2.2.1, HY.out.2.2.2.2.1⟩⟩
    · have hnc' : 0 < s.nc := by omega
      have HNC := hide hnc
      go_enter Try.func93, Try.ntmps93
      go_wp2_with fail
      refine (i_addS _ _ gc gs _ pr _ s _ _ _ _ HC.out HS.out (by omega) hBs).mono ?_
      rintro e w1 ⟨rfl, x, ib1, ⟨h1, h2, h3, h4, h5⟩, hc1, hv1⟩
      have C1 := hide hc1
      have V1 := hide hv1
      have GX : Hid (Gro pr.n pr.inl I (I ++ [x]) 1) := Gro.one (by rw [h3]; exact HLI.out) (by rw [h5]; exact HNI.out) (fun e => by omega)
      clear hc1 hv1 h1 h2 h3 h4 h5
      go_wp2_with fail
      refine (i_leaveE _ gc gs _ s _ (HS.out.ev V1.out) hnc').mono ?_
      rintro e w2 ⟨rfl, hb2⟩
      have B2 := hide hb2
      clear hb2
      go_wp2_with fail
      first | go_end0 | ((try simp only [Exit.inBlock, Exit.then]); refine bodyPost_ret (results_none rfl _ _ _) rfl ?_)
      exact ⟨rfl, _, GX.out.mono (by omega), ⟨ib1, C1.out.kept B2.out, V1.out.trans (Ev.of_below B2.out _ _)⟩, fun _ h => absurd h HNC.out⟩
  · by_cases h5 : kd = 5
    · subst h5
      obtain ⟨DF, hownf, hatf⟩ := HF.out
      have HOF := hide hownf
      have HAF := hide hatf
      clear hownf hatf
      go_enter Try.func93, Try.ntmps93
      go_wp2_with (first | (at_lookup; refine wpList_lookup_own_int _ rfl _ _ 121 rfl 3 3 .i64 keyInt Try.underlying121 Try.underlying3 (zeroInt _) fb mf DF rfl HOF.out _ (.int .i64 (k : Int)) rfl HKEY.out ?_) | fail)
      intro cf hatcf _
      go_wp2_with fail
      refine (i_addS _ _ gc gs _ pr _ s _ _ _ _ HC.out HS.out (by omega) hBs).mono ?_
      rintro e w1 ⟨rfl, x, ib1, ⟨h1, h2, h3, h4, h5⟩, hc1, hv1⟩
      have C1 := hide hc1
      have V1 := hide hv1
      have G1 : Hid (Gro pr.n pr.inl I (I ++ [x]) 1) := Gro.one (by rw [h3]; exact HLI.out) (by rw [h5]; exact HNI.out) (fun _ => by
        obtain ⟨cf', e1, e2, e3⟩ := HAF.out (.int .i64 (k : Int))
        rw [hatcf] at e1
        injection e1 with e1
        injection e1 with _ e1
        subst e1
        rw [h2]; omega)
      clear hc1 hv1 hatcf h1 h2 h3 h4 h5
      have Zb := hide (HZ.out.ev V1.out hzb.1 hzb.2)
      have OOb := hide (HO.out.ev V1.out hob.1 hob.2)
      obtain ⟨DZ, hownz, hatz⟩ := Zb.out
      obtain ⟨DO, howno, hato⟩ := OOb.out
      have HOZ := hide hownz
      have HOO := hide howno
      have HAZ := hide hatz
      have HAO := hide hato
      clear hownz howno hatz hato
      go_wp2_with (first | (at_lookup; refine wpList_lookup_own_ok_int _ rfl _ _ 121 rfl 3 3 .i64 keyInt Try.underlying121 Try.underlying3 (zeroInt _) zb mz DZ rfl HOZ.out _ (.int .i64 (k : Int)) rfl HKEY.out ?_) | fail)
      intro cz hatcz _
      obtain ⟨cz', e1, e2, e3⟩ := HAZ.out (.int .i64 (k : Int))
      rw [hatcz] at e1
      injection e1 with e1
      injection e1 with _ e1
      subst e1
      obtain ⟨jz, rfl⟩ := Int.eq_ofNat_of_zero_le e2
      have hjz : jz < I.length := by omega
      clear hatcz e2 e3
      generalize Maps.has DZ (.int .i64 (k : Int)) = bz
      go_upto_if 51 with fail
      go_cut [16] from 51 to 64 (fun s16 wx => ∃ I1, Gro pr.n pr.inl I I1 1 ∧ I.length ≤ I1.length ∧ ∃ ib1, CSt wx w0.heap.size gc pr I1 ib1 ∧ Ev gc ib w ib1 wx)
      case first =>
        cases bz
        · go_wp2_with fail
          go_meet
          exact ⟨_, G1.out, by simp, _, C1.out, V1.out⟩
        · have hjl : jz < (I ++ [x]).length := by simp; omega
          obtain ⟨g, hgi, hgg, cc, fc, ⟨cj, k8⟩, PT0⟩ := C1.out.item (j := jz) (i := 1) hjl (by omega)
          have hcc : ∃ vv, (itC (I ++ [x])[jz])[1]? = some vv := ⟨_, rfl⟩
          obtain ⟨vv, hvv⟩ := hcc
          rw [hvv] at cc
          have hjzi : (jz : Int) < ((I ++ [x]).length : Nat) := by omega
          have hjz0 : (0 : Int) ≤ (jz : Int) := by omega
          have PT := hide (PT0 (.int .i64 ((I ++ [x]).length : Nat)) { (I ++ [x])[jz] with arg := ((I ++ [x]).length : Nat) } rfl)
          obtain ⟨NL, hNL⟩ : ∃ NL, NL = (I ++ [x]).length := ⟨_, rfl⟩
          rw [← hNL] at k8 hjzi PT
          have GS : Hid (Gro pr.n pr.inl (I ++ [x]) ((I ++ [x]).set jz { (I ++ [x])[jz] with arg := (NL : Nat) }) 0) := Gro.arg hjl (Nat.le_of_eq hNL)
          have K8 : Hid (∀ u, (w1.drew.setCell ⟨g, jz * 7 + 1, none⟩ u).cell? ⟨gc, 8, none⟩ = some (.slice (some ⟨g, 0, none⟩) NL cj)) := fun u => (World.cell?_setCell_other _ _ _ _ (fun e => hgg (congrArg Addr.block e))).trans k8
          clear hNL hvv PT0
          go_wp2_with fail
          go_region_held3 (fun w' => w'.cell? ⟨gc, 8, none⟩ = some (.slice (some ⟨g, 0, none⟩) NL cj)) (first | exact k8 | exact K8.out _) (fail)
          all_goals
            go_wp2_with fail
          all_goals
            go_meet
            exact ⟨_, (G1.out).trans GS.out, by rw [List.length_set]; exact by simp, _, PT.out.1.kept (Below.refl _ _).drew, V1.out.trans (PT.out.2.trans (Ev.of_below (Below.refl _ _).drew _ _))⟩
      case rest =>
        obtain ⟨I1, hg1, hl1, ib1, hc1, hv1⟩ := hcut
        have CC := hide hc1
        have VV := hide hv1
        have GG := hide hg1
        have O3 := hide (HO.out.ev hv1 hob.1 hob.2)
        obtain ⟨DP, hownp, hatp⟩ := O3.out
        have HOP := hide hownp
        have HAP := hide hatp
        clear hc1 hv1 hg1 hownp hatp
        go_wp2_with (first | (at_lookup; refine wpList_lookup_own_ok_int _ rfl _ _ 121 rfl 3 3 .i64 keyInt Try.underlying121 Try.underlying3 (zeroInt _) ob mo DP rfl HOP.out _ (.int .i64 (k : Int)) rfl HKEY.out ?_) | fail)
        intro co hatco _
        obtain ⟨co', e1, e2, e3⟩ := HAP.out (.int .i64 (k : Int))
        rw [hatco] at e1
        injection e1 with e1
        injection e1 with _ e1
        subst e1
        obtain ⟨jo, rfl⟩ := Int.eq_ofNat_of_zero_le e2
        have hjl : jo < I1.length := by omega
        clear hatco e2 e3
        generalize Maps.has DP (.int .i64 (k : Int)) = bo
        cases bo
        · go_wp2_with fail
          go_end0
          exact ⟨rfl, I1, GG.out.mono (by omega), ⟨ib1, CC.out, VV.out⟩⟩
        · obtain ⟨g, hgi, hgg, cc, fc, ⟨cj, k8⟩, PT0⟩ := CC.out.item (j := jo) (i := 1) hjl (by omega)
          have hcc : ∃ vv, (itC I1[jo])[1]? = some vv := ⟨_, rfl⟩
          obtain ⟨vv, hvv⟩ := hcc
          rw [hvv] at cc
          have hjzi : (jo : Int) < (I1.length : Nat) := by omega
          have hjz0 : (0 : Int) ≤ (jo : Int) := by omega
          have PT := hide (PT0 (.int .i64 (I1.length : Nat)) { I1[jo] with arg := (I1.length : Nat) } rfl)
          obtain ⟨NL, hNL⟩ : ∃ NL, NL = I1.length := ⟨_, rfl⟩
          rw [← hNL] at k8 hjzi PT
          have GS : Hid (Gro pr.n pr.inl I1 (I1.set jo { I1[jo] with arg := (NL : Nat) }) 0) := Gro.arg hjl (Nat.le_of_eq hNL)
          have K8 : Hid (∀ u, (wc.drew.setCell ⟨g, jo * 7 + 1, none⟩ u).cell? ⟨gc, 8, none⟩ = some (.slice (some ⟨g, 0, none⟩) NL cj)) := fun u => (World.cell?_setCell_other _ _ _ _ (fun e => hgg (congrArg Addr.block e))).trans k8
          clear hNL hvv PT0
          go_wp2_with fail
          go_region_held3 (fun w' => w'.cell? ⟨gc, 8, none⟩ = some (.slice (some ⟨g, 0, none⟩) NL cj)) (first | exact k8 | exact K8.out _) (fail)
          all_goals
            go_wp2_with fail
          all_goals
            go_end0
            exact ⟨rfl, _, (GG.out.trans GS.out).mono (by omega), ⟨_, PT.out.1.kept (Below.refl _ _).drew, VV.out.trans (PT.out.2.trans (Ev.of_below (Below.refl _ _).drew _ _))⟩, fun e0 => absurd e0 (by decide)⟩
    · have z0 : (kd == 0) = false := by simpa using h0
      have z5 : (kd == 5) = false := by simpa using h5
      have V0 := hide (Ev.refl gc ib w)
      have K0 := hide h0
      clear h0 h5
      go_enter Try.func93, Try.ntmps93
      have Za := hide (HZ.out.ev V0.out hzb.1 hzb.2)
      have OOa := hide (HO.out.ev V0.out hob.1 hob.2)
      obtain ⟨DZ, hownz, hatz⟩ := Za.out
      obtain ⟨DO, howno, hato⟩ := OOa.out
      have HOZ := hide hownz
      have HOO := hide howno
      have HAZ := hide hatz
      have HAO := hide hato
      clear hownz howno hatz hato
      go_wp2_with (first | (at_lookup; refine wpList_lookup_own_ok_int _ rfl _ _ 121 rfl 3 3 .i64 keyInt Try.underlying121 Try.underlying3 (zeroInt _) zb mz DZ rfl HOZ.out _ (.int .i64 (k : Int)) rfl HKEY.out ?_) | fail)
      intro cz hatcz _
      obtain ⟨cz', e1, e2, e3⟩ := HAZ.out (.int .i64 (k : Int))
      rw [hatcz] at e1
      injection e1 with e1
      injection e1 with _ e1
      subst e1
      obtain ⟨jz, rfl⟩ := Int.eq_ofNat_of_zero_le e2
      have hjz : jz < I.length := by omega
      clear hatcz e2 e3
      generalize Maps.has DZ (.int .i64 (k : Int)) = bz
      go_upto_if 51 with fail
      go_cut [16] from 51 to 64 (fun s16 wx => ∃ I1, Gro pr.n pr.inl I I1 1 ∧ I.length ≤ I1.length ∧ ∃ ib1, CSt wx w0.heap.size gc pr I1 ib1 ∧ Ev gc ib w ib1 wx)
      case first =>
        cases bz
        · go_wp2_with fail
          go_meet
          exact ⟨_, (Gro.refl pr.n pr.inl I).mono (Nat.zero_le 1), Nat.le_refl _, _, HC.out, V0.out⟩
        · have hjl : jz < (I).length := hjz
          obtain ⟨g, hgi, hgg, cc, fc, ⟨cj, k8⟩, PT0⟩ := HC.out.item (j := jz) (i := 1) hjl (by omega)
          have hcc : ∃ vv, (itC (I)[jz])[1]? = some vv := ⟨_, rfl⟩
          obtain ⟨vv, hvv⟩ := hcc
          rw [hvv] at cc
          have hjzi : (jz : Int) < ((I).length : Nat) := by omega
          have hjz0 : (0 : Int) ≤ (jz : Int) := by omega
          have PT := hide (PT0 (.int .i64 ((I).length : Nat)) { (I)[jz] with arg := ((I).length : Nat) } rfl)
          obtain ⟨NL, hNL⟩ : ∃ NL, NL = (I).length := ⟨_, rfl⟩
          rw [← hNL] at k8 hjzi PT
          have GS : Hid (Gro pr.n pr.inl (I) ((I).set jz { (I)[jz] with arg := (NL : Nat) }) 0) := Gro.arg hjl (Nat.le_of_eq hNL)
          have K8 : Hid (∀ u, (w.drew.setCell ⟨g, jz * 7 + 1, none⟩ u).cell? ⟨gc, 8, none⟩ = some (.slice (some ⟨g, 0, none⟩) NL cj)) := fun u => (World.cell?_setCell_other _ _ _ _ (fun e => hgg (congrArg Addr.block e))).trans k8
          clear hNL hvv PT0
          go_wp2_with fail
          go_region_held3 (fun w' => w'.cell? ⟨gc, 8, none⟩ = some (.slice (some ⟨g, 0, none⟩) NL cj)) (first | exact k8 | exact K8.out _) (fail)
          all_goals
            go_wp2_with fail
          all_goals
            go_meet
            exact ⟨_, ((Gro.refl pr.n pr.inl I).mono (Nat.zero_le 1)).trans GS.out, by rw [List.length_set]; exact Nat.le_refl _, _, PT.out.1.kept (Below.refl _ _).drew, V0.out.trans (PT.out.2.trans (Ev.of_below (Below.refl _ _).drew _ _))⟩
      case rest =>
        obtain ⟨I1, hg1, hl1, ib1, hc1, hv1⟩ := hcut
        have CC := hide hc1
        have VV := hide hv1
        have GG := hide hg1
        have O3 := hide (HO.out.ev hv1 hob.1 hob.2)
        obtain ⟨DP, hownp, hatp⟩ := O3.out
        have HOP := hide hownp
        have HAP := hide hatp
        clear hc1 hv1 hg1 hownp hatp
        go_wp2_with (first | (at_lookup; refine wpList_lookup_own_ok_int _ rfl _ _ 121 rfl 3 3 .i64 keyInt Try.underlying121 Try.underlying3 (zeroInt _) ob mo DP rfl HOP.out _ (.int .i64 (k : Int)) rfl HKEY.out ?_) | fail)
        intro co hatco _
        obtain ⟨co', e1, e2, e3⟩ := HAP.out (.int .i64 (k : Int))
        rw [hatco] at e1
        injection e1 with e1
        injection e1 with _ e1
        subst e1
        obtain ⟨jo, rfl⟩ := Int.eq_ofNat_of_zero_le e2
        have hjl : jo < I1.length := by omega
        clear hatco e2 e3
        generalize Maps.has DP (.int .i64 (k : Int)) = bo
        cases bo
        · go_wp2_with fail
          go_end0
          exact ⟨rfl, I1, GG.out.mono (by omega), ⟨ib1, CC.out, VV.out⟩, fun e0 => absurd e0 K0.out⟩
        · obtain ⟨g, hgi, hgg, cc, fc, ⟨cj, k8⟩, PT0⟩ := CC.out.item (j := jo) (i := 1) hjl (by omega)
          have hcc : ∃ vv, (itC I1[jo])[1]? = some vv := ⟨_, rfl⟩
          obtain ⟨vv, hvv⟩ := hcc
          rw [hvv] at cc
          have hjzi : (jo : Int) < (I1.length : Nat) := by omega
          have hjz0 : (0 : Int) ≤ (jo : Int) := by omega
          have PT := hide (PT0 (.int .i64 (I1.length : Nat)) { I1[jo] with arg := (I1.length : Nat) } rfl)
          obtain ⟨NL, hNL⟩ : ∃ NL, NL = I1.length := ⟨_, rfl⟩
          rw [← hNL] at k8 hjzi PT
          have GS : Hid (Gro pr.n pr.inl I1 (I1.set jo { I1[jo] with arg := (NL : Nat) }) 0) := Gro.arg hjl (Nat.le_of_eq hNL)
          have K8 : Hid (∀ u, (wc.drew.setCell ⟨g, jo * 7 + 1, none⟩ u).cell? ⟨gc, 8, none⟩ = some (.slice (some ⟨g, 0, none⟩) NL cj)) := fun u => (World.cell?_setCell_other _ _ _ _ (fun e => hgg (congrArg Addr.block e))).trans k8
          clear hNL hvv PT0
          go_wp2_with fail
          go_region_held3 (fun w' => w'.cell? ⟨gc, 8, none⟩ = some (.slice (some ⟨g, 0, none⟩) NL cj)) (first | exact k8 | exact K8.out _) (fail)
          all_goals
            go_wp2_with fail
          all_goals
            go_end0
            exact ⟨rfl, _, (GG.out.trans GS.out).mono (by omega), ⟨_, PT.out.1.kept (Below.refl _ _).drew, VV.out.trans (PT.out.2.trans (Ev.of_below (Below.refl _ _).drew _ _))⟩, fun e0 => absurd e0 K0.out⟩
end Go.Proofs.Ytcfjbaanahgpoaa
namespace Go.Proofs.Ytcfjbaanahgpoaa
open Go Go.RowKit Go.Maps
set_option maxRecDepth 100000
set_option linter.unusedVariables false
set_option linter.unusedSimpArgs false
/-- Blocks of the maps. -/
structure MC (wM : World) (gc zb ob fb : Nat) : Prop where
  z : zb ≠ gc
  o : ob ≠ gc
  f : fb ≠ gc
  zo : zb ≠ ob
  zf : zb ≠ fb
  of : ob ≠ fb
  mz : wM.heap.size ≤ zb
  mo : wM.heap.size ≤ ob
  mf : wM.heap.size ≤ fb
/-- What may turn of a scope: its block and its row of jumps. -/
structure JP (w : World) (B gc : Nat) (ib : List Nat) (gs : Nat) (s : Scd) (jb : List Nat) (J : List Int) (N : Nat) : Prop where
  k : Blk w gs 114 #[.int .i64 s.fu, .int .i64 s.en, .slice s.Al s.nl s.cl, .int .i64 s.ar, .int .i64 s.fi, .slice s.Ac s.nc s.cc, .int .i64 s.ba, s.vj]
  ne : gs ≠ gc
  ni : gs ∉ jb ++ ib
  sl : ∃ Aj cj, s.vj = .slice Aj J.length cj
  ow : w.ownsRow B 3 1 s.vj J.length (intCells J)
  ob : s.vj.ownBlock.toList = jb
  jd : ∀ b ∈ jb, b ≠ gc ∧ b ∉ ib
  jn : ∀ j ∈ J, 0 ≤ j ∧ j < (N : Int)
/-- The rows of a scope that do not turn. -/
structure SR (w : World) (gc : Nat) (R : List Nat) (s : Scd) : Prop where
  l1 : s.nl ≤ 100000
  l2 : s.nc ≤ 100000
  rl : RowG w gc R s.Al s.nl (strCells s.xs)
  rc : RowG w gc R s.Ac s.nc (intCells s.ch)
section
variable {w w' w1 w2 wM : World} {B gc gs N N' m b : Nat} {ib ib' ib1 ib2 jb jb' jb2 R R1 : List Nat} {s t : Scd} {J J2 : List Int} {pr : Prm} {I K : List It} {p : Addr} {vj vj2 : Value} {zb ob fb : Nat}
theorem SR.ev (h : SR w gc R s) (k : Ev gc R w R1 w') : SR w' gc R1 s := ⟨h.l1, h.l2, h.rl.ev k, h.rc.ev k⟩
theorem ScJ.jp (h : ScJ w B gc ib gs s jb J N) : JP w B gc ib gs s jb J N := ⟨h.k, h.ne, h.ni, h.sl, h.ow, h.ob, h.jd, h.jn⟩
theorem ScJ.sr (h : ScJ w B gc ib gs s jb J N) : SR w gc (gs :: (jb ++ ib)) s := ⟨h.l1, h.l2, h.rl, h.rc⟩
theorem JP.scj (h : JP w B gc ib gs s jb J N) (r : SR w gc (gs :: (jb ++ ib)) s) : ScJ w B gc ib gs s jb J N := ⟨h.k, h.ne, h.ni, r.l1, r.l2, r.rl, r.rc, h.sl, h.ow, h.ob, h.jd, h.jn⟩
theorem JP.jlt (h : JP w B gc ib gs s jb J N) : ∀ b ∈ jb, B ≤ b ∧ b < w.heap.size := fun b hb => h.ow.lt b (by rw [← h.ob] at hb; exact Option.mem_toList.1 hb)
theorem JP.ev (h : JP w B gc ib gs s jb J N) (k : Ev gc ib w ib' w') (hN : N ≤ N') : JP w' B gc ib' gs s jb J N' := by
  have hgi : gs ∉ ib := fun e => h.ni (List.mem_append_right _ e)
  have hgj : gs ∉ jb := fun e => h.ni (List.mem_append_left _ e)
  have hj : ∀ b ∈ jb, b < w.heap.size := fun b hb => (h.jlt b hb).2
  exact ⟨k.blk h.k h.ne hgi, h.ne, fun e => (List.mem_append.1 e).elim hgj (k.ne h.k.lt hgi), h.sl,
    own_same h.ow (fun b hb => by
      have hb' : b ∈ jb := by rw [← h.ob]; exact Option.mem_toList.2 hb
      exact k.block b (hj b hb') (h.jd b hb').1 (h.jd b hb').2), h.ob, fun b hb => ⟨(h.jd b hb).1, k.ne (hj b hb) (h.jd b hb).2⟩, fun j hj' => by have := h.jn j hj'; omega⟩
theorem JP.grownM (h : JP w B gc ib gs s jb J N) (hg : w.grownBy w' (some b)) (hb : b ∉ gs :: (jb ++ ib)) : JP w' B gc ib gs s jb J N :=
  ⟨h.k.grown hg (fun e => hb (by injection e with e; rw [← e]; exact List.mem_cons_self)), h.ne, h.ni, h.sl,
    own_grown h.ow hg (fun g e e' => hb (by injection e' with e'; rw [e']; exact List.mem_cons_of_mem _ (List.mem_append_left _ (by rw [← h.ob]; exact Option.mem_toList.2 e)))), h.ob, h.jd, h.jn⟩
theorem CSt.grownM (h : CSt w B gc pr I ib) (hg : w.grownBy w' (some b)) (h1 : b ≠ gc) (h2 : b ∉ gs :: (jb ++ ib)) : CSt w' B gc pr I ib :=
  h.same fun c hc => by
    rcases hc with rfl | hc
    · exact hg.block _ h.lt (by simpa using fun e => h1 e.symm)
    · exact hg.block _ (h.rows c hc).2 (fun e => h2 (by injection e with e; rw [← e]; exact List.mem_cons_of_mem _ (List.mem_append_right _ hc)))
theorem Ev.grownM (h : Ev gc R wM R1 w) (hg : w.grownBy w' (some b)) (hb : wM.heap.size ≤ b) : Ev gc R wM R1 w' :=
  ⟨hg.os.trans h.os, hg.tape.trans h.tape, hg.output.trans h.output, Nat.le_trans h.size hg.size, fun c hc h1 h2 => (hg.block c (Nat.lt_of_lt_of_le hc h.size) (by simp; omega)).trans (h.block c hc h1 h2), h.row⟩
/-- The state of a walk over lines. -/
structure LSt (wM w : World) (B gc : Nat) (pr : Prm) (gs : Nat) (s : Scd) (ib : List Nat) (zb ob fb m : Nat) (I : List It) (ib' jb : List Nat) (J : List Int) (vj : Value) : Prop where
  c : CSt w B gc pr I ib'
  j : JP w B gc ib' gs { s with vj := vj } jb J I.length
  ev : Ev gc (gs :: ib) wM (gs :: (jb ++ ib')) w
  z : MapP w zb m I.length
  o : MapP w ob m I.length
  f : MapP w fb m (I.length + 1)
  nz : zb ∉ gs :: (jb ++ ib')
  no : ob ∉ gs :: (jb ++ ib')
  nf : fb ∉ gs :: (jb ++ ib')
theorem LSt.scj (h : LSt wM w B gc pr gs s ib zb ob fb m I ib1 jb J vj) (r : SR wM gc (gs :: ib) s) : ScJ w B gc ib1 gs { s with vj := vj } jb J I.length := by
  have hr := r.ev h.ev
  exact h.j.scj ⟨hr.l1, hr.l2, hr.rl, hr.rc⟩
theorem LSt.stepJ (h : LSt wM w B gc pr gs s ib zb ob fb m I ib1 jb J vj) (mc : MC wM gc zb ob fb) (hc : CSt w' B gc pr K ib2) (hj : JP w' B gc ib2 gs { s with vj := vj2 } jb2 J2 K.length) (hv : Ev gc (gs :: (jb ++ ib1)) w (gs :: (jb2 ++ ib2)) w') (hl : I.length ≤ K.length) : LSt wM w' B gc pr gs s ib zb ob fb m K ib2 jb2 J2 vj2 :=
  ⟨hc, hj, h.ev.trans hv, (h.z.ev hv mc.z h.nz).mono (Nat.le_refl _) hl, (h.o.ev hv mc.o h.no).mono (Nat.le_refl _) hl, (h.f.ev hv mc.f h.nf).mono (Nat.le_refl _) (by omega), hv.ne h.z.lt h.nz, hv.ne h.o.lt h.no, hv.ne h.f.lt h.nf⟩
theorem LSt.step (h : LSt wM w B gc pr gs s ib zb ob fb m I ib1 jb J vj) (mc : MC wM gc zb ob fb) (hc : CSt w' B gc pr K ib2) (hv : Ev gc ib1 w ib2 w') (hl : I.length ≤ K.length) : LSt wM w' B gc pr gs s ib zb ob fb m K ib2 jb J vj :=
  h.stepJ mc hc (h.j.ev hv hl) hv.big hl
theorem LSt.below (h : LSt wM w B gc pr gs s ib zb ob fb m I ib1 jb J vj) (mc : MC wM gc zb ob fb) (hb : Below w.heap.size w w') : LSt wM w' B gc pr gs s ib zb ob fb m I ib1 jb J vj :=
  h.step mc (h.c.kept hb) (Ev.of_below hb _ _) (Nat.le_refl _)
theorem LSt.mono {m' : Nat} (h : LSt wM w B gc pr gs s ib zb ob fb m I ib1 jb J vj) (hm : m ≤ m') : LSt wM w B gc pr gs s ib zb ob fb m' I ib1 jb J vj :=
  ⟨h.c, h.j, h.ev, h.z.mono hm (Nat.le_refl _), h.o.mono hm (Nat.le_refl _), h.f.mono hm (Nat.le_refl _), h.nz, h.no, h.nf⟩
theorem LSt.putF (h : LSt wM w B gc pr gs s ib zb ob fb m I ib1 jb J vj) (mc : MC wM gc zb ob fb) (hg : w.grownBy w' (some fb)) (hm : MapP w' fb (m + 1) (I.length + 1)) : LSt wM w' B gc pr gs s ib zb ob fb (m + 1) I ib1 jb J vj :=
  ⟨h.c.grownM hg mc.f h.nf, h.j.grownM hg h.nf, h.ev.grownM hg mc.mf, (h.z.kept hg (by simpa using mc.zf)).mono (by omega) (Nat.le_refl _), (h.o.kept hg (by simpa using mc.of)).mono (by omega) (Nat.le_refl _), hm, h.nz, h.no, h.nf⟩
theorem LSt.putZ2 {y : It} (h : LSt wM w B gc pr gs s ib zb ob fb m I ib1 jb J vj) (mc : MC wM gc zb ob fb) (hg : w.grownBy w1 (some zb)) (hm : MapP w1 zb (m + 1) (I.length + 1)) (hc : CSt w' B gc pr (I ++ [y]) ib2) (hv : Ev gc ib1 w1 ib2 w') : LSt wM w' B gc pr gs s ib zb ob fb (m + 1) (I ++ [y]) ib2 jb J vj := by
  have e : (I ++ [y]).length = I.length + 1 := by simp
  have ho := h.o.kept hg (by simpa using fun e => mc.zo e.symm)
  have hf := h.f.kept hg (by simpa using fun e => mc.zf e.symm)
  have hb := hv.big (gs := gs) (jb := jb)
  exact ⟨hc, (h.j.grownM hg h.nz).ev hv (by omega), (h.ev.grownM hg mc.mz).trans hb, (hm.ev hb mc.z h.nz).mono (Nat.le_refl _) (by omega), (ho.ev hb mc.o h.no).mono (by omega) (by omega), (hf.ev hb mc.f h.nf).mono (by omega) (by omega), hb.ne hm.lt h.nz, hb.ne ho.lt h.no, hb.ne hf.lt h.nf⟩
theorem LSt.putO2 {y : It} (h : LSt wM w B gc pr gs s ib zb ob fb m I ib1 jb J vj) (mc : MC wM gc zb ob fb) (hg : w.grownBy w1 (some ob)) (hm : MapP w1 ob (m + 1) (I.length + 1)) (hc : CSt w' B gc pr (I ++ [y]) ib2) (hv : Ev gc ib1 w1 ib2 w') : LSt wM w' B gc pr gs s ib zb ob fb (m + 1) (I ++ [y]) ib2 jb J vj := by
  have e : (I ++ [y]).length = I.length + 1 := by simp
  have hz := h.z.kept hg (by simpa using mc.zo)
  have hf := h.f.kept hg (by simpa using fun e => mc.of e.symm)
  have hb := hv.big (gs := gs) (jb := jb)
  exact ⟨hc, (h.j.grownM hg h.no).ev hv (by omega), (h.ev.grownM hg mc.mo).trans hb, (hz.ev hb mc.z h.nz).mono (by omega) (by omega), (hm.ev hb mc.o h.no).mono (Nat.le_refl _) (by omega), (hf.ev hb mc.f h.nf).mono (by omega) (by omega), hb.ne hz.lt h.nz, hb.ne hm.lt h.no, hb.ne hf.lt h.nf⟩
theorem LSt.delZ (h : LSt wM w B gc pr gs s ib zb ob fb m I ib1 jb J vj) (mc : MC wM gc zb ob fb) (hg : w.grownBy w' (some zb)) (hm : MapP w' zb m I.length) : LSt wM w' B gc pr gs s ib zb ob fb m I ib1 jb J vj :=
  ⟨h.c.grownM hg mc.z h.nz, h.j.grownM hg h.nz, h.ev.grownM hg mc.mz, hm, h.o.kept hg (by simpa using fun e => mc.zo e.symm), h.f.kept hg (by simpa using fun e => mc.zf e.symm), h.nz, h.no, h.nf⟩
theorem LSt.scpM (h : LSt wM w B gc pr gs s ib zb ob fb m I ib1 jb J vj) (r : SR wM gc (gs :: ib) s) (hg : w.grownBy w' (some b)) (hb : wM.heap.size ≤ b) (hn : b ∉ gs :: (jb ++ ib1)) : ScP w' gc ib1 gs { s with vj := vj } := by
  have hr := r.ev (h.ev.grownM hg hb)
  exact ((h.j.grownM hg hn).scj ⟨hr.l1, hr.l2, hr.rl, hr.rc⟩).scp
end
theorem one_lnk {Q : It → Prop} {w w' : World} {B gc tb : Nat} {t : TypeId} {a b c d : Value} {pr : Prm} {I : List It} {ib : List Nat} (hk : Blk w tb t #[a, b, c, d]) (h1 : tb ≠ gc) (h2 : tb ∉ ib) (h : ∃ (x : It) (ib' : List Nat), Q x ∧ CSt w' B gc pr (I ++ [x]) ib' ∧ Ev gc ib w ib' w') : w'.cell? ⟨tb, 1, none⟩ = some b := by
  obtain ⟨x, ib', _, _, hv⟩ := h
  have := (hv.blk hk h1 h2).cell 1
  simpa using this
end Go.Proofs.Ytcfjbaanahgpoaa
