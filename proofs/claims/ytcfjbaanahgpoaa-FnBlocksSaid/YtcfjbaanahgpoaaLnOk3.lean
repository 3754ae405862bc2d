import Derived.Test.YtcfjbaanahgpoaaLnOk2
namespace Go.Proofs.Ytcfjbaanahgpoaa
open Go.RowKit
set_option maxRecDepth 100000
set_option maxHeartbeats 1000000 in
theorem s_lineOk (x : Ln) (A1 A2 : Option Addr) (c1 c2 : Nat) (w : World) (hn : x.2.2.1.length + x.2.2.2.length ≤ 1048576) (h : LnIn w x A1 c1 A2 c2) (hs : LnSz x) :
    Calls Try.prog 36 #[.agg #[.int .i64 x.1, .string x.2.1, .slice A1 x.2.2.1.length c1, .slice A2 x.2.2.2.length c2]] w fun e w' => e = .returned (.bool (lineOkF x)) ∧ Below w.heap.size w w' := by
  obtain ⟨k, s, ar, ex⟩ := x
  obtain ⟨h1, h2, h3, h4, h5, h6⟩ := h
  obtain ⟨s1, s2, s3⟩ := hs
  simp only at h1 h2 h3 h4 h5 h6 s1 s2 s3 hn ⊢
  have H1 := hide h1
  have H2 := hide h2
  have S2 := hide s2
  have S3 := hide s3
  have hn1 : ar.length ≤ 1048576 := by omega
  have hn2 : ex.length ≤ 1048576 := by omega
  clear h1 h2 s2 s3 hn
  cases hb : btw k 0 7
  · have HN : Hid (lineOkF (k, s, ar, ex) = false) := by show _ = _; unfold lineOkF; rw [hb]; rfl
    go_enter Try.func36, Try.ntmps36
    go_wp2_with (first | (go_at_call 63; refine (s_l01In _ _ _ _).mono ?_; rintro e w' ⟨rfl, rfl⟩))
    go_ret
    exact ⟨ret_bool HN.out.symm, by repeat (first | exact Below.refl _ _ | refine Below.alloc ?_ (by first | (simp; done) | (simp; omega)) _ | refine Below.drew ?_ | refine below_drewN ?_ _ | refine Below.setCell ?_ (by first | (simp; done) | (simp; omega)) _)⟩
  · by_cases h4' : 4 < ar.length
    · have HN : Hid (lineOkF (k, s, ar, ex) = false) := lineOk_args (fun _ => yes_not (fun h => by have := h.1; simp only at this; omega)) (fun _ => by simp only; omega)
      have g4 : (4 : Int) < (ar.length : Int) := by omega
      go_enter Try.func36, Try.ntmps36
      go_wp2_with (first | (go_at_call 63; refine (s_l01In _ _ _ _).mono ?_; rintro e w' ⟨rfl, rfl⟩))
      go_ret
      exact ⟨ret_bool HN.out.symm, by repeat (first | exact Below.refl _ _ | refine Below.alloc ?_ (by first | (simp; done) | (simp; omega)) _ | refine Below.drew ?_ | refine below_drewN ?_ _ | refine Below.setCell ?_ (by first | (simp; done) | (simp; omega)) _)⟩
    · have g4 : ¬ (4 : Int) < (ar.length : Int) := by omega
      go_enter Try.func36, Try.ntmps36
      go_wp2_with (first | (go_at_call 63; refine (s_l01In _ _ _ _).mono ?_; rintro e w' ⟨rfl, rfl⟩))
      have HB := hide hb
      clear hb
      go_loopw [3, 4] (fun i _ wr => ∃ m nq : Nat, m ≤ ar.length ∧ i = .int .i64 m ∧ GoodArgs ar m ∧ (0 < m → k = 0) ∧ wr = (w.alloc (.cells #[.int .i64 k, .string s, .slice A1 ar.length c1, .slice A2 ex.length c2] 34)).drewN nq) (fun i _ _ => ar.length - (intOf i).toNat)
      case atStart => exact ⟨0, 0, Nat.zero_le _, rfl, GoodArgs.zero _, fun h => by omega, rfl⟩
      case round =>
        obtain ⟨m, nq, hm, rfl, hg, hk0, rfl⟩ := hrel
        have HG := hide hg
        have HK := hide hk0
        clear hg hk0
        by_cases hlt : m < ar.length
        · obtain ⟨b, o, rfl, hbl, c0⟩ := H1.out.str m hlt
          have hsz := S2.out _ (List.getElem_mem hlt)
          cases hq : nameOkF ar[m].data.toList
          · have HN : Hid (lineOkF (k, s, ar, ex) = false) := lineOk_args (fun _ => yes_not (fun h => by have := (h.2 m hlt hlt).1; rw [hq] at this; cases this)) (fun _ => by simp only; omega)
            have HQ := hide hq
            clear hq
            go_wp2_with fail
            refine (s_nameOk _ hsz _).mono ?_
            rintro e w' ⟨rfl, rfl⟩
            rw [HQ.out]
            go_wp2
            go_ret
            exact ⟨ret_bool HN.out.symm, by repeat (first | exact Below.refl _ _ | refine Below.alloc ?_ (by first | (simp; done) | (simp; omega)) _ | refine Below.drew ?_ | refine below_drewN ?_ _ | refine Below.setCell ?_ (by first | (simp; done) | (simp; omega)) _)⟩
          · have HQ := hide hq
            clear hq
            by_cases hk : k = 0
            · subst hk
              go_wp2_with fail
              refine (s_nameOk _ hsz _).mono ?_
              rintro e w' ⟨rfl, rfl⟩
              rw [HQ.out]
              go_wp2
              go_loopw [4] (fun i wr => ∃ j nr : Nat, j ≤ m ∧ i = .int .i64 j ∧ ar[m] ∉ ar.take j ∧ wr = (w.alloc (.cells #[.int .i64 0, .string s, .slice (some ⟨b, o, none⟩) ar.length c1, .slice A2 ex.length c2] 34)).drewN nr) (fun i _ => m - (intOf i).toNat)
              case atStart => exact ⟨0, nq, Nat.zero_le _, rfl, by simp, rfl⟩
              case round =>
                obtain ⟨j, nr, hj, rfl, hnot, rfl⟩ := hrel
                have HNOT := hide hnot
                clear hnot
                by_cases hjm : j < m
                · have hjl : j < ar.length := by omega
                  obtain ⟨b', o', eA, _, d0⟩ := H1.out.str j hjl
                  obtain ⟨rfl, rfl⟩ : b = b' ∧ o = o' := by injection eA with eA; injection eA with eA eB; exact ⟨eA, eB⟩
                  clear eA
                  by_cases heq : ar[j] = ar[m]
                  · have z := beqT heq
                    have hmem : ar[m] ∈ ar.take m := by rw [← heq]; exact List.mem_take_iff_getElem.2 ⟨j, by omega, rfl⟩
                    have HN : Hid (lineOkF (0, s, ar, ex) = false) := lineOk_args (fun _ => yes_not (fun h => (h.2 m hlt hlt).2 hmem)) (fun h => absurd rfl h)
                    clear hmem
                    clear heq
                    go_wp2
                    go_quiet (fail)
                    go_wp2
                    go_ret
                    exact ⟨ret_bool HN.out.symm, by repeat (first | exact Below.refl _ _ | refine Below.alloc ?_ (by first | (simp; done) | (simp; omega)) _ | refine Below.drew ?_ | refine below_drewN ?_ _ | refine Below.setCell ?_ (by first | (simp; done) | (simp; omega)) _)⟩
                  · have z := beqF heq
                    have HN : Hid (ar[m] ∉ ar.take (j + 1)) := by
                      show _ ∉ _
                      rw [List.take_succ_eq_append_getElem hjl, List.mem_append]
                      rintro (h | h)
                      · exact HNOT.out h
                      · exact heq (List.mem_singleton.1 h).symm
                    clear heq
                    go_wp2
                    go_quiet (fail)
                    go_wp2
                    go_roundw
                    case rel => exact ⟨j + 1, _, by omega, by go_num, HN.out, by first | rfl | exact World.drewN_drewN _ _ _⟩
                    case measure => simp [intOf]; omega
                · have HN : Hid (GoodArgs ar (m + 1)) := HG.out.step hlt HQ.out (by have := HNOT.out; rwa [show j = m by omega] at this)
                  go_wp2
                  go_roundw
                  case rel => exact ⟨m + 1, _, by omega, by go_num, HN.out, by simp, rfl⟩
                  case measure => simp [intOf]; omega
            · have HN : Hid (lineOkF (k, s, ar, ex) = false) := lineOk_args (fun h => absurd h hk) (fun _ => by simp only; omega)
              have z : (k != 0) = true := by simpa using hk
              clear hk
              go_wp2_with fail
              refine (s_nameOk _ hsz _).mono ?_
              rintro e w' ⟨rfl, rfl⟩
              rw [HQ.out]
              go_wp2
              go_ret
              exact ⟨ret_bool HN.out.symm, by repeat (first | exact Below.refl _ _ | refine Below.alloc ?_ (by first | (simp; done) | (simp; omega)) _ | refine Below.drew ?_ | refine below_drewN ?_ _ | refine Below.setCell ?_ (by first | (simp; done) | (simp; omega)) _)⟩
        · have hm2 : m = ar.length := by omega
          have HA : Hid (k = 0 → argsF ar = true) := fun _ => yes_of ⟨by omega, by have := HG.out; rwa [hm2] at this⟩
          have HE : Hid (k ≠ 0 → ar.length = 0) := fun h => Classical.byContradiction fun h0 => h (HK.out (by omega))
          cases hx : hasX2 k
          all_goals go_wp2_with (first | (go_at_call 64; refine (s_nameOk _ s1 _).mono ?_; rintro e w' ⟨rfl, rfl⟩) | (go_at_call 65; refine (s_hasExpr _ _).mono ?_; rintro e w' ⟨rfl, rfl⟩) | (go_at_call 66; refine (s_exprOk A2 _ c2 ex _ hn2 rfl (H2.out.below (by repeat (first | exact Below.refl _ _ | refine Below.alloc ?_ (by first | (simp; done) | (simp; omega)) _ | refine Below.drew ?_ | refine below_drewN ?_ _ | refine Below.setCell ?_ (by first | (simp; done) | (simp; omega)) _))) S3.out).mono ?_; rintro e w' ⟨rfl, hb⟩))
          all_goals go_ret
          all_goals refine ⟨ret_bool ?_, by first | ((repeat (first | exact Below.refl _ _ | refine Below.alloc ?_ (by first | (simp; done) | (simp; omega)) _ | refine Below.drew ?_ | refine below_drewN ?_ _ | refine Below.setCell ?_ (by first | (simp; done) | (simp; omega)) _)); done) | (refine Below.trans ?_ (hb.mono (by simp)); repeat (first | exact Below.refl _ _ | refine Below.alloc ?_ (by first | (simp; done) | (simp; omega)) _ | refine Below.drew ?_ | refine below_drewN ?_ _ | refine Below.setCell ?_ (by first | (simp; done) | (simp; omega)) _))⟩
          all_goals go_light
          all_goals have h7 := HB.out
          all_goals have h6x := hasX2_eq k h7
          all_goals have h8 := HA.out
          all_goals have h9 := HE.out
          all_goals clear HB HA HE HG HK H1 H2 S2 S3 hlt hm hm2 g4 h4'
          all_goals clear h3 h4 h5 h6 s1 hn1 hn2
          all_goals simp_all [lineOkF, hasX2, ByteArray.toList_eq]
          all_goals first | (cases ex <;> simp_all <;> omega) | (intros; subst_vars; simp_all; done) | (intros; subst_vars; simp [btw] at *; omega) | (rw [if_neg (fun h => h.2 (hx h.1))]; cases ex <;> simp <;> omega)
end Go.Proofs.Ytcfjbaanahgpoaa
