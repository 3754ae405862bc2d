import Derived.Test.YtcfjbaanahgpoaaCmX
import Derived.Test.YtcfjbaanahgpoaaFold0
import Derived.Test.YtcfjbaanahgpoaaDrX
namespace Go.Proofs.Ytcfjbaanahgpoaa
open Go Go.RowKit
set_option maxRecDepth 100000
set_option linter.unusedVariables false
set_option linter.unusedSimpArgs false
/-- How many calls stand from a place on, up to another. -/
def ccT (e : List Tk) (a b : Nat) : Nat := (((e.drop a).take (b - a)).filter fun t => decide (t.1 = 7)).length
def cntI (M : List It) : Nat := (M.filter fun x => decide (x.code = 12)).length
theorem cntI_app (M N : List It) : cntI (M ++ N) = cntI M + cntI N := by simp [cntI]
theorem ccT_self (e : List Tk) (a : Nat) : ccT e a a = 0 := by simp [ccT]
theorem ccT_add (e : List Tk) (a b c : Nat) (h1 : a ≤ b) (h2 : b ≤ c) : ccT e a c = ccT e a b + ccT e b c := by
  unfold ccT
  have h : (e.drop a).take (c - a) = (e.drop a).take (b - a) ++ (e.drop b).take (c - b) := by
    rw [show c - a = (b - a) + (c - b) by omega, List.take_add, List.drop_drop, show a + (b - a) = b by omega]
  rw [h, List.filter_append, List.length_append]
theorem ccT_one (e : List Tk) (a : Nat) (h : a < e.length) : ccT e a (a + 1) = if e[a].1 = 7 then 1 else 0 := by
  unfold ccT
  rw [List.drop_eq_getElem_cons h, show a + 1 - a = 1 by omega]
  rw [List.take_succ_cons, List.take_zero, List.filter_cons]
  by_cases h7 : e[a].1 = 7
  · rw [if_pos (by simpa using h7), if_pos h7]; rfl
  · rw [if_neg (by simpa using h7), if_neg h7]; rfl
/-- What an expression has put: one item a token. -/
structure EIt (M : List It) (line : Int) (nc : Nat) (len calls : Nat) : Prop where
  len : M.length = len
  all : ∀ x ∈ M, x.line = line ∧ x.start = false ∧ x.n = nc ∧ x.code ≠ 10 ∧ x.code ≠ 11
  cnt : cntI M = calls
theorem EIt.nil_ (line : Int) (nc : Nat) : EIt [] line nc 0 0 := ⟨rfl, fun x h => (by cases h), rfl⟩
theorem EIt.app {M N : List It} {line : Int} {nc a b c d : Nat} (h : EIt M line nc a b) (k : EIt N line nc c d) : EIt (M ++ N) line nc (a + c) (b + d) :=
  ⟨by rw [List.length_append, h.len, k.len], fun x hx => (List.mem_append.1 hx).elim (h.all x) (k.all x), by rw [cntI_app, h.cnt, k.cnt]⟩
theorem EIt.one {x : It} {line : Int} {nc : Nat} (h : Plain line nc x) : EIt [x] line nc 1 0 := by
  obtain ⟨h1, h2, h3, h4, h5, h6⟩ := h
  refine ⟨rfl, fun y hy => ?_, ?_⟩
  · obtain rfl := List.mem_singleton.1 hy; exact ⟨h1, h2, h3, h4, h5⟩
  · simp [cntI, h6]
theorem EIt.call {x : It} {line : Int} {nc : Nat} (h1 : x.line = line) (h2 : x.start = false) (h3 : x.n = nc) (h4 : x.code = 12) : EIt [x] line nc 1 1 := by
  refine ⟨rfl, fun y hy => ?_, ?_⟩
  · obtain rfl := List.mem_singleton.1 hy; exact ⟨h1, h2, h3, by omega, by omega⟩
  · simp [cntI, h4]
/-- The compiler has put some items more. -/
def More (M : List It) (w : World) (B gc : Nat) (pr : Prm) (I : List It) (ib : Option Nat) (w' : World) : Prop := ∃ ib', CSt w' B gc pr (I ++ M) ib' ∧ Ev gc ib w ib' w'
theorem EIt.cast {M : List It} {line : Int} {nc a b a' b' : Nat} (h : EIt M line nc a b) (e1 : a = a') (e2 : b = b') : EIt M line nc a' b' := by subst e1 e2; exact h
theorem expr_fin {M N : List It} {line : Int} {nc fin at0 : Nat} {e : List Tk} (h : at0 < e.length) (hf : at0 + 1 ≤ fin) (hM : EIt M line nc (fin - (at0 + 1)) (ccT e (at0 + 1) fin)) (hN : EIt N line nc 1 (if e[at0].1 = 7 then 1 else 0)) : EIt (M ++ N) line nc (fin - at0) (ccT e at0 fin) :=
  (hM.app hN).cast (by omega) (by rw [ccT_add e at0 (at0 + 1) fin (by omega) hf, ccT_one e at0 h]; omega)
theorem More.trans {M N : List It} {w w1 w2 : World} {B gc : Nat} {pr : Prm} {I : List It} {ib ib1 : Option Nat} (h : Ev gc ib w ib1 w1) (k : More N w1 B gc pr (I ++ M) ib1 w2) : More (M ++ N) w B gc pr I ib w2 := by
  obtain ⟨ib2, h1, h2⟩ := k
  exact ⟨ib2, by rw [← List.append_assoc]; exact h1, h.trans h2⟩
theorem More.base {M : List It} {w w1 w2 : World} {B gc : Nat} {pr : Prm} {I : List It} {ib : Option Nat} (h : Ev gc ib w ib w1) (k : More M w1 B gc pr I ib w2) : More M w B gc pr I ib w2 := by
  obtain ⟨ib2, h1, h2⟩ := k
  exact ⟨ib2, h1, h.trans h2⟩
theorem One.more {Q : It → Prop} {w w' : World} {B gc : Nat} {pr : Prm} {I : List It} {ib : Option Nat} (h : ∃ (x : It) (ib' : Option Nat), Q x ∧ CSt w' B gc pr (I ++ [x]) ib' ∧ Ev gc ib w ib' w') : ∃ x, Q x ∧ More [x] w B gc pr I ib w' := by
  obtain ⟨x, ib', h1, h2, h3⟩ := h
  exact ⟨x, h1, ib', h2, h3⟩
theorem tk_kind {t : Tk} (h : tkOk t = true) : t.1 = 0 ∨ t.1 = 1 ∨ t.1 = 7 ∨ t.1 = 2 ∨ t.1 = 3 ∨ t.1 = 4 ∨ t.1 = 5 ∨ t.1 = 6 := by
  have h' : tokOkF t.1 t.2.1 t.2.2.data.toList = true := h
  unfold tokOkF btw at h'
  split at h'
  · omega
  · split at h'
    · omega
    · split at h'
      · omega
      · simp only [Bool.and_eq_true, decide_eq_true_eq] at h'
        omega
theorem one_slice2 {Q : It → Prop} {w w' : World} {B gc gs : Nat} {pr : Prm} {I : List It} {ib : Option Nat} {s : Scd} (hs : ScP w gc ib gs s) (h : ∃ (x : It) (ib' : Option Nat), Q x ∧ CSt w' B gc pr (I ++ [x]) ib' ∧ Ev gc ib w ib' w') : w'.cell? ⟨gs, 2, none⟩ = some (.slice s.Al s.nl s.cl) := by
  obtain ⟨x, ib', _, _, hv⟩ := h
  have := (Scp.ev hs hv).1.cell 2
  simpa using this
theorem one_blk2 {Q : It → Prop} {w w' : World} {B gc tb : Nat} {t : TypeId} {a b c : Value} {pr : Prm} {I : List It} {ib : Option Nat} (hk : Blk w tb t #[a, b, c]) (h1 : tb ≠ gc) (h2 : ib ≠ some tb) (h : ∃ (x : It) (ib' : Option Nat), Q x ∧ CSt w' B gc pr (I ++ [x]) ib' ∧ Ev gc ib w ib' w') : w'.cell? ⟨tb, 2, none⟩ = some c := by
  obtain ⟨x, ib', _, _, hv⟩ := h
  have := (hv.blk hk h1 h2).cell 2
  simpa using this
theorem one_blk1 {Q : It → Prop} {w w' : World} {B gc tb : Nat} {t : TypeId} {a b c : Value} {pr : Prm} {I : List It} {ib : Option Nat} (hk : Blk w tb t #[a, b, c]) (h1 : tb ≠ gc) (h2 : ib ≠ some tb) (h : ∃ (x : It) (ib' : Option Nat), Q x ∧ CSt w' B gc pr (I ++ [x]) ib' ∧ Ev gc ib w ib' w') : w'.cell? ⟨tb, 1, none⟩ = some b := by
  obtain ⟨x, ib', _, _, hv⟩ := h
  have := (hv.blk hk h1 h2).cell 1
  simpa using this
theorem cell_one {w : World} {tb : Nat} {t : TypeId} {a b c : Value} (h : Blk w tb t #[a, b, c]) : w.cell? ⟨tb, 1, none⟩ = some b := by
  have := h.cell 1
  simpa using this
set_option maxHeartbeats 4000000 in
theorem i_expr0 (w0 : World) (gc gs : Nat) (pr : Prm) (s : Scd) (line : Int) (L : List Ln) (e : List Tk) (Ae : Option Addr) (ne ce : Nat) (hin : pr.inl = 0) (hnc : s.nc = 0) (hpn : pr.n ≤ 1000) (hR : InLines w0 pr.A pr.n L) (hlen : e.length = ne) (hE : InRow w0 Ae ne 3 (tokCells e)) (hne : ne ≤ 20) (hsz : ∀ t ∈ e, t.2.2.size ≤ maxLen) :
    ∀ (m at0 : Nat) (w : World) (I : List It) (ib : Option Nat) (begin : Int), ne - at0 ≤ m → 0 ≤ endL e at0 1 → CSt w w0.heap.size gc pr I ib → ScP w gc ib gs s → Below w0.heap.size w0 w → I.length + (ne - at0) ≤ 100000000 →
    Calls Try.prog 90 #[.pointer (some ⟨gc, 0, none⟩), .pointer (some ⟨gs, 0, none⟩), .int .i64 line, .slice Ae ne ce, .int .i64 at0, .int .i64 begin] w fun e' w' => e' = .returned (.tuple #[]) ∧ ∃ M, EIt M line s.nc ((endL e at0 1).toNat - at0) (ccT e at0 (endL e at0 1).toNat) ∧ More M w w0.heap.size gc pr I ib w' := by
  intro m
  induction m with
  | zero =>
    intro at0 w I ib begin hm hend
    have := (good_at e at0 hend).1
    omega
  | succ m ih =>
    intro at0 w I ib begin hm hend hc hs hb hI
    obtain ⟨hat, hok, hee⟩ := good_at e at0 hend
    have hatn : at0 < ne := by omega
    obtain ⟨ar, har⟩ := Int.eq_ofNat_of_zero_le (tkAr_ok _ hok).1
    have hop := operandsF_nat e at0 hend
    rw [har, Int.toNat_natCast] at hee hop
    obtain ⟨fin, hfin⟩ := Int.eq_ofNat_of_zero_le hend
    rw [hfin] at hee ⊢
    rw [Int.toNat_natCast]
    have har4 : ar ≤ 4 := by have := (tkAr_ok _ hok).2; omega
    have hta : tkAt e at0 = e[at0] := by unfold tkAt; rw [List.getD_eq_getElem?_getD, List.getElem?_eq_getElem hat]; rfl
    rw [hta] at hok
    have hcase := tk_kind hok
    have R := hide (hR.below hb)
    have E := hide (hE.below hb)
    have HC := hide hc
    have HS := hide hs
    have HB := hide hb
    have HSZ := hide hsz
    have HL := hide hlen
    have HE := hide hee
    have HO := hide hop
    have IH := hide ih
    have HIN := hide hin
    have HNC := hide hnc
    have hgl := hc.lt
    have hrw := hc.rows
    have FX : Hid (∀ (M N : List It), at0 + 1 ≤ fin → EIt M line s.nc (fin - (at0 + 1)) (ccT e (at0 + 1) fin) → EIt N line s.nc 1 (if e[at0].1 = 7 then 1 else 0) → EIt (M ++ N) line s.nc (fin - at0) (ccT e at0 fin)) := fun M N h1 h2 h3 => expr_fin hat h1 h2 h3
    obtain ⟨b, o, hAe, _, c0, c1, c2⟩ := E.out.tok at0 hat
    clear hop hee har hta hend hfin ih hin hnc hok
    generalize e[at0].1 = kd at *
    generalize e[at0].2.1 = num at *
    generalize e[at0].2.2 = nm at *
    subst hAe
    go_enter Try.func90, Try.ntmps90
    go_wp2_with fail
    have KT := hide (Blk.new w 64 #[.int .i64 kd, .int .i64 num, .string nm])
    have BA := hide ((Below.refl w.heap.size w).alloc (Nat.le_refl _) (.cells #[.int .i64 kd, .int .i64 num, .string nm] 64))
    refine (i_operands _ ne _ e _ _ (by omega) HL.out (E.out.below BA.out) HSZ.out).mono ?_
    rintro e' w1 ⟨⟨v, rfl, ho⟩, hb1⟩
    rw [HO.out, opsL_length] at ho
    obtain ⟨F, cf, rfl, _, _, hard, _⟩ := Arr.own2 ho
    have hza : (w.alloc (.cells #[.int .i64 kd, .int .i64 num, .string nm] 64)).heap.size = w.heap.size + 1 := by simp
    rw [hza] at hard
    have KT1 := hide (KT.out.below hb1 KT.out.lt)
    have B1 := hide (BA.out.trans (hb1.mono (by omega)))
    have RG := hide (show RowG w1 gc ib F ar (intCells (opsL e ar ((at0 + 1 : Nat) : Int))) from ⟨InRow.of_arr hard, fun hn ad e1 => by
      obtain ⟨bb, e2, h1, h2, _⟩ := hard.2 hn
      rw [e1] at e2
      cases e2
      exact ⟨by show bb ≠ gc; omega, fun e3 => by have := (hrw bb e3).2; omega⟩⟩)
    have hoL : Hid ((opsL e ar ((at0 + 1 : Nat) : Int)).length = ar) := opsL_length _ _ _
    have C1 := hide (HC.out.kept B1.out)
    have tbg : w.heap.size ≠ gc := by omega
    have tbi : ib ≠ some w.heap.size := fun e1 => by have := (hrw _ e1).2; omega
    have EV1 := hide (Ev.of_below B1.out gc ib)
    have S1 := hide (HS.out.ev EV1.out)
    have HB1 := hide (HB.out.trans (B1.out.mono HB.out.size))
    clear ho hard hb1 hza c0 c1 c2 BA KT
    generalize w.heap.size = tb at *
    go_wp2_with fail
    go_loopw [25] (fun iv wr => ∃ (i q : Nat) (M : List It), i ≤ ar ∧ iv = .int .i64 i ∧ at0 + 1 ≤ q ∧ q ≤ ne ∧ endL e q (ar - i) = (fin : Int) ∧ (opsL e ar ((at0 + 1 : Nat) : Int)).drop i = opsL e (ar - i) (q : Int) ∧ EIt M line s.nc (q - (at0 + 1)) (ccT e (at0 + 1) q) ∧ More M w1 w0.heap.size gc pr I ib wr) (fun iv _ => ar - (intOf iv).toNat)
    case atStart => exact ⟨0, at0 + 1, [], Nat.zero_le _, rfl, Nat.le_refl _, by omega, HE.out.symm, rfl, (EIt.nil_ line s.nc).cast (by omega) (ccT_self e _).symm, ib, by rw [List.append_nil]; exact C1.out, Ev.refl _ _ _⟩
    case round =>
      obtain ⟨i, q, M, hia, rfl, hq1, hqn, hend, hdrop, hM, ib1, hc1, hv1⟩ := hrel
      have C2 := hide hc1
      have EV2 := hide hv1
      have HM := hide hM
      have S2 := hide (S1.out.ev hv1)
      have RG2 := hide (RG.out.ev hv1)
      have KT2 := hide (hv1.blk KT1.out tbg tbi)
      have HB2 := hide (HB1.out.trans (C1.out.below hv1 HB1.out.size))
      clear hc1 hv1 hM
      by_cases hlti : i < ar
      · obtain ⟨kk, hkk⟩ : ∃ kk, ar - i = kk + 1 := ⟨ar - i - 1, by omega⟩
        rw [hkk] at hend hdrop
        obtain ⟨q1, g1, g2, g3, g4, g5⟩ := opsL_cons e kk q (by rw [HL.out]; exact hqn) (by rw [hend]; omega)
        rw [g5] at hdrop
        have hil : i < (opsL e ar ((at0 + 1 : Nat) : Int)).length := by rw [hoL.out]; exact hlti
        rw [List.drop_eq_getElem_cons hil] at hdrop
        injection hdrop with hd1 hd2
        obtain ⟨bo, oo, hAo, _, cc⟩ := RG2.out.1.int i hil
        subst hAo
        rw [hd1] at cc
        have HR1 : Hid (endL e q1 (ar - (i + 1)) = (fin : Int) ∧ (opsL e ar ((at0 + 1 : Nat) : Int)).drop (i + 1) = opsL e (ar - (i + 1)) (q1 : Int)) := by
          have e1 : ar - (i + 1) = kk := by omega
          exact ⟨by rw [e1, ← g4]; exact hend, by rw [e1]; exact hd2⟩
        have hq1n : q1 ≤ ne := by rw [← HL.out]; exact g3
        have G1 := hide g1
        have IQ := hide (IH.out q wr (I ++ M) ib1 begin (by omega) (by rw [g1]; omega) C2.out S2.out HB2.out (by rw [List.length_append, HM.out.len]; omega))
        clear hend hd1 hd2 g1 g4 g5 hkk hil
        go_wp2_with fail
        refine (IQ.out).mono ?_
        rintro e' w3 ⟨rfl, N, hN, hmore⟩
        rw [G1.out, Int.toNat_natCast] at hN
        have HN := hide hN
        have HMO := hide hmore
        clear hN hmore cc
        go_wp2_with fail
        go_roundw
        case rel => exact ⟨i + 1, q1, M ++ N, by omega, by go_num, by omega, hq1n, HR1.out.1, HR1.out.2, (HM.out.app HN.out).cast (by omega) (by rw [← ccT_add e (at0 + 1) q q1 hq1 (by omega)]), More.trans EV2.out HMO.out⟩
        case measure => simp [intOf]; omega
      · have hqe : fin = q := by
          rw [show ar - i = 0 by omega, endL_zero] at hend
          omega
        subst hqe
        have zi : decide (i < ar) = false := decide_eq_false hlti
        have t0 := KT2.out.cell 0
        have t1 := KT2.out.cell 1
        have t2 := KT2.out.cell 2
        simp at t0 t1 t2
        have CL : Hid (∀ (N : List It) (w3 : World), EIt N line s.nc 1 (if kd = 7 then 1 else 0) → More N wr w0.heap.size gc pr (I ++ M) ib1 w3 → ∃ M', EIt M' line s.nc (fin - at0) (ccT e at0 fin) ∧ More M' w w0.heap.size gc pr I ib w3) := fun N w3 h1 h2 => ⟨M ++ N, FX.out M N hq1 HM.out h1, More.base EV1.out (More.trans EV2.out h2)⟩
        have hI2 : (I ++ M).length ≤ 100000000000 := by rw [List.length_append, HM.out.len]; omega
        have hB2 : w0.heap.size ≤ wr.heap.size := HB2.out.size
        clear hend hdrop hlti FX
        rcases hcase with rfl | rfl | rfl | rfl | rfl | rfl | rfl | rfl
        · go_wp2_with fail
          refine (i_addS _ _ gc gs _ pr _ s _ _ _ _ C2.out S2.out hI2 hB2).mono ?_
          rintro e' w3 ⟨rfl, hx⟩
          obtain ⟨x, ⟨h1, h2, h3, h4, h5⟩, hm⟩ := One.more hx
          go_wp2_with fail
          go_end0
          exact ⟨rfl, CL.out [x] _ ((EIt.one ⟨h3, h4, h5, by omega, by omega, by omega⟩).cast rfl (by decide)) hm⟩
        · have CK : Hid (∀ w', Below wr.heap.size wr w' → CSt w' w0.heap.size gc pr (I ++ M) ib1 ∧ ScP w' gc ib1 gs s) := fun w' h => ⟨C2.out.kept h, S2.out.ev (Ev.of_below h _ _)⟩
          have m2 := S2.out.1.cell 2
          simp at m2
          have XR := hide S2.out.2.2.2.2.2.1.1
          have hnl := S2.out.2.2.2.1
          have tbi1 := EV2.out.ne KT1.out.lt tbi
          go_wp2_with fail
          go_region_held3 (fun w' => w'.cell? ⟨gs, 2, none⟩ = some (.slice s.Al s.nl s.cl) ∧ w'.cell? ⟨tb, 2, none⟩ = some (.string nm)) (first | exact ⟨m2, t2⟩ | exact ⟨HM1.out, HM2.out⟩) (first
            | (go_at_call 70; refine (i_index _ _ _ s.xs _ _ (by omega) (XR.out.below (by first | with_reducible exact (Below.refl _ _).drew | with_reducible exact Below.refl _ _))).mono ?_; rintro e' w' ⟨rfl, hww⟩; subst hww)
            | (go_at_call 91; refine (i_access wr.drew _ gc gs ib1 pr (I ++ M) s line _ false (CK.out wr.drew (Below.refl _ _).drew).1 (CK.out wr.drew (Below.refl _ _).drew).2 HNC.out hI2 hB2).mono ?_; rintro e' w3 ⟨rfl, hx⟩; have HX := hide hx; have HM1 := hide (one_slice2 (CK.out wr.drew (Below.refl _ _).drew).2 hx); have HM2 := hide (one_blk2 KT2.out.drew tbg tbi1 hx); clear hx))
          all_goals
            go_wp2_with fail
          all_goals
            go_end0
            obtain ⟨x, h1, hm⟩ := One.more HX.out
            exact ⟨rfl, CL.out [x] _ ((EIt.one h1).cast rfl (by decide)) (More.base (Ev.of_below (w := wr) (w1 := wr.drew) (Below.refl _ _).drew _ _) hm)⟩
        · have CK : Hid (∀ w', Below wr.heap.size wr w' → CSt w' w0.heap.size gc pr (I ++ M) ib1 ∧ ScP w' gc ib1 gs s ∧ InLines w' pr.A pr.n L ∧ Blk w' tb 64 #[.int .i64 7, .int .i64 num, .string nm] ∧ w0.heap.size ≤ w'.heap.size) := fun w' h => ⟨C2.out.kept h, S2.out.ev (Ev.of_below h _ _), hR.below (HB2.out.trans (h.mono HB2.out.size)), KT2.out.below h KT2.out.lt, Nat.le_trans hB2 h.size⟩
          have tbi1 := EV2.out.ne KT1.out.lt tbi
          obtain ⟨_, _, most, depth, Ai, ci, vn, hk, _, _⟩ := C2.out
          have k0 := hk.cell 0
          simp at k0
          clear hk
          go_upto_region 9 with fail
          go_still_tail 6, (by kernel_rfl)
          change wpList _ _ _ _ _ wr.drew
          have BD := hide ((Below.refl wr.heap.size wr).drew)
          go_wp2_with fail
          refine (i_findFunction pr.A pr.n pr.c L nm _ (by omega) (CK.out _ BD.out).2.2.1).mono ?_
          rintro e' w3 ⟨rfl, hb3⟩
          generalize findF L nm = kf at *
          have B3 := hide (BD.out.trans hb3)
          clear hb3 k0
          go_wp2_with fail
          refine (i_replaced0 _ _ gc gs _ pr _ s _ (CK.out _ B3.out).1 (CK.out _ B3.out).2.1 HIN.out).mono ?_
          rintro e' w4 ⟨rfl, hb4⟩
          have B4 := hide (B3.out.trans (hb4.mono B3.out.size))
          have t0' := (CK.out _ B4.out).2.2.2.1.cell 0
          have t1' := (CK.out _ B4.out).2.2.2.1.cell 1
          simp at t0' t1'
          clear hb4 t0 t1 t2
          go_wp2_with fail
          go_region_held3 (fun w' => w'.cell? ⟨tb, 1, none⟩ = some (.int .i64 num)) (first | exact t1' | exact HT6.out | exact HT5.out) (first
            | (go_at_call 105; refine (i_numberOf w4.drew _ gc _ pr _ _ L (CK.out w4.drew B4.out.drew).1 hpn (CK.out w4.drew B4.out.drew).2.2.1).mono ?_; rintro e' w5 ⟨⟨jn, rfl⟩, hb5⟩; have B5 := hide (B4.out.drew.trans (hb5.mono (show wr.heap.size ≤ w4.drew.heap.size from B4.out.size))); have HT5 := hide (cell_one (CK.out w5 B5.out).2.2.2.1); clear hb5)
            | (go_at_call 80; refine (i_addS w5 _ gc gs _ pr _ s _ _ _ _ (CK.out w5 B5.out).1 (CK.out w5 B5.out).2.1 hI2 (CK.out w5 B5.out).2.2.2.2).mono ?_; rintro e' w6 ⟨rfl, hx⟩; have HX := hide hx; have HT6 := hide (one_blk1 (CK.out w5 B5.out).2.2.2.1 tbg tbi1 hx); clear hx))
          all_goals
            go_wp2_with fail
          all_goals
            go_end0
            obtain ⟨x, ⟨h1, h2, h3, h4, h5⟩, hm⟩ := One.more HX.out
            exact ⟨rfl, CL.out [x] _ ((EIt.call h3 h4 h5 h1).cast rfl (by decide)) (More.base (Ev.of_below B5.out _ _) hm)⟩
        · go_wp2_with fail
          refine (i_addS _ _ gc gs _ pr _ s _ _ _ _ C2.out S2.out hI2 hB2).mono ?_
          rintro e' w3 ⟨rfl, hx⟩
          obtain ⟨x, ⟨h1, h2, h3, h4, h5⟩, hm⟩ := One.more hx
          go_wp2_with fail
          go_end0
          exact ⟨rfl, CL.out [x] _ ((EIt.one ⟨h3, h4, h5, by omega, by omega, by omega⟩).cast rfl (by decide)) hm⟩
        · go_wp2_with fail
          refine (i_addS _ _ gc gs _ pr _ s _ _ _ _ C2.out S2.out hI2 hB2).mono ?_
          rintro e' w3 ⟨rfl, hx⟩
          obtain ⟨x, ⟨h1, h2, h3, h4, h5⟩, hm⟩ := One.more hx
          go_wp2_with fail
          go_end0
          exact ⟨rfl, CL.out [x] _ ((EIt.one ⟨h3, h4, h5, by omega, by omega, by omega⟩).cast rfl (by decide)) hm⟩
        · go_wp2_with fail
          refine (i_addS _ _ gc gs _ pr _ s _ _ _ _ C2.out S2.out hI2 hB2).mono ?_
          rintro e' w3 ⟨rfl, hx⟩
          obtain ⟨x, ⟨h1, h2, h3, h4, h5⟩, hm⟩ := One.more hx
          go_wp2_with fail
          go_end0
          exact ⟨rfl, CL.out [x] _ ((EIt.one ⟨h3, h4, h5, by omega, by omega, by omega⟩).cast rfl (by decide)) hm⟩
        · go_wp2_with fail
          refine (i_addS _ _ gc gs _ pr _ s _ _ _ _ C2.out S2.out hI2 hB2).mono ?_
          rintro e' w3 ⟨rfl, hx⟩
          obtain ⟨x, ⟨h1, h2, h3, h4, h5⟩, hm⟩ := One.more hx
          go_wp2_with fail
          go_end0
          exact ⟨rfl, CL.out [x] _ ((EIt.one ⟨h3, h4, h5, by omega, by omega, by omega⟩).cast rfl (by decide)) hm⟩
        · go_wp2_with fail
          refine (i_addS _ _ gc gs _ pr _ s _ _ _ _ C2.out S2.out hI2 hB2).mono ?_
          rintro e' w3 ⟨rfl, hx⟩
          obtain ⟨x, ⟨h1, h2, h3, h4, h5⟩, hm⟩ := One.more hx
          go_wp2_with fail
          go_end0
          exact ⟨rfl, CL.out [x] _ ((EIt.one ⟨h3, h4, h5, by omega, by omega, by omega⟩).cast rfl (by decide)) hm⟩
end Go.Proofs.Ytcfjbaanahgpoaa
