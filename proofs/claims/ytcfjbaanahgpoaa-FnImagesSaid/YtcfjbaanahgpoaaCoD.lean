import Derived.Test.YtcfjbaanahgpoaaCoX
import Derived.Test.YtcfjbaanahgpoaaCnPX
import Derived.Test.YtcfjbaanahgpoaaFold0
import Derived.Test.YtcfjbaanahgpoaaDrX
namespace Go.Proofs.Ytcfjbaanahgpoaa
open Go Go.RowKit
set_option maxRecDepth 100000
set_option linter.unusedVariables false
set_option linter.unusedSimpArgs false
theorem tk_kind {t : Tk} (h : tkOk t = true) : t.1 = 0 ∨ t.1 = 1 ∨ t.1 = 7 ∨ t.1 = 2 ∨ t.1 = 3 ∨ t.1 = 4 ∨ t.1 = 5 ∨ t.1 = 6 := by
  have h' : tokOkF t.1 t.2.1 t.2.2.data.toList = true := h
  unfold tokOkF btw at h'
  split at h'
  · omega
  · split at h'
    · omega
    · split at h'
      · omega
      · simp only [Bool.and_eq_true, decide_eq_true_eq] at h'
        omega
theorem tk_nums {t : Tk} (h : tkOk t = true) : (t.1 = 0 → 0 ≤ t.2.1 ∧ t.2.1 ≤ 999) ∧ (t.1 = 7 → 0 ≤ t.2.1 ∧ t.2.1 ≤ 4) := by
  have h' : tokOkF t.1 t.2.1 t.2.2.data.toList = true := h
  refine ⟨fun e => ?_, fun e => ?_⟩
  · unfold tokOkF btw at h'
    rw [if_pos e] at h'
    simp only [Bool.and_eq_true, decide_eq_true_eq] at h'
    exact h'.1
  · unfold tokOkF btw at h'
    rw [if_neg (by omega), if_pos e] at h'
    simp only [Bool.and_eq_true, decide_eq_true_eq] at h'
    exact h'.1
theorem one_slice2 {Q : It → Prop} {F : Sg → Sg} {w w' : World} {B gc gs : Nat} {pr : Prm} {I : List It} {ib : List Nat} {s : Scd} (hs : ScP w gc ib gs s) (h : OneX Q F w B gc pr I ib w') : w'.cell? ⟨gs, 2, none⟩ = some (.slice s.Al s.nl s.cl) := by
  obtain ⟨x, ib', _, _, hv, _⟩ := h
  have := (Scp.ev hs hv).1.cell 2
  simpa using this
theorem one_blk2 {Q : It → Prop} {F : Sg → Sg} {w w' : World} {B gc tb : Nat} {t : TypeId} {a b c : Value} {pr : Prm} {I : List It} {ib : List Nat} (hk : Blk w tb t #[a, b, c]) (h1 : tb ≠ gc) (h2 : tb ∉ ib) (h : OneX Q F w B gc pr I ib w') : w'.cell? ⟨tb, 2, none⟩ = some c := by
  obtain ⟨x, ib', _, _, hv, _⟩ := h
  have := (hv.blk hk h1 h2).cell 2
  simpa using this
theorem one_blk1 {Q : It → Prop} {F : Sg → Sg} {w w' : World} {B gc tb : Nat} {t : TypeId} {a b c : Value} {pr : Prm} {I : List It} {ib : List Nat} (hk : Blk w tb t #[a, b, c]) (h1 : tb ≠ gc) (h2 : tb ∉ ib) (h : OneX Q F w B gc pr I ib w') : w'.cell? ⟨tb, 1, none⟩ = some b := by
  obtain ⟨x, ib', _, _, hv, _⟩ := h
  have := (hv.blk hk h1 h2).cell 1
  simpa using this
theorem cell_one {w : World} {tb : Nat} {t : TypeId} {a b c : Value} (h : Blk w tb t #[a, b, c]) : w.cell? ⟨tb, 1, none⟩ = some b := by
  have := h.cell 1
  simpa using this
theorem Step.base {w w1 w2 : World} {B gc : Nat} {pr : Prm} {J : List It} {ib ib1 : List Nat} (h : Ev gc ib w ib1 w1) (k : Step w1 B gc pr ib1 J w2) : Step w B gc pr ib J w2 := by
  obtain ⟨ib2, h1, h2⟩ := k
  exact ⟨ib2, h1, h.trans h2⟩
theorem mul_add3 {a b c : Nat} (T : Nat) (h1 : a ≤ b) (h2 : b ≤ c) : (b - a) * T + (c - b) * T = (c - a) * T := by
  rw [← Nat.add_mul]; congr 1; omega
theorem mul_one3 {a c : Nat} (T : Nat) (h1 : a + 1 ≤ c) : (c - (a + 1)) * T + T = (c - a) * T := by
  have : c - a = (c - (a + 1)) + 1 := by omega
  rw [this, Nat.succ_mul]
/-- What expr and replace do: items for a line. -/
def Put (Y : Nat) (w : World) (B gc : Nat) (pr : Prm) (I : List It) (ib : List Nat) (a begin : Nat) (line : Int) (nc : Nat) (R : Sg) (e : Ending) (w' : World) : Prop :=
  e = .returned (.tuple #[]) ∧ ∃ J, Gro pr.n pr.inl Y I J a ∧ (Bg J begin line nc ∧ begin < J.length) ∧ Step w B gc pr ib J w' ∧ Vw w' gc J = R
/-- What replace does, for a scope and a line. -/
def RepC (Y : Nat) (w0 : World) (gc gs : Nat) (pr : Prm) (s : Scd) (line : Int) (L : List Ln) (T : Nat) (rep : Nat → Nat → Sg → Sg) : Prop :=
  ∀ (w : World) (I : List It) (ib : List Nat) (k begin : Nat), (s.nc : Int) < pr.inl → k < pr.n → (lnAtD L k).1 = 0 → endOfF L k ≤ k + 9 → CSt w w0.heap.size gc pr I ib → ScP w gc ib gs s → Below w0.heap.size w0 w → I.length < 200 → Bg I begin line s.nc →
    Calls Try.prog 104 #[.pointer (some ⟨gc, 0, none⟩), .pointer (some ⟨gs, 0, none⟩), .int .i64 line, .int .i64 k, .int .i64 begin] w fun e w' => Put Y w w0.heap.size gc pr I ib T begin line s.nc (rep k begin (Vw w gc I)) e w'
set_option maxHeartbeats 4000000 in
theorem i_expr (Y : Nat) (w0 : World) (gc gs T : Nat) (pr : Prm) (s : Scd) (line : Int) (L : List Ln) (e : List Tk) (Ae : Option Addr) (ne ce : Nat) (hT : 1 ≤ T) (hln : 0 ≤ line ∧ line < (pr.n : Int)) (hni : (s.nc : Int) ≤ pr.inl) (hpn : pr.n ≤ 1000) (hR : InLines w0 pr.A pr.n L) (hY : Y + 21 * T ≤ 2900) (hf6 : (funsF L).length ≤ 6) (rep : Nat → Nat → Sg → Sg) (hrep : RepC Y w0 gc gs pr s line L T rep) (hcl : ∀ t ∈ e, t.1 = 7 → 0 ≤ findF L t.2.2) (hlen : e.length = ne) (hE : InRow w0 Ae ne 3 (tokCells e)) (hne : ne ≤ 20) (hsz : ∀ t ∈ e, t.2.2.size ≤ maxLen) :
    ∀ (m at0 : Nat) (w : World) (I : List It) (ib : List Nat) (begin : Nat), ne - at0 ≤ m → 0 ≤ endL e at0 1 → CSt w w0.heap.size gc pr I ib → ScP w gc ib gs s → Below w0.heap.size w0 w → I.length + (ne - at0) * T ≤ 2900 → Bg I begin line s.nc →
    Calls Try.prog 90 #[.pointer (some ⟨gc, 0, none⟩), .pointer (some ⟨gs, 0, none⟩), .int .i64 line, .slice Ae ne ce, .int .i64 at0, .int .i64 begin] w fun e' w' => Put Y w w0.heap.size gc pr I ib (((endL e at0 1).toNat - at0) * T) begin line s.nc (exprF (pr.cp L) pr.ns s.sp rep e begin m at0 (Vw w gc I)) e' w' := by
  intro m
  induction m with
  | zero =>
    intro at0 w I ib begin hm hend
    have := (good_at e at0 hend).1
    omega
  | succ m ih =>
    intro at0 w I ib begin hm hend hc hs hb hI hbg
    obtain ⟨hat, hok, hee⟩ := good_at e at0 hend
    have hatn : at0 < ne := by omega
    obtain ⟨ar, har⟩ := Int.eq_ofNat_of_zero_le (tkAr_ok _ hok).1
    have hop := operandsF_nat e at0 hend
    rw [har, Int.toNat_natCast] at hee hop
    obtain ⟨fin, hfin⟩ := Int.eq_ofNat_of_zero_le hend
    rw [hfin] at hee ⊢
    rw [Int.toNat_natCast]
    have har4 : ar ≤ 4 := by have := (tkAr_ok _ hok).2; omega
    have hta : tkAt e at0 = e[at0] := by unfold tkAt; rw [List.getD_eq_getElem?_getD, List.getElem?_eq_getElem hat]; rfl
    obtain ⟨EF, hEF⟩ : ∃ EF : Sg, EF = exprF (pr.cp L) pr.ns s.sp rep e begin (m + 1) at0 (Vw w gc I) := ⟨_, rfl⟩
    rw [← hEF]
    obtain ⟨FG, hFG⟩ : ∃ FG : Sg → Int → Sg, FG = fun g o => exprF (pr.cp L) pr.ns s.sp rep e begin m o.toNat g := ⟨_, rfl⟩
    rw [exprF, ← hFG, har, Int.toNat_natCast, hta] at hEF
    have HFG := hide hFG
    obtain ⟨G1, hG1⟩ : ∃ G1 : Sg, G1 = (opsL e ar ((at0 + 1 : Nat) : Int)).foldl FG (Vw w gc I) := ⟨_, rfl⟩
    rw [← hG1] at hEF
    have HG0 := hide hG1
    have HEF := hide hEF
    clear hFG hG1 hEF
    rw [hta] at hok
    have hcase := tk_kind hok
    have hnum := tk_nums hok
    have R := hide (hR.below hb)
    have E := hide (hE.below hb)
    have HC := hide hc
    have HS := hide hs
    have HB := hide hb
    have HSZ := hide hsz
    have HL := hide hlen
    have HE := hide hee
    have HO := hide hop
    have IH := hide ih
    have HREP := hide hrep
    have HCL : Hid (e[at0].1 = 7 → 0 ≤ findF L e[at0].2.2) := fun h => hcl _ (List.getElem_mem hat) h
    have HLN := hide hln
    have HNI := hide hni
    have HBG := hide hbg
    have hgl := hc.lt
    have hrw := hc.rows
    obtain ⟨b, o, hAe, _, c0, c1, c2⟩ := E.out.tok at0 hat
    clear hop hee har hta hend hfin ih hrep hcl hln hni hbg hok
    generalize e[at0].1 = kd at *
    generalize e[at0].2.1 = num at *
    generalize e[at0].2.2 = nm at *
    subst hAe
    go_enter Try.func90, Try.ntmps90
    go_wp2_with fail
    have KT := hide (Blk.new w 64 #[.int .i64 kd, .int .i64 num, .string nm])
    have BA := hide ((Below.refl w.heap.size w).alloc (Nat.le_refl _) (.cells #[.int .i64 kd, .int .i64 num, .string nm] 64))
    refine (i_operands _ ne _ e _ _ (by omega) HL.out (E.out.below BA.out) HSZ.out).mono ?_
    rintro e' w1 ⟨⟨v, rfl, ho⟩, hb1⟩
    rw [HO.out, opsL_length] at ho
    obtain ⟨F, cf, rfl, _, _, hard, _⟩ := Arr.own2 ho
    have hza : (w.alloc (.cells #[.int .i64 kd, .int .i64 num, .string nm] 64)).heap.size = w.heap.size + 1 := by simp
    rw [hza] at hard
    have KT1 := hide (KT.out.below hb1 KT.out.lt)
    have B1 := hide (BA.out.trans (hb1.mono (by omega)))
    have RG := hide (show RowG w1 gc ib F ar (intCells (opsL e ar ((at0 + 1 : Nat) : Int))) from ⟨InRow.of_arr hard, fun hn ad e1 => by
      obtain ⟨bb, e2, h1, h2, _⟩ := hard.2 hn
      rw [e1] at e2
      cases e2
      exact ⟨by show bb ≠ gc; omega, fun e3 => by have := (hrw bb e3).2; omega⟩⟩)
    have hoL : Hid ((opsL e ar ((at0 + 1 : Nat) : Int)).length = ar) := opsL_length _ _ _
    have C1 := hide (HC.out.kept B1.out)
    have tbg : w.heap.size ≠ gc := by omega
    have tbi : w.heap.size ∉ ib := fun e1 => by have := (hrw _ e1).2; omega
    have EV1 := hide (Ev.of_below B1.out gc ib)
    have VW1 := hide (Vw_below B1.out hgl I)
    have S1 := hide (HS.out.ev EV1.out)
    have HB1 := hide (HB.out.trans (B1.out.mono HB.out.size))
    clear ho hard hb1 hza c0 c1 c2 BA KT
    generalize w.heap.size = tb at *
    go_wp2_with fail
    go_loopw [25] (fun iv wr => ∃ (i q : Nat) (J : List It) (ib1 : List Nat), i ≤ ar ∧ iv = .int .i64 i ∧ at0 + 1 ≤ q ∧ q ≤ ne ∧ endL e q (ar - i) = (fin : Int) ∧ (opsL e ar ((at0 + 1 : Nat) : Int)).drop i = opsL e (ar - i) (q : Int) ∧ Gro pr.n pr.inl Y I J ((q - (at0 + 1)) * T) ∧ Bg J begin line s.nc ∧ CSt wr w0.heap.size gc pr J ib1 ∧ Ev gc ib w1 ib1 wr ∧ ((opsL e ar ((at0 + 1 : Nat) : Int)).drop i).foldl FG (Vw wr gc J) = G1) (fun iv _ => ar - (intOf iv).toNat)
    case atStart => exact ⟨0, at0 + 1, I, ib, Nat.zero_le _, rfl, Nat.le_refl _, by omega, HE.out.symm, rfl, by rw [Nat.sub_self, Nat.zero_mul]; exact Gro.refl _ _ _ _, HBG.out, C1.out, Ev.refl _ _ _, by rw [VW1.out]; exact HG0.out.symm⟩
    case round =>
      obtain ⟨i, q, J, ib1, hia, rfl, hq1, hqn, hend, hdrop, hG, hB2, hc1, hv1, hfg⟩ := hrel
      have C2 := hide hc1
      have EV2 := hide hv1
      have HG := hide hG
      have HBJ := hide hB2
      have S2 := hide (S1.out.ev hv1)
      have RG2 := hide (RG.out.ev hv1)
      have KT2 := hide (hv1.blk KT1.out tbg tbi)
      have HB2 := hide (HB1.out.trans (C1.out.below hv1 HB1.out.size))
      clear hc1 hv1 hG hB2
      by_cases hlti : i < ar
      · obtain ⟨kk, hkk⟩ : ∃ kk, ar - i = kk + 1 := ⟨ar - i - 1, by omega⟩
        rw [hkk] at hend hdrop
        obtain ⟨q1, g1, g2, g3, g4, g5⟩ := opsL_cons e kk q (by rw [HL.out]; exact hqn) (by rw [hend]; omega)
        rw [g5] at hdrop
        have hil : i < (opsL e ar ((at0 + 1 : Nat) : Int)).length := by rw [hoL.out]; exact hlti
        rw [List.drop_eq_getElem_cons hil] at hdrop hfg
        rw [List.foldl_cons] at hfg
        injection hdrop with hd1 hd2
        obtain ⟨bo, oo, hAo, _, cc⟩ := RG2.out.1.int i hil
        subst hAo
        rw [hd1] at cc hfg
        have HFQ := hide hfg
        clear hfg
        have HR1 : Hid (endL e q1 (ar - (i + 1)) = (fin : Int) ∧ (opsL e ar ((at0 + 1 : Nat) : Int)).drop (i + 1) = opsL e (ar - (i + 1)) (q1 : Int)) := by
          have e1 : ar - (i + 1) = kk := by omega
          exact ⟨by rw [e1, ← g4]; exact hend, by rw [e1]; exact hd2⟩
        have hq1n : q1 ≤ ne := by rw [← HL.out]; exact g3
        have HQ1 := hide g1
        have hq1q : q ≤ q1 := by omega
        have hlq : J.length + (ne - q) * T ≤ 2900 := by
          have h1 := HG.out.hi
          have h2 := mul_add3 T hq1 hqn
          have h3 := mul_one3 (a := at0) (c := ne) T (by omega)
          have h4 : (ne - (at0 + 1)) * T ≤ 20 * T := Nat.mul_le_mul_right T (by omega)
          omega
        have IQ := hide (IH.out q wr J ib1 begin (by omega) (by rw [g1]; omega) C2.out S2.out HB2.out hlq HBJ.out)
        clear hend hd1 hd2 g1 g4 g5 hkk hil
        go_wp2_with fail
        refine (IQ.out).mono ?_
        rintro e' w3 ⟨rfl, K, hK, ⟨hKB, _⟩, ⟨ib3, hc3, hv3⟩, hvw⟩
        rw [HQ1.out, Int.toNat_natCast] at hK
        have HK := hide hK
        have HVW : Hid (List.foldl FG (Vw w3 gc K) ((opsL e ar ((at0 + 1 : Nat) : Int)).drop (i + 1)) = G1) := by
          show _ = _
          rw [hvw, ← HFQ.out, HFG.out]; rfl
        clear hvw
        have HKB := hide hKB
        have C3 := hide hc3
        have V3 := hide hv3
        clear hK hKB hc3 hv3 cc
        go_wp2_with fail
        go_roundw
        case rel => exact ⟨i + 1, q1, K, ib3, by omega, by go_num, by omega, hq1n, HR1.out.1, HR1.out.2, (HG.out.trans HK.out).mono (Nat.le_of_eq (mul_add3 T hq1 hq1q)), HKB.out, C3.out, EV2.out.trans V3.out, HVW.out⟩
        case measure => simp [intOf]; omega
      · have HVJ : Hid (Vw wr gc J = G1) := by
          show _ = _
          rw [List.drop_of_length_le (by rw [hoL.out]; omega)] at hfg
          exact hfg
        clear hfg
        have HJL : Hid (G1.ops.length = J.length) := by
          show _ = _
          rw [← HVJ.out, Vw_len]
        have hqe : fin = q := by
          rw [show ar - i = 0 by omega, endL_zero] at hend
          omega
        subst hqe
        have zi : decide (i < ar) = false := decide_eq_false hlti
        have t0 := KT2.out.cell 0
        have t1 := KT2.out.cell 1
        have t2 := KT2.out.cell 2
        simp at t0 t1 t2
        have hIT : J.length + T ≤ 2900 := by
          have h1 := HG.out.hi
          have h2 := mul_one3 (a := at0) (c := fin) T hq1
          have h3 : (fin - at0) * T ≤ (ne - at0) * T := Nat.mul_le_mul_right T (by omega)
          have h4 : (fin - (at0 + 1)) * T ≤ 20 * T := Nat.mul_le_mul_right T (by omega)
          omega
        have CP : Hid (∀ (e3 : Ending) (w2 w3 : World) (ib2 : List Nat) (R : Sg), Ev gc ib1 wr ib2 w2 → Put Y w2 w0.heap.size gc pr J ib2 T begin line s.nc R e3 w3 → R = EF → e3 = .returned (.tuple #[]) ∧ Put Y w w0.heap.size gc pr I ib ((fin - at0) * T) begin line s.nc EF (.returned (.tuple #[])) w3) := fun e3 w2 w3 ib2 R h1 ⟨h2, K, h3, h4, h5, h6⟩ h7 => ⟨h2, rfl, K, (HG.out.trans h3).mono (Nat.le_of_eq (mul_one3 T hq1)), h4, Step.base (EV1.out.trans (EV2.out.trans h1)) h5, h6.trans h7⟩
        have CL : Hid (∀ (w2 w3 : World) (ib2 : List Nat), Ev gc ib1 wr ib2 w2 → (∃ (x : It) (ib3 : List Nat), (x.line = line ∧ x.n = s.nc ∧ x.code ≠ 10 ∧ x.code ≠ 11 ∧ ArgOk x.code x.arg) ∧ CSt w3 w0.heap.size gc pr (J ++ [x]) ib3 ∧ Ev gc ib2 w2 ib3 w3 ∧ Vw w3 gc (J ++ [x]) = EF) → Put Y w w0.heap.size gc pr I ib ((fin - at0) * T) begin line s.nc EF (.returned (.tuple #[])) w3) := fun w2 w3 ib2 h0 ⟨x, ib3, ⟨h1, h2, h3, h4, h7⟩, h5, h6, h8⟩ =>
          ((CP.out (.returned (.tuple #[])) w2 w3 ib2 EF h0) ⟨rfl, J ++ [x], (Gro.one (by rw [h1]; exact HLN.out) (by rw [h2]; exact HNI.out) (fun e => by omega) h7).mono hT, HBJ.out.one h1 h2, ⟨ib3, h5, h6⟩, h8⟩ rfl).2
        have CA : Hid (∀ {code arg chg : Int} (w2 w3 : World), code ≠ 10 → code ≠ 11 → ArgOk code arg → Below wr.heap.size wr w2 → OneX (fun x => x.code = code ∧ x.arg = arg ∧ x.line = line ∧ x.start = false ∧ x.n = s.nc) (fun g => addF g code arg chg) w2 w0.heap.size gc pr J ib1 w3 → EF = addF G1 code arg chg → Put Y w w0.heap.size gc pr I ib ((fin - at0) * T) begin line s.nc EF (.returned (.tuple #[])) w3) := fun w2 w3 g1 g2 g3 h0 ⟨x, ib3, ⟨h1, h2, h3, _, h5⟩, h6, h7, h8⟩ h9 => CL.out w2 w3 ib1 (Ev.of_below h0 _ _) ⟨x, ib3, ⟨h3, h5, by omega, by omega, by rw [h1, h2]; exact g3⟩, h6, h7, by rw [h8, Vw_below h0 C2.out.lt, HVJ.out]; exact h9.symm⟩
        have hI2 : J.length ≤ 1000000000000 := by omega
        have hI3 : J.length ≤ 3000 := by omega
        have hB2 : w0.heap.size ≤ wr.heap.size := HB2.out.size
        clear hend hdrop hlti
        rcases hcase with rfl | rfl | rfl | rfl | rfl | rfl | rfl | rfl
        · have hn0 : 0 ≤ num ∧ num ≤ 999 := hnum.1 (by trivial)
          clear hnum
          go_wp2_with fail
          refine (i_addS _ _ gc gs _ pr _ s _ _ _ _ C2.out S2.out hI2 hB2 (by omega)).mono ?_
          rintro e' w3 ⟨rfl, hx⟩
          have HX := hide hx
          clear hx
          go_wp2_with fail
          go_end0
          exact CA.out _ _ (by decide) (by decide) (by unfold ArgOk; omega) (Below.refl _ _) HX.out (by rw [HEF.out]; simp [exprT])
        · have CK : Hid (∀ w', Below wr.heap.size wr w' → CSt w' w0.heap.size gc pr J ib1 ∧ ScP w' gc ib1 gs s) := fun w' h => ⟨C2.out.kept h, S2.out.ev (Ev.of_below h _ _)⟩
          have m2 := S2.out.1.cell 2
          simp at m2
          have XR := hide S2.out.2.2.2.2.2.1.1
          have hnl := S2.out.2.2.2.1.1
          have HIX : Hid (-1 ≤ idxF s.xs nm ∧ idxF s.xs nm ≤ 8) := by
            have h1 := idxF_le s.xs nm
            have h2 := XR.out.1
            have h3 : (strCells s.xs).length = s.xs.length := by simp [strCells]
            exact ⟨h1.1, by omega⟩
          have tbi1 := EV2.out.ne KT1.out.lt tbi
          go_wp2_with fail
          go_region_held3 (fun w' => w'.cell? ⟨gs, 2, none⟩ = some (.slice s.Al s.nl s.cl) ∧ w'.cell? ⟨tb, 2, none⟩ = some (.string nm)) (first | exact ⟨m2, t2⟩ | exact ⟨HM1.out, HM2.out⟩) (first
            | (go_at_call 70; refine (i_index _ _ _ s.xs _ _ (by omega) (XR.out.below (by first | with_reducible exact (Below.refl _ _).drew | with_reducible exact Below.refl _ _))).mono ?_; rintro e' w' ⟨rfl, hww⟩; subst hww)
            | (go_at_call 91; refine (i_access wr.drew _ gc gs ib1 pr J s line _ false (CK.out wr.drew (Below.refl _ _).drew).1 (CK.out wr.drew (Below.refl _ _).drew).2 hI3 HIX.out hB2).mono ?_; rintro e' w3 ⟨rfl, hx⟩; have HX := hide hx; have HM1 := hide (one_slice2 (CK.out wr.drew (Below.refl _ _).drew).2 hx); have HM2 := hide (one_blk2 KT2.out.drew tbg tbi1 hx); clear hx))
          all_goals
            go_wp2_with fail
          all_goals
            go_end0
            obtain ⟨x, ib3, ⟨h1, h2, h3, h4, h5, h6, h9⟩, h7, h8, h10⟩ := HX.out
            exact CL.out _ _ _ (Ev.of_below (w := wr) (w1 := wr.drew) (Below.refl _ _).drew _ _) ⟨x, ib3, ⟨h1, h3, h4, h5, h9⟩, h7, h8, by rw [h10, Vw_below (w := wr) (w' := wr.drew) (Below.refl _ _).drew C2.out.lt, HVJ.out, HEF.out]; simp [exprT, Prm.cp, Scd.sp]⟩
        · have CK : Hid (∀ w', Below wr.heap.size wr w' → CSt w' w0.heap.size gc pr J ib1 ∧ ScP w' gc ib1 gs s ∧ InLines w' pr.A pr.n L ∧ Blk w' tb 64 #[.int .i64 7, .int .i64 num, .string nm] ∧ w0.heap.size ≤ w'.heap.size) := fun w' h => ⟨C2.out.kept h, S2.out.ev (Ev.of_below h _ _), hR.below (HB2.out.trans (h.mono HB2.out.size)), KT2.out.below h KT2.out.lt, Nat.le_trans hB2 h.size⟩
          have tbi1 := EV2.out.ne KT1.out.lt tbi
          have hn7 : 0 ≤ num ∧ num ≤ 4 := hnum.2 (by trivial)
          have zw : IntKind.i64.wrap (1 - num) = 1 - num := IntWalk.i64_in _ (by omega)
          clear hnum
          obtain ⟨_, _, _, most, depth, Ai, ci, An, cn, _, hk, _, _, _, _⟩ := C2.out
          have k0 := hk.cell 0
          simp at k0
          clear hk
          go_upto_region 9 with fail
          go_still_tail 6, (by kernel_rfl)
          change wpList _ _ _ _ _ wr.drew
          have BD := hide ((Below.refl wr.heap.size wr).drew)
          go_wp2_with fail
          refine (i_findFunction pr.A pr.n pr.c L nm _ (by omega) (CK.out _ BD.out).2.2.1).mono ?_
          rintro e' w3 ⟨rfl, hb3⟩
          obtain ⟨kf, hkf, hkl, hk0⟩ := findF_kind L nm (HCL.out (by trivial))
          have HKF0 := hide hkf
          rw [hkf]
          have hkn : kf < pr.n := by rw [← hR.len]; exact hkl
          have B3 := hide (BD.out.trans hb3)
          have HKF : Hid ((kf : Int) ∈ funsF L) := mem_funs hkl hk0
          clear hb3 k0 hkf
          go_wp2_with fail
          refine (i_replaced _ _ gc gs _ pr _ s _ L (CK.out _ B3.out).1 (CK.out _ B3.out).2.1 hpn (CK.out _ B3.out).2.2.1 (by omega) (by omega)).mono ?_
          rintro e' w4 ⟨⟨bo, rfl, hbo, hbe⟩, hb4⟩
          have HBO := hide hbo
          have HBE := hide hbe
          clear hbe
          have B4 := hide (B3.out.trans (hb4.mono B3.out.size))
          clear hbo
          have t0' := (CK.out _ B4.out).2.2.2.1.cell 0
          have t1' := (CK.out _ B4.out).2.2.2.1.cell 1
          simp at t0' t1'
          clear hb4 t0 t1 t2
          cases bo
          · go_wp2_with fail
            go_region_held3 (fun w' => w'.cell? ⟨tb, 1, none⟩ = some (.int .i64 num)) (first | exact t1' | exact HT6.out | exact HT5.out) (first
              | (go_at_call 105; refine (i_numberOf w4.drew _ gc _ pr _ _ L (CK.out w4.drew B4.out.drew).1 hpn (CK.out w4.drew B4.out.drew).2.2.1 HKF.out).mono ?_; rintro e' w5 ⟨⟨jn, rfl, hjn0, hjn1, hjn2⟩, hb5⟩; have B5 := hide (B4.out.drew.trans (hb5.mono (show wr.heap.size ≤ w4.drew.heap.size from B4.out.size))); have HT5 := hide (cell_one (CK.out w5 B5.out).2.2.2.1); have HJN := hide hjn2; clear hb5 hjn2)
              | (go_at_call 80; refine (i_addS w5 _ gc gs _ pr _ s _ _ _ _ (CK.out w5 B5.out).1 (CK.out w5 B5.out).2.1 hI2 (CK.out w5 B5.out).2.2.2.2 (by omega)).mono ?_; rintro e' w6 ⟨rfl, hx⟩; have HX := hide hx; have HT6 := hide (one_blk1 (CK.out w5 B5.out).2.2.2.1 tbg tbi1 hx); clear hx)
              | fail)
            all_goals
              go_wp2_with fail
            all_goals
              go_end0
              exact CA.out _ _ (by decide) (by decide) (by unfold ArgOk; omega) B5.out HX.out (by rw [HEF.out, HJN.out]; unfold exprT; rw [if_neg (by decide), if_neg (by decide), if_pos rfl, if_neg (by rw [HJL.out]; show ¬ repbF (pr.cp L) pr.ns s.nc (findF L nm) J.length = true; rw [HKF0.out, ← HBE.out]; decide)]; show addF G1 12 (ixF (funsF L) (findF L nm)) (1 - num) = _; rw [HKF0.out])
          · have HRP := hide (HREP.out w4 J ib1 kf begin (HBO.out rfl).1 hkn hk0 (HBO.out rfl).2.1 (CK.out _ B4.out).1 (CK.out _ B4.out).2.1 (HB2.out.trans (B4.out.mono HB2.out.size)) (HBO.out rfl).2.2 HBJ.out)
            go_wp2_with fail
            refine (HRP.out).mono ?_
            rintro e' w5 hput
            obtain ⟨rfl, hp⟩ := CP.out _ _ _ _ _ (Ev.of_below B4.out _ _) hput (by rw [HEF.out, Vw_below B4.out C2.out.lt, HVJ.out]; unfold exprT; rw [if_neg (by decide), if_neg (by decide), if_pos rfl, if_pos (by rw [HJL.out]; show repbF (pr.cp L) pr.ns s.nc (findF L nm) J.length = true; rw [HKF0.out, ← HBE.out])]; show _ = rep (findF L nm).toNat begin G1; rw [HKF0.out, Int.toNat_natCast])
            have HP := hide hp
            clear hput hp
            go_wp2_with fail
            go_end0
            exact HP.out
        · go_wp2_with fail
          refine (i_addS _ _ gc gs _ pr _ s _ _ _ _ C2.out S2.out hI2 hB2 (by omega)).mono ?_
          rintro e' w3 ⟨rfl, hx⟩
          have HX := hide hx
          clear hx
          go_wp2_with fail
          go_end0
          exact CA.out _ _ (by decide) (by decide) (by unfold ArgOk; omega) (Below.refl _ _) HX.out (by rw [HEF.out]; simp [exprT])
        · go_wp2_with fail
          refine (i_addS _ _ gc gs _ pr _ s _ _ _ _ C2.out S2.out hI2 hB2 (by omega)).mono ?_
          rintro e' w3 ⟨rfl, hx⟩
          have HX := hide hx
          clear hx
          go_wp2_with fail
          go_end0
          exact CA.out _ _ (by decide) (by decide) (by unfold ArgOk; omega) (Below.refl _ _) HX.out (by rw [HEF.out]; simp [exprT])
        · go_wp2_with fail
          refine (i_addS _ _ gc gs _ pr _ s _ _ _ _ C2.out S2.out hI2 hB2 (by omega)).mono ?_
          rintro e' w3 ⟨rfl, hx⟩
          have HX := hide hx
          clear hx
          go_wp2_with fail
          go_end0
          exact CA.out _ _ (by decide) (by decide) (by unfold ArgOk; omega) (Below.refl _ _) HX.out (by rw [HEF.out]; simp [exprT])
        · go_wp2_with fail
          refine (i_addS _ _ gc gs _ pr _ s _ _ _ _ C2.out S2.out hI2 hB2 (by omega)).mono ?_
          rintro e' w3 ⟨rfl, hx⟩
          have HX := hide hx
          clear hx
          go_wp2_with fail
          go_end0
          exact CA.out _ _ (by decide) (by decide) (by unfold ArgOk; omega) (Below.refl _ _) HX.out (by rw [HEF.out]; simp [exprT])
        · go_wp2_with fail
          refine (i_addS _ _ gc gs _ pr _ s _ _ _ _ C2.out S2.out hI2 hB2 (by omega)).mono ?_
          rintro e' w3 ⟨rfl, hx⟩
          have HX := hide hx
          clear hx
          go_wp2_with fail
          go_end0
          exact CA.out _ _ (by decide) (by decide) (by unfold ArgOk; omega) (Below.refl _ _) HX.out (by rw [HEF.out]; simp [exprT])
end Go.Proofs.Ytcfjbaanahgpoaa
