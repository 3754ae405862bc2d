import Derived.Test.YtcfjbaanahgpoaaDraw
import Derived.Test.YtcfjbaanahgpoaaExpr
import Derived.Test.YtcfjbaanahgpoaaApp
import Derived.Test.YtcfjbaanahgpoaaStrS
import Derived.Test.YtcfjbaanahgpoaaIntS
import Derived.Deep.CutRange
import Derived.Deep.CutBlock
namespace Go.Proofs.Ytcfjbaanahgpoaa
open Go Go.RowKit
set_option maxRecDepth 100000
set_option linter.unusedVariables false
set_option linter.unusedSimpArgs false
/-! Drawn expressions: plain facts. -/
def fullK (k : Nat) (l : List Tk) : Prop := ∀ (pre post : List Tk) (m : Nat), endL (pre ++ (l ++ post)) pre.length (k + m) = endL (pre ++ (l ++ post)) (pre.length + l.length) m
theorem fullK_zero : fullK 0 [] := fun pre post m => by simp
theorem fullK_app {a b : Nat} {l l' : List Tk} (h : fullK a l) (h' : fullK b l') : fullK (a + b) (l ++ l') := fun pre post m => by
  have h1 := h pre (l' ++ post) (b + m)
  have h2 := h' (pre ++ l) post m
  rw [List.length_append, List.append_assoc] at h2
  rw [List.append_assoc, Nat.add_assoc, h1, h2, List.length_append, Nat.add_assoc]
theorem fullK_tok {t : Tk} {l : List Tk} {r : Nat} (ht : tkOk t = true) (hr : tkAr t = r) (h : fullK r l) : fullK 1 (t :: l) := fun pre post m => by
  have hlen : pre.length < (pre ++ (t :: l ++ post)).length := by simp
  have hat : (pre ++ (t :: l ++ post))[pre.length] = t := by simp
  have h1 := h (pre ++ [t]) post m
  rw [List.length_append, List.append_assoc] at h1
  simp only [List.length_singleton, List.singleton_append] at h1
  rw [endL_step _ _ _ (by omega) hlen (by rw [hat]; exact ht), hat, hr, Int.toNat_natCast, show 1 + m - 1 + r = r + m by omega]
  rw [List.cons_append, h1, List.length_cons, show pre.length + 1 + l.length = pre.length + (l.length + 1) by omega]
theorem fullK_ok {l : List Tk} (h : fullK 1 l) (hl : l.length ≤ 20) : exprOkF l = true := by
  have h1 := h [] [] 0
  simp only [List.nil_append, List.append_nil, List.length_nil, Nat.zero_add] at h1
  rw [endL_zero] at h1
  have hpos : 0 < l.length := by
    rcases Nat.eq_zero_or_pos l.length with h0 | h0
    · rw [endL_out l 0 1 (by omega) (by omega)] at h1; omega
    · exact h0
  unfold exprOkF exprEndF
  rw [if_pos (by omega)]
  simp [hl, hpos]
  exact h1
theorem tk_op (x : Int) (h : 0 ≤ x ∧ x < 5) : tkOk (2 + x, 0, ⟨#[]⟩) = true ∧ tkAr (2 + x, 0, ⟨#[]⟩) = (2 : Nat) := by
  have : x = 0 ∨ x = 1 ∨ x = 2 ∨ x = 3 ∨ x = 4 := by omega
  rcases this with rfl | rfl | rfl | rfl | rfl <;> decide
theorem tk_num (x : Int) (h : 0 ≤ x ∧ x ≤ 999) : tkOk (0, x, ⟨#[]⟩) = true ∧ tkAr (0, x, ⟨#[]⟩) = (0 : Nat) := by
  have hk : tokOkF 0 x [] = true := by unfold tokOkF; simp [btw]; omega
  refine ⟨hk, ?_⟩
  unfold tkAr arityF
  rw [if_neg (by show ¬ tokOkF 0 x [] = false; rw [hk]; simp)]
  simp
theorem tk_var (s : ByteArray) (h : nameOkF s.data.toList = true) : tkOk (1, 0, s) = true ∧ tkAr (1, 0, s) = (0 : Nat) := by
  have hk : tokOkF 1 0 s.data.toList = true := by unfold tokOkF; simp [btw, h]
  refine ⟨hk, ?_⟩
  unfold tkAr arityF
  rw [if_neg (by show ¬ tokOkF 1 0 _ = false; rw [hk]; simp)]
  simp
theorem tk_call (a : Int) (s : ByteArray) (ha : 0 ≤ a ∧ a ≤ 4) (h : nameOkF s.data.toList = true) : tkOk (7, a, s) = true ∧ tkAr (7, a, s) = a := by
  have hk : tokOkF 7 a s.data.toList = true := by unfold tokOkF; simp [btw, h]; omega
  refine ⟨hk, ?_⟩
  unfold tkAr arityF
  rw [if_neg (by show ¬ tokOkF 7 a _ = false; rw [hk]; simp)]
  simp
theorem tokCells_append' (a b : List Tk) : tokCells (a ++ b) = tokCells a ++ tokCells b := by simp [tokCells]
theorem tokCells_one' (l : List Tk) : ∀ u ∈ tokCells l, u.oneCell' = true := by
  intro u hu
  obtain ⟨t, _, h⟩ := List.mem_flatMap.1 hu
  simp only [tokC, List.mem_cons, List.not_mem_nil, or_false] at h
  rcases h with rfl | rfl | rfl <;> rfl
/-- A row that may be read, which is not the cursor. -/
def RowX (w : World) (g : Nat) (A : Option Addr) (n size : Nat) (xs : List Value) : Prop := InRow w A n size xs ∧ (0 < n → ∀ ad, A = some ad → ad.block ≠ g)
theorem RowX.grown {w w' : World} {g n size : Nat} {A : Option Addr} {xs : List Value} (h : RowX w g A n size xs) (hg : w.grownBy w' (some g)) : RowX w' g A n size xs :=
  ⟨⟨h.1.1, fun hn => by
    obtain ⟨b, o, e, hb, hc⟩ := h.1.2 hn
    have hne : b ≠ g := h.2 hn _ e
    have hk := hg.block b hb (by simpa using hne)
    exact ⟨b, o, e, Nat.lt_of_lt_of_le hb hg.size, fun j hj => (World.cell?_of_block hk).trans (hc j hj)⟩⟩, h.2⟩
theorem RowX.below {w w' : World} {g n size : Nat} {A : Option Addr} {xs : List Value} (h : RowX w g A n size xs) (hb : Below w.heap.size w w') : RowX w' g A n size xs := ⟨h.1.below hb, h.2⟩
theorem own_cur {w w' : World} {g base e size n : Nat} {v : Value} {xs : List Value} (h : w.ownsRow base e size v n xs) (hg : w.grownBy w' (some g)) (hlt : g < base) : w'.ownsRow base e size v n xs := by
  refine h.kept hg ?_
  cases hv : v.ownBlock with
  | none => exact .inl rfl
  | some k => exact .inr (by have := (h.lt k hv).1; simp; omega)
/-- A callee that turns only a row of the call's own, or makes new ones: seen from the cursor. -/
theorem ev_own {w w1 w2 : World} {g : Nat} {row : Option Nat} (h : w.grownBy w1 (some g)) (k : w1.grownBy w2 row) (hr : ∀ b, row = some b → w.heap.size ≤ b) : w.grownBy w2 (some g) :=
  ⟨k.os.trans h.os, k.tape.trans h.tape, k.output.trans h.output, Nat.le_trans h.size k.size, fun i hi hne => (k.block i (Nat.lt_of_lt_of_le hi h.size) (fun e => by have := hr i e.symm; omega)).trans (h.block i hi hne)⟩
theorem Cur.own {B : Nat} {w w' : World} {g : Nat} {row : Option Nat} (h : Cur B w g) (hb : w.grownBy w' row) (hr : ∀ b, row = some b → g < b) : Cur B w' g := by
  cases row with
  | none => exact h.below ⟨hb.os, hb.tape, hb.output, hb.size, fun k hk => hb.block k hk (by simp)⟩
  | some r => exact h.grown hb (by have := h.1; have := hr r rfl; omega) (by have := hr r rfl; omega)
theorem fullK_cast {a b : Nat} {l : List Tk} (h : fullK a l) (e : a = b) : fullK b l := e ▸ h
theorem InRow.strAt {w : World} {A : Option Addr} {n : Nat} {l : List ByteArray} (h : InRow w A n 1 (strCells l)) (k : Nat) (hk : k < l.length) : ∃ b o, A = some ⟨b, o, none⟩ ∧ b < w.heap.size ∧ w.cell? ⟨b, o + k, none⟩ = some (.string l[k]) := h.str k hk
def ExRet (n : Int) (w : World) (e : Ending) (w' : World) : Prop := ∃ (A : Option Addr) (c : Nat) (l : List Tk), e = .returned (.slice A l.length c) ∧ w'.ownsRow w.heap.size 64 3 (.slice A l.length c) l.length (tokCells l) ∧ fullK 1 l ∧ ((l.length : Int) ≤ 1 ∨ (l.length : Int) ≤ 2 * n - 1)
theorem Try.infoTokE : (Try.prog.info? 64).map (fun i => (i.zero, i.size, i.bytes)) = some (some (.agg #[.int .i64 0, .int .i64 0, .string ByteArray.empty]), 3, 32) := by kernel_rfl
set_option maxHeartbeats 4000000 in
theorem s_expr (B g nv cv nn cn ca : Nat) (Av An Aa : Option Addr) (vars names : List ByteArray) (ars : List Int) (hvn : vars.length = nv) (hnn : names.length = nn) (han : ars.length = nn) (hb1 : nv ≤ 100) (hb2 : nn ≤ 100)
    (hV : ∀ s ∈ vars, nameOkF s.data.toList = true) (hN : ∀ s ∈ names, nameOkF s.data.toList = true) (hA : ∀ a ∈ ars, 0 ≤ a ∧ a ≤ 2) :
    ∀ (m : Nat) (n : Int) (w : World), 0 ≤ n → n ≤ 1000 → n.toNat = m → Cur B w g → RowX w g Av nv 1 (strCells vars) → RowX w g An nn 1 (strCells names) → RowX w g Aa nn 1 (intCells ars) →
    Calls Try.prog 85 #[.pointer (some ⟨g, 0, none⟩), .int .i64 n, .slice Av nv cv, .slice An nn cn, .slice Aa nn ca] w fun e w' => ExRet n w e w' ∧ Cur B w' g ∧ w.grownBy w' (some g) := by
  obtain ⟨i0, hi, hz0, hz1, hz2⟩ := info_parts Try.infoTokE
  have HI := hide hi
  have HV := hide hV
  have HN := hide hN
  have HA := hide hA
  have HVN := hide hvn
  have HNN := hide hnn
  have HAN := hide han
  clear hi hV hN hA hvn hnn han
  intro m
  induction m using Nat.strongRecOn with
  | _ m ih =>
    intro n w hn0 hn1 hnm hc hrv hrn hra
    have IH := hide ih
    have C0 := hide hc
    have V0 := hide hrv
    have N0 := hide hrn
    have A0 := hide hra
    have hgl := hc.lt
    clear ih hc hrv hrn hra
    go_enter Try.func85, Try.ntmps85
    go_wp2_with fail
    refine (s_l01Below B g _ _ C0.out).mono ?_
    rintro e w1 ⟨⟨k, rfl, hk0, hk1, _⟩, hc1, hg1⟩
    have hk1 := hk1 (by omega)
    have C1 := hide hc1
    have G1 := hide hg1
    clear hc1 hg1
    go_upto_region 2 with fail
    go_cut [18] from 19 to 24 (fun s18 wx => s18 = .bool (decide (2 < n ∧ k < 5)) ∧ wx = w1)
    case first =>
      by_cases h2 : 2 < n
      · have z1 : decide ((2 : Int) < n) = true := decide_eq_true h2
        by_cases h5 : k < 5
        · have z2 : decide (k < 5) = true := decide_eq_true h5
          have z3 : decide (2 < n ∧ k < 5) = true := decide_eq_true ⟨h2, h5⟩
          clear h2 h5
          go_wp2_with fail
          go_meet
          exact ⟨by rw [z3], rfl⟩
        · have z2 : decide (k < 5) = false := decide_eq_false h5
          have z3 : decide (2 < n ∧ k < 5) = false := decide_eq_false (fun h => h5 h.2)
          clear h2 h5
          go_wp2_with fail
          go_meet
          exact ⟨by rw [z3], rfl⟩
      · have z1 : decide ((2 : Int) < n) = false := decide_eq_false h2
        have z3 : decide (2 < n ∧ k < 5) = false := decide_eq_false (fun h => h2 h.1)
        clear h2
        go_wp2_with fail
        go_meet
        exact ⟨by rw [z3], rfl⟩
    case rest =>
    obtain ⟨rfl, rfl⟩ := hcut
    by_cases hA1 : 2 < n ∧ k < 5
    · have ha1 := hA1.1
      simp only [decide_eq_true hA1]
      clear hA1
      go_wp2_with fail
      refine (s_l01Below B g _ _ C1.out).mono ?_
      rintro e w2 ⟨⟨x, rfl, hx0, hx1, _⟩, hc2, hg2⟩
      have hx1 := hx1 (by omega)
      obtain ⟨tk1, tk2⟩ := tk_op x ⟨hx0, hx1⟩
      have TK1 := hide tk1
      have TK2 := hide tk2
      have G2 := hide (only_alloc (only_trans G1.out hg2) (.cells #[.int .i64 (2 + x), .int .i64 0, .string ⟨#[]⟩] 64))
      have O2 : Hid ((w2.alloc (.cells #[.int .i64 (2 + x), .int .i64 0, .string ⟨#[]⟩] 64)).ownsRow w.heap.size 64 3 (.slice (some ⟨w2.heap.size, 0, none⟩) 1 1) 1 (tokCells [(2 + x, 0, ⟨#[]⟩)])) := World.ownsRow_lit w2 #[.int .i64 (2 + x), .int .i64 0, .string ⟨#[]⟩] 1 (Nat.le_trans G1.out.size hg2.size) (by unfold maxLen; omega) rfl
      have C2 := hide (hc2.alloc (.cells #[.int .i64 (2 + x), .int .i64 0, .string ⟨#[]⟩] 64))
      clear hc2 hg2 tk1 tk2
      have hn2 : 0 ≤ n / 2 ∧ n / 2 ≤ 1000 ∧ (n / 2).toNat < m := by omega
      obtain ⟨q, hq⟩ : ∃ q, n / 2 = q := ⟨_, rfl⟩
      have hqn : (2 * q ≤ n) ∧ 1 ≤ q := by omega
      rw [hq] at hn2
      go_wp2_with fail
      rw [hq]
      refine (IH.out q.toNat hn2.2.2 q _ hn2.1 hn2.2.1 rfl C2.out (V0.out.grown G2.out) (N0.out.grown G2.out) (A0.out.grown G2.out)).mono ?_
      rintro e w3 ⟨⟨D, d, l1, rfl, own1, full1, len1⟩, hc3, hg3⟩
      have O3 := hide (own_cur O2.out hg3 hgl)
      have C3 := hide hc3
      have G3 := hide (only_trans G2.out hg3)
      obtain ⟨_, _, e1, _, ar1⟩ := Arr.of_own own1
      cases e1
      have R3 := hide (InRow.of_arr ar1)
      have F1 := hide full1
      clear hc3 hg3 own1 ar1 full1
      go_wp2_with (first | (at_builtin; refine wpList_apps _ rfl (.tmp 30) (.tmp 37) _ rfl w.heap.size 64 i0 _ 3 32 Try.underlying32 HI.out hz0 hz1 hz2 rfl (by decide) _ _ _ rfl O3.out D l1.length d (tokCells l1) rfl R3.out ?a1 ?a2 ?a3 ?a4 ?_) | fail)
      case a1 => exact tokCells_one' _
      case a2 => omega
      try case a3 => decide
      case a4 => exact G3.out.size
      intro v4 w4 hown4 hb4 hg4 hv4
      rw [← tokCells_append'] at hown4
      have C4 := hide (C3.out.own hg4 (fun b e => by have := (O3.out.lt b e).1; omega))
      have G4 := hide (ev_own G3.out hg4 (fun b e => (O3.out.lt b e).1))
      have O4 := hide hown4
      obtain ⟨D4, d4, rfl, _⟩ := Arr.of_own hown4
      clear hown4 hb4 hg4 hv4
      go_wp2_with fail
      rw [hq]
      refine (IH.out q.toNat hn2.2.2 q _ hn2.1 hn2.2.1 rfl C4.out (V0.out.grown G4.out) (N0.out.grown G4.out) (A0.out.grown G4.out)).mono ?_
      rintro e w5 ⟨⟨E, e', l2, rfl, own2, full2, len2⟩, hc5, hg5⟩
      have O5 := hide (own_cur O4.out hg5 hgl)
      have C5 := hide hc5
      have G5 := hide (only_trans G4.out hg5)
      obtain ⟨_, _, e1, _, ar2⟩ := Arr.of_own own2
      cases e1
      have R5 := hide (InRow.of_arr ar2)
      have F2 := hide full2
      clear hc5 hg5 own2 ar2 full2
      go_wp2_with (first | (at_builtin; refine wpList_apps _ rfl (.tmp 39) (.tmp 46) _ rfl w.heap.size 64 i0 _ 3 32 Try.underlying32 HI.out hz0 hz1 hz2 rfl (by decide) _ _ _ rfl O5.out E l2.length e' (tokCells l2) rfl R5.out ?b1 ?b2 ?b3 ?b4 ?_) | fail)
      case b1 => exact tokCells_one' _
      case b2 => omega
      try case b3 => decide
      case b4 => exact G5.out.size
      intro v6 w6 hown6 hb6 hg6 hv6
      rw [← tokCells_append'] at hown6
      have C6 := hide (C5.out.own hg6 (fun b e => by have := (O5.out.lt b e).1; omega))
      have G6 := hide (ev_own G5.out hg6 (fun b e => (O5.out.lt b e).1))
      have hlen6 : 1 + l1.length + l2.length = ([(2 + x, (0 : Int), (⟨#[]⟩ : ByteArray))] ++ l1 ++ l2).length := by simp; omega
      rw [hlen6] at hown6
      obtain ⟨D6, d6, rfl, _⟩ := Arr.of_own hown6
      have O6 := hide hown6
      clear hown6 hb6 hg6 hv6
      go_wp2_with fail
      go_ret
      refine ⟨⟨D6, d6, _, rfl, O6.out, ?_, ?_⟩, C6.out, G6.out⟩
      · have := fullK_tok TK1.out TK2.out (fullK_app F1.out F2.out)
        simpa using this
      · right; rw [← hlen6]; omega
    · simp only [decide_eq_false hA1]
      clear hA1
      go_upto_region 6 with fail
      go_cut [48] from 49 to 59 (fun s48 wx => s48 = .bool (decide (0 < nn ∧ 1 < n ∧ k < 8)) ∧ wx = wc)
      case first =>
        by_cases h0 : 0 < nn
        · have z0 : decide (0 < nn) = true := decide_eq_true h0
          by_cases h1 : 1 < n
          · have z1 : decide ((1 : Int) < n) = true := decide_eq_true h1
            by_cases h8 : k < 8
            · have z2 : decide (k < 8) = true := decide_eq_true h8
              have z3 : decide (0 < nn ∧ 1 < n ∧ k < 8) = true := decide_eq_true ⟨h0, h1, h8⟩
              clear h0 h1 h8
              go_wp2_with fail
              go_meet
              exact ⟨by rw [z3], rfl⟩
            · have z2 : decide (k < 8) = false := decide_eq_false h8
              have z3 : decide (0 < nn ∧ 1 < n ∧ k < 8) = false := decide_eq_false (fun h => h8 h.2.2)
              clear h0 h1 h8
              go_wp2_with fail
              go_meet
              exact ⟨by rw [z3], rfl⟩
          · have z1 : decide ((1 : Int) < n) = false := decide_eq_false h1
            have z3 : decide (0 < nn ∧ 1 < n ∧ k < 8) = false := decide_eq_false (fun h => h1 h.2.1)
            clear h0 h1
            go_wp2_with fail
            go_meet
            exact ⟨by rw [z3], rfl⟩
        · have z0 : decide (0 < nn) = false := decide_eq_false h0
          have z3 : decide (0 < nn ∧ 1 < n ∧ k < 8) = false := decide_eq_false (fun h => h0 h.1)
          clear h0
          go_wp2_with fail
          go_meet
          exact ⟨by rw [z3], rfl⟩
      case rest =>
      obtain ⟨rfl, rfl⟩ := hcut
      by_cases hB1 : 0 < nn ∧ 1 < n ∧ k < 8
      · obtain ⟨hb0, hb1', hb8⟩ := hB1
        simp only [decide_eq_true (show 0 < nn ∧ 1 < n ∧ k < 8 from ⟨hb0, hb1', hb8⟩)]
        clear hb8
        go_wp2_with fail
        refine (s_l01Below B g _ _ C1.out).mono ?_
        rintro e w2 ⟨⟨x, rfl, hx0, hx1, _⟩, hc2, hg2⟩
        have hx1 := hx1 (by omega)
        obtain ⟨f, rfl⟩ := Int.eq_ofNat_of_zero_le hx0
        have hf : f < nn := by omega
        have hfn : f < names.length := by rw [HNN.out]; exact hf
        have hfa : f < ars.length := by rw [HAN.out]; exact hf
        have C2 := hide hc2
        have G2 := hide (only_trans G1.out hg2)
        clear hc2 hg2 hx0 hx1
        obtain ⟨bn, on, hAn, hbn, cn0⟩ := (N0.out.grown G2.out).1.strAt f hfn
        obtain ⟨ba, oa, hAa, hba, ca0⟩ := (A0.out.grown G2.out).1.int f hfa
        subst hAn hAa
        obtain ⟨ha0, ha2⟩ := HA.out _ (List.getElem_mem hfa)
        obtain ⟨tk1, tk2⟩ := tk_call ars[f] names[f] (by omega) (HN.out _ (List.getElem_mem hfn))
        have HAF : Hid (∀ w', w.grownBy w' (some g) → w'.cell? ⟨ba, oa + f, none⟩ = some (.int .i64 ars[f])) := fun w' hg => by
          obtain ⟨b', o', e', _, c'⟩ := (A0.out.grown hg).1.int f hfa
          cases e'
          exact c'
        generalize ars[f] = a at *
        generalize names[f] = nmf at *
        obtain ⟨a, rfl⟩ := Int.eq_ofNat_of_zero_le ha0
        have TK1 := hide tk1
        have TK2 := hide tk2
        clear tk1 tk2 ha0
        go_upto_region 8 with fail
        go_cut [14] from 64 to 73 (fun s14 wx => ∃ gb, s14 = .slice (some ⟨gb, 0, none⟩) 1 1 ∧ w.heap.size ≤ gb ∧ wx.ownsRow w.heap.size 64 3 (.slice (some ⟨gb, 0, none⟩) 1 1) 1 (tokCells [(7, (a : Int), nmf)]) ∧ Cur B wx g ∧ w.grownBy wx (some g))
        case first =>
          go_region
          all_goals
            go_wp2_with fail
            go_meet
            exact ⟨w2.heap.size, rfl, G2.out.size, World.ownsRow_lit w2 #[.int .i64 7, .int .i64 a, .string nmf] 1 G2.out.size (by unfold maxLen; omega) rfl, C2.out.alloc _, only_drew (only_alloc G2.out _)⟩
        case rest =>
          obtain ⟨gb, rfl, hgb, own0, hc3, hg3⟩ := hcut
          have O3 := hide own0
          have C3 := hide hc3
          have G3 := hide hg3
          clear own0 hc3 hg3 cn0 ca0
          have hn4 : 0 ≤ n / 4 ∧ n / 4 ≤ 1000 ∧ (n / 4).toNat < m := by omega
          obtain ⟨q, hq⟩ : ∃ q, n / 4 = q := ⟨_, rfl⟩
          have hqn : 4 * q ≤ n := by omega
          rw [hq] at hn4
          obtain ⟨bq, hbq⟩ : ∃ bq : Nat, ((bq : Int) = 1 ∧ q ≤ 1) ∨ ((bq : Int) = 2 * q - 1 ∧ 1 < q) := by
            by_cases h1 : q ≤ 1
            · exact ⟨1, .inl ⟨rfl, h1⟩⟩
            · exact ⟨(2 * q - 1).toNat, .inr ⟨by omega, by omega⟩⟩
          have HQ := hide hq
          clear hq
          go_wp2_with fail
          go_loopw [14, 15] (fun v i wr => ∃ (j : Nat) (l : List Tk) (D : Option Addr) (d : Nat), j ≤ a ∧ i = .int .i64 j ∧ v = .slice D (l.length + 1) d ∧ fullK j l ∧ (j = 0 → l.length = 0) ∧ (j = 1 → l.length ≤ bq) ∧ (j = 2 → l.length ≤ 2 * bq) ∧ wr.ownsRow w.heap.size 64 3 v (l.length + 1) (tokCells ((7, (a : Int), nmf) :: l)) ∧ Cur B wr g ∧ w.grownBy wr (some g)) (fun _ i _ => a - (intOf i).toNat)
          case atStart => exact ⟨0, [], _, _, Nat.zero_le _, rfl, rfl, fullK_zero, fun _ => rfl, fun h => by omega, fun h => by omega, O3.out, C3.out, G3.out⟩
          case round =>
            obtain ⟨j, l, D, d, hj, rfl, rfl, hfull, hl0, hl1, hl2, hown, hc, hg⟩ := hrel
            have ca0 := HAF.out wr hg
            have FK := hide hfull
            have O4 := hide hown
            have C4 := hide hc
            have G4 := hide hg
            clear hfull hown hc hg
            have hll : l.length ≤ 2 * bq := by omega
            have hl012 : Hid ((j = 0 → l.length = 0) ∧ (j = 1 → l.length ≤ bq) ∧ (j = 2 → l.length ≤ 2 * bq)) := ⟨hl0, hl1, hl2⟩
            clear hl0 hl1 hl2
            by_cases hlt : j < a
            · go_wp2_with fail
              rw [HQ.out]
              refine (IH.out q.toNat hn4.2.2 q _ hn4.1 hn4.2.1 rfl C4.out (V0.out.grown G4.out) (N0.out.grown G4.out) (A0.out.grown G4.out)).mono ?_
              rintro e w5 ⟨⟨E, e', l2, rfl, own2, full2, len2⟩, hc5, hg5⟩
              have O5 := hide (own_cur O4.out hg5 hgl)
              have C5 := hide hc5
              have G5 := hide (only_trans G4.out hg5)
              obtain ⟨_, _, e1, _, ar2⟩ := Arr.of_own own2
              cases e1
              have R5 := hide (InRow.of_arr ar2)
              have F2 := hide full2
              have hl2b : l2.length ≤ bq := by omega
              clear hc5 hg5 own2 ar2 full2
              go_wp2_with (first | (at_builtin; refine wpList_apps _ rfl (.tmp 82) (.tmp 89) _ rfl w.heap.size 64 i0 _ 3 32 Try.underlying32 HI.out hz0 hz1 hz2 rfl (by decide) _ _ _ rfl O5.out E l2.length e' (tokCells l2) rfl R5.out ?c1 ?c2 ?c3 ?c4 ?_) | fail)
              case c1 => exact tokCells_one' _
              case c2 => omega
              try case c3 => decide
              case c4 => exact G5.out.size
              intro v6 w6 hown6 hb6 hg6 hv6
              rw [← tokCells_append'] at hown6
              have C6 := hide (C5.out.own hg6 (fun b e => by have := (O5.out.lt b e).1; omega))
              have G6 := hide (ev_own G5.out hg6 (fun b e => (O5.out.lt b e).1))
              have hlen6 : l.length + 1 + l2.length = (l ++ l2).length + 1 := by simp; omega
              rw [hlen6] at hown6
              obtain ⟨D6, d6, rfl, _⟩ := Arr.of_own hown6
              have O6 := hide hown6
              have HLL : Hid ((j + 1 = 0 → (l ++ l2).length = 0) ∧ (j + 1 = 1 → (l ++ l2).length ≤ bq) ∧ (j + 1 = 2 → (l ++ l2).length ≤ 2 * bq)) := by
                obtain ⟨q0, q1, q2⟩ := hl012.out
                rw [List.length_append]
                exact ⟨fun h => by omega, fun h => by have := q0 (by omega); omega, fun h => by have := q1 (by omega); omega⟩
              clear hown6 hb6 hg6 hv6
              go_wp2_with fail
              go_roundw
              case rel => exact ⟨j + 1, l ++ l2, D6, d6, by omega, by go_num, by rw [← hlen6], fullK_app FK.out F2.out, HLL.out.1, HLL.out.2.1, HLL.out.2.2, O6.out, C6.out, G6.out⟩
              case measure => simp [intOf]; omega
            · have hja : j = a := by omega
              subst hja
              go_wp2_with fail
              go_ret
              refine ⟨⟨D, d, (7, (j : Int), nmf) :: l, rfl, O4.out, fullK_tok TK1.out TK2.out FK.out, ?_⟩, C4.out, G4.out⟩
              obtain ⟨q0, q1, q2⟩ := hl012.out
              rw [List.length_cons]
              by_cases hz0 : j = 0
              · have := q0 hz0; left; omega
              · right
                by_cases hz1 : j = 1
                · have := q1 hz1; omega
                · have := q2 (by omega); omega
      · simp only [decide_eq_false hB1]
        clear hB1
        go_upto_region 14 with fail
        go_cut [92] from 93 to 99 (fun s92 wx => ∃ bo : Bool, s92 = .bool bo ∧ (bo = true → 0 < nv) ∧ Cur B wx g ∧ w.grownBy wx (some g))
        case first =>
          by_cases h0 : 0 < nv
          · have z0 : decide (0 < nv) = true := decide_eq_true h0
            go_wp2_with fail
            refine (s_l01Once B g _ _ C1.out).mono ?_
            rintro e w2 ⟨⟨bo, rfl⟩, hc2, hg2⟩
            have C2 := hide hc2
            have G2 := hide (only_trans G1.out hg2)
            clear hc2 hg2
            go_wp2_with fail
            go_meet
            exact ⟨bo, rfl, fun _ => h0, C2.out, G2.out⟩
          · have z0 : decide (0 < nv) = false := decide_eq_false h0
            go_wp2_with fail
            go_meet
            exact ⟨false, rfl, (fun h => by cases h), C1.out, G1.out⟩
        case rest =>
          obtain ⟨bo, rfl, hbo, hc2, hg2⟩ := hcut
          have C2 := hide hc2
          have G2 := hide hg2
          clear hc2 hg2
          cases bo
          · have hzz := G2.out.size
            have C3 := hide (C2.out.alloc (.cells #[.int .i64 0, .int .i64 1, .int .i64 2, .int .i64 3, .int .i64 10, .int .i64 999] 3))
            go_wp2_with fail
            refine (s_l01PickInt B g ⟨wc.heap.size, 0, none⟩ 6 6 (fun i => [0, 1, 2, 3, 10, 999].getD i 0) (by unfold maxLen; omega) (by show wc.heap.size ≠ g; omega) _ C3.out (by simp) (fun i hi => new_ints wc 3 [0, 1, 2, 3, 10, 999] i hi)).mono ?_
            rintro e w3 ⟨⟨k', hk', rfl⟩, hc3, hg3⟩
            have hr : 0 ≤ ([0, 1, 2, 3, 10, 999] : List Int).getD k' 0 ∧ ([0, 1, 2, 3, 10, 999] : List Int).getD k' 0 ≤ 999 := by
              have : k' = 0 ∨ k' = 1 ∨ k' = 2 ∨ k' = 3 ∨ k' = 4 ∨ k' = 5 := by omega
              rcases this with rfl | rfl | rfl | rfl | rfl | rfl <;> decide
            generalize ([0, 1, 2, 3, 10, 999] : List Int).getD k' 0 = x at *
            obtain ⟨tk1, tk2⟩ := tk_num x hr
            have TK1 := hide tk1
            have TK2 := hide tk2
            have G3 := hide (only_trans (only_alloc G2.out (.cells #[.int .i64 0, .int .i64 1, .int .i64 2, .int .i64 3, .int .i64 10, .int .i64 999] 3)) hg3)
            have C4 := hide hc3
            clear hc3 hg3 tk1 tk2
            go_wp2_with fail
            go_ret
            exact ⟨⟨_, _, [(0, x, ⟨#[]⟩)], rfl, World.ownsRow_lit w3 #[.int .i64 0, .int .i64 x, .string ⟨#[]⟩] 1 G3.out.size (by unfold maxLen; omega) rfl, fullK_tok TK1.out TK2.out fullK_zero, .inl (by simp)⟩, C4.out.alloc _, only_alloc G3.out _⟩
          · have h0 := hbo rfl
            go_wp2_with fail
            refine (s_l01Below B g _ _ C2.out).mono ?_
            rintro e w3 ⟨⟨x, rfl, hx0, hx1, _⟩, hc3, hg3⟩
            have hx1 := hx1 (by omega)
            obtain ⟨f, rfl⟩ := Int.eq_ofNat_of_zero_le hx0
            have hf : f < nv := by omega
            have hfn : f < vars.length := by rw [HVN.out]; exact hf
            have C3 := hide hc3
            have G3 := hide (only_trans G2.out hg3)
            clear hc3 hg3 hx0 hx1
            obtain ⟨bn, on, hAn, hbn, cn0⟩ := (V0.out.grown G3.out).1.strAt f hfn
            subst hAn
            obtain ⟨tk1, tk2⟩ := tk_var vars[f] (HV.out _ (List.getElem_mem hfn))
            generalize vars[f] = nmf at *
            have TK1 := hide tk1
            have TK2 := hide tk2
            clear tk1 tk2
            go_wp2_with fail
            go_ret
            exact ⟨⟨_, _, [(1, 0, nmf)], rfl, World.ownsRow_lit w3 #[.int .i64 1, .int .i64 0, .string nmf] 1 G3.out.size (by unfold maxLen; omega) rfl, fullK_tok TK1.out TK2.out fullK_zero, .inl (by simp)⟩, C3.out.alloc _, only_alloc G3.out _⟩
end Go.Proofs.Ytcfjbaanahgpoaa
