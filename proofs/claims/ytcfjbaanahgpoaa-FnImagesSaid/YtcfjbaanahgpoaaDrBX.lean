import Derived.Test.YtcfjbaanahgpoaaDrE
import Derived.Test.YtcfjbaanahgpoaaOwnG
import Derived.Test.YtcfjbaanahgpoaaLnOkX
import Derived.Deep.RegionHeld3
namespace Go.Proofs.Ytcfjbaanahgpoaa
open Go Go.RowKit
set_option maxRecDepth 100000
set_option linter.unusedVariables false
set_option linter.unusedSimpArgs false
/-! Drawn lines. -/
structure Gen (w : World) (gb g : Nat) (vars names : List ByteArray) (ars : List Int) : Prop where
  env : ∃ (Av An Aa : Option Addr) (nv cv nn cn ca : Nat), Blk w gb 93 #[.pointer (some ⟨g, 0, none⟩), .slice Av nv cv, .slice An nn cn, .slice Aa nn ca] ∧ vars.length = nv ∧ names.length = nn ∧ ars.length = nn ∧ nv ≤ 100 ∧ nn ≤ 100 ∧
    RowX w g Av nv 1 (strCells vars) ∧ RowX w g An nn 1 (strCells names) ∧ RowX w g Aa nn 1 (intCells ars)
  ne : gb ≠ g
  vok : ∀ s ∈ vars, nameOkF s.data.toList = true
  nok : ∀ s ∈ names, nameOkF s.data.toList = true
  aok : ∀ a ∈ ars, 0 ≤ a ∧ a ≤ 2
theorem Gen.grown {w w' : World} {gb g : Nat} {vars names : List ByteArray} {ars : List Int} (h : Gen w gb g vars names ars) (hg : w.grownBy w' (some g)) : Gen w' gb g vars names ars := by
  obtain ⟨⟨Av, An, Aa, nv, cv, nn, cn, ca, h1, h2, h3, h4, h5, h6, h7, h8, h9⟩, hne, a, b, c⟩ := h
  exact ⟨⟨Av, An, Aa, nv, cv, nn, cn, ca, h1.grown hg (by simpa using hne), h2, h3, h4, h5, h6, h7.grown hg, h8.grown hg, h9.grown hg⟩, hne, a, b, c⟩
set_option maxHeartbeats 2000000 in
theorem s_gexpr (B g gb : Nat) (vars names : List ByteArray) (ars : List Int) (n : Int) (hn0 : 0 ≤ n) (hn1 : n ≤ 1000) (w : World) (hc : Cur B w g) (h : Gen w gb g vars names ars) :
    Calls Try.prog 57 #[.pointer (some ⟨gb, 0, none⟩), .int .i64 n] w fun e w' => ExRet n w e w' ∧ Cur B w' g ∧ w.grownBy w' (some g) := by
  obtain ⟨⟨Av, An, Aa, nv, cv, nn, cn, ca, hk, h2, h3, h4, h5, h6, h7, h8, h9⟩, hne, a, b, c⟩ := h
  have k0 := hk.cell 0
  have k1 := hk.cell 1
  have k2 := hk.cell 2
  have k3 := hk.cell 3
  simp at k0 k1 k2 k3
  have HC : Hid (∀ w', w' = w ∨ w' = w.drew → Calls Try.prog 85 #[.pointer (some ⟨g, 0, none⟩), .int .i64 n, .slice Av nv cv, .slice An nn cn, .slice Aa nn ca] w' fun e w'' => ExRet n w' e w'' ∧ Cur B w'' g ∧ w'.grownBy w'' (some g)) := by
    intro w' hw
    rcases hw with rfl | rfl
    · exact s_expr B g nv cv nn cn ca Av An Aa vars names ars h2 h3 h4 h5 h6 a b c _ n _ hn0 hn1 rfl hc h7 h8 h9
    · exact s_expr B g nv cv nn cn ca Av An Aa vars names ars h2 h3 h4 h5 h6 a b c _ n _ hn0 hn1 rfl hc h7 h8 h9
  clear hk a b c hc h7 h8 h9
  go_enter Try.func57, Try.ntmps57
  go_upto_region 1 with fail
  go_still_tail 17, (by kernel_rfl)
  change wpList _ _ _ _ _ w.drew
  go_wp2_with fail
  refine (HC.out _ (.inr rfl)).mono ?_
  rintro e w2 ⟨⟨D, d, l, rfl, own, full, len⟩, hc2, hg2⟩
  go_wp2_with fail
  go_ret
  exact ⟨⟨D, d, l, rfl, own, full, len⟩, hc2, ⟨hg2.os, hg2.tape, hg2.output, hg2.size, hg2.block⟩⟩
theorem Try.infoLnD : (Try.prog.info? 34).map (fun i => (i.zero, i.size, i.bytes)) = some (some (.agg #[.int .i64 0, .string ByteArray.empty, .slice none 0 0, .slice none 0 0]), 4, 72) := by kernel_rfl
/-- Lines put one after another, while a draw goes on. -/
def BSt (w0 w : World) (B g : Nat) (v : Value) (m : Nat) : Prop := ∃ (A : Option Addr) (P : List LP) (c : Nat), v = .slice A P.length c ∧ OwnL w w0.heap.size 34 v P P ∧ (∀ p ∈ P, lineOkF p.1 = true) ∧ P.length ≤ m ∧ Cur B w g ∧ w0.grownBy w (some g)
/-- .. and one line more, that is made but not yet put. -/
def BLn (w0 w : World) (B g : Nat) (v : Value) (m : Nat) (p : LP) : Prop := ∃ P : List LP, OwnL w w0.heap.size 34 v P (P ++ [p]) ∧ (∀ p ∈ P, lineOkF p.1 = true) ∧ lineOkF p.1 = true ∧ P.length ≤ m ∧ Cur B w g ∧ w0.grownBy w (some g)
section
variable {w0 w w' : World} {B g m m' q : Nat} {v u : Value} {p : LP}
theorem BSt.mono (h : BSt w0 w B g v m) (hm : m ≤ m') : BSt w0 w B g v m' := by
  obtain ⟨A, P, c, h1, h2, h3, h4, h5⟩ := h
  exact ⟨A, P, c, h1, h2, h3, Nat.le_trans h4 hm, h5⟩
theorem BSt.cur (h : BSt w0 w B g v m) : Cur B w g := by obtain ⟨_, _, _, _, _, _, _, h5, _⟩ := h; exact h5
theorem BSt.ev (h : BSt w0 w B g v m) : w0.grownBy w (some g) := by obtain ⟨_, _, _, _, _, _, _, _, h6⟩ := h; exact h6
theorem BSt.slice (h : BSt w0 w B g v m) : ∃ A n c, v = .slice A n c := by obtain ⟨A, P, c, h1, _⟩ := h; exact ⟨A, _, c, h1⟩
theorem BSt.nil_ (hc : Cur B w g) (ho : w.ownsRow w0.heap.size 34 4 v 0 []) (hg : w0.grownBy w (some g)) : BSt w0 w B g v 0 := by
  obtain ⟨A, c, rfl, _⟩ := Arr.of_own ho
  exact ⟨A, [], c, rfl, OwnL.nil_ ho, (fun p hp => by cases hp), Nat.le_refl _, hc, hg⟩
/-- The cursor turns. -/
theorem BSt.drew (h : BSt w0 w B g v m) (hc : Cur B w' g) (hg : w.grownBy w' (some g)) (hl : g < w0.heap.size) : BSt w0 w' B g v m := by
  obtain ⟨A, P, c, h1, h2, h3, h4, h5, h6⟩ := h
  exact ⟨A, P, c, h1, h2.cur hg hl, h3, h4, hc, only_trans h6 hg⟩
theorem own_rows_none {w : World} {lo hi : Nat} {k : Int} {s : ByteArray} : Own w lo hi ([(((k, s, [], []), none, 0, none, 0) : LP)].flatMap lnRows) :=
  Own.two (Arr.nil_ _ _ _ _ _) (Arr.nil_ _ _ _ _ _) (fun h => by simp at h)
theorem BSt.bare (h : BSt w0 w B g v m) (hl : g < w0.heap.size) {k : Int} {s : ByteArray} (hk : lineOkF (k, s, [], []) = true) : BLn w0 w B g v m ((k, s, [], []), none, 0, none, 0) := by
  obtain ⟨A, P, c, h1, h2, h3, h4, h5, h6⟩ := h
  refine ⟨P, h2.more (World.grownBy.refl w _) hl h6.size own_rows_none ?_, h3, hk, h4, h5, h6⟩
  intro p hp
  obtain rfl := List.mem_singleton.1 hp
  exact ⟨Nat.le_refl _, Nat.zero_le _, Nat.le_refl _, Nat.zero_le _⟩
theorem BSt.expr (h : BSt w0 w B g v m) (hl : g < w0.heap.size) (hc : Cur B w' g) (hg : w.grownBy w' (some g)) {D : Option Addr} {d : Nat} {l : List Tk}
    (ho : w'.ownsRow w.heap.size 64 3 (.slice D l.length d) l.length (tokCells l)) {k : Int} {s : ByteArray} (hk : lineOkF (k, s, [], l) = true) : BLn w0 w' B g v m ((k, s, [], l), none, 0, D, d) := by
  obtain ⟨A, P, c, h1, h2, h3, h4, h5, h6⟩ := h
  obtain ⟨_, _, e1, q1, q2, q3, _⟩ := Arr.own2 ho
  cases e1
  refine ⟨P, h2.more hg hl h6.size ?_ ?_, h3, hk, h4, hc, only_trans h6 hg⟩
  · show Own _ _ _ ([_, _] ++ [])
    rw [List.append_nil]
    exact Own.two (Arr.nil_ _ _ _ _ _) q3 (fun hn => by simp at hn)
  · intro p hp
    obtain rfl := List.mem_singleton.1 hp
    exact ⟨Nat.le_refl _, Nat.zero_le _, q1, q2⟩
theorem line_set {s : ByteArray} {l : List Tk} (hs : nameOkF s.data.toList = true) (hl : exprOkF l = true) : lineOkF (1, s, [], l) = true := by
  unfold lineOkF; simp [btw, hasExprF, hs, hl]
theorem line_ex {k : Int} {l : List Tk} (hk : k = 2 ∨ k = 3 ∨ k = 5 ∨ k = 6) (hl : exprOkF l = true) : lineOkF (k, ⟨#[]⟩, [], l) = true := by
  unfold lineOkF
  rcases hk with rfl | rfl | rfl | rfl <;> simp [btw, hasExprF, hl]
theorem line_no {k : Int} (hk : k = 4 ∨ k = 7) : lineOkF (k, ⟨#[]⟩, [], []) = true := by
  unfold lineOkF
  rcases hk with rfl | rfl <;> simp [btw, hasExprF]
/-- append of the line that is made. -/
theorem wpList_line {ops : Array Oper} {rest : List Oper} {o : Oper} {a : Act} {Q : Exit → Act → World → Prop} {gN : Nat} (hgd : o.guard = none) (s x : Operand)
    (ho : o.op = .call { callee := .builtin .append, args := #[s, x], argTypes := #[24, 24] }) (hB : BLn w0 w B g v m p) (hs : a.eval s = v) (hx : a.eval x = .slice (some ⟨gN, 0, none⟩) 1 1) (hgN : gN = w.heap.size) (hm : m ≤ 1000000) (hgl : g < w0.heap.size)
    (h : ∀ v' w', BSt w0 w' B g v' (m + 1) → wpList Try.prog ops Q rest (a.put o.dst v') w') : wpList Try.prog ops Q (o :: rest) a (w.alloc (.cells (lnC p).toArray 34)) := by
  obtain ⟨i0, hi, hz0, hz1, hz2⟩ := info_parts Try.infoLnD
  obtain ⟨P, h2, h3, hk, h4, h5, h6⟩ := hB
  refine wpList_appN w hgd s x _ ho w0.heap.size 34 i0 _ 4 72 Try.underlying24 hi hz0 hz1 hz2 rfl (by decide) v _ _ hs h2.1 1 (lnC p) hx hgN rfl ?_ ?_ (by decide) h6.size ?_
  · intro u hu; simp [lnC] at hu; rcases hu with rfl | rfl | rfl | rfl <;> rfl
  · omega
  intro v' w' hown hb hg hv
  have hO := h2.app hown hg hv
  obtain ⟨A', c', rfl, _⟩ := Arr.of_own hown
  refine h _ _ ⟨A', P ++ [p], c', by simp, hO, ?_, by simp; omega, h5.own hg (fun b e => by have := (h2.1.lt b e).1; omega), ev_own h6 hg (fun b e => (h2.1.lt b e).1)⟩
  intro q hq
  rcases List.mem_append.1 hq with hq | hq
  · exact h3 q hq
  · obtain rfl := List.mem_singleton.1 hq; exact hk
/-- append of the lines that a callee has answered. -/
theorem wpList_lines {ops : Array Oper} {rest : List Oper} {o : Oper} {a : Act} {Q : Exit → Act → World → Prop} (hgd : o.guard = none) (s x : Operand)
    (ho : o.op = .call { callee := .builtin .append, args := #[s, x], argTypes := #[24, 24] }) (hB : BSt w0 w B g v m) (hU : BSt w w' B g u q) (hs : a.eval s = v) (hx : a.eval x = u) (hm : m + q ≤ 1000000) (hgl : g < w0.heap.size)
    (h : ∀ v' w'', BSt w0 w'' B g v' (m + q) → wpList Try.prog ops Q rest (a.put o.dst v') w'') : wpList Try.prog ops Q (o :: rest) a w' := by
  obtain ⟨i0, hi, hz0, hz1, hz2⟩ := info_parts Try.infoLnD
  obtain ⟨A, P, c, hv, h2, h3, h4, h5, h6⟩ := hB
  obtain ⟨A', P', c', rfl, k2, k3, k4, k5, k6⟩ := hU
  have hO := h2.more k6 hgl h6.size (k2.2.1) k2.2.2.2
  obtain ⟨A2, c2, e2, _, r2⟩ := Arr.of_own k2.1
  cases e2
  have hG := only_trans h6 k6
  refine wpList_apps w' hgd s x _ ho w0.heap.size 34 i0 _ 4 72 Try.underlying24 hi hz0 hz1 hz2 rfl (by decide) v _ _ hs hO.1 A' P'.length c' (P'.flatMap lnC) hx (InRow.of_arr r2) ?_ (by omega) (by decide) hG.size ?_
  · intro u hu
    obtain ⟨p, _, h⟩ := List.mem_flatMap.1 hu
    simp [lnC] at h
    rcases h with rfl | rfl | rfl | rfl <;> rfl
  intro v' w'' hown hb hg hv'
  have hO2 := hO.apps hown hg hv'
  obtain ⟨A3, c3, rfl, _⟩ := Arr.of_own hown
  refine h _ _ ⟨A3, P ++ P', c3, by simp, hO2, ?_, by simp; omega, k5.own hg (fun b e => by have := (hO.1.lt b e).1; omega), ev_own hG hg (fun b e => (hO.1.lt b e).1)⟩
  intro p hp
  rcases List.mem_append.1 hp with hp | hp
  · exact h3 p hp
  · exact k3 p hp
end
end Go.Proofs.Ytcfjbaanahgpoaa
namespace Go.Proofs.Ytcfjbaanahgpoaa
open Go Go.RowKit
set_option maxRecDepth 100000
set_option linter.unusedVariables false
set_option linter.unusedSimpArgs false
def KD : Nat → Nat
  | 0 => 1
  | d + 1 => 3 + 3 * KD d
theorem tkI : tkOk (1, 0, ⟨#[105]⟩) = true ∧ tkAr (1, 0, ⟨#[105]⟩) = (0 : Nat) := tk_var ⟨#[105]⟩ (by decide)
theorem lit_while (x : Int) (hx : 0 ≤ x ∧ x ≤ 999) : exprOkF [(5, 0, ⟨#[]⟩), (1, 0, ⟨#[105]⟩), (0, x, ⟨#[]⟩)] = true := by
  refine fullK_ok ?_ (by simp)
  have h2 := fullK_tok (tk_num x hx).1 (tk_num x hx).2 fullK_zero
  have h1 := fullK_tok tkI.1 tkI.2 fullK_zero
  exact fullK_tok (r := 2) (by decide) (by decide) (fullK_app h1 h2)
theorem lit_add : exprOkF [(2, 0, ⟨#[]⟩), (1, 0, ⟨#[105]⟩), (0, 1, ⟨#[]⟩)] = true := by
  refine fullK_ok ?_ (by simp)
  have h2 := fullK_tok (tk_num 1 (by omega)).1 (tk_num 1 (by omega)).2 fullK_zero
  have h1 := fullK_tok tkI.1 tkI.2 fullK_zero
  exact fullK_tok (r := 2) (by decide) (by decide) (fullK_app h1 h2)
set_option maxHeartbeats 4000000 in
theorem s_gbody (B g gb : Nat) (vars names : List ByteArray) (ars : List Int) (hv0 : 0 < vars.length) :
    ∀ (d : Nat), d ≤ 2 → ∀ (N : Nat) (w : World), N ≤ 4 → Cur B w g → Gen w gb g vars names ars →
    Calls Try.prog 56 #[.pointer (some ⟨gb, 0, none⟩), .int .i64 N, .int .i64 d] w fun e w' => ∃ v, e = .returned v ∧ BSt w w' B g v (KD d * N) := by
  intro d
  induction d using Nat.strongRecOn with
  | _ d ih =>
    intro hd N w hN hc hge
    have IH : Hid (∀ d' : Nat, d = d' + 1 → ∀ (N : Nat) (w : World), N ≤ 4 → Cur B w g → Gen w gb g vars names ars →
        Calls Try.prog 56 #[.pointer (some ⟨gb, 0, none⟩), .int .i64 N, .int .i64 d'] w fun e w' => ∃ v, e = .returned v ∧ BSt w w' B g v (KD d' * N)) := fun d' h => ih d' (by omega) (by omega)
    have hgl := hc.lt
    have C0 := hide hc
    have GE := hide hge
    have HKD : Hid (∀ d' : Nat, d = d' + 1 → KD d = 3 + 3 * KD d' ∧ 1 ≤ KD d' ∧ KD d' ≤ 6) := fun d' h => by
      have : d' = 0 ∨ d' = 1 := by omega
      subst h
      rcases this with rfl | rfl <;> decide
    have hKD1 : 1 ≤ KD d ∧ KD d ≤ 21 := by
      have : d = 0 ∨ d = 1 ∨ d = 2 := by omega
      rcases this with rfl | rfl | rfl <;> decide
    obtain ⟨⟨Av, An, Aa, nv, cv, nn, cn, ca, e1, e2, _, _, _, _, e7, _, _⟩, hne, hvok, _, _⟩ := hge
    have HVOK := hide hvok
    have HK : Hid (∀ w', w.grownBy w' (some g) → w'.cell? ⟨gb, 0, none⟩ = some (.pointer (some ⟨g, 0, none⟩)) ∧ w'.cell? ⟨gb, 1, none⟩ = some (.slice Av nv cv) ∧ RowX w' g Av nv 1 (strCells vars)) := fun w' hg => by
      have := e1.grown hg (by simpa using hne)
      exact ⟨(this.cell 0).trans (by simp), (this.cell 1).trans (by simp), e7.grown hg⟩
    have hvn : vars.length = nv := e2
    clear ih hc e1 e2 e7 hvok
    obtain ⟨K, hKK⟩ : ∃ K, KD d = K := ⟨_, rfl⟩
    rw [hKK] at hKD1 HKD
    rw [hKK]
    clear hKK
    go_enter Try.func56, Try.ntmps56
    go_wp2_with fail
    go_loopw [1, 7] (fun nv ov wr => ∃ r i : Nat, r + i = N ∧ nv = .int .i64 r ∧ BSt w wr B g ov (K * i)) (fun nv _ _ => (intOf nv).toNat)
    case atStart => exact ⟨N, 0, by omega, rfl, BSt.nil_ (C0.out.alloc _) (World.ownsRow_lit w #[] 0 (Nat.le_refl _) (Nat.zero_le _) rfl) (only_alloc (World.grownBy.refl w _) _)⟩
    case round =>
      obtain ⟨r, i, hri, rfl, hst⟩ := hrel
      have ST := hide hst
      clear hst
      by_cases hr0 : r = 0
      · subst hr0
        have hiN : i = N := by omega
        go_wp2_with fail
        go_ret
        exact ⟨_, rfl, by rw [← hiN]; exact ST.out⟩
      · obtain ⟨r, rfl⟩ : ∃ q, r = q + 1 := ⟨r - 1, by omega⟩
        have hKi : K * i ≤ 84 := Nat.le_trans (Nat.mul_le_mul (show K ≤ 21 by omega) (show i ≤ 4 by omega)) (by decide)
        clear hr0
        have hpos : decide (0 < r + 1) = true := decide_eq_true (by omega)
        have hkx := HK.out _ (ST.out.ev)
        have k0 := hkx.1
        have k1 := hkx.2.1
        clear hkx
        go_wp2_with fail
        refine (s_l01Below B g _ _ ST.out.cur).mono ?_
        rintro e w1 ⟨⟨k, rfl, hk0, hk1, _⟩, hc1, hg1⟩
        have hk1 := hk1 (by omega)
        have S1 := hide (ST.out.drew hc1 hg1 hgl)
        clear hc1 hg1 ST k0 k1
        by_cases hk4 : k < 4
        · have zk4 : decide (k < 4) = true := decide_eq_true hk4
          have hkx := HK.out _ (S1.out.ev)
          have k0 := hkx.1
          have k1 := hkx.2.1
          obtain ⟨bv, ov', hAv, _, _⟩ := hkx.2.2.1.strAt 0 hv0
          clear hkx
          clear hk4
          subst hAv
          have HE : Hid (∀ w', w.grownBy w' (some g) → ∀ f : Nat, f < nv → w'.cell? ⟨bv, ov' + f, none⟩ = some (.string (vars.getD f ⟨#[]⟩))) := fun w' hg f hf => by
            obtain ⟨b2, o2, e2, _, c2⟩ := (HK.out w' hg).2.2.1.strAt f (by omega)
            cases e2
            rw [List.getD_eq_getElem?_getD, List.getElem?_eq_getElem (show f < vars.length by omega)]
            exact c2
          have ke := HE.out _ S1.out.ev
          go_upto_region 8 with fail
          go_cut [9] from 34 to 49 (fun s9 wx => ∃ nm : ByteArray, s9 = .string nm ∧ nameOkF nm.data.toList = true ∧ BSt w wx B g u7 (K * i))
          case first =>
            go_region_held3 (fun w' => w'.cell? ⟨gb, 0, none⟩ = some (.pointer (some ⟨g, 0, none⟩)) ∧ w'.cell? ⟨gb, 1, none⟩ = some (.slice (some ⟨bv, ov', none⟩) nv cv) ∧ (∀ f : Nat, f < nv → w'.cell? ⟨bv, ov' + f, none⟩ = some (.string (vars.getD f ⟨#[]⟩)))) (first | exact ⟨k0, k1, ke⟩ | exact ⟨k0', k1', ke'⟩) (first | (go_at_call 54; refine (s_l01Below B g _ _ (by first | exact S1.out.cur | exact (show Cur B w1.drew g from S1.out.cur))).mono ?_; rintro e w2 ⟨⟨x, rfl, hx0, hx1, _⟩, hc2, hg2⟩; have hx1 := hx1 (by omega); obtain ⟨f, rfl⟩ := Int.eq_ofNat_of_zero_le hx0; have hfn : f < nv := (by omega); have S2 := hide (S1.out.drew hc2 ⟨hg2.os, hg2.tape, hg2.output, hg2.size, hg2.block⟩ hgl); have hkx := HK.out _ S2.out.ev; have k0' := hkx.1; have k1' := hkx.2.1; have ke' := HE.out _ S2.out.ev; have HNM : Hid (nameOkF (vars.getD f ⟨#[]⟩).data.toList = true) := (by have hfl : f < vars.length := (by omega); rw [List.getD_eq_getElem?_getD, List.getElem?_eq_getElem hfl]; exact HVOK.out _ (List.getElem_mem hfl)); have hfl : f < vars.length := (by omega); have HNM2 := hide (HVOK.out _ (List.getElem_mem hfl)); clear hkx hc2 hg2))
            all_goals
              go_wp2_with fail
              go_meet
              first | exact ⟨_, rfl, HNM2.out, S2.out⟩ | exact ⟨_, rfl, HNM.out, S2.out⟩
          case rest =>
          obtain ⟨nm, rfl, hnm, hst⟩ := hcut
          have HNM := hide hnm
          have S2 := hide hst
          clear hnm hst S1 k0 k1 ke HE
          go_wp2_with fail
          refine (s_gexpr B g gb vars names ars 6 (by omega) (by omega) _ S2.out.cur (GE.out.grown S2.out.ev)).mono ?_
          rintro e w' ⟨⟨D, dc, l, rfl, own, full, len⟩, hc, hg⟩
          have X2 := hide (S2.out.expr hgl hc hg own (k := 1) (s := nm) (line_set HNM.out (fullK_ok full (by omega))))
          clear hc hg own full len S2
          go_wp2_with (first | (at_builtin; refine wpList_line rfl (.tmp 50) (.tmp 55) rfl X2.out rfl rfl ?hS3 (by omega) hgl ?_) | fail)
          try case hS3 => first | rfl | (simp; done)
          intro v' w' hst'
          have S3 := hide hst'
          clear hst' X2
          go_wp2_with fail
          go_roundw
          case rel => exact ⟨r, i + 1, by omega, by go_num, S3.out.mono (by rw [Nat.mul_succ]; omega)⟩
          case measure => first | (simp [intOf]; done) | (simp [intOf]; omega)
        · have zk4 : decide (k < 4) = false := decide_eq_false hk4
          by_cases hk6 : k < 6
          · have zk6 : decide (k < 6) = true := decide_eq_true hk6
            clear hk4 hk6
            go_wp2_with fail
            refine (s_gexpr B g gb vars names ars 5 (by omega) (by omega) _ S1.out.cur (GE.out.grown S1.out.ev)).mono ?_
            rintro e w' ⟨⟨D, dc, l, rfl, own, full, len⟩, hc, hg⟩
            have X2 := hide (S1.out.expr hgl hc hg own (k := 2) (s := ⟨#[]⟩) (line_ex (by simp) (fullK_ok full (by omega))))
            clear hc hg own full len S1
            go_wp2_with (first | (at_builtin; refine wpList_line rfl (.tmp 60) (.tmp 64) rfl X2.out rfl rfl ?hS3 (by omega) hgl ?_) | fail)
            try case hS3 => first | rfl | (simp; done)
            intro v' w' hst'
            have S3 := hide hst'
            clear hst' X2
            go_wp2_with fail
            go_roundw
            case rel => exact ⟨r, i + 1, by omega, by go_num, S3.out.mono (by rw [Nat.mul_succ]; omega)⟩
            case measure => first | (simp [intOf]; done) | (simp [intOf]; omega)
          · have zk6 : decide (k < 6) = false := decide_eq_false hk6
            clear hk4 hk6
            go_upto_region 12 with fail
            go_cut [66] from 67 to 72 (fun s66 wx => s66 = .bool (decide (k = 6 ∧ 0 < d)) ∧ wx = w1)
            case first =>
              by_cases he : k = 6
              · have ze : (k == 6) = true := by simp [he]
                by_cases hd0 : 0 < d
                · have zd : decide (0 < d) = true := decide_eq_true hd0
                  have zz : decide (k = 6 ∧ 0 < d) = true := decide_eq_true ⟨he, hd0⟩
                  clear he hd0
                  go_wp2_with fail
                  go_meet
                  exact ⟨by rw [zz], rfl⟩
                · have zd : decide (0 < d) = false := decide_eq_false hd0
                  have zz : decide (k = 6 ∧ 0 < d) = false := decide_eq_false (fun h => hd0 h.2)
                  clear he hd0
                  go_wp2_with fail
                  go_meet
                  exact ⟨by rw [zz], rfl⟩
              · have ze : (k == 6) = false := by simp [he]
                have zz : decide (k = 6 ∧ 0 < d) = false := decide_eq_false (fun h => he h.1)
                clear he
                go_wp2_with fail
                go_meet
                exact ⟨by rw [zz], rfl⟩
            case rest =>
            obtain ⟨rfl, rfl⟩ := hcut
            by_cases hke : k = 6 ∧ 0 < d
            · have hd0 := hke.2
              obtain ⟨d', hd'⟩ : ∃ d', d = d' + 1 := ⟨d - 1, by omega⟩
              have HD := hide hd'
              obtain ⟨hK3, hK1, hK6⟩ := HKD.out d' hd'
              have HK3 := hide hK3
              have HDI : Hid ((d : Int) - 1 = (d' : Int)) := by show _ = _; omega
              simp only [decide_eq_true hke]
              clear hke hd' hK3 hd0
              go_wp2_with fail
              refine (s_gexpr B g gb vars names ars 4 (by omega) (by omega) _ S1.out.cur (GE.out.grown S1.out.ev)).mono ?_
              rintro e w' ⟨⟨D, dc, l, rfl, own, full, len⟩, hc, hg⟩
              have X2 := hide (S1.out.expr hgl hc hg own (k := 3) (s := ⟨#[]⟩) (line_ex (by simp) (fullK_ok full (by omega))))
              clear hc hg own full len S1
              go_wp2_with (first | (at_builtin; refine wpList_line rfl (.tmp 73) (.tmp 77) rfl X2.out rfl rfl ?hS3 (by omega) hgl ?_) | fail)
              try case hS3 => first | rfl | (simp; done)
              intro v' w' hst'
              have S3 := hide hst'
              clear hst' X2
              have hkx := HK.out _ (S3.out.ev)
              have k0 := hkx.1
              have k1 := hkx.2.1
              clear hkx
              go_wp2_with fail
              refine (s_l01Below B g _ _ S3.out.cur).mono ?_
              rintro e w4 ⟨⟨x, rfl, hx0, hx1, _⟩, hc4, hg4⟩
              have hx1 := hx1 (by omega)
              obtain ⟨f, rfl⟩ := Int.eq_ofNat_of_zero_le hx0
              have S4 := hide (S3.out.drew hc4 hg4 hgl)
              clear hc4 hg4 hx0 k0 k1 S3
              have HCAST : Hid ((1 : Int) + (f : Int) = ((1 + f : Nat) : Int)) := by show _ = _; omega
              have hKf : KD d' * (1 + f) ≤ 2 * KD d' := by
                have : f = 0 ∨ f = 1 := by omega
                rcases this with rfl | rfl <;> omega
              have hf2 : 1 + f ≤ 4 := by omega
              go_wp2_with fail
              rw [HCAST.out, HDI.out]
              refine (IH.out d' HD.out (1 + f) _ hf2 S4.out.cur (GE.out.grown S4.out.ev)).mono ?_
              rintro e w' ⟨u, rfl, hu⟩
              have U1 := hide (hu.mono hKf)
              clear hu hKf
              go_wp2_with (first | (at_builtin; refine wpList_lines rfl (.tmp 79) (.tmp 89) rfl S4.out U1.out rfl rfl (by omega) hgl ?_) | fail)
              intro v' w' hst'
              have S5 := hide hst'
              clear hst' S4 U1
              have hkx := HK.out _ (S5.out.ev)
              have k0 := hkx.1
              have k1 := hkx.2.1
              clear hkx
              go_wp2_with fail
              refine (s_l01Once B g _ _ S5.out.cur).mono ?_
              rintro e w6 ⟨⟨bo, rfl⟩, hc6, hg6⟩
              have S6 := hide (S5.out.drew hc6 hg6 hgl)
              clear hc6 hg6 k0 k1 S5
              cases bo
              · skip
                have X7 := hide (S6.out.bare hgl (k := 7) (s := ⟨#[]⟩) (line_no (by simp)))
                clear S6
                go_wp2_with (first | (at_builtin; refine wpList_line rfl (.tmp 106) (.tmp 108) rfl X7.out rfl rfl ?hS7 (by omega) hgl ?_) | fail)
                try case hS7 => first | rfl | (simp; done)
                intro v' w' hst'
                have S7 := hide hst'
                clear hst' X7
                go_wp2_with fail
                go_roundw
                case rel => exact ⟨r, i + 1, by omega, by go_num, S7.out.mono (by rw [Nat.mul_succ]; have := HK3.out; omega)⟩
                case measure => first | (simp [intOf]; done) | (simp [intOf]; omega)
              · skip
                have X7 := hide (S6.out.bare hgl (k := 4) (s := ⟨#[]⟩) (line_no (by simp)))
                clear S6
                go_wp2_with (first | (at_builtin; refine wpList_line rfl (.tmp 96) (.tmp 98) rfl X7.out rfl rfl ?hS7 (by omega) hgl ?_) | fail)
                try case hS7 => first | rfl | (simp; done)
                intro v' w' hst'
                have S7 := hide hst'
                clear hst' X7
                go_wp2_with fail
                rw [HDI.out]
                refine (IH.out d' HD.out 1 _ (by omega) S7.out.cur (GE.out.grown S7.out.ev)).mono ?_
                rintro e w' ⟨u, rfl, hu⟩
                have U2 := hide (hu.mono (show KD d' * 1 ≤ KD d' by omega))
                clear hu
                go_wp2_with (first | (at_builtin; refine wpList_lines rfl (.tmp 100) (.tmp 104) rfl S7.out U2.out rfl rfl (by omega) hgl ?_) | fail)
                intro v' w' hst'
                have S8 := hide hst'
                clear hst' S7 U2
                have X9 := hide (S8.out.bare hgl (k := 7) (s := ⟨#[]⟩) (line_no (by simp)))
                clear S8
                go_wp2_with (first | (at_builtin; refine wpList_line rfl (.tmp 106) (.tmp 108) rfl X9.out rfl rfl ?hS9 (by omega) hgl ?_) | fail)
                try case hS9 => first | rfl | (simp; done)
                intro v' w' hst'
                have S9 := hide hst'
                clear hst' X9
                go_wp2_with fail
                go_roundw
                case rel => exact ⟨r, i + 1, by omega, by go_num, S9.out.mono (by rw [Nat.mul_succ]; have := HK3.out; omega)⟩
                case measure => first | (simp [intOf]; done) | (simp [intOf]; omega)
            · simp only [decide_eq_false hke]
              clear hke
              go_upto_region 19 with fail
              go_cut [110] from 111 to 116 (fun s110 wx => s110 = .bool (decide (k = 7 ∧ 0 < d)) ∧ wx = wc)
              case first =>
                by_cases he : k = 7
                · have ze : (k == 7) = true := by simp [he]
                  by_cases hd0 : 0 < d
                  · have zd : decide (0 < d) = true := decide_eq_true hd0
                    have zz : decide (k = 7 ∧ 0 < d) = true := decide_eq_true ⟨he, hd0⟩
                    clear he hd0
                    go_wp2_with fail
                    go_meet
                    exact ⟨by rw [zz], rfl⟩
                  · have zd : decide (0 < d) = false := decide_eq_false hd0
                    have zz : decide (k = 7 ∧ 0 < d) = false := decide_eq_false (fun h => hd0 h.2)
                    clear he hd0
                    go_wp2_with fail
                    go_meet
                    exact ⟨by rw [zz], rfl⟩
                · have ze : (k == 7) = false := by simp [he]
                  have zz : decide (k = 7 ∧ 0 < d) = false := decide_eq_false (fun h => he h.1)
                  clear he
                  go_wp2_with fail
                  go_meet
                  exact ⟨by rw [zz], rfl⟩
              case rest =>
              obtain ⟨rfl, rfl⟩ := hcut
              by_cases hke : k = 7 ∧ 0 < d
              · have hd0 := hke.2
                obtain ⟨d', hd'⟩ : ∃ d', d = d' + 1 := ⟨d - 1, by omega⟩
                have HD := hide hd'
                obtain ⟨hK3, hK1, hK6⟩ := HKD.out d' hd'
                have HK3 := hide hK3
                have HDI : Hid ((d : Int) - 1 = (d' : Int)) := by show _ = _; omega
                simp only [decide_eq_true hke]
                clear hke hd' hK3 hd0
                have hkx := HK.out _ (S1.out.ev)
                have k0 := hkx.1
                have k1 := hkx.2.1
                clear hkx
                go_wp2_with fail
                refine (s_l01Below B g _ _ S1.out.cur).mono ?_
                rintro e w4 ⟨⟨x, rfl, hx0, hx1, _⟩, hc4, hg4⟩
                have hx1 := hx1 (by omega)
                have S4 := hide (S1.out.drew hc4 hg4 hgl)
                clear hc4 hg4 k0 k1 S1
                have XA := hide (S4.out.expr (w' := w4.alloc (.cells #[.int .i64 5, .int .i64 0, .string ⟨#[]⟩, .int .i64 1, .int .i64 0, .string ⟨#[105]⟩, .int .i64 0, .int .i64 (1 + x), .string ⟨#[]⟩] 64)) hgl (S4.out.cur.alloc _) (only_alloc (World.grownBy.refl w4 _) _) (D := some ⟨w4.heap.size, 0, none⟩) (d := 3) (l := [(5, 0, ⟨#[]⟩), (1, 0, ⟨#[105]⟩), (0, 1 + x, ⟨#[]⟩)]) (World.ownsRow_lit w4 #[.int .i64 5, .int .i64 0, .string ⟨#[]⟩, .int .i64 1, .int .i64 0, .string ⟨#[105]⟩, .int .i64 0, .int .i64 (1 + x), .string ⟨#[]⟩] 3 (Nat.le_refl _) (by unfold maxLen; omega) rfl) (k := 5) (s := ⟨#[]⟩) (line_ex (by simp) (lit_while (1 + x) (by omega))))
                clear S4
                go_wp2_with (first | (at_builtin; refine wpList_line rfl (.tmp 117) (.tmp 129) rfl XA.out rfl rfl ?hS5 (by omega) hgl ?_) | fail)
                try case hS5 => first | rfl | (simp; done)
                intro v' w' hst'
                have S5 := hide hst'
                clear hst' XA
                go_wp2_with fail
                rw [HDI.out]
                refine (IH.out d' HD.out 1 _ (by omega) S5.out.cur (GE.out.grown S5.out.ev)).mono ?_
                rintro e w' ⟨u, rfl, hu⟩
                have U2 := hide (hu.mono (show KD d' * 1 ≤ KD d' by omega))
                clear hu
                go_wp2_with (first | (at_builtin; refine wpList_lines rfl (.tmp 131) (.tmp 135) rfl S5.out U2.out rfl rfl (by omega) hgl ?_) | fail)
                intro v' w6 hst'
                have S6 := hide hst'
                clear hst' S5 U2
                have XB := hide (S6.out.expr (w' := w6.alloc (.cells #[.int .i64 2, .int .i64 0, .string ⟨#[]⟩, .int .i64 1, .int .i64 0, .string ⟨#[105]⟩, .int .i64 0, .int .i64 1, .string ⟨#[]⟩] 64)) hgl (S6.out.cur.alloc _) (only_alloc (World.grownBy.refl w6 _) _) (D := some ⟨w6.heap.size, 0, none⟩) (d := 3) (l := [(2, 0, ⟨#[]⟩), (1, 0, ⟨#[105]⟩), (0, 1, ⟨#[]⟩)]) (World.ownsRow_lit w6 #[.int .i64 2, .int .i64 0, .string ⟨#[]⟩, .int .i64 1, .int .i64 0, .string ⟨#[105]⟩, .int .i64 0, .int .i64 1, .string ⟨#[]⟩] 3 (Nat.le_refl _) (by unfold maxLen; omega) rfl) (k := 1) (s := ⟨#[105]⟩) (line_set (by decide) lit_add))
                clear S6
                go_wp2_with (first | (at_builtin; refine wpList_line rfl (.tmp 137) (.tmp 143) rfl XB.out rfl rfl ?hS7 (by omega) hgl ?_) | fail)
                try case hS7 => first | rfl | (simp; done)
                intro v' w' hst'
                have S7 := hide hst'
                clear hst' XB
                have X8 := hide (S7.out.bare hgl (k := 7) (s := ⟨#[]⟩) (line_no (by simp)))
                clear S7
                go_wp2_with (first | (at_builtin; refine wpList_line rfl (.tmp 145) (.tmp 147) rfl X8.out rfl rfl ?hS8 (by omega) hgl ?_) | fail)
                try case hS8 => first | rfl | (simp; done)
                intro v' w' hst'
                have S8 := hide hst'
                clear hst' X8
                go_wp2_with fail
                go_roundw
                case rel => exact ⟨r, i + 1, by omega, by go_num, S8.out.mono (by rw [Nat.mul_succ]; have := HK3.out; omega)⟩
                case measure => first | (simp [intOf]; done) | (simp [intOf]; omega)
              · simp only [decide_eq_false hke]
                clear hke
                have hkx := HK.out _ (S1.out.ev)
                have k0 := hkx.1
                have k1 := hkx.2.1
                clear hkx
                go_wp2_with fail
                refine (s_l01Once B g _ _ S1.out.cur).mono ?_
                rintro e w6 ⟨⟨bo, rfl⟩, hc6, hg6⟩
                have S6 := hide (S1.out.drew hc6 hg6 hgl)
                clear hc6 hg6 k0 k1 S1
                cases bo
                · skip
                  go_wp2_with fail
                  go_roundw
                  case rel => exact ⟨r, i + 1, by omega, by go_num, S6.out.mono (by rw [Nat.mul_succ]; omega)⟩
                  case measure => first | (simp [intOf]; done) | (simp [intOf]; omega)
                · skip
                  go_wp2_with fail
                  refine (s_gexpr B g gb vars names ars 4 (by omega) (by omega) _ S6.out.cur (GE.out.grown S6.out.ev)).mono ?_
                  rintro e w' ⟨⟨D, dc, l, rfl, own, full, len⟩, hc, hg⟩
                  have X7 := hide (S6.out.expr hgl hc hg own (k := 6) (s := ⟨#[]⟩) (line_ex (by simp) (fullK_ok full (by omega))))
                  clear hc hg own full len S6
                  go_wp2_with (first | (at_builtin; refine wpList_line rfl (.tmp 25) (.tmp 29) rfl X7.out rfl rfl ?hS7 (by omega) hgl ?_) | fail)
                  try case hS7 => first | rfl | (simp; done)
                  intro v' w' hst'
                  have S7 := hide hst'
                  clear hst' X7
                  go_wp2_with fail
                  go_roundw
                  case rel => exact ⟨r, i + 1, by omega, by go_num, S7.out.mono (by rw [Nat.mul_succ]; omega)⟩
                  case measure => first | (simp [intOf]; done) | (simp [intOf]; omega)
end Go.Proofs.Ytcfjbaanahgpoaa
