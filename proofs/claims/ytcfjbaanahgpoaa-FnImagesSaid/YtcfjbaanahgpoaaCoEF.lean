import Derived.Test.YtcfjbaanahgpoaaCoD
import Derived.Test.YtcfjbaanahgpoaaCoP
import Derived.Laws.OwnMore
import Derived.Maps.OwnSet
import Derived.Maps.OwnOps
import Derived.Maps.Views
namespace Go.Proofs.Ytcfjbaanahgpoaa
open Go Go.RowKit
set_option maxRecDepth 100000
set_option linter.unusedVariables false
set_option linter.unusedSimpArgs false
theorem zeros_cells (n : Nat) : (madeCells #[Value.int .i64 0] n).toList = intCells (List.replicate n 0) := by
  rw [toList_madeCells_one]; simp [intCells]
/-- A row of numbers below n. -/
def OwnR (w : World) (lo : Nat) (g n : Nat) (xs : List Int) : Prop := Arr w lo w.heap.size (some ⟨g, 0, none⟩) n 1 (intCells xs) ∧ (∀ x ∈ xs, 0 ≤ x ∧ x < (n : Int))
theorem OwnR.len {w : World} {lo g n : Nat} {xs : List Int} (h : OwnR w lo g n xs) : xs.length = n := by have := h.1.1; simpa [intCells] using this
theorem OwnR.at_ {w : World} {lo g n : Nat} {xs : List Int} (h : OwnR w lo g n xs) (k : Nat) (hk : k < n) : ∃ x : Nat, x < n ∧ w.cell? ⟨g, k, none⟩ = some (.int .i64 x) ∧ w.frozen? ⟨g, k, none⟩ = false ∧ lo ≤ g ∧ g < w.heap.size := by
  have hl := h.len
  have hkl : k < xs.length := by omega
  obtain ⟨g', e, h1, h2, h3, hc⟩ := h.1.2 (by omega)
  cases e
  obtain ⟨x0, x1⟩ := h.2 _ (List.getElem_mem hkl)
  obtain ⟨x, hx⟩ := Int.eq_ofNat_of_zero_le x0
  have := hc k (by omega)
  refine ⟨x, by omega, ?_, this.2, h1, h2⟩
  rw [this.1]
  simp [intCells, List.getElem?_eq_getElem hkl, hx]
theorem OwnR.set {w : World} {lo g n : Nat} {xs : List Int} (h : OwnR w lo g n xs) (j : Nat) (hj : j < n) (k : Nat) (hk : k < n) : OwnR (w.setCell ⟨g, j, none⟩ (.int .i64 k)) lo g n (xs.set j k) := by
  have hz : (w.setCell ⟨g, j, none⟩ (.int .i64 k)).heap.size = w.heap.size := by simp [World.setCell]
  refine ⟨?_, fun x hx => ?_⟩
  · have := h.1.set_ (j := j) (by omega) (.int .i64 k)
    rw [hz]
    have e : (intCells xs).set j (.int .i64 (k : Int)) = intCells (xs.set j (k : Int)) := by unfold intCells; rw [List.map_set]
    rw [← e]; exact this
  · rcases List.mem_or_eq_of_mem_set hx with h1 | h1
    · exact h.2 x h1
    · rw [h1]; omega
/-- Every end and every else has its block's number. -/
def OwnX (L : List Ln) (k : Nat) (xs : List Int) : Prop := ∀ j : Nat, j < k → (∀ e : Nat, endOfF L j = e → xs[e]? = some (j : Int)) ∧ (∀ e : Nat, elseOfF L j = e → xs[e]? = some (j : Int))
def EndIs (L : List Ln) (k y : Int) : Prop := endOfF L k = y
def ElseIs (L : List Ln) (k y : Int) : Prop := elseOfF L k = y
/-- A number is written at another place. -/
theorem OwnX.keep {L : List Ln} {k : Nat} {xs : List Int} {p : Nat} {v : Int} (h : OwnX L k xs) (h1 : ∀ j : Nat, j < k → endOfF L j ≠ (p : Int) ∧ elseOfF L j ≠ (p : Int)) : OwnX L k (xs.set p v) := fun j hj => by
  obtain ⟨g1, g2⟩ := h1 j hj
  refine ⟨fun e he => ?_, fun e he => ?_⟩
  · rw [List.getElem?_set, if_neg (fun e2 => g1 (by rw [he, e2]))]
    exact (h j hj).1 e he
  · rw [List.getElem?_set, if_neg (fun e2 => g2 (by rw [he, e2]))]
    exact (h j hj).2 e he
set_option maxHeartbeats 4000000 in
theorem i_owners (A : Option Addr) (n c : Nat) (L : List Ln) (w : World) (hn : n ≤ 1000) (h : InLines w A n L) :
    Calls Try.prog 89 #[.slice A n c] w fun e w' => (∃ (g : Nat) (xs : List Int), e = .returned (.slice (some ⟨g, 0, none⟩) n n) ∧ OwnR w' w.heap.size g n xs ∧ OwnX L n xs ∧ xs = ownF L n) ∧ Below w.heap.size w w' := by
  obtain ⟨i0, hi, hz0, hz1, hz2⟩ := info_parts Try.infoIntC
  have HI := hide hi
  have HL := hide h.len
  have H := hide h
  clear hi h
  go_enter Try.func89, Try.ntmps89
  go_wp2_with (at_make; refine wpList_make_full _ rfl _ _ 28 rfl w.heap.size 3 i0 _ 1 Try.underlying28 HI.out hz0 hz1 _ _ _ _ n rfl rfl ?c1 ?c2 ?c3 ?c4 ?c5 ?_)
  case c1 => rfl
  case c2 => rfl
  case c3 => rw [hz2]; omega
  case c4 => unfold maxLen; omega
  case c5 => exact Nat.le_refl _
  intro w1 hown hg1
  try simp only [show (Value.int .i64 0).cells = #[.int .i64 0] from rfl, Nat.mul_one] at hown
  rw [zeros_cells] at hown
  obtain ⟨A1, c1, e1, _, ha1⟩ := Arr.of_own hown
  obtain rfl : A1 = some ⟨w.heap.size, 0, none⟩ := by injection e1 with e1 _ _; exact e1.symm
  have O1 : Hid (OwnR w1 w.heap.size w.heap.size n (List.replicate n 0)) := ⟨ha1, fun x hx => by
    have h1 := List.eq_of_mem_replicate hx
    have h2 : 0 < n := by
      rcases Nat.eq_zero_or_pos n with h0 | h0
      · subst h0; simp at hx
      · exact h0
    omega⟩
  have B1 := hide ((Below.refl w.heap.size w).grown hg1 (Nat.le_refl _) (by simp))
  clear hown hg1 e1 ha1
  go_wp2_with fail
  go_loopw [12] (fun kv wr => ∃ (k : Nat) (xs : List Int), kv = .int .i64 k ∧ k ≤ n ∧ OwnR wr w.heap.size w.heap.size n xs ∧ OwnX L k xs ∧ Below w.heap.size w wr ∧ xs = ownF L k) (fun kv _ => n - (intOf kv).toNat)
  case atStart => exact ⟨0, _, rfl, Nat.zero_le _, O1.out, fun j h => absurd h (Nat.not_lt_zero _), B1.out, by rw [ownF, HL.out]⟩
  case round =>
    obtain ⟨k, xs, rfl, hk, ho, hx, hb, hxf⟩ := hrel
    have HXF := hide hxf
    clear hxf
    have O2 := hide ho
    have HX := hide hx
    have B2 := hide hb
    have R2 := hide (H.out.below hb)
    clear ho hb hx
    by_cases hlt : k < n
    · have he1 : endOfF L k < 0 ∨ (0 ≤ endOfF L k ∧ endOfF L k < n) := by
        rcases Int.lt_or_le (endOfF L k) 0 with h0 | h0
        · exact .inl h0
        · obtain ⟨_, _, _, _, _, h1, _⟩ := endOf_pos L k h0
          have := HL.out
          exact .inr ⟨h0, by omega⟩
      have he2 : elseOfF L k < 0 ∨ (0 ≤ elseOfF L k ∧ elseOfF L k < n) := by
        rcases elseOf_in L k with h1 | h1
        · exact .inl (by omega)
        · rcases he1 with h2 | h2
          · exact .inl (by omega)
          · rcases Int.lt_or_le (elseOfF L k) 0 with h0 | h0
            · exact .inl h0
            · exact .inr ⟨h0, by omega⟩
      go_wp2_with fail
      refine (i_endOf A n c L _ _ (by omega) R2.out).mono ?_
      rintro e w' ⟨rfl, hww⟩
      subst hww
      have HEL : Hid (∀ w', InLines w' A n L → Calls Try.prog 12 #[.slice A n c, .int .i64 k] w' fun e w'' => e = .returned (.int .i64 (elseOfF L k)) ∧ w' = w'') := fun w' h => i_elseOf A n c L _ w' (by omega) h
      have YE : Hid (EndIs L k (endOfF L k)) := rfl
      have EE : Hid (ElseIs L k (elseOfF L k)) := rfl
      obtain ⟨XA, hXA⟩ : ∃ XA : List Int, XA = if 0 ≤ endOfF L (k : Int) then (ownF L k).set (endOfF L (k : Int)).toNat (k : Int) else ownF L k := ⟨_, rfl⟩
      have HXB : Hid (ownF L (k + 1) = if 0 ≤ elseOfF L (k : Int) then XA.set (elseOfF L (k : Int)).toNat (k : Int) else XA) := by rw [hXA]; rfl
      have HXA := hide hXA
      clear hXA
      generalize endOfF L (k : Int) = y at *
      generalize elseOfF L (k : Int) = el at *
      go_upto_if 19 with fail
      go_cut [6] from 18 to 23 (fun s6 wx => ∃ xs, OwnR wx w.heap.size w.heap.size n xs ∧ (OwnX L k xs ∧ ∀ e : Nat, y = e → xs[e]? = some (k : Int)) ∧ Below w.heap.size w wx ∧ xs = XA)
      case first =>
        by_cases hy : 0 ≤ y
        · obtain ⟨j, rfl⟩ := Int.eq_ofNat_of_zero_le hy
          have hjn : j < n := by omega
          obtain ⟨x, _, cx, fx, hg1, hg2⟩ := O2.out.at_ j hjn
          have z : decide ((0 : Int) ≤ (j : Int)) = true := decide_eq_true hy
          have hjn' : (j : Int) < n := by omega
          go_wp2_with fail
          go_meet
          have hxl := O2.out.len
          have hyj : endOfF L (k : Int) = (j : Int) := YE.out
          refine ⟨_, O2.out.set j hjn k hlt, ⟨HX.out.keep (fun q hq => ⟨fun e1 => ?_, fun e1 => ?_⟩), fun e he => ?_⟩, B2.out.setCell (p := ⟨w.heap.size, j, none⟩) (Nat.le_refl _) _, by rw [HXA.out, if_pos (by omega), HXF.out]; rfl⟩
          · have := endOf_inj (L := L) (j := q) (k := k) (by omega) (e1.trans hyj.symm); omega
          · exact else_ne_end (L := L) (j := q) (k := k) (by omega) (e1.trans hyj.symm)
          · have : e = j := by omega
            subst this
            rw [List.getElem?_set_self (by omega)]
        · have z : decide (0 ≤ y) = false := decide_eq_false hy
          go_wp2_with fail
          go_meet
          exact ⟨_, O2.out, ⟨HX.out, fun e he => by omega⟩, B2.out, by rw [HXA.out, if_neg (by omega)]; exact HXF.out⟩
      case rest =>
        obtain ⟨xs3, ho3, hx3, hb3, hxa3⟩ := hcut
        have HX4 := hide hxa3
        clear hxa3
        have HX3 := hide hx3
        have O3 := hide ho3
        have B3 := hide hb3
        have R3 := hide (H.out.below hb3)
        clear ho3 hb3 hx3
        go_wp2_with fail
        refine (HEL.out _ R3.out).mono ?_
        rintro e w' ⟨rfl, hww⟩
        subst hww
        by_cases hy : 0 ≤ el
        · obtain ⟨j, rfl⟩ := Int.eq_ofNat_of_zero_le hy
          have hjn : j < n := by omega
          obtain ⟨x, _, cx, fx, hg1, hg2⟩ := O3.out.at_ j hjn
          have z : decide ((0 : Int) ≤ (j : Int)) = true := decide_eq_true hy
          have hjn' : (j : Int) < n := by omega
          go_wp2_with fail
          go_roundw
          case rel =>
            have hxl := O3.out.len
            have hyj : elseOfF L (k : Int) = (j : Int) := EE.out
            refine ⟨k + 1, _, by go_num, by omega, O3.out.set j hjn k hlt, fun q hq => ?_, B3.out.setCell (p := ⟨w.heap.size, j, none⟩) (Nat.le_refl _) _, by rw [HXB.out, if_pos (by omega), HX4.out]; rfl⟩
            by_cases hqk : q < k
            · exact HX3.out.1.keep (p := j) (v := k) (fun q hq => ⟨fun e1 => else_ne_end (L := L) (j := k) (k := q) (by omega) (hyj.trans e1.symm), fun e1 => by have := else_inj (L := L) (j := q) (k := k) e1 hyj; omega⟩) q hqk
            · have : q = k := by omega
              subst this
              refine ⟨fun e he => ?_, fun e he => ?_⟩
              · have hne : j ≠ e := fun e2 => else_ne_end (L := L) (j := q) (k := q) (by omega) (hyj.trans (by rw [he, e2]))
                rw [List.getElem?_set, if_neg hne]
                exact HX3.out.2 e (YE.out.symm.trans he)
              · have : e = j := by omega
                subst this
                rw [List.getElem?_set_self (by omega)]
          case measure => simp [intOf]; omega
        · have z : decide (0 ≤ el) = false := decide_eq_false hy
          go_wp2_with fail
          go_roundw
          case rel =>
            refine ⟨k + 1, xs3, by go_num, by omega, O3.out, fun q hq => ?_, B3.out, by rw [HXB.out, if_neg (by omega)]; exact HX4.out⟩
            by_cases hqk : q < k
            · exact HX3.out.1 q hqk
            · have : q = k := by omega
              subst this
              have hyj : elseOfF L (q : Int) = el := EE.out
              exact ⟨fun e he => HX3.out.2 e (YE.out.symm.trans he), fun e he => by omega⟩
          case measure => simp [intOf]; omega
    · have z : decide (k < n) = false := decide_eq_false hlt
      go_wp2_with fail
      go_ret
      have hkn : k = n := by omega
      exact ⟨⟨_, xs, rfl, O2.out, hkn ▸ HX.out, hkn ▸ HXF.out⟩, B2.out⟩
end Go.Proofs.Ytcfjbaanahgpoaa
namespace Go.Proofs.Ytcfjbaanahgpoaa
open Go Go.RowKit Go.Maps
set_option maxRecDepth 100000
set_option linter.unusedVariables false
set_option linter.unusedSimpArgs false
theorem keyInt : Keyed Try.prog 3 := int_keyed Try.underlying3
theorem zeroInt (w : World) : (zeroValue 3).run Try.prog w = .ok (.int .i64 0) w := by kernel_rfl
/-- A map whose values are numbers below N. -/
def MapP (w : World) (b m N : Nat) (f : Nat → Nat) : Prop := ∃ D : DataW Unit, w.ownsMap Try.prog 3 (plainElem Try.prog 3) b m D ∧ (∀ kl, ∃ c : Int, D.atKey kl (.lit (.int .i64 0)) = .lit (.int .i64 c) ∧ 0 ≤ c ∧ c < (N : Int)) ∧ ∀ j : Nat, D.atKey (.int .i64 (j : Int)) (.lit (.int .i64 0)) = .lit (.int .i64 (f j : Int))
theorem MapP.lt {w : World} {b m N : Nat} {f : Nat → Nat} (h : MapP w b m N f) : b < w.heap.size := by obtain ⟨_, h, _⟩ := h; exact h.lt
theorem MapP.mono {w : World} {b m N m' N' : Nat} {f : Nat → Nat} (h : MapP w b m N f) (hm : m ≤ m') (hN : N ≤ N') : MapP w b m' N' f := by
  obtain ⟨D, h1, h2, hf⟩ := h
  refine ⟨D, h1.mono hm, fun kl => ?_, hf⟩
  obtain ⟨c, h3, h4, h5⟩ := h2 kl
  exact ⟨c, h3, h4, by omega⟩
theorem MapP.made (w : World) {N : Nat} (hN : 0 < N) : MapP (w.alloc (.map #[] 0)) w.heap.size 0 N (fun _ => 0) :=
  ⟨.map [], World.ownsMap_made w _ _ _, fun kl => ⟨0, rfl, by omega, by omega⟩, fun j => rfl⟩
theorem MapP.kept {w w' : World} {b m N : Nat} {f : Nat → Nat} {row : Option Nat} (h : MapP w b m N f) (hg : w.grownBy w' row) (hne : some b ≠ row) : MapP w' b m N f := by
  obtain ⟨D, h1, h2⟩ := h
  exact ⟨D, h1.kept hg hne, h2⟩
theorem MapP.ev {w w' : World} {gc b m N : Nat} {f : Nat → Nat} {ib ib' : List Nat} (h : MapP w b m N f) (k : Ev gc ib w ib' w') (h1 : b ≠ gc) (h2 : b ∉ ib) : MapP w' b m N f := by
  obtain ⟨D, h3, h4⟩ := h
  have hlt := h3.lt
  obtain ⟨es, clock, hb, F, hs, hD⟩ := h3
  exact ⟨D, ⟨es, clock, (k.block b hlt h1 h2).trans hb, F, hs, hD⟩, h4⟩
theorem mapp_put {w : World} {b m N : Nat} {D : DataW Unit} {a v : Nat} {f : Nat → Nat} (h2 : ∀ kl, ∃ c : Int, D.atKey kl (.lit (.int .i64 0)) = .lit (.int .i64 c) ∧ 0 ≤ c ∧ c < (N : Int)) (hf : ∀ j : Nat, D.atKey (.int .i64 (j : Int)) (.lit (.int .i64 0)) = .lit (.int .i64 (f j : Int))) (hD : IsMap D) (hv : v < N)
    (h1 : w.ownsMap Try.prog 3 (plainElem Try.prog 3) b m (D.put (.int .i64 (a : Int)) (.lit (.int .i64 (v : Int))))) : MapP w b m N (setN f a v) := by
  have hkl : WideAt.IsKeyLit (.int .i64 (a : Int)) := trivial
  refine ⟨_, h1, fun kl => ?_, fun j => ?_⟩
  · rcases Classical.em (kl = Lit.int .i64 (a : Int)) with h | h
    · subst h
      exact ⟨v, atKey_put_same hD hkl _ _, by omega, by omega⟩
    · rw [atKey_put_other h]; exact h2 kl
  · unfold setN
    by_cases h : j = a
    · subst h
      rw [if_pos rfl]
      exact atKey_put_same hD hkl _ _
    · rw [if_neg h, atKey_put_other (fun e => h (by injection e with _ e; omega))]
      exact hf j
/-- A map whose values are of one kind, and which has some keys. -/
def MapJ (w : World) (b m : Nat) (P K : Nat → Prop) (q : Nat → Option Nat) : Prop := ∃ D : DataW Unit, w.ownsMap Try.prog 3 (plainElem Try.prog 3) b m D ∧ (∀ kl, Maps.has D kl = true → ∃ c : Nat, D.atKey kl (.lit (.int .i64 0)) = .lit (.int .i64 (c : Int)) ∧ P c) ∧ (∀ j : Nat, K j → Maps.has D (.int .i64 (j : Int)) = true) ∧ ∀ j : Nat, (q j = none → Maps.has D (.int .i64 (j : Int)) = false) ∧ ∀ c : Nat, q j = some c → Maps.has D (.int .i64 (j : Int)) = true ∧ D.atKey (.int .i64 (j : Int)) (.lit (.int .i64 0)) = .lit (.int .i64 (c : Int))
theorem MapJ.lt {w : World} {b m : Nat} {P K : Nat → Prop} {q : Nat → Option Nat} (h : MapJ w b m P K q) : b < w.heap.size := by obtain ⟨_, h, _⟩ := h; exact h.lt
theorem MapJ.mono {w : World} {b m m' : Nat} {P P' K K' : Nat → Prop} {q : Nat → Option Nat} (h : MapJ w b m P K q) (hm : m ≤ m') (hP : ∀ c, P c → P' c) (hK : ∀ j, K' j → K j) : MapJ w b m' P' K' q := by
  obtain ⟨D, h1, h2, h3, h4⟩ := h
  exact ⟨D, h1.mono hm, fun kl hk => by obtain ⟨c, g1, g2⟩ := h2 kl hk; exact ⟨c, g1, hP c g2⟩, fun j hj => h3 j (hK j hj), h4⟩
theorem MapJ.made (w : World) (P : Nat → Prop) : MapJ (w.alloc (.map #[] 0)) w.heap.size 0 P (fun _ => False) (fun _ => none) :=
  ⟨.map [], World.ownsMap_made w _ _ _, fun kl h => (by cases h), fun j h => h.elim, fun j => ⟨fun _ => rfl, fun c h => (by cases h)⟩⟩
theorem MapJ.kept {w w' : World} {b m : Nat} {P K : Nat → Prop} {q : Nat → Option Nat} {row : Option Nat} (h : MapJ w b m P K q) (hg : w.grownBy w' row) (hne : some b ≠ row) : MapJ w' b m P K q := by
  obtain ⟨D, h1, h2⟩ := h
  exact ⟨D, h1.kept hg hne, h2⟩
theorem MapJ.ev {w w' : World} {gc b m : Nat} {P K : Nat → Prop} {q : Nat → Option Nat} {ib ib' : List Nat} (h : MapJ w b m P K q) (k : Ev gc ib w ib' w') (h1 : b ≠ gc) (h2 : b ∉ ib) : MapJ w' b m P K q := by
  obtain ⟨D, h3, h4⟩ := h
  have hlt := h3.lt
  obtain ⟨es, clock, hb, F, hs, hD⟩ := h3
  exact ⟨D, ⟨es, clock, (k.block b hlt h1 h2).trans hb, F, hs, hD⟩, h4⟩
theorem mapj_put {w : World} {b m : Nat} {P P' K : Nat → Prop} {q : Nat → Option Nat} {D : DataW Unit} {a v : Nat} (h2 : ∀ kl, Maps.has D kl = true → ∃ c : Nat, D.atKey kl (.lit (.int .i64 0)) = .lit (.int .i64 (c : Int)) ∧ P c) (h3 : (∀ j : Nat, K j → Maps.has D (.int .i64 (j : Int)) = true) ∧ ∀ j : Nat, (q j = none → Maps.has D (.int .i64 (j : Int)) = false) ∧ ∀ c : Nat, q j = some c → Maps.has D (.int .i64 (j : Int)) = true ∧ D.atKey (.int .i64 (j : Int)) (.lit (.int .i64 0)) = .lit (.int .i64 (c : Int))) (hD : IsMap D) (hP : ∀ c, P c → P' c) (hv : P' v)
    (h1 : w.ownsMap Try.prog 3 (plainElem Try.prog 3) b m (D.put (.int .i64 (a : Int)) (.lit (.int .i64 (v : Int))))) : MapJ w b m P' (fun j => K j ∨ j = a) (setO q a v) := by
  have hkl : WideAt.IsKeyLit (.int .i64 (a : Int)) := trivial
  obtain ⟨h3, h4⟩ := h3
  refine ⟨_, h1, fun kl hk => ?_, fun j hj => ?_, fun j => ?_⟩
  · rcases Classical.em (kl = Lit.int .i64 (a : Int)) with h | h
    · subst h
      exact ⟨v, atKey_put_same hD hkl _ _, hv⟩
    · rw [Maps.has_put_other h] at hk
      obtain ⟨c, g1, g2⟩ := h2 kl hk
      exact ⟨c, by rw [atKey_put_other h]; exact g1, hP c g2⟩
  · by_cases hja : j = a
    · subst hja
      exact Maps.has_put_same hD hkl _
    · rcases hj with hj | hj
      · rw [Maps.has_put_other (fun e => hja (by injection e with _ e; omega))]
        exact h3 j hj
      · exact absurd hj hja
  · unfold setO
    by_cases hja : j = a
    · subst hja
      rw [if_pos rfl]
      exact ⟨fun h => (by cases h), fun c h => ⟨Maps.has_put_same hD hkl _, by injection h with h; rw [← h]; exact atKey_put_same hD hkl _ _⟩⟩
    · have hne : Lit.int .i64 (j : Int) ≠ Lit.int .i64 (a : Int) := fun e => hja (by injection e with _ e; omega)
      rw [if_neg hja, Maps.has_put_other hne, atKey_put_other hne]
      exact h4 j
theorem mapj_del {w : World} {b m : Nat} {P K : Nat → Prop} {q : Nat → Option Nat} {D : DataW Unit} {a : Nat} (h2 : ∀ kl, Maps.has D kl = true → ∃ c : Nat, D.atKey kl (.lit (.int .i64 0)) = .lit (.int .i64 (c : Int)) ∧ P c) (h3 : (∀ j : Nat, K j → Maps.has D (.int .i64 (j : Int)) = true) ∧ ∀ j : Nat, (q j = none → Maps.has D (.int .i64 (j : Int)) = false) ∧ ∀ c : Nat, q j = some c → Maps.has D (.int .i64 (j : Int)) = true ∧ D.atKey (.int .i64 (j : Int)) (.lit (.int .i64 0)) = .lit (.int .i64 (c : Int)))
    (h1 : w.ownsMap Try.prog 3 (plainElem Try.prog 3) b m (D.del (.int .i64 (a : Int)))) : MapJ w b m P (fun j => K j ∧ j ≠ a) (delO q a) := by
  obtain ⟨h3, h4⟩ := h3
  refine ⟨_, h1, fun kl hk => ?_, fun j hj => ?_, fun j => ?_⟩
  · rcases Classical.em (kl = Lit.int .i64 (a : Int)) with h | h
    · subst h
      rw [Maps.has_del_same] at hk
      cases hk
    · rw [Maps.has_del_other h] at hk
      obtain ⟨c, g1, g2⟩ := h2 kl hk
      exact ⟨c, by rw [atKey_del_other h]; exact g1, g2⟩
  · rw [Maps.has_del_other (fun e => hj.2 (by injection e with _ e; omega))]
    exact h3 j hj.1
  · unfold delO
    by_cases hja : j = a
    · subst hja
      rw [if_pos rfl]
      exact ⟨fun _ => Maps.has_del_same, fun c h => (by cases h)⟩
    · have hne : Lit.int .i64 (j : Int) ≠ Lit.int .i64 (a : Int) := fun e => hja (by injection e with _ e; omega)
      rw [if_neg hja, Maps.has_del_other hne, atKey_del_other hne]
      exact h4 j
/-- What a look into such a map gives. -/
theorem mapj_look {P : Nat → Prop} {q : Nat → Option Nat} {D : DataW Unit} {k : Nat} {cz : Int} (h2 : ∀ kl, Maps.has D kl = true → ∃ c : Nat, D.atKey kl (.lit (.int .i64 0)) = .lit (.int .i64 (c : Int)) ∧ P c) (h4 : ∀ j : Nat, (q j = none → Maps.has D (.int .i64 (j : Int)) = false) ∧ ∀ c : Nat, q j = some c → Maps.has D (.int .i64 (j : Int)) = true ∧ D.atKey (.int .i64 (j : Int)) (.lit (.int .i64 0)) = .lit (.int .i64 (c : Int))) (hc : D.atKey (.int .i64 (k : Int)) (.lit (.int .i64 0)) = .lit (.int .i64 cz)) : (Maps.has D (.int .i64 (k : Int)) = true → ∃ c : Nat, cz = (c : Int) ∧ P c ∧ q k = some c) ∧ (Maps.has D (.int .i64 (k : Int)) = false → q k = none) := by
  obtain ⟨g1, g2⟩ := h4 k
  refine ⟨fun hh => ?_, fun hh => ?_⟩
  · obtain ⟨c, e1, e2⟩ := h2 _ hh
    rw [hc] at e1
    injection e1 with e1
    injection e1 with _ e1
    refine ⟨c, e1, e2, ?_⟩
    cases hq : q k with
    | none => rw [g1 hq] at hh; cases hh
    | some c' =>
      have h5 := (g2 c' hq).2
      rw [hc] at h5
      injection h5 with h5
      injection h5 with _ h5
      congr 1
      omega
  · cases hq : q k with
    | none => rfl
    | some c' => rw [(g2 c' hq).1] at hh; cases hh
theorem own_setIn {w : World} {base g n cap size i : Nat} {e : TypeId} {xs : List Value} (h : w.ownsRow base e size (.slice (some ⟨g, 0, none⟩) n cap) n xs) (hn : 0 < n) (u : Value) : (w.setCell ⟨g, i, none⟩ u).ownsRow base e size (.slice (some ⟨g, 0, none⟩) n cap) n (xs.set i u) := by
  refine ⟨by rw [List.length_set]; exact h.1, ?_⟩
  rcases h.2 with ⟨_, h0⟩ | ⟨g', cap', cur, e1, hb, hh, hnc, hc, hcs, htake⟩
  · omega
  · cases e1
    refine .inr ⟨g, cap, cur.setIfInBounds i u, rfl, hb, Blk.set_ hh i u, hnc, hc, by simpa using hcs, ?_⟩
    rw [← htake, Array.toList_setIfInBounds, List.take_set]
theorem flat_set (I : List It) (j i : Nat) (hj : j < I.length) (hi : i < 7) (u : Value) (x : It) (hx : (itC I[j]).set i u = itC x) : (I.flatMap itC).set (j * 7 + i) u = (I.set j x).flatMap itC := by
  have e1 : I = I.take j ++ (I[j] :: I.drop (j + 1)) := by rw [← List.drop_eq_getElem_cons hj, List.take_append_drop]
  have e2 : I.set j x = I.take j ++ (x :: I.drop (j + 1)) := by
    rw [List.set_eq_take_append_cons_drop, if_pos hj]
  rw [e2, List.flatMap_append, List.flatMap_cons]
  have e3 : I.flatMap itC = (I.take j).flatMap itC ++ (itC I[j] ++ (I.drop (j + 1)).flatMap itC) := by
    conv => lhs; rw [e1]
    rw [List.flatMap_append, List.flatMap_cons]
  have hl : ((I.take j).flatMap itC).length = j * 7 := by rw [itC_flat_length, List.length_take]; congr 1; omega
  rw [e3, List.set_append_right _ _ (by omega), hl, show j * 7 + i - j * 7 = i by omega, List.set_append_left _ _ (by show i < 7; exact hi), hx]
/-- The cells of an item, and how a number or a mark is written into it. -/
theorem CSt.item {w : World} {B gc j i : Nat} {pr : Prm} {I : List It} {ib : List Nat} (h : CSt w B gc pr I ib) (hj : j < I.length) (hi : i < 7) : ∃ g, g ∈ ib ∧ g ≠ gc ∧ w.cell? ⟨g, j * 7 + i, none⟩ = (itC I[j])[i]? ∧ w.frozen? ⟨g, j * 7 + i, none⟩ = false ∧ (∃ ci, w.cell? ⟨gc, 8, none⟩ = some (.slice (some ⟨g, 0, none⟩) I.length ci)) ∧ ∀ (u : Value) (x : It), (itC I[j]).set i u = itC x → (x.A = I[j].A ∧ x.n = I[j].n) → CSt (w.setCell ⟨g, j * 7 + i, none⟩ u) B gc pr (I.set j x) ib ∧ Ev gc ib w ib (w.setCell ⟨g, j * 7 + i, none⟩ u) := by
  obtain ⟨h1, h2, ⟨p1, p2, p3⟩, m, d, Ai, ci, An, cn, h0, h3, h4, h5, h6, h7⟩ := h
  have k8 := h3.cell 8
  simp at k8
  obtain ⟨A', c', e, _, har⟩ := Arr.of_own h4
  cases e
  obtain ⟨g, e1, _, _, _, hc⟩ := har.2 (by omega)
  subst e1
  have hgi : g ∈ ib := by rw [← h7]; exact mem_rws.2 (.inl rfl)
  have hgc : g ≠ gc := fun e => h2 (e ▸ hgi)
  have := hc (j * 7 + i) (by omega)
  refine ⟨g, hgi, hgc, ?_, this.2, ⟨ci, k8⟩, fun u x hx hxA => ?_⟩
  · rw [this.1, flat_at itC 7 (fun _ => rfl) I j i hj hi]
  · have hl : (I.set j x).length = I.length := List.length_set
    refine ⟨⟨h1, h2, ⟨p1, fun b hb => (by have := p2 b hb; simpa [World.setCell] using this), ChR.set (fun y hy => (by obtain ⟨ch, hc⟩ := p3 y hy; exact ⟨ch, hc.far (List.mem_append_right _ hgi) u⟩)) hj hxA.1 hxA.2⟩, m, d, some ⟨g, 0, none⟩, ci, An, cn, by rw [hl]; exact h0, ?_, ?_, ?_, ?_, ?_⟩, ⟨rfl, rfl, rfl, by simp [World.setCell], fun b hb _ hne => Below.heap_setCell w ⟨g, j * 7 + i, none⟩ u b (fun e => hne (by rw [e]; exact hgi)), fun b hb => .inl hb⟩⟩
    · rw [hl]
      exact h3.far (fun e => hgc (by rw [e])) u
    · rw [hl, ← flat_set I j i hj hi u x hx]
      exact own_setIn h4 (by omega) u
    · exact own_setFar h5 (fun b hb e => h6 g rfl (by rw [hb, e])) u
    · rw [hl]; exact h6
    · rw [hl]; exact h7
theorem opL_set (I : List It) (j : Nat) (x : It) : opL (I.set j x) = (opL I).set j (x.code, x.arg) := by unfold opL; rw [List.map_set]
theorem opL_getD (I : List It) (j : Nat) (hj : j < I.length) : (opL I).getD j (0, 0) = (I[j].code, I[j].arg) := by
  rw [List.getD_eq_getElem?_getD, List.getElem?_eq_getElem (by rw [opL_length]; exact hj)]
  simp [opL]
/-- A jump is led to the end of what has been put. -/
theorem Vw_patch {w : World} {gc g o j : Nat} {I : List It} {u : Value} {x : It} (hg : g ≠ gc) (hj : j < I.length) (hx : x = { I[j] with arg := (I.length : Nat) }) : Vw (w.setCell ⟨g, o, none⟩ u) gc (I.set j x) = patchF (Vw w gc I) j := by
  rw [Vw_far w (p := ⟨g, o, none⟩) hg]
  unfold Vw patchF
  subst hx
  simp only
  rw [opL_set, opL_getD I j hj, opL_length]
theorem Vw_start {w : World} {gc g o j : Nat} {I : List It} {u : Value} {x : It} (hg : g ≠ gc) (hj : j < I.length) (h1 : x.code = I[j].code) (h2 : x.arg = I[j].arg) : Vw (w.setCell ⟨g, o, none⟩ u) gc (I.set j x) = Vw w gc I := by
  rw [Vw_far w (p := ⟨g, o, none⟩) hg]
  unfold Vw
  congr 1
  rw [opL_set, h1, h2]
  refine List.ext_getElem? fun i => ?_
  rw [List.getElem?_set]
  by_cases hi : j = i
  · subst hi
    rw [if_pos rfl, if_pos (by rw [opL_length]; exact hj), List.getElem?_eq_getElem (by rw [opL_length]; exact hj)]
    simp [opL]
  · rw [if_neg hi]
end Go.Proofs.Ytcfjbaanahgpoaa
namespace Go.Proofs.Ytcfjbaanahgpoaa
open Go Go.RowKit Go.Maps
set_option maxRecDepth 100000
set_option linter.unusedVariables false
set_option linter.unusedSimpArgs false
/-- The end of a function that is compiled by itself. -/
def EndF (nc : Nat) (I I' : List It) : Prop := I.length + 1 ≤ I'.length ∧ (nc = 0 → ∃ x y : It, I' = (I ++ [x]) ++ [y] ∧ x.code ≠ 10 ∧ x.code ≠ 11 ∧ y.code ≠ 10 ∧ y.code ≠ 11)
set_option maxHeartbeats 4000000 in
theorem i_end (Y : Nat) (Kz Ko : Nat → Prop) (w0 w : World) (gc gs : Nat) (ib : List Nat) (pr : Prm) (I : List It) (s : Scd) (i : Int) (k zb ob fb mz mo mf : Nat) (L : List Ln) (h : CSt w w0.heap.size gc pr I ib) (hs : ScP w gc ib gs s) (hln : 0 ≤ i ∧ i < (pr.n : Int)) (hni : (s.nc : Int) ≤ pr.inl) (hI : 1 ≤ I.length ∧ I.length ≤ 2990) (hB : Below w0.heap.size w0 w) (hR : InLines w0 pr.A pr.n L) (hpn : pr.n ≤ 1000) (hk : k < pr.n)
    (st : Ls) (hst : st.g = Vw w gc I) (hz : MapJ w zb mz (IsJ I) Kz st.z) (ho : MapJ w ob mo (IsJ I) Ko st.o) (hf : MapP w fb mf (I.length + 1) st.f) (hzb : zb ≠ gc ∧ zb ∉ ib) (hob : ob ≠ gc ∧ ob ∉ ib) :
    Calls Try.prog 93 #[.pointer (some ⟨gc, 0, none⟩), .pointer (some ⟨gs, 0, none⟩), .int .i64 i, .int .i64 k, .map (some zb), .map (some ob), .map (some fb)] w fun e w' => e = .returned (.tuple #[]) ∧ ∃ I', Gro pr.n pr.inl Y I I' 2 ∧ Step w w0.heap.size gc pr ib I' w' ∧ ((lnAtD L k).1 = 0 → EndF s.nc I I') ∧ Vw w' gc I' = endLn (pr.cp L) s.sp k st := by
  have HC := hide h
  have HS := hide hs
  have HR := hide (hR.below hB)
  have HLN := hide hR.len
  have HZ := hide hz
  have HO := hide ho
  have HF := hide hf
  have HLI := hide hln
  have HNI := hide hni
  have hBs := hB.size
  have hkl : k < L.length := by rw [HLN.out]; exact hk
  obtain ⟨_, _, _, most, depth, Ai, ci, An, cn, _, hkk, _, _, _, _⟩ := h
  have k0 := hkk.cell 0
  simp at k0
  obtain ⟨b, o, A1, c1, A2, c2, hA', _, p0, _⟩ := HR.out.ln k hkl
  have HKEY : Hid (keyOf Try.prog 3 (.int .i64 (k : Int)) = some (Lit.int .i64 (k : Int))) := keyOf_int_mk Try.underlying3 (WalkArith.wf_i64 (by omega))
  have hkn : (k : Int) < pr.n := by omega
  have hk0 : (0 : Int) ≤ (k : Int) := by omega
  rw [hA'] at k0
  have hlk := lnAtD_of L k hkl
  obtain ⟨ED, hED⟩ : ∃ ED : Sg, ED = endLn (pr.cp L) s.sp k st := ⟨_, rfl⟩
  rw [← hED]
  have hED2 : ED = if (lnAtD L k).1 = 0 then (if s.nc = 0 then leaF pr.framed pr.words s.sp (addF st.g 0 0 1) else addF st.g 0 0 1) else patchO (patchO (if (lnAtD L k).1 = 5 then addF st.g 10 (st.f k) 0 else st.g) (st.z k)) (st.o k) := hED
  rw [hlk, hst] at hED2
  have HED := hide hED2
  clear hED hED2 hst
  rw [hlk]
  clear hkk hs hz ho hf hln hni hlk
  generalize L[k].1 = kd at *
  by_cases h0 : kd = 0
  · subst h0
    by_cases hnc : s.nc = 0
    · have HNC := hide hnc
      clear hnc
      go_enter Try.func93, Try.ntmps93
      go_wp2_with fail
      refine (i_addS _ _ gc gs _ pr _ s _ _ _ _ HC.out HS.out (by omega) hBs (by omega)).mono ?_
      rintro e w1 ⟨rfl, x, ib1, ⟨h1, h2, h3, h4, h5⟩, hc1, hv1, hw1⟩
      have VW1 := hide hw1
      clear hw1
      have C1 := hide hc1
      have V1 := hide hv1
      have GX : Hid (Gro pr.n pr.inl Y I (I ++ [x]) 1) := Gro.one (by rw [h3]; exact HLI.out) (by rw [h5]; exact HNI.out) (fun e => by omega) (by rw [h1, h2]; unfold ArgOk; omega)
      have HX1 := hide h1
      clear hc1 hv1 h1 h2 h3 h4 h5
      go_wp2_with fail
      refine (i_leave0 _ _ gc gs _ pr _ s _ true C1.out (HS.out.ev V1.out) HNC.out (by simp; omega) (Nat.le_trans hBs V1.out.size)).mono ?_
      rintro e w2 ⟨rfl, y, ib2, hy, hc2, hv2, hw2⟩
      have VW2 := hide hw2
      clear hw2
      have C2 := hide hc2
      have V2 := hide hv2
      have HY := hide hy
      clear hc2 hv2 hy
      go_wp2_with fail
      first | go_end0 | ((try simp only [Exit.inBlock, Exit.then]); refine bodyPost_ret (results_none rfl _ _ _) rfl ?_)
      exact ⟨rfl, _, (GX.out.trans (Gro.plain HY.out HLI.out HNI.out)).mono (by omega), ⟨ib2, C2.out, V1.out.trans V2.out⟩, fun _ => ⟨by simp, fun _ => ⟨x, y, rfl, by have := HX1.out; omega, by have := HX1.out; omega, HY.out.2.2.2.1, HY.out.2.2.2.2.1⟩⟩, by rw [VW2.out, VW1.out, HED.out]; simp [HNC.out]⟩
    · have hnc' : 0 < s.nc := by omega
      have HNC := hide hnc
      go_enter Try.func93, Try.ntmps93
      go_wp2_with fail
      refine (i_addS _ _ gc gs _ pr _ s _ _ _ _ HC.out HS.out (by omega) hBs (by omega)).mono ?_
      rintro e w1 ⟨rfl, x, ib1, ⟨h1, h2, h3, h4, h5⟩, hc1, hv1, hw1⟩
      have VW1 := hide hw1
      clear hw1
      have C1 := hide hc1
      have V1 := hide hv1
      have GX : Hid (Gro pr.n pr.inl Y I (I ++ [x]) 1) := Gro.one (by rw [h3]; exact HLI.out) (by rw [h5]; exact HNI.out) (fun e => by omega) (by rw [h1, h2]; unfold ArgOk; omega)
      clear hc1 hv1 h1 h2 h3 h4 h5
      go_wp2_with fail
      refine (i_leaveE _ gc gs _ s _ (HS.out.ev V1.out) hnc').mono ?_
      rintro e w2 ⟨rfl, hb2⟩
      have B2 := hide hb2
      clear hb2
      go_wp2_with fail
      first | go_end0 | ((try simp only [Exit.inBlock, Exit.then]); refine bodyPost_ret (results_none rfl _ _ _) rfl ?_)
      exact ⟨rfl, _, GX.out.mono (by omega), ⟨ib1, C1.out.kept B2.out, V1.out.trans (Ev.of_below B2.out _ _)⟩, fun _ => ⟨by simp, fun h => absurd h HNC.out⟩, by rw [Vw_below B2.out C1.out.lt, VW1.out, HED.out]; simp [HNC.out]⟩
  · by_cases h5 : kd = 5
    · subst h5
      obtain ⟨DF, hownf, hatf, hff⟩ := HF.out
      have HFF := hide hff
      clear hff
      have HOF := hide hownf
      have HAF := hide hatf
      clear hownf hatf
      go_enter Try.func93, Try.ntmps93
      go_wp2_with (first | (at_lookup; refine wpList_lookup_own_int _ rfl _ _ 121 rfl 3 3 .i64 keyInt Try.underlying121 Try.underlying3 (zeroInt _) fb mf DF rfl HOF.out _ (.int .i64 (k : Int)) rfl HKEY.out ?_) | fail)
      intro cf hatcf _
      go_wp2_with fail
      refine (i_addS _ _ gc gs _ pr _ s _ _ _ _ HC.out HS.out (by omega) hBs (by omega)).mono ?_
      rintro e w1 ⟨rfl, x, ib1, ⟨h1, h2, h3, h4, h5⟩, hc1, hv1, hw1⟩
      have VW1 := hide hw1
      clear hw1
      have C1 := hide hc1
      have V1 := hide hv1
      have G1 : Hid (Gro pr.n pr.inl Y I (I ++ [x]) 1) := Gro.one (by rw [h3]; exact HLI.out) (by rw [h5]; exact HNI.out) (fun _ => by
        obtain ⟨cf', e1, e2, e3⟩ := HAF.out (.int .i64 (k : Int))
        rw [hatcf] at e1
        injection e1 with e1
        injection e1 with _ e1
        subst e1
        rw [h2]; omega) (by rw [h1, h2]; unfold ArgOk; omega)
      have hcf : (cf : Int) = (st.f k : Int) := by
        have e1 := HFF.out k
        rw [hatcf] at e1
        injection e1 with e1
        injection e1 with _ e1
      rw [hcf] at VW1
      clear hc1 hv1 hatcf h1 h2 h3 h4 h5
      have Zb := hide (HZ.out.ev V1.out hzb.1 hzb.2)
      have OOb := hide (HO.out.ev V1.out hob.1 hob.2)
      obtain ⟨DZ, hownz, hatz, _, hqz⟩ := Zb.out
      obtain ⟨DO, howno, hato, _, hqo⟩ := OOb.out
      have HOZ := hide hownz
      have HOO := hide howno
      have HAZ := hide hatz
      have HAO := hide hato
      have HQZ := hide hqz
      clear hownz howno hatz hato hqz hqo
      go_wp2_with (first | (at_lookup; refine wpList_lookup_own_ok_int _ rfl _ _ 121 rfl 3 3 .i64 keyInt Try.underlying121 Try.underlying3 (zeroInt _) zb mz DZ rfl HOZ.out _ (.int .i64 (k : Int)) rfl HKEY.out ?_) | fail)
      intro cz hatcz _
      have HCZ : Hid ((Maps.has DZ (.int .i64 (k : Int)) = true → ∃ c : Nat, cz = (c : Int) ∧ IsJ I c ∧ st.z k = some c) ∧ (Maps.has DZ (.int .i64 (k : Int)) = false → st.z k = none)) := mapj_look HAZ.out HQZ.out hatcz
      clear hatcz
      generalize Maps.has DZ (.int .i64 (k : Int)) = bz at *
      obtain ⟨EZ, hEZ⟩ : ∃ EZ : Sg, EZ = patchO (addF (Vw w gc I) 10 (st.f k) 0) (st.z k) := ⟨_, rfl⟩
      have HEZ := hide hEZ
      have HED2 : Hid (ED = patchO EZ (st.o k)) := by
        show _ = _
        rw [HED.out, hEZ]; simp
      clear hEZ HED
      go_upto_if 51 with fail
      go_cut [16] from 51 to 64 (fun s16 wx => ∃ I1, Gro pr.n pr.inl Y I I1 1 ∧ I.length ≤ I1.length ∧ ∃ ib1, CSt wx w0.heap.size gc pr I1 ib1 ∧ Ev gc ib w ib1 wx ∧ Vw wx gc I1 = EZ)
      case first =>
        cases bz
        · have HZN := hide (HCZ.out.2 rfl)
          go_wp2_with fail
          go_meet
          exact ⟨_, G1.out, by simp, _, C1.out, V1.out, by rw [VW1.out, HEZ.out, HZN.out]; rfl⟩
        · obtain ⟨jz, hcz, hij, hzq⟩ := HCZ.out.1 (by trivial)
          have HZQ := hide hzq
          subst hcz
          clear hzq
          obtain ⟨hjl, hjc⟩ := hij.app (M := [x]) |>.at_
          obtain ⟨g, hgi, hgg, cc, fc, ⟨cj, k8⟩, PT0⟩ := C1.out.item (j := jz) (i := 1) hjl (by omega)
          have hcc : ∃ vv, (itC (I ++ [x])[jz])[1]? = some vv := ⟨_, rfl⟩
          obtain ⟨vv, hvv⟩ := hcc
          rw [hvv] at cc
          have hjzi : (jz : Int) < ((I ++ [x]).length : Nat) := by omega
          have hjz0 : (0 : Int) ≤ (jz : Int) := by omega
          have PT := hide (PT0 (.int .i64 ((I ++ [x]).length : Nat)) { (I ++ [x])[jz] with arg := ((I ++ [x]).length : Nat) } rfl ⟨rfl, rfl⟩)
          have PV : Hid (Vw (w1.setCell ⟨g, jz * 7 + 1, none⟩ (.int .i64 ((I ++ [x]).length : Nat))) gc ((I ++ [x]).set jz { (I ++ [x])[jz] with arg := ((I ++ [x]).length : Nat) }) = patchF (Vw w1 gc (I ++ [x])) jz) := Vw_patch hgg hjl rfl
          obtain ⟨NL, hNL⟩ : ∃ NL, NL = (I ++ [x]).length := ⟨_, rfl⟩
          rw [← hNL] at k8 hjzi PT PV
          have GS : Hid (Gro pr.n pr.inl Y (I ++ [x]) ((I ++ [x]).set jz { (I ++ [x])[jz] with arg := (NL : Nat) }) 0) := Gro.arg hjl hjc (Nat.le_of_eq hNL)
          have K8 : Hid (∀ u, (w1.drew.setCell ⟨g, jz * 7 + 1, none⟩ u).cell? ⟨gc, 8, none⟩ = some (.slice (some ⟨g, 0, none⟩) NL cj)) := fun u => (World.cell?_setCell_other _ _ _ _ (fun e => hgg (congrArg Addr.block e))).trans k8
          clear hNL hvv PT0 hjc hij
          go_wp2_with fail
          go_region_held3 (fun w' => w'.cell? ⟨gc, 8, none⟩ = some (.slice (some ⟨g, 0, none⟩) NL cj)) (first | exact k8 | exact K8.out _) (fail)
          all_goals
            go_wp2_with fail
          all_goals
            go_meet
            exact ⟨_, (G1.out).trans GS.out, by rw [List.length_set]; exact by simp, _, PT.out.1.kept (Below.refl _ _).drew, V1.out.trans (PT.out.2.trans (Ev.of_below (Below.refl _ _).drew _ _)), by first | (rw [HEZ.out, HZQ.out]; exact PV.out.trans (by rw [VW1.out]; rfl)) | fail⟩
      case rest =>
        obtain ⟨I1, hg1, hl1, ib1, hc1, hv1, hw1⟩ := hcut
        have VWC := hide hw1
        clear hw1
        have CC := hide hc1
        have VV := hide hv1
        have GG := hide hg1
        have O3 := hide (HO.out.ev hv1 hob.1 hob.2)
        obtain ⟨DP, hownp, hatp, _, hqp⟩ := O3.out
        have HOP := hide hownp
        have HAP := hide hatp
        have HQP := hide hqp
        clear hc1 hv1 hg1 hownp hatp hqp
        go_wp2_with (first | (at_lookup; refine wpList_lookup_own_ok_int _ rfl _ _ 121 rfl 3 3 .i64 keyInt Try.underlying121 Try.underlying3 (zeroInt _) ob mo DP rfl HOP.out _ (.int .i64 (k : Int)) rfl HKEY.out ?_) | fail)
        intro co hatco _
        have HCO : Hid ((Maps.has DP (.int .i64 (k : Int)) = true → ∃ c : Nat, co = (c : Int) ∧ IsJ I c ∧ st.o k = some c) ∧ (Maps.has DP (.int .i64 (k : Int)) = false → st.o k = none)) := mapj_look HAP.out HQP.out hatco
        clear hatco
        generalize Maps.has DP (.int .i64 (k : Int)) = bo at *
        cases bo
        · have HON := hide (HCO.out.2 rfl)
          go_wp2_with fail
          go_end0
          exact ⟨rfl, I1, GG.out.mono (by omega), ⟨ib1, CC.out, VV.out⟩, by rw [VWC.out, HED2.out, HON.out]; rfl⟩
        · obtain ⟨jo, hco, hij, hoq⟩ := HCO.out.1 (by trivial)
          have HOQ := hide hoq
          subst hco
          clear hoq
          obtain ⟨hjl, hjc⟩ := (hij.gro GG.out).at_
          obtain ⟨g, hgi, hgg, cc, fc, ⟨cj, k8⟩, PT0⟩ := CC.out.item (j := jo) (i := 1) hjl (by omega)
          have hcc : ∃ vv, (itC I1[jo])[1]? = some vv := ⟨_, rfl⟩
          obtain ⟨vv, hvv⟩ := hcc
          rw [hvv] at cc
          have hjzi : (jo : Int) < (I1.length : Nat) := by omega
          have hjz0 : (0 : Int) ≤ (jo : Int) := by omega
          have PT := hide (PT0 (.int .i64 (I1.length : Nat)) { I1[jo] with arg := (I1.length : Nat) } rfl ⟨rfl, rfl⟩)
          have PV : Hid (Vw (wc.setCell ⟨g, jo * 7 + 1, none⟩ (.int .i64 (I1.length : Nat))) gc (I1.set jo { I1[jo] with arg := (I1.length : Nat) }) = patchF (Vw wc gc I1) jo) := Vw_patch hgg hjl rfl
          obtain ⟨NL, hNL⟩ : ∃ NL, NL = I1.length := ⟨_, rfl⟩
          rw [← hNL] at k8 hjzi PT PV
          have GS : Hid (Gro pr.n pr.inl Y I1 (I1.set jo { I1[jo] with arg := (NL : Nat) }) 0) := Gro.arg hjl hjc (Nat.le_of_eq hNL)
          have K8 : Hid (∀ u, (wc.drew.setCell ⟨g, jo * 7 + 1, none⟩ u).cell? ⟨gc, 8, none⟩ = some (.slice (some ⟨g, 0, none⟩) NL cj)) := fun u => (World.cell?_setCell_other _ _ _ _ (fun e => hgg (congrArg Addr.block e))).trans k8
          clear hNL hvv PT0 hjc hij
          go_wp2_with fail
          go_region_held3 (fun w' => w'.cell? ⟨gc, 8, none⟩ = some (.slice (some ⟨g, 0, none⟩) NL cj)) (first | exact k8 | exact K8.out _) (fail)
          all_goals
            go_wp2_with fail
          all_goals
            go_end0
            exact ⟨rfl, _, (GG.out.trans GS.out).mono (by omega), ⟨_, PT.out.1.kept (Below.refl _ _).drew, VV.out.trans (PT.out.2.trans (Ev.of_below (Below.refl _ _).drew _ _))⟩, fun e0 => absurd e0 (by decide), by first | (rw [HED2.out, HOQ.out, ← VWC.out]; exact PV.out) | fail⟩
    · have z0 : (kd == 0) = false := by simpa using h0
      have z5 : (kd == 5) = false := by simpa using h5
      have V0 := hide (Ev.refl gc ib w)
      have K0 := hide h0
      have K5 := hide h5
      clear h0 h5
      go_enter Try.func93, Try.ntmps93
      have Za := hide (HZ.out.ev V0.out hzb.1 hzb.2)
      have OOa := hide (HO.out.ev V0.out hob.1 hob.2)
      obtain ⟨DZ, hownz, hatz, _, hqz⟩ := Za.out
      obtain ⟨DO, howno, hato, _, hqo⟩ := OOa.out
      have HOZ := hide hownz
      have HOO := hide howno
      have HAZ := hide hatz
      have HAO := hide hato
      have HQZ := hide hqz
      clear hownz howno hatz hato hqz hqo
      go_wp2_with (first | (at_lookup; refine wpList_lookup_own_ok_int _ rfl _ _ 121 rfl 3 3 .i64 keyInt Try.underlying121 Try.underlying3 (zeroInt _) zb mz DZ rfl HOZ.out _ (.int .i64 (k : Int)) rfl HKEY.out ?_) | fail)
      intro cz hatcz _
      have HCZ : Hid ((Maps.has DZ (.int .i64 (k : Int)) = true → ∃ c : Nat, cz = (c : Int) ∧ IsJ I c ∧ st.z k = some c) ∧ (Maps.has DZ (.int .i64 (k : Int)) = false → st.z k = none)) := mapj_look HAZ.out HQZ.out hatcz
      clear hatcz
      generalize Maps.has DZ (.int .i64 (k : Int)) = bz at *
      obtain ⟨EZ, hEZ⟩ : ∃ EZ : Sg, EZ = patchO (Vw w gc I) (st.z k) := ⟨_, rfl⟩
      have HEZ := hide hEZ
      have HED2 : Hid (ED = patchO EZ (st.o k)) := by
        show _ = _
        rw [HED.out, if_neg K0.out, if_neg K5.out, hEZ]
      clear hEZ HED
      go_upto_if 51 with fail
      go_cut [16] from 51 to 64 (fun s16 wx => ∃ I1, Gro pr.n pr.inl Y I I1 1 ∧ I.length ≤ I1.length ∧ ∃ ib1, CSt wx w0.heap.size gc pr I1 ib1 ∧ Ev gc ib w ib1 wx ∧ Vw wx gc I1 = EZ)
      case first =>
        cases bz
        · have HZN := hide (HCZ.out.2 rfl)
          go_wp2_with fail
          go_meet
          exact ⟨_, (Gro.refl pr.n pr.inl Y I).mono (Nat.zero_le 1), Nat.le_refl _, _, HC.out, V0.out, by rw [HEZ.out, HZN.out]; rfl⟩
        · obtain ⟨jz, hcz, hij, hzq⟩ := HCZ.out.1 (by trivial)
          have HZQ := hide hzq
          subst hcz
          clear hzq
          obtain ⟨hjl, hjc⟩ := hij.at_
          obtain ⟨g, hgi, hgg, cc, fc, ⟨cj, k8⟩, PT0⟩ := HC.out.item (j := jz) (i := 1) hjl (by omega)
          have hcc : ∃ vv, (itC (I)[jz])[1]? = some vv := ⟨_, rfl⟩
          obtain ⟨vv, hvv⟩ := hcc
          rw [hvv] at cc
          have hjzi : (jz : Int) < ((I).length : Nat) := by omega
          have hjz0 : (0 : Int) ≤ (jz : Int) := by omega
          have PT := hide (PT0 (.int .i64 ((I).length : Nat)) { (I)[jz] with arg := ((I).length : Nat) } rfl ⟨rfl, rfl⟩)
          have PV : Hid (Vw (w.setCell ⟨g, jz * 7 + 1, none⟩ (.int .i64 ((I).length : Nat))) gc ((I).set jz { (I)[jz] with arg := ((I).length : Nat) }) = patchF (Vw w gc (I)) jz) := Vw_patch hgg hjl rfl
          obtain ⟨NL, hNL⟩ : ∃ NL, NL = (I).length := ⟨_, rfl⟩
          rw [← hNL] at k8 hjzi PT PV
          have GS : Hid (Gro pr.n pr.inl Y (I) ((I).set jz { (I)[jz] with arg := (NL : Nat) }) 0) := Gro.arg hjl hjc (Nat.le_of_eq hNL)
          have K8 : Hid (∀ u, (w.drew.setCell ⟨g, jz * 7 + 1, none⟩ u).cell? ⟨gc, 8, none⟩ = some (.slice (some ⟨g, 0, none⟩) NL cj)) := fun u => (World.cell?_setCell_other _ _ _ _ (fun e => hgg (congrArg Addr.block e))).trans k8
          clear hNL hvv PT0 hjc hij
          go_wp2_with fail
          go_region_held3 (fun w' => w'.cell? ⟨gc, 8, none⟩ = some (.slice (some ⟨g, 0, none⟩) NL cj)) (first | exact k8 | exact K8.out _) (fail)
          all_goals
            go_wp2_with fail
          all_goals
            go_meet
            exact ⟨_, ((Gro.refl pr.n pr.inl Y I).mono (Nat.zero_le 1)).trans GS.out, by rw [List.length_set]; exact Nat.le_refl _, _, PT.out.1.kept (Below.refl _ _).drew, V0.out.trans (PT.out.2.trans (Ev.of_below (Below.refl _ _).drew _ _)), by first | (rw [HEZ.out, HZQ.out]; exact PV.out) | fail⟩
      case rest =>
        obtain ⟨I1, hg1, hl1, ib1, hc1, hv1, hw1⟩ := hcut
        have VWC := hide hw1
        clear hw1
        have CC := hide hc1
        have VV := hide hv1
        have GG := hide hg1
        have O3 := hide (HO.out.ev hv1 hob.1 hob.2)
        obtain ⟨DP, hownp, hatp, _, hqp⟩ := O3.out
        have HOP := hide hownp
        have HAP := hide hatp
        have HQP := hide hqp
        clear hc1 hv1 hg1 hownp hatp hqp
        go_wp2_with (first | (at_lookup; refine wpList_lookup_own_ok_int _ rfl _ _ 121 rfl 3 3 .i64 keyInt Try.underlying121 Try.underlying3 (zeroInt _) ob mo DP rfl HOP.out _ (.int .i64 (k : Int)) rfl HKEY.out ?_) | fail)
        intro co hatco _
        have HCO : Hid ((Maps.has DP (.int .i64 (k : Int)) = true → ∃ c : Nat, co = (c : Int) ∧ IsJ I c ∧ st.o k = some c) ∧ (Maps.has DP (.int .i64 (k : Int)) = false → st.o k = none)) := mapj_look HAP.out HQP.out hatco
        clear hatco
        generalize Maps.has DP (.int .i64 (k : Int)) = bo at *
        cases bo
        · have HON := hide (HCO.out.2 rfl)
          go_wp2_with fail
          go_end0
          exact ⟨rfl, I1, GG.out.mono (by omega), ⟨ib1, CC.out, VV.out⟩, fun e0 => absurd e0 K0.out, by rw [VWC.out, HED2.out, HON.out]; rfl⟩
        · obtain ⟨jo, hco, hij, hoq⟩ := HCO.out.1 (by trivial)
          have HOQ := hide hoq
          subst hco
          clear hoq
          obtain ⟨hjl, hjc⟩ := (hij.gro GG.out).at_
          obtain ⟨g, hgi, hgg, cc, fc, ⟨cj, k8⟩, PT0⟩ := CC.out.item (j := jo) (i := 1) hjl (by omega)
          have hcc : ∃ vv, (itC I1[jo])[1]? = some vv := ⟨_, rfl⟩
          obtain ⟨vv, hvv⟩ := hcc
          rw [hvv] at cc
          have hjzi : (jo : Int) < (I1.length : Nat) := by omega
          have hjz0 : (0 : Int) ≤ (jo : Int) := by omega
          have PT := hide (PT0 (.int .i64 (I1.length : Nat)) { I1[jo] with arg := (I1.length : Nat) } rfl ⟨rfl, rfl⟩)
          have PV : Hid (Vw (wc.setCell ⟨g, jo * 7 + 1, none⟩ (.int .i64 (I1.length : Nat))) gc (I1.set jo { I1[jo] with arg := (I1.length : Nat) }) = patchF (Vw wc gc I1) jo) := Vw_patch hgg hjl rfl
          obtain ⟨NL, hNL⟩ : ∃ NL, NL = I1.length := ⟨_, rfl⟩
          rw [← hNL] at k8 hjzi PT PV
          have GS : Hid (Gro pr.n pr.inl Y I1 (I1.set jo { I1[jo] with arg := (NL : Nat) }) 0) := Gro.arg hjl hjc (Nat.le_of_eq hNL)
          have K8 : Hid (∀ u, (wc.drew.setCell ⟨g, jo * 7 + 1, none⟩ u).cell? ⟨gc, 8, none⟩ = some (.slice (some ⟨g, 0, none⟩) NL cj)) := fun u => (World.cell?_setCell_other _ _ _ _ (fun e => hgg (congrArg Addr.block e))).trans k8
          clear hNL hvv PT0 hjc hij
          go_wp2_with fail
          go_region_held3 (fun w' => w'.cell? ⟨gc, 8, none⟩ = some (.slice (some ⟨g, 0, none⟩) NL cj)) (first | exact k8 | exact K8.out _) (fail)
          all_goals
            go_wp2_with fail
          all_goals
            go_end0
            exact ⟨rfl, _, (GG.out.trans GS.out).mono (by omega), ⟨_, PT.out.1.kept (Below.refl _ _).drew, VV.out.trans (PT.out.2.trans (Ev.of_below (Below.refl _ _).drew _ _))⟩, fun e0 => absurd e0 K0.out, by first | (rw [HED2.out, HOQ.out, ← VWC.out]; exact PV.out) | fail⟩
end Go.Proofs.Ytcfjbaanahgpoaa
