import Derived.Test.YtcfjbaanahgpoaaCnD
import Derived.Laws.OwnMore
import Derived.Maps.OwnSet
import Derived.Maps.OwnOps
import Derived.Maps.Views
namespace Go.Proofs.Ytcfjbaanahgpoaa
open Go Go.RowKit
set_option maxRecDepth 100000
set_option linter.unusedVariables false
set_option linter.unusedSimpArgs false
theorem zeros_cells (n : Nat) : (madeCells #[Value.int .i64 0] n).toList = intCells (List.replicate n 0) := by
  rw [toList_madeCells_one]; simp [intCells]
/-- A row of numbers below n. -/
def OwnR (w : World) (lo : Nat) (g n : Nat) (xs : List Int) : Prop := Arr w lo w.heap.size (some ⟨g, 0, none⟩) n 1 (intCells xs) ∧ (∀ x ∈ xs, 0 ≤ x ∧ x < (n : Int))
theorem OwnR.len {w : World} {lo g n : Nat} {xs : List Int} (h : OwnR w lo g n xs) : xs.length = n := by have := h.1.1; simpa [intCells] using this
theorem OwnR.at_ {w : World} {lo g n : Nat} {xs : List Int} (h : OwnR w lo g n xs) (k : Nat) (hk : k < n) : ∃ x : Nat, x < n ∧ w.cell? ⟨g, k, none⟩ = some (.int .i64 x) ∧ w.frozen? ⟨g, k, none⟩ = false ∧ lo ≤ g ∧ g < w.heap.size := by
  have hl := h.len
  have hkl : k < xs.length := by omega
  obtain ⟨g', e, h1, h2, h3, hc⟩ := h.1.2 (by omega)
  cases e
  obtain ⟨x0, x1⟩ := h.2 _ (List.getElem_mem hkl)
  obtain ⟨x, hx⟩ := Int.eq_ofNat_of_zero_le x0
  have := hc k (by omega)
  refine ⟨x, by omega, ?_, this.2, h1, h2⟩
  rw [this.1]
  simp [intCells, List.getElem?_eq_getElem hkl, hx]
theorem OwnR.set {w : World} {lo g n : Nat} {xs : List Int} (h : OwnR w lo g n xs) (j : Nat) (hj : j < n) (k : Nat) (hk : k < n) : OwnR (w.setCell ⟨g, j, none⟩ (.int .i64 k)) lo g n (xs.set j k) := by
  have hz : (w.setCell ⟨g, j, none⟩ (.int .i64 k)).heap.size = w.heap.size := by simp [World.setCell]
  refine ⟨?_, fun x hx => ?_⟩
  · have := h.1.set_ (j := j) (by omega) (.int .i64 k)
    rw [hz]
    have e : (intCells xs).set j (.int .i64 (k : Int)) = intCells (xs.set j (k : Int)) := by unfold intCells; rw [List.map_set]
    rw [← e]; exact this
  · rcases List.mem_or_eq_of_mem_set hx with h1 | h1
    · exact h.2 x h1
    · rw [h1]; omega
set_option maxHeartbeats 4000000 in
theorem i_owners (A : Option Addr) (n c fu en : Nat) (L : List Ln) (w : World) (hn : n ≤ 1000) (h : InLines w A n L) (hfe : endOfF L fu = en) (hfn : fu < n) :
    Calls Try.prog 89 #[.slice A n c] w fun e w' => (∃ (g : Nat) (xs : List Int), e = .returned (.slice (some ⟨g, 0, none⟩) n n) ∧ OwnR w' w.heap.size g n xs ∧ xs[en]? = some (fu : Int)) ∧ Below w.heap.size w w' := by
  obtain ⟨i0, hi, hz0, hz1, hz2⟩ := info_parts Try.infoIntC
  have HI := hide hi
  have HL := hide h.len
  have H := hide h
  have HFE := hide hfe
  clear hi h hfe
  go_enter Try.func89, Try.ntmps89
  go_wp2_with (at_make; refine wpList_make_full _ rfl _ _ 28 rfl w.heap.size 3 i0 _ 1 Try.underlying28 HI.out hz0 hz1 _ _ _ _ n rfl rfl ?c1 ?c2 ?c3 ?c4 ?c5 ?_)
  case c1 => rfl
  case c2 => rfl
  case c3 => rw [hz2]; omega
  case c4 => unfold maxLen; omega
  case c5 => exact Nat.le_refl _
  intro w1 hown hg1
  try simp only [show (Value.int .i64 0).cells = #[.int .i64 0] from rfl, Nat.mul_one] at hown
  rw [zeros_cells] at hown
  obtain ⟨A1, c1, e1, _, ha1⟩ := Arr.of_own hown
  obtain rfl : A1 = some ⟨w.heap.size, 0, none⟩ := by injection e1 with e1 _ _; exact e1.symm
  have O1 : Hid (OwnR w1 w.heap.size w.heap.size n (List.replicate n 0)) := ⟨ha1, fun x hx => by
    have h1 := List.eq_of_mem_replicate hx
    have h2 : 0 < n := by
      rcases Nat.eq_zero_or_pos n with h0 | h0
      · subst h0; simp at hx
      · exact h0
    omega⟩
  have B1 := hide ((Below.refl w.heap.size w).grown hg1 (Nat.le_refl _) (by simp))
  clear hown hg1 e1 ha1
  go_wp2_with fail
  go_loopw [12] (fun kv wr => ∃ (k : Nat) (xs : List Int), kv = .int .i64 k ∧ k ≤ n ∧ OwnR wr w.heap.size w.heap.size n xs ∧ (fu < k → xs[en]? = some (fu : Int)) ∧ Below w.heap.size w wr) (fun kv _ => n - (intOf kv).toNat)
  case atStart => exact ⟨0, _, rfl, Nat.zero_le _, O1.out, fun h => absurd h (Nat.not_lt_zero _), B1.out⟩
  case round =>
    obtain ⟨k, xs, rfl, hk, ho, hx, hb⟩ := hrel
    have O2 := hide ho
    have HX := hide hx
    have B2 := hide hb
    have R2 := hide (H.out.below hb)
    clear ho hb hx
    by_cases hlt : k < n
    · have he1 : endOfF L k < 0 ∨ (0 ≤ endOfF L k ∧ endOfF L k < n) := by
        rcases Int.lt_or_le (endOfF L k) 0 with h0 | h0
        · exact .inl h0
        · obtain ⟨_, _, _, _, _, h1, _⟩ := endOf_pos L k h0
          have := HL.out
          exact .inr ⟨h0, by omega⟩
      have he2 : elseOfF L k < 0 ∨ (0 ≤ elseOfF L k ∧ elseOfF L k < n) := by
        rcases elseOf_in L k with h1 | h1
        · exact .inl (by omega)
        · rcases he1 with h2 | h2
          · exact .inl (by omega)
          · rcases Int.lt_or_le (elseOfF L k) 0 with h0 | h0
            · exact .inl h0
            · exact .inr ⟨h0, by omega⟩
      go_wp2_with fail
      refine (i_endOf A n c L _ _ (by omega) R2.out).mono ?_
      rintro e w' ⟨rfl, hww⟩
      subst hww
      have HEL : Hid (∀ w', InLines w' A n L → Calls Try.prog 12 #[.slice A n c, .int .i64 k] w' fun e w'' => e = .returned (.int .i64 (elseOfF L k)) ∧ w' = w'') := fun w' h => i_elseOf A n c L _ w' (by omega) h
      have HY : Hid ((k = fu → endOfF L k = en) ∧ (endOfF L k = en → k = fu)) := ⟨fun e => e ▸ HFE.out, fun e => endOf_inj (by omega) (e.trans HFE.out.symm)⟩
      have HEN : Hid (elseOfF L k ≠ (en : Int)) := fun e => else_ne_end (j := k) (k := fu) (by rw [HFE.out]; omega) (e.trans HFE.out.symm)
      generalize endOfF L (k : Int) = y at *
      generalize elseOfF L (k : Int) = el at *
      go_upto_if 19 with fail
      go_cut [6] from 18 to 23 (fun s6 wx => ∃ xs, OwnR wx w.heap.size w.heap.size n xs ∧ (fu < k + 1 → xs[en]? = some (fu : Int)) ∧ Below w.heap.size w wx)
      case first =>
        by_cases hy : 0 ≤ y
        · obtain ⟨j, rfl⟩ := Int.eq_ofNat_of_zero_le hy
          have hjn : j < n := by omega
          obtain ⟨x, _, cx, fx, hg1, hg2⟩ := O2.out.at_ j hjn
          have z : decide ((0 : Int) ≤ (j : Int)) = true := decide_eq_true hy
          have hjn' : (j : Int) < n := by omega
          go_wp2_with fail
          go_meet
          refine ⟨_, O2.out.set j hjn k hlt, fun hfk => ?_, B2.out.setCell (p := ⟨w.heap.size, j, none⟩) (Nat.le_refl _) _⟩
          have hxl := O2.out.len
          rw [List.getElem?_set]
          by_cases hke : k = fu
          · have := HY.out.1 hke
            rw [if_pos (by omega), if_pos (by omega), hke]
          · rw [if_neg (fun e => hke (HY.out.2 (by omega)))]
            exact HX.out (by omega)
        · have z : decide (0 ≤ y) = false := decide_eq_false hy
          go_wp2_with fail
          go_meet
          exact ⟨_, O2.out, fun hfk => HX.out (by have := HY.out.1; omega), B2.out⟩
      case rest =>
        obtain ⟨xs3, ho3, hx3, hb3⟩ := hcut
        have HX3 := hide hx3
        have O3 := hide ho3
        have B3 := hide hb3
        have R3 := hide (H.out.below hb3)
        clear ho3 hb3 hx3
        go_wp2_with fail
        refine (HEL.out _ R3.out).mono ?_
        rintro e w' ⟨rfl, hww⟩
        subst hww
        by_cases hy : 0 ≤ el
        · obtain ⟨j, rfl⟩ := Int.eq_ofNat_of_zero_le hy
          have hjn : j < n := by omega
          obtain ⟨x, _, cx, fx, hg1, hg2⟩ := O3.out.at_ j hjn
          have z : decide ((0 : Int) ≤ (j : Int)) = true := decide_eq_true hy
          have hjn' : (j : Int) < n := by omega
          go_wp2_with fail
          go_roundw
          case rel => exact ⟨k + 1, _, by go_num, by omega, O3.out.set j hjn k hlt, fun hfk => by rw [List.getElem?_set, if_neg (fun e => HEN.out (by omega))]; exact HX3.out hfk, B3.out.setCell (p := ⟨w.heap.size, j, none⟩) (Nat.le_refl _) _⟩
          case measure => simp [intOf]; omega
        · have z : decide (0 ≤ el) = false := decide_eq_false hy
          go_wp2_with fail
          go_roundw
          case rel => exact ⟨k + 1, xs3, by go_num, by omega, O3.out, HX3.out, B3.out⟩
          case measure => simp [intOf]; omega
    · have z : decide (k < n) = false := decide_eq_false hlt
      go_wp2_with fail
      go_ret
      exact ⟨⟨_, xs, rfl, O2.out, HX.out (by omega)⟩, B2.out⟩
end Go.Proofs.Ytcfjbaanahgpoaa
namespace Go.Proofs.Ytcfjbaanahgpoaa
open Go Go.RowKit Go.Maps
set_option maxRecDepth 100000
set_option linter.unusedVariables false
set_option linter.unusedSimpArgs false
theorem keyInt : Keyed Try.prog 3 := int_keyed Try.underlying3
theorem zeroInt (w : World) : (zeroValue 3).run Try.prog w = .ok (.int .i64 0) w := by kernel_rfl
/-- A map whose values are numbers below N. -/
def MapP (w : World) (b m N : Nat) : Prop := ∃ D : DataW Unit, w.ownsMap Try.prog 3 (plainElem Try.prog 3) b m D ∧ ∀ kl, ∃ c : Int, D.atKey kl (.lit (.int .i64 0)) = .lit (.int .i64 c) ∧ 0 ≤ c ∧ c < (N : Int)
theorem MapP.lt {w : World} {b m N : Nat} (h : MapP w b m N) : b < w.heap.size := by obtain ⟨_, h, _⟩ := h; exact h.lt
theorem MapP.mono {w : World} {b m N m' N' : Nat} (h : MapP w b m N) (hm : m ≤ m') (hN : N ≤ N') : MapP w b m' N' := by
  obtain ⟨D, h1, h2⟩ := h
  refine ⟨D, h1.mono hm, fun kl => ?_⟩
  obtain ⟨c, h3, h4, h5⟩ := h2 kl
  exact ⟨c, h3, h4, by omega⟩
theorem MapP.made (w : World) {N : Nat} (hN : 0 < N) : MapP (w.alloc (.map #[] 0)) w.heap.size 0 N :=
  ⟨.map [], World.ownsMap_made w _ _ _, fun kl => ⟨0, rfl, by omega, by omega⟩⟩
theorem MapP.kept {w w' : World} {b m N : Nat} {row : Option Nat} (h : MapP w b m N) (hg : w.grownBy w' row) (hne : some b ≠ row) : MapP w' b m N := by
  obtain ⟨D, h1, h2⟩ := h
  exact ⟨D, h1.kept hg hne, h2⟩
theorem MapP.ev {w w' : World} {gc b m N : Nat} {ib ib' : List Nat} (h : MapP w b m N) (k : Ev gc ib w ib' w') (h1 : b ≠ gc) (h2 : b ∉ ib) : MapP w' b m N := by
  obtain ⟨D, h3, h4⟩ := h
  have hlt := h3.lt
  obtain ⟨es, clock, hb, F, hs, hD⟩ := h3
  exact ⟨D, ⟨es, clock, (k.block b hlt h1 h2).trans hb, F, hs, hD⟩, h4⟩
theorem mapp_put {w : World} {b m N : Nat} {D : DataW Unit} {a : Int} {v : Nat} (h2 : ∀ kl, ∃ c : Int, D.atKey kl (.lit (.int .i64 0)) = .lit (.int .i64 c) ∧ 0 ≤ c ∧ c < (N : Int)) (hD : IsMap D) (hv : v < N)
    (h1 : w.ownsMap Try.prog 3 (plainElem Try.prog 3) b m (D.put (.int .i64 a) (.lit (.int .i64 (v : Int))))) : MapP w b m N := by
  refine ⟨_, h1, fun kl => ?_⟩
  rcases Classical.em (kl = Lit.int .i64 a) with h | h
  · subst h
    exact ⟨v, atKey_put_same hD (show WideAt.IsKeyLit (.int .i64 a) from trivial) _ _, by omega, by omega⟩
  · rw [atKey_put_other h]; exact h2 kl
theorem mapp_del {w : World} {b m N : Nat} {D : DataW Unit} {a : Int} (h2 : ∀ kl, ∃ c : Int, D.atKey kl (.lit (.int .i64 0)) = .lit (.int .i64 c) ∧ 0 ≤ c ∧ c < (N : Int)) (hN : 0 < N)
    (h1 : w.ownsMap Try.prog 3 (plainElem Try.prog 3) b m (D.del (.int .i64 a))) : MapP w b m N := by
  refine ⟨_, h1, fun kl => ?_⟩
  rcases Classical.em (kl = Lit.int .i64 a) with h | h
  · subst h
    exact ⟨0, atKey_del_same _, by omega, by omega⟩
  · rw [atKey_del_other h]; exact h2 kl
theorem own_setIn {w : World} {base g n cap size i : Nat} {e : TypeId} {xs : List Value} (h : w.ownsRow base e size (.slice (some ⟨g, 0, none⟩) n cap) n xs) (hn : 0 < n) (u : Value) : (w.setCell ⟨g, i, none⟩ u).ownsRow base e size (.slice (some ⟨g, 0, none⟩) n cap) n (xs.set i u) := by
  refine ⟨by rw [List.length_set]; exact h.1, ?_⟩
  rcases h.2 with ⟨_, h0⟩ | ⟨g', cap', cur, e1, hb, hh, hnc, hc, hcs, htake⟩
  · omega
  · cases e1
    refine .inr ⟨g, cap, cur.setIfInBounds i u, rfl, hb, Blk.set_ hh i u, hnc, hc, by simpa using hcs, ?_⟩
    rw [← htake, Array.toList_setIfInBounds, List.take_set]
theorem flat_set (I : List It) (j i : Nat) (hj : j < I.length) (hi : i < 7) (u : Value) (x : It) (hx : (itC I[j]).set i u = itC x) : (I.flatMap itC).set (j * 7 + i) u = (I.set j x).flatMap itC := by
  have e1 : I = I.take j ++ (I[j] :: I.drop (j + 1)) := by rw [← List.drop_eq_getElem_cons hj, List.take_append_drop]
  have e2 : I.set j x = I.take j ++ (x :: I.drop (j + 1)) := by
    rw [List.set_eq_take_append_cons_drop, if_pos hj]
  rw [e2, List.flatMap_append, List.flatMap_cons]
  have e3 : I.flatMap itC = (I.take j).flatMap itC ++ (itC I[j] ++ (I.drop (j + 1)).flatMap itC) := by
    conv => lhs; rw [e1]
    rw [List.flatMap_append, List.flatMap_cons]
  have hl : ((I.take j).flatMap itC).length = j * 7 := by rw [itC_flat_length, List.length_take]; congr 1; omega
  rw [e3, List.set_append_right _ _ (by omega), hl, show j * 7 + i - j * 7 = i by omega, List.set_append_left _ _ (by show i < 7; exact hi), hx]
/-- The cells of an item, and how a number or a mark is written into it. -/
theorem CSt.item {w : World} {B gc j i : Nat} {pr : Prm} {I : List It} {ib : List Nat} (h : CSt w B gc pr I ib) (hj : j < I.length) (hi : i < 7) : ∃ g, g ∈ ib ∧ g ≠ gc ∧ w.cell? ⟨g, j * 7 + i, none⟩ = (itC I[j])[i]? ∧ w.frozen? ⟨g, j * 7 + i, none⟩ = false ∧ (∃ ci, w.cell? ⟨gc, 8, none⟩ = some (.slice (some ⟨g, 0, none⟩) I.length ci)) ∧ ∀ (u : Value) (x : It), (itC I[j]).set i u = itC x → CSt (w.setCell ⟨g, j * 7 + i, none⟩ u) B gc pr (I.set j x) ib ∧ Ev gc ib w ib (w.setCell ⟨g, j * 7 + i, none⟩ u) := by
  obtain ⟨h1, h2, h2', m, d, Ai, ci, An, cn, ns, h0, h3, h4, h5, h6, h7⟩ := h
  have k8 := h3.cell 8
  simp at k8
  obtain ⟨A', c', e, _, har⟩ := Arr.of_own h4
  cases e
  obtain ⟨g, e1, _, _, _, hc⟩ := har.2 (by omega)
  subst e1
  have hgi : g ∈ ib := by rw [← h7]; exact mem_rws.2 (.inl rfl)
  have hgc : g ≠ gc := fun e => h2 (e ▸ hgi)
  have := hc (j * 7 + i) (by omega)
  refine ⟨g, hgi, hgc, ?_, this.2, ⟨ci, k8⟩, fun u x hx => ?_⟩
  · rw [this.1, flat_at itC 7 (fun _ => rfl) I j i hj hi]
  · have hl : (I.set j x).length = I.length := List.length_set
    refine ⟨⟨h1, h2, h2', m, d, some ⟨g, 0, none⟩, ci, An, cn, ns, h0, ?_, ?_, ?_, ?_, ?_⟩, ⟨rfl, rfl, rfl, by simp [World.setCell], fun b hb _ hne => Below.heap_setCell w ⟨g, j * 7 + i, none⟩ u b (fun e => hne (by rw [e]; exact hgi)), fun b hb => .inl hb⟩⟩
    · rw [hl]
      exact h3.far (fun e => hgc (by rw [e])) u
    · rw [hl, ← flat_set I j i hj hi u x hx]
      exact own_setIn h4 (by omega) u
    · exact own_setFar h5 (fun b hb e => h6 g rfl (by rw [hb, e])) u
    · rw [hl]; exact h6
    · rw [hl]; exact h7
end Go.Proofs.Ytcfjbaanahgpoaa
