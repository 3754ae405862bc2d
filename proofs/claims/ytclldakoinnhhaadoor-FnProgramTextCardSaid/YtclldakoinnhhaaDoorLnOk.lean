import Derived.Test.YtclldakoinnhhaaDoorExpr
import Derived.Test.YtclldakoinnhhaaDoorLin
namespace Go.Proofs.YtclldakoinnhhaaDoor
open Go.RowKit
set_option maxRecDepth 100000
noncomputable def yes (p : Prop) : Bool := @decide p (Classical.propDecidable _)
theorem yes_of {p : Prop} (h : p) : yes p = true := @decide_eq_true _ (Classical.propDecidable _) h
theorem yes_not {p : Prop} (h : ¬ p) : yes p = false := @decide_eq_false _ (Classical.propDecidable _) h
def idxFrom (s : ByteArray) : List ByteArray → Nat → Int
  | [], _ => -1
  | x :: l, k => if x = s then (k : Int) else idxFrom s l (k + 1)
def idxF (l : List ByteArray) (s : ByteArray) : Int := idxFrom s l 0
theorem idxFrom_ge (s : ByteArray) (l : List ByteArray) : ∀ k : Nat, idxFrom s l k = -1 ∨ ((k : Int) ≤ idxFrom s l k ∧ idxFrom s l k < k + l.length) := by
  induction l with
  | nil => intro k; exact .inl rfl
  | cons x l ih =>
    intro k
    rw [idxFrom]
    split
    · right; simp; omega
    · rcases ih (k + 1) with h | h
      · exact .inl h
      · right; simp; omega
theorem idxFrom_mem (s : ByteArray) (l : List ByteArray) : ∀ k : Nat, 0 ≤ idxFrom s l k ↔ s ∈ l := by
  induction l with
  | nil => intro k; simp [idxFrom]
  | cons x l ih =>
    intro k
    rw [idxFrom]
    split
    · rename_i h; subst h; simp
    · rename_i h; rw [ih (k + 1), List.mem_cons]; exact ⟨.inr, fun h' => h'.resolve_left (fun e => h e.symm)⟩
theorem idxF_mem (l : List ByteArray) (s : ByteArray) : 0 ≤ idxF l s ↔ s ∈ l := idxFrom_mem s l 0
theorem idxF_le (l : List ByteArray) (s : ByteArray) : -1 ≤ idxF l s ∧ idxF l s < l.length := by
  rcases idxFrom_ge s l 0 with h | h
  · unfold idxF; rw [h]; omega
  · unfold idxF; omega
set_option maxHeartbeats 400000 in
theorem i_index (A : Option Addr) (n c : Nat) (l : List ByteArray) (s : ByteArray) (w : World) (hn : n ≤ 1099511627776) (h : InRow w A n 1 (strCells l)) :
    Calls Tryd.prog 29 #[.slice A n c, .string s] w fun e w' => e = .returned (.int .i64 (idxF l s)) ∧ w = w' := by
  have hl : l.length = n := by have := h.1; rw [strCells_length] at this; omega
  have H := hide h
  have HL := hide hl
  clear h hl
  go_enter Tryd.func29, Tryd.ntmps29
  go_wp2
  go_loop [8] (fun i => ∃ k : Nat, k ≤ n ∧ i = .int .i64 k ∧ idxF l s = idxFrom s (l.drop k) k) (fun i => n - (intOf i).toNat)
  case atStart => exact ⟨0, Nat.zero_le _, rfl, rfl⟩
  case round =>
    obtain ⟨k, hk, rfl, hx⟩ := hrel
    have HX := hide hx
    clear hx
    by_cases hlt : k < n
    · have hkl : k < l.length := by rw [HL.out]; exact hlt
      obtain ⟨b, o, rfl, _, c0⟩ := H.out.str k hkl
      have HD := hide (List.drop_eq_getElem_cons hkl)
      by_cases heq : l[k] = s
      · have HN : Hid (idxF l s = k) := by show _ = _; rw [HX.out, HD.out, idxFrom, if_pos heq]
        have z := beqT heq.symm
        clear heq
        go_wp2
        go_ret
        exact ⟨by rw [HN.out]; rfl, rfl⟩
      · have HN : Hid (idxF l s = idxFrom s (l.drop (k + 1)) (k + 1)) := by show _ = _; rw [HX.out, HD.out, idxFrom, if_neg heq]
        have z := beqF (show ¬ s = l[k] from fun e => heq e.symm)
        clear heq
        go_wp2
        go_round
        case rel => exact ⟨k + 1, by omega, by go_num, HN.out⟩
        case measure => simp [intOf]; omega
    · have HN : Hid (idxF l s = -1) := by show _ = _; rw [HX.out, List.drop_of_length_le (by rw [HL.out]; omega)]; rfl
      go_wp2
      go_ret
      exact ⟨by rw [HN.out]; rfl, rfl⟩
set_option maxHeartbeats 400000 in
theorem i_contains (A : Option Addr) (n c : Nat) (l : List ByteArray) (s : ByteArray) (w : World) (hn : n ≤ 1099511627776) (h : InRow w A n 1 (strCells l)) :
    Calls Tryd.prog 51 #[.slice A n c, .string s] w fun e w' => e = .returned (.bool (yes (s ∈ l))) ∧ w = w' := by
  have hm := idxF_mem l s
  go_enter Tryd.func51, Tryd.ntmps51
  go_wp2_with fail
  refine (i_index A n c l s _ hn h).mono ?_
  rintro e w' ⟨rfl, rfl⟩
  by_cases hs : s ∈ l
  · have hge : 0 ≤ idxF l s := hm.2 hs
    have HN := hide (yes_of hs)
    clear hm hs h
    go_wp2
    go_ret
    exact ⟨ret_bool HN.out.symm, rfl⟩
  · have hlt : ¬ 0 ≤ idxF l s := fun h => hs (hm.1 h)
    have HN := hide (yes_not hs)
    have hlt' : decide (0 ≤ idxF l s) = false := decide_eq_false hlt
    clear hm hs h
    go_wp2
    go_ret
    exact ⟨ret_bool HN.out.symm, rfl⟩
def hasExprF (k : Int) : Bool := decide (k = 1 ∨ k = 2 ∨ k = 3 ∨ k = 5 ∨ k = 6)
def GoodArgs (l : List ByteArray) (m : Nat) : Prop := ∀ i, i < m → ∀ h : i < l.length, nameOkF l[i].data.toList = true ∧ l[i] ∉ l.take i
theorem GoodArgs.zero (l : List ByteArray) : GoodArgs l 0 := fun i h => by omega
theorem GoodArgs.step {l : List ByteArray} {m : Nat} (h : GoodArgs l m) (hm : m < l.length) (h1 : nameOkF l[m].data.toList = true) (h2 : l[m] ∉ l.take m) : GoodArgs l (m + 1) := by
  intro i hi hl
  by_cases e : i = m
  · subst e; exact ⟨h1, h2⟩
  · exact h i (by omega) hl
def ArgsP (l : List ByteArray) : Prop := l.length ≤ 4 ∧ GoodArgs l l.length
def LineOkP (x : Ln) : Prop := btw x.1 0 7 = true ∧ ((x.1 = 0 ∨ x.1 = 1) → nameOkF x.2.1.data.toList = true) ∧ (¬ (x.1 = 0 ∨ x.1 = 1) → x.2.1 = ByteArray.empty) ∧
  (x.1 = 0 → ArgsP x.2.2.1) ∧ (x.1 ≠ 0 → x.2.2.1 = []) ∧ (hasExprF x.1 = true → exprOkF x.2.2.2 = true) ∧ (hasExprF x.1 = false → x.2.2.2 = [])
set_option maxHeartbeats 400000 in
theorem i_areArgs (A : Option Addr) (n c : Nat) (l : List ByteArray) (w : World) (hn : n ≤ 1048576) (hnc : n ≤ c) (hc : c ≤ maxLen) (h : InRow w A n 1 (strCells l)) (hs : ∀ s ∈ l, s.size ≤ maxLen) :
    Calls Tryd.prog 36 #[.slice A n c] w fun e w' => e = .returned (.bool (yes (ArgsP l))) ∧ w = w' := by
  have hl : l.length = n := by have := h.1; rw [strCells_length] at this; omega
  have H := hide h
  have HL := hide hl
  have HS := hide hs
  unfold maxLen at hc
  clear h hl hs
  go_enter Tryd.func36, Tryd.ntmps36
  go_wp2
  go_loop [7] (fun i => ∃ k : Nat, k ≤ n ∧ i = .int .i64 k ∧ GoodArgs l k) (fun i => n - (intOf i).toNat)
  case atStart => exact ⟨0, Nat.zero_le _, rfl, GoodArgs.zero _⟩
  case round =>
    obtain ⟨k, hk, rfl, hg⟩ := hrel
    have HG := hide hg
    clear hg
    by_cases hlt : k < n
    · have hkl : k < l.length := by rw [HL.out]; exact hlt
      obtain ⟨b, o, rfl, hbl, c0⟩ := H.out.str k hkl
      have hsz := HS.out _ (List.getElem_mem hkl)
      have hkc : k ≤ c := by omega
      have P : Hid (InRow w (some ⟨b, o, none⟩) k 1 (strCells (l.take k))) := by
        refine ⟨by rw [strCells_length, List.length_take]; omega, fun hk0 => ?_⟩
        obtain ⟨b', o', e, hb', hc'⟩ := H.out.2 (by omega)
        refine ⟨b', o', e, hb', fun j hj => ?_⟩
        rw [hc' j (by omega)]
        unfold strCells
        rw [List.map_take, List.getElem?_take, if_pos (by omega)]
      cases h1 : nameOkF l[k].data.toList
      · have HN : Hid (yes (ArgsP l) = false) := yes_not (fun h => by have := (h.2 k hkl hkl).1; rw [h1] at this; cases this)
        have H1 := hide h1
        clear h1
        go_wp2_with fail
        refine (i_nameOk _ hsz _).mono ?_
        rintro e w' ⟨rfl, rfl⟩
        rw [H1.out]
        go_wp2
        go_ret
        exact ⟨ret_bool HN.out.symm, rfl⟩
      · have H1 := hide h1
        clear h1
        by_cases h2 : l[k] ∈ l.take k
        · have HN : Hid (yes (ArgsP l) = false) := yes_not (fun h => (h.2 k hkl hkl).2 h2)
          have hd : yes (l[k] ∈ l.take k) = true := yes_of h2
          have HD := hide hd
          clear h2 hd
          go_wp2_with fail
          refine (i_nameOk _ hsz _).mono ?_
          rintro e w' ⟨rfl, rfl⟩
          rw [H1.out]
          go_wp2_with fail
          refine (i_contains _ k _ (l.take k) _ _ (by omega) P.out).mono ?_
          rintro e w' ⟨rfl, rfl⟩
          rw [HD.out]
          go_wp2
          go_ret
          exact ⟨ret_bool HN.out.symm, rfl⟩
        · have HN : Hid (GoodArgs l (k + 1)) := HG.out.step hkl H1.out h2
          have hd : yes (l[k] ∈ l.take k) = false := yes_not h2
          have HD := hide hd
          clear h2 hd
          go_wp2_with fail
          refine (i_nameOk _ hsz _).mono ?_
          rintro e w' ⟨rfl, rfl⟩
          rw [H1.out]
          go_wp2_with fail
          refine (i_contains _ k _ (l.take k) _ _ (by omega) P.out).mono ?_
          rintro e w' ⟨rfl, rfl⟩
          rw [HD.out]
          go_wp2
          go_round
          case rel => exact ⟨k + 1, by omega, by go_num, HN.out⟩
          case measure => simp [intOf]; omega
    · by_cases h4 : n ≤ 4
      · have HN : Hid (yes (ArgsP l) = true) := yes_of ⟨by rw [HL.out]; exact h4, by rw [HL.out]; have := HG.out; rwa [show k = n by omega] at this⟩
        have h4' : (n : Int) ≤ 4 := by omega
        clear h4
        go_wp2
        go_ret
        exact ⟨ret_bool HN.out.symm, rfl⟩
      · have HN : Hid (yes (ArgsP l) = false) := yes_not (fun h => h4 (by rw [← HL.out]; exact h.1))
        have h4' : ¬ (n : Int) ≤ 4 := by omega
        clear h4
        go_wp2
        go_ret
        exact ⟨ret_bool HN.out.symm, rfl⟩
set_option maxHeartbeats 400000 in
theorem i_hasExpr (k : Int) (w : World) : Calls Tryd.prog 37 #[.int .i64 k] w fun e w' => e = .returned (.bool (hasExprF k)) ∧ w = w' := by
  go_enter Tryd.func37, Tryd.ntmps37
  go_wp2
  all_goals go_ret
  all_goals refine ⟨ret_bool ?_, rfl⟩
  all_goals unfold hasExprF
  all_goals by_cases h5 : k = 6 <;> simp_all
end Go.Proofs.YtclldakoinnhhaaDoor
