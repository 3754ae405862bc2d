import Derived.Test.YtcfjbaanahgpoaaExpr
import Derived.Test.YtcfjbaanahgpoaaLin
namespace Go.Proofs.Ytcfjbaanahgpoaa
open Go.RowKit
set_option maxRecDepth 100000
noncomputable def yes (p : Prop) : Bool := @decide p (Classical.propDecidable _)
theorem yes_of {p : Prop} (h : p) : yes p = true := @decide_eq_true _ (Classical.propDecidable _) h
theorem yes_not {p : Prop} (h : ¬ p) : yes p = false := @decide_eq_false _ (Classical.propDecidable _) h
def idxFrom (s : ByteArray) : List ByteArray → Nat → Int
  | [], _ => -1
  | x :: l, k => if x = s then (k : Int) else idxFrom s l (k + 1)
def idxF (l : List ByteArray) (s : ByteArray) : Int := idxFrom s l 0
theorem idxFrom_ge (s : ByteArray) (l : List ByteArray) : ∀ k : Nat, idxFrom s l k = -1 ∨ ((k : Int) ≤ idxFrom s l k ∧ idxFrom s l k < k + l.length) := by
  induction l with
  | nil => intro k; exact .inl rfl
  | cons x l ih =>
    intro k
    rw [idxFrom]
    split
    · right; simp; omega
    · rcases ih (k + 1) with h | h
      · exact .inl h
      · right; simp; omega
theorem idxFrom_mem (s : ByteArray) (l : List ByteArray) : ∀ k : Nat, 0 ≤ idxFrom s l k ↔ s ∈ l := by
  induction l with
  | nil => intro k; simp [idxFrom]
  | cons x l ih =>
    intro k
    rw [idxFrom]
    split
    · rename_i h; subst h; simp
    · rename_i h; rw [ih (k + 1), List.mem_cons]; exact ⟨.inr, fun h' => h'.resolve_left (fun e => h e.symm)⟩
theorem idxF_mem (l : List ByteArray) (s : ByteArray) : 0 ≤ idxF l s ↔ s ∈ l := idxFrom_mem s l 0
theorem idxF_le (l : List ByteArray) (s : ByteArray) : -1 ≤ idxF l s ∧ idxF l s < l.length := by
  rcases idxFrom_ge s l 0 with h | h
  · unfold idxF; rw [h]; omega
  · unfold idxF; omega
set_option maxHeartbeats 400000 in
theorem i_index (A : Option Addr) (n c : Nat) (l : List ByteArray) (s : ByteArray) (w : World) (hn : n ≤ 1099511627776) (h : InRow w A n 1 (strCells l)) :
    Calls Try.prog 70 #[.slice A n c, .string s] w fun e w' => e = .returned (.int .i64 (idxF l s)) ∧ w = w' := by
  have hl : l.length = n := by have := h.1; rw [strCells_length] at this; omega
  have H := hide h
  have HL := hide hl
  clear h hl
  go_enter Try.func70, Try.ntmps70
  go_wp2
  go_loop [8] (fun i => ∃ k : Nat, k ≤ n ∧ i = .int .i64 k ∧ idxF l s = idxFrom s (l.drop k) k) (fun i => n - (intOf i).toNat)
  case atStart => exact ⟨0, Nat.zero_le _, rfl, rfl⟩
  case round =>
    obtain ⟨k, hk, rfl, hx⟩ := hrel
    have HX := hide hx
    clear hx
    by_cases hlt : k < n
    · have hkl : k < l.length := by rw [HL.out]; exact hlt
      obtain ⟨b, o, rfl, _, c0⟩ := H.out.str k hkl
      have HD := hide (List.drop_eq_getElem_cons hkl)
      by_cases heq : l[k] = s
      · have HN : Hid (idxF l s = k) := by show _ = _; rw [HX.out, HD.out, idxFrom, if_pos heq]
        have z := beqT heq.symm
        clear heq
        go_wp2
        go_ret
        exact ⟨by rw [HN.out]; rfl, rfl⟩
      · have HN : Hid (idxF l s = idxFrom s (l.drop (k + 1)) (k + 1)) := by show _ = _; rw [HX.out, HD.out, idxFrom, if_neg heq]
        have z := beqF (show ¬ s = l[k] from fun e => heq e.symm)
        clear heq
        go_wp2
        go_round
        case rel => exact ⟨k + 1, by omega, by go_num, HN.out⟩
        case measure => simp [intOf]; omega
    · have HN : Hid (idxF l s = -1) := by show _ = _; rw [HX.out, List.drop_of_length_le (by rw [HL.out]; omega)]; rfl
      go_wp2
      go_ret
      exact ⟨by rw [HN.out]; rfl, rfl⟩
set_option maxHeartbeats 400000 in
theorem s_index (A : Option Addr) (n c : Nat) (l : List ByteArray) (s : ByteArray) (w : World) (hn : n ≤ 1099511627776) (h : InRow w A n 1 (strCells l)) :
    Calls Try.prog 69 #[.slice A n c, .string s] w fun e w' => e = .returned (.int .i64 (idxF l s)) ∧ w = w' := by
  have hl : l.length = n := by have := h.1; rw [strCells_length] at this; omega
  have H := hide h
  have HL := hide hl
  clear h hl
  go_enter Try.func69, Try.ntmps69
  go_wp2
  go_loop [5] (fun i => ∃ k : Nat, k ≤ n ∧ i = .int .i64 k ∧ idxF l s = idxFrom s (l.drop k) k) (fun i => n - (intOf i).toNat)
  case atStart => exact ⟨0, Nat.zero_le _, rfl, rfl⟩
  case round =>
    obtain ⟨k, hk, rfl, hx⟩ := hrel
    have HX := hide hx
    clear hx
    by_cases hlt : k < n
    · have hkl : k < l.length := by rw [HL.out]; exact hlt
      obtain ⟨b, o, rfl, _, c0⟩ := H.out.str k hkl
      have HD := hide (List.drop_eq_getElem_cons hkl)
      by_cases heq : l[k] = s
      · have HN : Hid (idxF l s = k) := by show _ = _; rw [HX.out, HD.out, idxFrom, if_pos heq]
        have z := beqT heq
        clear heq
        go_wp2
        go_ret
        exact ⟨by rw [HN.out]; rfl, rfl⟩
      · have HN : Hid (idxF l s = idxFrom s (l.drop (k + 1)) (k + 1)) := by show _ = _; rw [HX.out, HD.out, idxFrom, if_neg heq]
        have z := beqF (show ¬ l[k] = s from fun e => heq e)
        clear heq
        go_wp2
        go_round
        case rel => exact ⟨k + 1, by omega, by go_num, HN.out⟩
        case measure => simp [intOf]; omega
    · have HN : Hid (idxF l s = -1) := by show _ = _; rw [HX.out, List.drop_of_length_le (by rw [HL.out]; omega)]; rfl
      go_wp2
      go_ret
      exact ⟨by rw [HN.out]; rfl, rfl⟩
set_option maxHeartbeats 400000 in
theorem i_contains (A : Option Addr) (n c : Nat) (l : List ByteArray) (s : ByteArray) (w : World) (hn : n ≤ 1099511627776) (h : InRow w A n 1 (strCells l)) :
    Calls Try.prog 41 #[.slice A n c, .string s] w fun e w' => e = .returned (.bool (yes (s ∈ l))) ∧ w = w' := by
  have hm := idxF_mem l s
  go_enter Try.func41, Try.ntmps41
  go_wp2_with fail
  refine (i_index A n c l s _ hn h).mono ?_
  rintro e w' ⟨rfl, rfl⟩
  by_cases hs : s ∈ l
  · have hge : 0 ≤ idxF l s := hm.2 hs
    have HN := hide (yes_of hs)
    clear hm hs h
    go_wp2
    go_ret
    exact ⟨ret_bool HN.out.symm, rfl⟩
  · have hlt : ¬ 0 ≤ idxF l s := fun h => hs (hm.1 h)
    have HN := hide (yes_not hs)
    have hlt' : decide (0 ≤ idxF l s) = false := decide_eq_false hlt
    clear hm hs h
    go_wp2
    go_ret
    exact ⟨ret_bool HN.out.symm, rfl⟩
def hasExprF (k : Int) : Bool := decide (k = 1 ∨ k = 2 ∨ k = 3 ∨ k = 5 ∨ k = 6)
def GoodArgs (l : List ByteArray) (m : Nat) : Prop := ∀ i, i < m → ∀ h : i < l.length, nameOkF l[i].data.toList = true ∧ l[i] ∉ l.take i
theorem GoodArgs.zero (l : List ByteArray) : GoodArgs l 0 := fun i h => by omega
theorem GoodArgs.step {l : List ByteArray} {m : Nat} (h : GoodArgs l m) (hm : m < l.length) (h1 : nameOkF l[m].data.toList = true) (h2 : l[m] ∉ l.take m) : GoodArgs l (m + 1) := by
  intro i hi hl
  by_cases e : i = m
  · subst e; exact ⟨h1, h2⟩
  · exact h i (by omega) hl
def ArgsP (l : List ByteArray) : Prop := l.length ≤ 4 ∧ GoodArgs l l.length
def LineOkP (x : Ln) : Prop := btw x.1 0 7 = true ∧ ((x.1 = 0 ∨ x.1 = 1) → nameOkF x.2.1.data.toList = true) ∧ (¬ (x.1 = 0 ∨ x.1 = 1) → x.2.1 = ByteArray.empty) ∧
  (x.1 = 0 → ArgsP x.2.2.1) ∧ (x.1 ≠ 0 → x.2.2.1 = []) ∧ (hasExprF x.1 = true → exprOkF x.2.2.2 = true) ∧ (hasExprF x.1 = false → x.2.2.2 = [])
set_option maxHeartbeats 400000 in
theorem i_areArgs (A : Option Addr) (n c : Nat) (l : List ByteArray) (w : World) (hn : n ≤ 1048576) (hnc : n ≤ c) (hc : c ≤ maxLen) (h : InRow w A n 1 (strCells l)) (hs : ∀ s ∈ l, s.size ≤ maxLen) :
    Calls Try.prog 58 #[.slice A n c] w fun e w' => e = .returned (.bool (yes (ArgsP l))) ∧ w = w' := by
  have hl : l.length = n := by have := h.1; rw [strCells_length] at this; omega
  have H := hide h
  have HL := hide hl
  have HS := hide hs
  unfold maxLen at hc
  clear h hl hs
  go_enter Try.func58, Try.ntmps58
  go_wp2
  go_loop [7] (fun i => ∃ k : Nat, k ≤ n ∧ i = .int .i64 k ∧ GoodArgs l k) (fun i => n - (intOf i).toNat)
  case atStart => exact ⟨0, Nat.zero_le _, rfl, GoodArgs.zero _⟩
  case round =>
    obtain ⟨k, hk, rfl, hg⟩ := hrel
    have HG := hide hg
    clear hg
    by_cases hlt : k < n
    · have hkl : k < l.length := by rw [HL.out]; exact hlt
      obtain ⟨b, o, rfl, hbl, c0⟩ := H.out.str k hkl
      have hsz := HS.out _ (List.getElem_mem hkl)
      have hkc : k ≤ c := by omega
      have P : Hid (InRow w (some ⟨b, o, none⟩) k 1 (strCells (l.take k))) := by
        refine ⟨by rw [strCells_length, List.length_take]; omega, fun hk0 => ?_⟩
        obtain ⟨b', o', e, hb', hc'⟩ := H.out.2 (by omega)
        refine ⟨b', o', e, hb', fun j hj => ?_⟩
        rw [hc' j (by omega)]
        unfold strCells
        rw [List.map_take, List.getElem?_take, if_pos (by omega)]
      cases h1 : nameOkF l[k].data.toList
      · have HN : Hid (yes (ArgsP l) = false) := yes_not (fun h => by have := (h.2 k hkl hkl).1; rw [h1] at this; cases this)
        have H1 := hide h1
        clear h1
        go_wp2_with fail
        refine (i_nameOk _ hsz _).mono ?_
        rintro e w' ⟨rfl, rfl⟩
        rw [H1.out]
        go_wp2
        go_ret
        exact ⟨ret_bool HN.out.symm, rfl⟩
      · have H1 := hide h1
        clear h1
        by_cases h2 : l[k] ∈ l.take k
        · have HN : Hid (yes (ArgsP l) = false) := yes_not (fun h => (h.2 k hkl hkl).2 h2)
          have hd : yes (l[k] ∈ l.take k) = true := yes_of h2
          have HD := hide hd
          clear h2 hd
          go_wp2_with fail
          refine (i_nameOk _ hsz _).mono ?_
          rintro e w' ⟨rfl, rfl⟩
          rw [H1.out]
          go_wp2_with fail
          refine (i_contains _ k _ (l.take k) _ _ (by omega) P.out).mono ?_
          rintro e w' ⟨rfl, rfl⟩
          rw [HD.out]
          go_wp2
          go_ret
          exact ⟨ret_bool HN.out.symm, rfl⟩
        · have HN : Hid (GoodArgs l (k + 1)) := HG.out.step hkl H1.out h2
          have hd : yes (l[k] ∈ l.take k) = false := yes_not h2
          have HD := hide hd
          clear h2 hd
          go_wp2_with fail
          refine (i_nameOk _ hsz _).mono ?_
          rintro e w' ⟨rfl, rfl⟩
          rw [H1.out]
          go_wp2_with fail
          refine (i_contains _ k _ (l.take k) _ _ (by omega) P.out).mono ?_
          rintro e w' ⟨rfl, rfl⟩
          rw [HD.out]
          go_wp2
          go_round
          case rel => exact ⟨k + 1, by omega, by go_num, HN.out⟩
          case measure => simp [intOf]; omega
    · by_cases h4 : n ≤ 4
      · have HN : Hid (yes (ArgsP l) = true) := yes_of ⟨by rw [HL.out]; exact h4, by rw [HL.out]; have := HG.out; rwa [show k = n by omega] at this⟩
        have h4' : (n : Int) ≤ 4 := by omega
        clear h4
        go_wp2
        go_ret
        exact ⟨ret_bool HN.out.symm, rfl⟩
      · have HN : Hid (yes (ArgsP l) = false) := yes_not (fun h => h4 (by rw [← HL.out]; exact h.1))
        have h4' : ¬ (n : Int) ≤ 4 := by omega
        clear h4
        go_wp2
        go_ret
        exact ⟨ret_bool HN.out.symm, rfl⟩
set_option maxHeartbeats 400000 in
theorem i_hasExpr (k : Int) (w : World) : Calls Try.prog 59 #[.int .i64 k] w fun e w' => e = .returned (.bool (hasExprF k)) ∧ w = w' := by
  go_enter Try.func59, Try.ntmps59
  go_wp2
  all_goals go_ret
  all_goals refine ⟨ret_bool ?_, rfl⟩
  all_goals unfold hasExprF
  all_goals by_cases h5 : k = 6 <;> simp_all
def hasX2 (k : Int) : Bool := decide (k ≠ 0 ∧ k ≠ 4 ∧ k ≠ 7)
theorem hasX2_eq (k : Int) (hk : btw k 0 7 = true) : hasExprF k = hasX2 k := by
  have hk' : 0 ≤ k ∧ k ≤ 7 := by simpa [btw] using hk
  unfold hasExprF hasX2
  rw [decide_eq_decide]
  omega
set_option maxHeartbeats 400000 in
theorem s_hasExpr (k : Int) (w : World) : Calls Try.prog 65 #[.int .i64 k] w fun e w' => e = .returned (.bool (hasX2 k)) ∧ w = w' := by
  go_enter Try.func65, Try.ntmps65
  go_wp2
  all_goals go_ret
  all_goals refine ⟨ret_bool ?_, rfl⟩
  all_goals unfold hasX2
  all_goals by_cases h5 : k = 7 <;> simp_all
end Go.Proofs.Ytcfjbaanahgpoaa
namespace Go.Proofs.Ytcfjbaanahgpoaa
open Go.RowKit
set_option maxRecDepth 100000
noncomputable def argsF (l : List ByteArray) : Bool := yes (ArgsP l)
noncomputable def lineOkF (x : Ln) : Bool :=
  btw x.1 0 7 && (if x.1 = 0 ∨ x.1 = 1 then nameOkF x.2.1.data.toList else x.2.1.data.toList.isEmpty) && (if x.1 = 0 then argsF x.2.2.1 else decide (x.2.2.1.length = 0)) && (if hasExprF x.1 = true then exprOkF x.2.2.2 else decide (x.2.2.2.length = 0))
theorem lineOk_args {x : Ln} (h : x.1 = 0 → argsF x.2.2.1 = false) (h' : x.1 ≠ 0 → x.2.2.1.length ≠ 0) : lineOkF x = false := by
  unfold lineOkF
  by_cases h0 : x.1 = 0
  · rw [if_pos h0 (c := x.1 = 0), h h0]; simp
  · rw [if_neg h0 (c := x.1 = 0), decide_eq_false (h' h0)]; simp
set_option maxHeartbeats 1000000 in
theorem i_lineOk (x : Ln) (A1 A2 : Option Addr) (c1 c2 : Nat) (w : World) (hn : x.2.2.1.length + x.2.2.2.length ≤ 1048576) (h : LnIn w x A1 c1 A2 c2) (hs : LnSz x) :
    Calls Try.prog 33 #[.agg #[.int .i64 x.1, .string x.2.1, .slice A1 x.2.2.1.length c1, .slice A2 x.2.2.2.length c2]] w fun e w' => e = .returned (.bool (lineOkF x)) ∧ Below w.heap.size w w' := by
  obtain ⟨k, s, ar, ex⟩ := x
  obtain ⟨h1, h2, h3, h4, h5, h6⟩ := h
  obtain ⟨s1, s2, s3⟩ := hs
  simp only at h1 h2 h3 h4 h5 h6 s1 s2 s3 hn ⊢
  have H1 := hide h1
  have H2 := hide h2
  have S2 := hide s2
  have S3 := hide s3
  have hn1 : ar.length ≤ 1048576 := by omega
  have hn2 : ex.length ≤ 1048576 := by omega
  clear h1 h2 s2 s3 hn
  cases hx : hasExprF k
  all_goals go_enter Try.func33, Try.ntmps33
  all_goals go_wp2_with (first | (go_at_call 32; refine (i_between _ _ _ _).mono ?_; rintro e w' ⟨rfl, rfl⟩) | (go_at_call 48; refine (i_nameOk _ s1 _).mono ?_; rintro e w' ⟨rfl, rfl⟩) | (go_at_call 58; refine (i_areArgs A1 _ c1 ar _ hn1 h3 h4 (H1.out.below (by repeat (first | exact Below.refl _ _ | refine Below.alloc ?_ (by first | (simp; done) | (simp; omega)) _ | refine Below.drew ?_ | refine below_drewN ?_ _ | refine Below.setCell ?_ (by first | (simp; done) | (simp; omega)) _))) S2.out).mono ?_; rintro e w' ⟨rfl, rfl⟩) | (go_at_call 59; refine (i_hasExpr _ _).mono ?_; rintro e w' ⟨rfl, rfl⟩) | (go_at_call 60; refine (i_exprOk A2 _ c2 ex _ hn2 rfl (H2.out.below (by repeat (first | exact Below.refl _ _ | refine Below.alloc ?_ (by first | (simp; done) | (simp; omega)) _ | refine Below.drew ?_ | refine below_drewN ?_ _ | refine Below.setCell ?_ (by first | (simp; done) | (simp; omega)) _))) S3.out).mono ?_; rintro e w' ⟨rfl, hb⟩))
  all_goals go_ret
  all_goals refine ⟨ret_bool ?_, by first | ((repeat (first | exact Below.refl _ _ | refine Below.alloc ?_ (by first | (simp; done) | (simp; omega)) _ | refine Below.drew ?_ | refine below_drewN ?_ _ | refine Below.setCell ?_ (by first | (simp; done) | (simp; omega)) _)); done) | (refine Below.trans ?_ (hb.mono (by simp)); repeat (first | exact Below.refl _ _ | refine Below.alloc ?_ (by first | (simp; done) | (simp; omega)) _ | refine Below.drew ?_ | refine below_drewN ?_ _ | refine Below.setCell ?_ (by first | (simp; done) | (simp; omega)) _))⟩
  all_goals go_light
  all_goals clear h3 h4 h5 h6 s1 H1 H2 S2 S3 hn1 hn2
  all_goals simp_all [lineOkF, argsF, hasExprF, ByteArray.toList_eq]
  all_goals first | (cases ex <;> simp_all <;> omega) | (intros; subst_vars; simp_all; done) | omega
end Go.Proofs.Ytcfjbaanahgpoaa
namespace Go.Proofs.Ytcfjbaanahgpoaa
open Go.RowKit
set_option maxRecDepth 100000
set_option maxHeartbeats 1000000 in
theorem s_lineOk (x : Ln) (A1 A2 : Option Addr) (c1 c2 : Nat) (w : World) (hn : x.2.2.1.length + x.2.2.2.length ≤ 1048576) (h : LnIn w x A1 c1 A2 c2) (hs : LnSz x) :
    Calls Try.prog 36 #[.agg #[.int .i64 x.1, .string x.2.1, .slice A1 x.2.2.1.length c1, .slice A2 x.2.2.2.length c2]] w fun e w' => e = .returned (.bool (lineOkF x)) ∧ Below w.heap.size w w' := by
  obtain ⟨k, s, ar, ex⟩ := x
  obtain ⟨h1, h2, h3, h4, h5, h6⟩ := h
  obtain ⟨s1, s2, s3⟩ := hs
  simp only at h1 h2 h3 h4 h5 h6 s1 s2 s3 hn ⊢
  have H1 := hide h1
  have H2 := hide h2
  have S2 := hide s2
  have S3 := hide s3
  have hn1 : ar.length ≤ 1048576 := by omega
  have hn2 : ex.length ≤ 1048576 := by omega
  clear h1 h2 s2 s3 hn
  cases hb : btw k 0 7
  · have HN : Hid (lineOkF (k, s, ar, ex) = false) := by show _ = _; unfold lineOkF; rw [hb]; rfl
    go_enter Try.func36, Try.ntmps36
    go_wp2_with (first | (go_at_call 63; refine (s_l01In _ _ _ _).mono ?_; rintro e w' ⟨rfl, rfl⟩))
    go_ret
    exact ⟨ret_bool HN.out.symm, by repeat (first | exact Below.refl _ _ | refine Below.alloc ?_ (by first | (simp; done) | (simp; omega)) _ | refine Below.drew ?_ | refine below_drewN ?_ _ | refine Below.setCell ?_ (by first | (simp; done) | (simp; omega)) _)⟩
  · by_cases h4' : 4 < ar.length
    · have HN : Hid (lineOkF (k, s, ar, ex) = false) := lineOk_args (fun _ => yes_not (fun h => by have := h.1; simp only at this; omega)) (fun _ => by simp only; omega)
      have g4 : (4 : Int) < (ar.length : Int) := by omega
      go_enter Try.func36, Try.ntmps36
      go_wp2_with (first | (go_at_call 63; refine (s_l01In _ _ _ _).mono ?_; rintro e w' ⟨rfl, rfl⟩))
      go_ret
      exact ⟨ret_bool HN.out.symm, by repeat (first | exact Below.refl _ _ | refine Below.alloc ?_ (by first | (simp; done) | (simp; omega)) _ | refine Below.drew ?_ | refine below_drewN ?_ _ | refine Below.setCell ?_ (by first | (simp; done) | (simp; omega)) _)⟩
    · have g4 : ¬ (4 : Int) < (ar.length : Int) := by omega
      go_enter Try.func36, Try.ntmps36
      go_wp2_with (first | (go_at_call 63; refine (s_l01In _ _ _ _).mono ?_; rintro e w' ⟨rfl, rfl⟩))
      have HB := hide hb
      clear hb
      go_loopw [3, 4] (fun i _ wr => ∃ m nq : Nat, m ≤ ar.length ∧ i = .int .i64 m ∧ GoodArgs ar m ∧ (0 < m → k = 0) ∧ wr = (w.alloc (.cells #[.int .i64 k, .string s, .slice A1 ar.length c1, .slice A2 ex.length c2] 34)).drewN nq) (fun i _ _ => ar.length - (intOf i).toNat)
      case atStart => exact ⟨0, 0, Nat.zero_le _, rfl, GoodArgs.zero _, fun h => by omega, rfl⟩
      case round =>
        obtain ⟨m, nq, hm, rfl, hg, hk0, rfl⟩ := hrel
        have HG := hide hg
        have HK := hide hk0
        clear hg hk0
        by_cases hlt : m < ar.length
        · obtain ⟨b, o, rfl, hbl, c0⟩ := H1.out.str m hlt
          have hsz := S2.out _ (List.getElem_mem hlt)
          cases hq : nameOkF ar[m].data.toList
          · have HN : Hid (lineOkF (k, s, ar, ex) = false) := lineOk_args (fun _ => yes_not (fun h => by have := (h.2 m hlt hlt).1; rw [hq] at this; cases this)) (fun _ => by simp only; omega)
            have HQ := hide hq
            clear hq
            go_wp2_with fail
            refine (s_nameOk _ hsz _).mono ?_
            rintro e w' ⟨rfl, rfl⟩
            rw [HQ.out]
            go_wp2
            go_ret
            exact ⟨ret_bool HN.out.symm, by repeat (first | exact Below.refl _ _ | refine Below.alloc ?_ (by first | (simp; done) | (simp; omega)) _ | refine Below.drew ?_ | refine below_drewN ?_ _ | refine Below.setCell ?_ (by first | (simp; done) | (simp; omega)) _)⟩
          · have HQ := hide hq
            clear hq
            by_cases hk : k = 0
            · subst hk
              go_wp2_with fail
              refine (s_nameOk _ hsz _).mono ?_
              rintro e w' ⟨rfl, rfl⟩
              rw [HQ.out]
              go_wp2
              go_loopw [4] (fun i wr => ∃ j nr : Nat, j ≤ m ∧ i = .int .i64 j ∧ ar[m] ∉ ar.take j ∧ wr = (w.alloc (.cells #[.int .i64 0, .string s, .slice (some ⟨b, o, none⟩) ar.length c1, .slice A2 ex.length c2] 34)).drewN nr) (fun i _ => m - (intOf i).toNat)
              case atStart => exact ⟨0, nq, Nat.zero_le _, rfl, by simp, rfl⟩
              case round =>
                obtain ⟨j, nr, hj, rfl, hnot, rfl⟩ := hrel
                have HNOT := hide hnot
                clear hnot
                by_cases hjm : j < m
                · have hjl : j < ar.length := by omega
                  obtain ⟨b', o', eA, _, d0⟩ := H1.out.str j hjl
                  obtain ⟨rfl, rfl⟩ : b = b' ∧ o = o' := by injection eA with eA; injection eA with eA eB; exact ⟨eA, eB⟩
                  clear eA
                  by_cases heq : ar[j] = ar[m]
                  · have z := beqT heq
                    have hmem : ar[m] ∈ ar.take m := by rw [← heq]; exact List.mem_take_iff_getElem.2 ⟨j, by omega, rfl⟩
                    have HN : Hid (lineOkF (0, s, ar, ex) = false) := lineOk_args (fun _ => yes_not (fun h => (h.2 m hlt hlt).2 hmem)) (fun h => absurd rfl h)
                    clear hmem
                    clear heq
                    go_wp2
                    go_quiet (fail)
                    go_wp2
                    go_ret
                    exact ⟨ret_bool HN.out.symm, by repeat (first | exact Below.refl _ _ | refine Below.alloc ?_ (by first | (simp; done) | (simp; omega)) _ | refine Below.drew ?_ | refine below_drewN ?_ _ | refine Below.setCell ?_ (by first | (simp; done) | (simp; omega)) _)⟩
                  · have z := beqF heq
                    have HN : Hid (ar[m] ∉ ar.take (j + 1)) := by
                      show _ ∉ _
                      rw [List.take_succ_eq_append_getElem hjl, List.mem_append]
                      rintro (h | h)
                      · exact HNOT.out h
                      · exact heq (List.mem_singleton.1 h).symm
                    clear heq
                    go_wp2
                    go_quiet (fail)
                    go_wp2
                    go_roundw
                    case rel => exact ⟨j + 1, _, by omega, by go_num, HN.out, by first | rfl | exact World.drewN_drewN _ _ _⟩
                    case measure => simp [intOf]; omega
                · have HN : Hid (GoodArgs ar (m + 1)) := HG.out.step hlt HQ.out (by have := HNOT.out; rwa [show j = m by omega] at this)
                  go_wp2
                  go_roundw
                  case rel => exact ⟨m + 1, _, by omega, by go_num, HN.out, by simp, rfl⟩
                  case measure => simp [intOf]; omega
            · have HN : Hid (lineOkF (k, s, ar, ex) = false) := lineOk_args (fun h => absurd h hk) (fun _ => by simp only; omega)
              have z : (k != 0) = true := by simpa using hk
              clear hk
              go_wp2_with fail
              refine (s_nameOk _ hsz _).mono ?_
              rintro e w' ⟨rfl, rfl⟩
              rw [HQ.out]
              go_wp2
              go_ret
              exact ⟨ret_bool HN.out.symm, by repeat (first | exact Below.refl _ _ | refine Below.alloc ?_ (by first | (simp; done) | (simp; omega)) _ | refine Below.drew ?_ | refine below_drewN ?_ _ | refine Below.setCell ?_ (by first | (simp; done) | (simp; omega)) _)⟩
        · have hm2 : m = ar.length := by omega
          have HA : Hid (k = 0 → argsF ar = true) := fun _ => yes_of ⟨by omega, by have := HG.out; rwa [hm2] at this⟩
          have HE : Hid (k ≠ 0 → ar.length = 0) := fun h => Classical.byContradiction fun h0 => h (HK.out (by omega))
          cases hx : hasX2 k
          all_goals go_wp2_with (first | (go_at_call 64; refine (s_nameOk _ s1 _).mono ?_; rintro e w' ⟨rfl, rfl⟩) | (go_at_call 65; refine (s_hasExpr _ _).mono ?_; rintro e w' ⟨rfl, rfl⟩) | (go_at_call 66; refine (s_exprOk A2 _ c2 ex _ hn2 rfl (H2.out.below (by repeat (first | exact Below.refl _ _ | refine Below.alloc ?_ (by first | (simp; done) | (simp; omega)) _ | refine Below.drew ?_ | refine below_drewN ?_ _ | refine Below.setCell ?_ (by first | (simp; done) | (simp; omega)) _))) S3.out).mono ?_; rintro e w' ⟨rfl, hb⟩))
          all_goals go_ret
          all_goals refine ⟨ret_bool ?_, by first | ((repeat (first | exact Below.refl _ _ | refine Below.alloc ?_ (by first | (simp; done) | (simp; omega)) _ | refine Below.drew ?_ | refine below_drewN ?_ _ | refine Below.setCell ?_ (by first | (simp; done) | (simp; omega)) _)); done) | (refine Below.trans ?_ (hb.mono (by simp)); repeat (first | exact Below.refl _ _ | refine Below.alloc ?_ (by first | (simp; done) | (simp; omega)) _ | refine Below.drew ?_ | refine below_drewN ?_ _ | refine Below.setCell ?_ (by first | (simp; done) | (simp; omega)) _))⟩
          all_goals go_light
          all_goals have h7 := HB.out
          all_goals have h6x := hasX2_eq k h7
          all_goals have h8 := HA.out
          all_goals have h9 := HE.out
          all_goals clear HB HA HE HG HK H1 H2 S2 S3 hlt hm hm2 g4 h4'
          all_goals clear h3 h4 h5 h6 s1 hn1 hn2
          all_goals simp_all [lineOkF, hasX2, ByteArray.toList_eq]
          all_goals first | (cases ex <;> simp_all <;> omega) | (intros; subst_vars; simp_all; done) | (intros; subst_vars; simp [btw] at *; omega) | (rw [if_neg (fun h => h.2 (hx h.1))]; cases ex <;> simp <;> omega)
end Go.Proofs.Ytcfjbaanahgpoaa
