import Derived.Test.YtcfjbaanahgpoaaLoc
import Derived.Test.YtcfjbaanahgpoaaLnOkX
namespace Go.Proofs.Ytcfjbaanahgpoaa
open Go Go.RowKit
set_option maxRecDepth 100000
set_option linter.unusedVariables false
set_option linter.unusedSimpArgs false
/-! The plain law on whole programs: two ways of checking them are the same. -/
def nameX (L : List Ln) (loc : List ByteArray) (t : Tk) : Bool :=
  decide (t.1 = 1 → 0 ≤ idxF loc t.2.2) && decide (t.1 = 7 → 0 ≤ findF L t.2.2 ∧ ((lnAtD L (findF L t.2.2).toNat).2.2.1.length : Int) = t.2.1)
def namesX (L : List Ln) (loc : List ByteArray) (ex : List Tk) : Bool := ex.all (nameX L loc)
noncomputable def elseIn (L : List Ln) (a b : Nat) (i : Int) : Bool := yes (∃ j : Nat, a ≤ j ∧ j < b ∧ elseOfF L j = i)
theorem elseIn_nil (L : List Ln) (a b : Nat) (i : Int) (h : b ≤ a) : elseIn L a b i = false := yes_not (fun ⟨j, h1, h2, _⟩ => by omega)
theorem elseIn_step (L : List Ln) (a b : Nat) (i : Int) (h : a ≤ b) : elseIn L a (b + 1) i = (elseIn L a b i || decide (elseOfF L (b : Int) = i)) := by
  by_cases h1 : elseOfF L (b : Int) = i
  · rw [decide_eq_true h1, Bool.or_true]
    exact yes_of ⟨b, h, Nat.lt_succ_self _, h1⟩
  · rw [decide_eq_false h1, Bool.or_false]
    unfold elseIn
    by_cases h2 : ∃ j : Nat, a ≤ j ∧ j < b ∧ elseOfF L j = i
    · obtain ⟨j, a1, a2, a3⟩ := h2
      rw [yes_of (p := ∃ j : Nat, a ≤ j ∧ j < b ∧ elseOfF L j = i) ⟨j, a1, a2, a3⟩]
      exact yes_of ⟨j, a1, by omega, a3⟩
    · rw [yes_not h2]
      refine yes_not fun hh => ?_
      obtain ⟨j, a1, a2, a3⟩ := hh
      refine h2 ⟨j, a1, ?_, a3⟩
      rcases Nat.lt_or_ge j b with hj | hj
      · exact hj
      · obtain rfl : j = b := by omega
        exact absurd a3 h1
theorem elseIn_true {L : List Ln} {a b : Nat} {i : Int} (h : elseIn L a b i = true) : ∃ j : Nat, a ≤ j ∧ j < b ∧ elseOfF L j = i := by
  unfold elseIn at h
  by_cases h2 : ∃ j : Nat, a ≤ j ∧ j < b ∧ elseOfF L j = i
  · exact h2
  · rw [yes_not h2] at h; cases h
/-! Where an else lies. -/
theorem elseFrom_in (L : List Ln) (e : Nat) : ∀ (m i : Nat), e - i ≤ m → elseFrom L e i = -1 ∨ ((i : Int) ≤ elseFrom L e i ∧ elseFrom L e i < e ∧ (lnAtD L (elseFrom L e i).toNat).1 = 4) := by
  intro m
  induction m with
  | zero => intro i h; left; exact else_out L e i (by omega)
  | succ m ih =>
    intro i h
    by_cases hi : i < e
    · rw [elseFrom, if_pos hi]
      by_cases h4 : (lnAtD L i).1 = 4
      · rw [if_pos h4]; right; exact ⟨Int.le_refl _, by omega, by rw [Int.toNat_natCast]; exact h4⟩
      · rw [if_neg h4]
        split
        · rcases ih (max (i + 1) ((endOfF L i).toNat + 1)) (by omega) with h1 | ⟨h1, h2, h3⟩
          · exact .inl h1
          · exact .inr ⟨by omega, h2, h3⟩
        · rcases ih (i + 1) (by omega) with h1 | ⟨h1, h2, h3⟩
          · exact .inl h1
          · exact .inr ⟨by omega, h2, h3⟩
    · left; exact else_out L e i hi
theorem elseOf_in (L : List Ln) (k : Int) : elseOfF L k = -1 ∨ (k < elseOfF L k ∧ elseOfF L k < endOfF L k ∧ 0 ≤ k ∧ (lnAtD L (elseOfF L k).toNat).1 = 4 ∧ (lnAtD L k.toNat).1 = 3) := by
  unfold elseOfF
  split
  · rename_i h
    obtain ⟨p, rfl, hp, _, h1, _⟩ := endOf_pos L k h.1
    rcases elseFrom_in L (endOfF L p).toNat _ ((p : Int).toNat + 1) (Nat.le_refl _) with h2 | ⟨h2, h3, h4⟩
    · exact .inl h2
    · exact .inr ⟨by omega, by omega, by omega, h4, h.2⟩
  · exact .inl rfl
/-! The spec's way. -/
noncomputable def scanS (L : List Ln) (loc : List ByteArray) (k e i : Nat) (d : Int) : Bool :=
  if i < e then
    if (lnAtD L i).1 = 0 then false
    else if (lnAtD L i).1 = 4 ∧ elseIn L k i i = false then false
    else if 4 < d + depF (lnAtD L i).1 then false
    else if namesX L loc (lnAtD L i).2.2.2 = false then false
    else scanS L loc k e (i + 1) (d + depF (lnAtD L i).1)
  else true
termination_by e - i
noncomputable def fnS (L : List Ln) (k e : Nat) : Bool := decide ((locF L k).length ≤ 8) && scanS L (locF L k) k e (k + 1) 0
noncomputable def tileS (L : List Ln) (k : Nat) : Bool :=
  if k < L.length then
    if (lnAtD L k).1 = 0 ∧ 0 ≤ endOfF L k ∧ fnS L k (endOfF L k).toNat = true then tileS L (max (k + 1) ((endOfF L k).toNat + 1)) else false
  else true
termination_by L.length - k
/-- The word main. -/
def mainW : ByteArray := ⟨#[109, 97, 105, 110]⟩
noncomputable def headOk (L : List Ln) : Prop := (lnAtD L 0).1 = 0 ∧ (lnAtD L 0).2.1 = mainW ∧ (lnAtD L 0).2.2.1.length = 0
noncomputable def progS (L : List Ln) : Bool :=
  yes (0 < L.length ∧ L.length ≤ 60 ∧ headOk L ∧ (funsF L).length ≤ 6 ∧ (∀ k : Nat, k < L.length → lineOkF (lnAtD L k) = true ∧ ((lnAtD L k).1 = 0 → findF L (lnAtD L k).2.1 = k)) ∧ tileS L 0 = true)
/-! The program's way. -/
def popF (st : List Int) (i : Int) : List Int := (st.reverse.dropWhile fun x => decide (x < i)).reverse
theorem popF_nil (i : Int) : popF [] i = [] := rfl
theorem popF_snoc (st : List Int) (x i : Int) : popF (st ++ [x]) i = if x < i then popF st i else st ++ [x] := by
  unfold popF
  rw [List.reverse_append, List.reverse_singleton, List.singleton_append, List.dropWhile_cons]
  by_cases h : x < i
  · simp [h]
  · simp [h]
theorem popF_all (st : List Int) (i : Int) (h : ∀ x ∈ st, i ≤ x) : popF st i = st := by
  rcases List.eq_nil_or_concat st with rfl | ⟨s, x, rfl⟩
  · rfl
  · rw [List.concat_eq_append] at h ⊢
    rw [popF_snoc, if_neg (by have := h x (by simp); omega)]
theorem popF_one (st : List Int) (x i : Int) (hx : x < i) (h : ∀ y ∈ st, i ≤ y) : popF (st ++ [x]) i = st := by rw [popF_snoc, if_pos hx, popF_all st i h]
theorem popF_length (st : List Int) (i : Int) : (popF st i).length ≤ st.length := by
  unfold popF
  rw [List.length_reverse]
  exact Nat.le_trans (List.Sublist.length_le (List.dropWhile_sublist _)) (by simp)
def pushF (L : List Ln) (i : Nat) (s : List Int) : List Int := if (lnAtD L i).1 = 3 ∨ (lnAtD L i).1 = 5 then s ++ [endOfF L i] else s
def scanI (L : List Ln) (loc : List ByteArray) (e i : Nat) (st : List Int) : Bool :=
  if i ≤ e then
    if (lnAtD L i).1 = 0 then false
    else if 4 < (pushF L i (popF st i)).length then false
    else if namesX L loc (lnAtD L i).2.2.2 = false then false
    else scanI L loc e (i + 1) (pushF L i (popF st i))
  else true
termination_by e + 1 - i
noncomputable def fnI (L : List Ln) (k e : Nat) : Bool := decide ((locF L k).length ≤ 8) && scanI L (locF L k) e (k + 1) []
noncomputable def tileI (L : List Ln) : List Int → Int → Bool
  | [], next => decide (next = L.length)
  | k :: fs, next => if k = next ∧ findF L (lnAtD L k.toNat).2.1 = k ∧ 0 ≤ endOfF L k ∧ fnI L k.toNat (endOfF L k).toNat = true then tileI L fs (endOfF L k + 1) else false
noncomputable def elsesOk (L : List Ln) : Prop := ∀ i : Nat, i < L.length → (lnAtD L i).1 = 4 → elseIn L 0 L.length i = true
noncomputable def progI (L : List Ln) : Bool :=
  yes (L.length ≤ 60 ∧ 1 ≤ (funsF L).length ∧ (funsF L).length ≤ 6 ∧ (∀ k : Nat, k < L.length → lineOkF (lnAtD L k) = true) ∧ headOk L ∧ tileI L (funsF L) 0 = true ∧ elsesOk L)
/-! The stack of ends. -/
def liveF (L : List Ln) (i : Nat) : Nat → List Int
  | 0 => []
  | d + 1 => endFrom (L.drop i) i ((d + 1 : Nat) : Int) :: liveF L i d
theorem liveF_length (L : List Ln) (i d : Nat) : (liveF L i d).length = d := by
  induction d with
  | zero => rfl
  | succ d ih => simp [liveF, ih]
theorem endFrom_at (L : List Ln) (i : Nat) (hi : i < L.length) (m : Int) : endFrom (L.drop i) i m = if m + depF (lnAtD L i).1 = 0 then (i : Int) else endFrom (L.drop (i + 1)) (i + 1) (m + depF (lnAtD L i).1) := by
  rw [drop_step L i hi, endFrom, lnAtD_of L i hi]
theorem live_open (L : List Ln) (i : Nat) (hi : i < L.length) (h : depF (lnAtD L i).1 = 1) (d : Nat) : liveF L (i + 1) (d + 1) = liveF L i d ++ [endFrom (L.drop (i + 1)) (i + 1) 1] := by
  induction d with
  | zero => rfl
  | succ d ih =>
    rw [liveF, ih]
    show _ = endFrom (L.drop i) i ((d + 1 : Nat) : Int) :: (liveF L i d ++ _)
    rw [endFrom_at L i hi, h, if_neg (by omega)]
    rfl
theorem live_close (L : List Ln) (i : Nat) (hi : i < L.length) (h : depF (lnAtD L i).1 = -1) (d : Nat) : liveF L i (d + 1) = liveF L (i + 1) d ++ [(i : Int)] := by
  induction d with
  | zero =>
    show [endFrom (L.drop i) i ((0 + 1 : Nat) : Int)] = [(i : Int)]
    rw [endFrom_at L i hi, h, if_pos (by omega)]
  | succ d ih =>
    rw [liveF, ih, endFrom_at L i hi, h, if_neg (by omega)]
    show _ = endFrom (L.drop (i + 1)) (i + 1) ((d + 1 : Nat) : Int) :: (liveF L (i + 1) d ++ _)
    rw [show ((d + 1 + 1 : Nat) : Int) + -1 = ((d + 1 : Nat) : Int) by omega]
theorem live_same (L : List Ln) (i : Nat) (hi : i < L.length) (h : depF (lnAtD L i).1 = 0) (d : Nat) : liveF L i d = liveF L (i + 1) d := by
  induction d with
  | zero => rfl
  | succ d ih =>
    rw [liveF, liveF, ih, endFrom_at L i hi, h, if_neg (by omega)]
    rw [Int.add_zero]
theorem live_ge (L : List Ln) (i d e : Nat) (h : endFrom (L.drop i) i ((d + 1 : Nat) : Int) = e) : ∀ m, m ≤ d → ∀ x ∈ liveF L i m, (i : Int) ≤ x := by
  intro m
  induction m with
  | zero => intro _ x hx; cases hx
  | succ m ih =>
    intro hm x hx
    rcases List.mem_cons.1 hx with rfl | hx
    · have := endFrom_inner (L.drop i) i ((m + 1 : Nat) : Int) ((d - m : Nat) : Int) (by omega) (by omega) (by rw [show ((m + 1 : Nat) : Int) + ((d - m : Nat) : Int) = ((d + 1 : Nat) : Int) by omega, h]; omega)
      exact this.1
    · exact ih (by omega) x hx
theorem dep_cases (k : Int) : (k = 0 ∧ depF k = 1) ∨ ((k = 3 ∨ k = 5) ∧ depF k = 1) ∨ (k = 7 ∧ depF k = -1) ∨ (k ≠ 0 ∧ k ≠ 3 ∧ k ≠ 5 ∧ k ≠ 7 ∧ depF k = 0) := by
  by_cases h0 : k = 0
  · subst h0; left; exact ⟨rfl, rfl⟩
  · by_cases h3 : k = 3
    · subst h3; right; left; exact ⟨.inl rfl, rfl⟩
    · by_cases h5 : k = 5
      · subst h5; right; left; exact ⟨.inr rfl, rfl⟩
      · by_cases h7 : k = 7
        · subst h7; right; right; left; exact ⟨rfl, rfl⟩
        · right; right; right
          refine ⟨h0, h3, h5, h7, ?_⟩
          unfold depF opensF
          simp [h0, h3, h5, h7]
theorem endOf_open (L : List Ln) (i : Nat) (hi : i < L.length) (h : opensF (lnAtD L i).1 = true) : endOfF L i = endFrom (L.drop (i + 1)) (i + 1) 1 := by
  unfold endOfF; rw [if_pos ⟨by omega, by omega, by rw [Int.toNat_natCast]; exact h⟩, Int.toNat_natCast, endFrom_open L i hi h 0 (by omega)]; rfl
/-- The two ways of looking over a function's lines, but for the elses. -/
theorem scan_eq (L : List Ln) (loc : List ByteArray) (k e : Nat) (he : e < L.length) (h7 : ∀ i, i < L.length → (lnAtD L i).1 = 7 → (lnAtD L i).2.2.2 = []) :
    ∀ (m i d : Nat) (st : List Int), e + 1 - i ≤ m → i ≤ e → d ≤ 4 → endFrom (L.drop i) i ((d + 1 : Nat) : Int) = e → popF st i = liveF L i d →
    (scanS L loc k e i d = true ↔ (scanI L loc e i st = true ∧ ∀ j, i ≤ j → j < e → (lnAtD L j).1 = 4 → elseIn L k j j = true)) := by
  intro m
  induction m with
  | zero => intro i d st hm hi; omega
  | succ m ih =>
    intro i d st hm hi hd hE hp
    have hil : i < L.length := by omega
    by_cases hlt : i < e
    · rw [scanS, if_pos hlt, scanI, if_pos hi, hp]
      have hat := endFrom_at L i hil ((d + 1 : Nat) : Int)
      rw [hE] at hat
      have hsplit : ∀ (Q : Prop), ((lnAtD L i).1 = 4 → elseIn L k i i = true) → ((Q ∧ ∀ j, i + 1 ≤ j → j < e → (lnAtD L j).1 = 4 → elseIn L k j j = true) ↔ (Q ∧ ∀ j, i ≤ j → j < e → (lnAtD L j).1 = 4 → elseIn L k j j = true)) := by
        intro Q h4
        constructor
        · rintro ⟨q, hj⟩
          refine ⟨q, fun j h1 h2 h3 => ?_⟩
          by_cases hji : j = i
          · subst hji; exact h4 h3
          · exact hj j (by omega) h2 h3
        · rintro ⟨q, hj⟩
          exact ⟨q, fun j h1 h2 h3 => hj j (by omega) h2 h3⟩
      rcases dep_cases (lnAtD L i).1 with ⟨h0, hdep⟩ | ⟨h35, hdep⟩ | ⟨hk7, hdep⟩ | ⟨n0, n3, n5, n7, hdep⟩
      · rw [if_pos h0, if_pos h0]; simp
      · have n0 : ¬ (lnAtD L i).1 = 0 := by omega
        have n4 : ¬ (lnAtD L i).1 = 4 := by omega
        rw [if_neg n0, if_neg n0, if_neg (fun h => n4 h.1), hdep]
        have hop : opensF (lnAtD L i).1 = true := by unfold opensF; simp; omega
        have hpush : pushF L i (liveF L i d) = liveF L (i + 1) (d + 1) := by
          unfold pushF; rw [if_pos h35, endOf_open L i hil hop, live_open L i hil hdep]
        rw [hpush, liveF_length]
        rw [hdep, if_neg (by omega)] at hat
        by_cases h5 : 4 < d + 1
        · rw [if_pos h5, if_pos (by omega)]; simp
        · rw [if_neg h5, if_neg (by omega)]
          cases namesX L loc (lnAtD L i).2.2.2
          · simp
          · simp only [Bool.true_eq_false, if_false]
            have hE2 : endFrom (L.drop (i + 1)) (i + 1) ((d + 1 + 1 : Nat) : Int) = e := by rw [hat]; congr 1
            have := ih (i + 1) (d + 1) (liveF L (i + 1) (d + 1)) (by omega) (by omega) (by omega) hE2 (popF_all _ _ (by have := live_ge L (i + 1) (d + 1) e hE2 (d + 1) (Nat.le_refl _); simpa using this))
            rw [show ((d : Int) + 1) = ((d + 1 : Nat) : Int) by omega, this]
            exact hsplit _ (fun h => absurd h n4)
      · have n0 : ¬ (lnAtD L i).1 = 0 := by omega
        have n4 : ¬ (lnAtD L i).1 = 4 := by omega
        rw [if_neg n0, if_neg n0, if_neg (fun h => n4 h.1), hdep]
        have hpush : pushF L i (liveF L i d) = liveF L i d := by unfold pushF; rw [if_neg (by omega)]
        rw [hpush, liveF_length]
        have hd1 : 1 ≤ d := by
          rcases Nat.eq_zero_or_pos d with h0 | h0
          · subst h0; rw [hdep, if_pos (by omega)] at hat; omega
          · exact h0
        obtain ⟨d', rfl⟩ : ∃ d', d = d' + 1 := ⟨d - 1, by omega⟩
        rw [hdep, if_neg (by omega), show ((d' + 1 + 1 : Nat) : Int) + -1 = ((d' + 1 : Nat) : Int) by omega] at hat
        rw [if_neg (show ¬ (4 : Int) < ((d' + 1 : Nat) : Int) + -1 by omega), if_neg (show ¬ 4 < d' + 1 by omega), h7 i hil hk7]
        simp only [namesX, List.all_nil, Bool.true_eq_false, if_false]
        have hE2 : endFrom (L.drop (i + 1)) (i + 1) ((d' + 1 : Nat) : Int) = e := hat.symm
        have := ih (i + 1) d' (liveF L i (d' + 1)) (by omega) (by omega) (by omega) hE2 (by
          rw [live_close L i hil hdep]
          exact popF_one _ _ _ (by omega) (by have := live_ge L (i + 1) d' e hE2 d' (Nat.le_refl _); simpa using this))
        rw [show (((d' + 1 : Nat) : Int) + -1) = (d' : Int) by omega, this]
        exact hsplit _ (fun h => absurd h n4)
      · have hpush : pushF L i (liveF L i d) = liveF L i d := by unfold pushF; rw [if_neg (by omega)]
        rw [hdep, if_neg (by omega), Int.add_zero] at hat
        rw [if_neg n0, if_neg n0, hdep, hpush, liveF_length, Int.add_zero]
        rw [if_neg (by omega : ¬ 4 < d)]
        have hE2 : endFrom (L.drop (i + 1)) (i + 1) ((d + 1 : Nat) : Int) = e := by rw [hat]
        have := ih (i + 1) d (liveF L i d) (by omega) (by omega) hd hE2 (by
          rw [live_same L i hil hdep]
          exact popF_all _ _ (by have := live_ge L (i + 1) d e hE2 d (Nat.le_refl _); simpa using this))
        by_cases h4 : (lnAtD L i).1 = 4
        · cases hel : elseIn L k i i
          · rw [if_pos ⟨h4, rfl⟩]
            constructor
            · intro h; cases h
            · rintro ⟨_, hj⟩
              have := hj i (Nat.le_refl _) hlt h4
              rw [hel] at this; cases this
          · rw [if_neg (fun h => by cases h.2), if_neg (by omega)]
            cases namesX L loc (lnAtD L i).2.2.2
            · simp
            · simp only [Bool.true_eq_false, if_false]
              rw [this]
              exact hsplit _ (fun _ => hel)
        · rw [if_neg (fun h => h4 h.1), if_neg (by omega)]
          cases namesX L loc (lnAtD L i).2.2.2
          · simp
          · simp only [Bool.true_eq_false, if_false]
            rw [this]
            exact hsplit _ (fun h => absurd h h4)
    · obtain rfl : i = e := by omega
      rw [scanS, if_neg hlt, scanI, if_pos hi, hp]
      have hat := endFrom_at L i hil ((d + 1 : Nat) : Int)
      rw [hE] at hat
      have hx := depF_le (lnAtD L i).1
      have hz : ((d + 1 : Nat) : Int) + depF (lnAtD L i).1 = 0 := by
        by_cases h0 : ((d + 1 : Nat) : Int) + depF (lnAtD L i).1 = 0
        · exact h0
        · rw [if_neg h0] at hat
          rcases endFrom_ge (L.drop (i + 1)) (i + 1) (((d + 1 : Nat) : Int) + depF (lnAtD L i).1) with h | h
          · rw [h] at hat; omega
          · omega
      have hd0 : d = 0 := by omega
      have hk7 : (lnAtD L i).1 = 7 := by
        rcases dep_cases (lnAtD L i).1 with ⟨h0, hdep⟩ | ⟨h35, hdep⟩ | ⟨hk7, hdep⟩ | ⟨n0, n3, n5, n7, hdep⟩ <;> omega
      subst hd0
      rw [if_neg (by omega)]
      have hpush : pushF L i (liveF L i 0) = [] := by unfold pushF; rw [if_neg (by omega)]; rfl
      rw [hpush, if_neg (by simp), h7 i hil hk7]
      simp only [namesX, List.all_nil, Bool.true_eq_false, if_false]
      rw [scanI, if_neg (by omega)]
      simp
      intro j h1 h2; omega
theorem fn_eq (L : List Ln) (k e : Nat) (hk : k < L.length) (he : endOfF L k = e) (h7 : ∀ i, i < L.length → (lnAtD L i).1 = 7 → (lnAtD L i).2.2.2 = []) :
    fnS L k e = true ↔ (fnI L k e = true ∧ ∀ j, k < j → j < e → (lnAtD L j).1 = 4 → elseIn L k j j = true) := by
  obtain ⟨p, hp, hpl, hop, h1, h2, h3⟩ := endOf_pos L k (by omega)
  obtain rfl : k = p := by omega
  unfold fnS fnI
  have := scan_eq L (locF L k) k e (by omega) h7 _ (k + 1) 0 [] (Nat.le_refl _) (by omega) (by omega) (by rw [← he, h3]; rfl) rfl
  simp only [Bool.and_eq_true, decide_eq_true_eq]
  rw [show ((0 : Int)) = ((0 : Nat) : Int) by rfl, this]
  constructor
  · rintro ⟨a, b, c⟩; exact ⟨⟨a, b⟩, fun j h1 => c j (by omega)⟩
  · rintro ⟨⟨a, b⟩, c⟩; exact ⟨a, b, fun j h1 => c j (by omega)⟩
theorem scanI_no0 (L : List Ln) (loc : List ByteArray) (e : Nat) : ∀ (m i : Nat) (st : List Int), e + 1 - i ≤ m → scanI L loc e i st = true → ∀ j, i ≤ j → j ≤ e → (lnAtD L j).1 ≠ 0 := by
  intro m
  induction m with
  | zero => intro i st hm _ j h1 h2; omega
  | succ m ih =>
    intro i st hm h j h1 h2
    rw [scanI, if_pos (by omega)] at h
    by_cases h0 : (lnAtD L i).1 = 0
    · rw [if_pos h0] at h; cases h
    · rw [if_neg h0] at h
      split at h
      · cases h
      · split at h
        · cases h
        · by_cases hij : j = i
          · subst hij; exact h0
          · exact ih _ _ (by omega) h j (by omega) h2
theorem fnI_no0 {L : List Ln} {k e : Nat} (h : fnI L k e = true) : ∀ j, k < j → j ≤ e → (lnAtD L j).1 ≠ 0 := by
  unfold fnI at h
  simp only [Bool.and_eq_true] at h
  intro j h1 h2
  exact scanI_no0 L _ e _ (k + 1) [] (Nat.le_refl _) h.2 j (by omega) h2
theorem funsFrom_none (L : List Ln) (b : Nat) : ∀ (m a : Nat), b - a ≤ m → a ≤ b → b ≤ L.length → (∀ j, a ≤ j → j < b → (lnAtD L j).1 ≠ 0) → funsFrom (L.drop a) a = funsFrom (L.drop b) b := by
  intro m
  induction m with
  | zero => (intro a hm hab _ _; have e : a = b := by omega); rw [e]
  | succ m ih =>
    intro a hm hab hb h
    by_cases hab' : a = b
    · subst hab'; rfl
    · have hal : a < L.length := by omega
      rw [drop_step L a hal, funsFrom, if_neg (by rw [← lnAtD_of L a hal]; exact h a (Nat.le_refl _) (by omega))]
      exact ih (a + 1) (by omega) (by omega) hb (fun j h1 h2 => h j (by omega) h2)
theorem funsFrom_ge : ∀ (M : List Ln) (i : Nat), ∀ x ∈ funsFrom M i, (i : Int) ≤ x := by
  intro M
  induction M with
  | nil => intro i x hx; cases hx
  | cons y M ih =>
    intro i x hx
    rw [funsFrom] at hx
    split at hx
    · rcases List.mem_cons.1 hx with rfl | hx
      · exact Int.le_refl _
      · have := ih (i + 1) x hx; omega
    · have := ih (i + 1) x hx; omega
/-- Behind the head of a function that is whole. -/
theorem funs_next (L : List Ln) (k e : Nat) (hk : k < L.length) (h0 : (lnAtD L k).1 = 0) (he : endOfF L k = e) (hno : ∀ j, k < j → j ≤ e → (lnAtD L j).1 ≠ 0) : funsFrom (L.drop k) k = (k : Int) :: funsFrom (L.drop (e + 1)) (e + 1) := by
  obtain ⟨p, hp, hpl, hop, h1, h2, h3⟩ := endOf_pos L k (by omega)
  rw [drop_step L k hk, funsFrom, if_pos (by rw [← lnAtD_of L k hk]; exact h0)]
  rw [funsFrom_none L (e + 1) _ (k + 1) (Nat.le_refl _) (by omega) (by omega) (fun j h1 h2 => hno j (by omega) (by omega))]
theorem endOf_kind (L : List Ln) (k e : Nat) (he : endOfF L k = e) : (lnAtD L e).1 = 7 := by
  obtain ⟨p, hp, hpl, hop, h1, h2, h3⟩ := endOf_pos L k (by omega)
  obtain rfl : k = p := by omega
  rw [he] at h1 h2 h3
  obtain ⟨o, ho1, hs⟩ := endFrom_skip (e - (k + 1)) (L.drop (k + 1)) (k + 1) 1 (by omega) (by rw [← h3]; omega)
  rw [List.drop_drop, show k + 1 + (e - (k + 1)) = e by omega, ← h3] at hs
  have hat := endFrom_at L e (by omega) o
  rw [← hs] at hat
  have hx := depF_le (lnAtD L e).1
  have hz : o + depF (lnAtD L e).1 = 0 := by
    by_cases h0 : o + depF (lnAtD L e).1 = 0
    · exact h0
    · rw [if_neg h0] at hat
      rcases endFrom_ge (L.drop (e + 1)) (e + 1) (o + depF (lnAtD L e).1) with h | h
      · rw [h] at hat; omega
      · omega
  rcases dep_cases (lnAtD L e).1 with ⟨h0, hdep⟩ | ⟨h35, hdep⟩ | ⟨hk7, hdep⟩ | ⟨n0, n3, n5, n7, hdep⟩ <;> omega
theorem tile_fwd (L : List Ln) (h7 : ∀ i, i < L.length → (lnAtD L i).1 = 7 → (lnAtD L i).2.2.2 = []) (hf : ∀ k : Nat, k < L.length → (lnAtD L k).1 = 0 → findF L (lnAtD L k).2.1 = k) :
    ∀ (m k : Nat), L.length - k ≤ m → k ≤ L.length → tileS L k = true → tileI L (funsFrom (L.drop k) k) k = true ∧ ∀ i, k ≤ i → i < L.length → (lnAtD L i).1 = 4 → elseIn L 0 L.length i = true := by
  intro m
  induction m with
  | zero =>
    intro k hm hk _
    obtain rfl : k = L.length := by omega
    rw [List.drop_length]
    exact ⟨by simp [funsFrom, tileI], fun i h1 h2 => by omega⟩
  | succ m ih =>
    intro k hm hk ht
    by_cases hlt : k < L.length
    · rw [tileS, if_pos hlt] at ht
      split at ht
      · rename_i hc
        obtain ⟨c1, c2, c3⟩ := hc
        obtain ⟨e, he⟩ := Int.eq_ofNat_of_zero_le c2
        rw [he, Int.toNat_natCast] at c3 ht
        obtain ⟨p, hp, hpl, hop, h1, h2, h3⟩ := endOf_pos L k (by omega)
        rw [Nat.max_eq_right (by omega)] at ht
        obtain ⟨f1, f2⟩ := (fn_eq L k e hlt he h7).1 c3
        obtain ⟨r1, r2⟩ := ih (e + 1) (by omega) (by omega) ht
        rw [funs_next L k e hlt c1 he (fnI_no0 f1), tileI, if_pos ⟨rfl, by rw [Int.toNat_natCast]; exact hf k hlt c1, c2, by rw [he, Int.toNat_natCast, Int.toNat_natCast]; exact f1⟩, he]
        refine ⟨r1, fun i h4 h5 h6 => ?_⟩
        by_cases hie : e + 1 ≤ i
        · exact r2 i hie h5 h6
        · by_cases hik : i = k
          · subst hik; omega
          · by_cases hie2 : i = e
            · subst hie2
              exfalso
              have hdep : (lnAtD L i).1 = 7 := endOf_kind L k i he
              omega
            · obtain ⟨j, j1, j2, j3⟩ := elseIn_true (f2 i (by omega) (by omega) h6)
              exact yes_of ⟨j, by omega, by omega, j3⟩
      · cases ht
    · obtain rfl : k = L.length := by omega
      rw [List.drop_length]
      exact ⟨by simp [funsFrom, tileI], fun i h1 h2 => by omega⟩
theorem tile_bwd (L : List Ln) (h7 : ∀ i, i < L.length → (lnAtD L i).1 = 7 → (lnAtD L i).2.2.2 = []) (hel : elsesOk L) :
    ∀ (m k : Nat), L.length - k ≤ m → k ≤ L.length → (∀ j : Nat, j < k → elseOfF L j < k) → tileI L (funsFrom (L.drop k) k) k = true → tileS L k = true ∧ ∀ i, k ≤ i → i < L.length → (lnAtD L i).1 = 0 → findF L (lnAtD L i).2.1 = i := by
  intro m
  induction m with
  | zero =>
    intro k hm hk _ _
    rw [tileS, if_neg (by omega)]
    exact ⟨rfl, fun i h1 h2 => by omega⟩
  | succ m ih =>
    intro k hm hk hpre ht
    by_cases hlt : k < L.length
    · by_cases h0 : (lnAtD L k).1 = 0
      · have hfd : funsFrom (L.drop k) k = (k : Int) :: funsFrom (L.drop (k + 1)) (k + 1) := by
          rw [drop_step L k hlt, funsFrom, if_pos (by rw [← lnAtD_of L k hlt]; exact h0)]
        have ht0 := ht
        rw [hfd, tileI] at ht
        split at ht
        · rename_i hc
          obtain ⟨_, c1, c2, c3⟩ := hc
          obtain ⟨e, he⟩ := Int.eq_ofNat_of_zero_le c2
          rw [he, Int.toNat_natCast, Int.toNat_natCast] at c3
          rw [Int.toNat_natCast] at c1
          obtain ⟨p, hp, hpl, hop, h1, h2, h3⟩ := endOf_pos L k (by omega)
          have hno := fnI_no0 c3
          have hnx := funs_next L k e hlt h0 he hno
          rw [hfd] at hnx
          injection hnx with _ hnx
          rw [hnx, he] at ht
          have hpre2 : ∀ j : Nat, j < e + 1 → elseOfF L j < ((e + 1 : Nat) : Int) := by
            intro j hj
            rcases elseOf_in L j with h | ⟨a1, a2, a3, a4, a5⟩
            · omega
            · by_cases hjk : j < k
              · have := hpre j hjk; omega
              · by_cases hjk2 : j = k
                · subst hjk2; omega
                · by_cases hje : j = e
                  · subst hje
                    have := endOf_kind L k j he
                    rw [Int.toNat_natCast] at a5; omega
                  · have := endOf_nest L k j (by omega) (by omega) (by omega) (by rw [Int.toNat_natCast] at a5; unfold opensF; simp [a5])
                    omega
          obtain ⟨r1, r2⟩ := ih (e + 1) (by omega) (by omega) hpre2 ht
          have hfs : fnS L k e = true := (fn_eq L k e hlt he h7).2 ⟨c3, fun j j1 j2 j4 => by
            obtain ⟨q, _, q2, q3⟩ := elseIn_true (hel j (by omega) j4)
            rcases elseOf_in L q with h | ⟨a1, a2, a3, a4, a5⟩
            · omega
            · refine yes_of ⟨q, ?_, by omega, q3⟩
              rcases Nat.lt_or_ge q k with hq | hq
              · have := hpre q hq; omega
              · exact hq⟩
          rw [tileS, if_pos hlt, if_pos ⟨h0, c2, by rw [he, Int.toNat_natCast]; exact hfs⟩, he, Int.toNat_natCast, Nat.max_eq_right (by omega)]
          refine ⟨r1, fun i i1 i2 i3 => ?_⟩
          by_cases hik : i = k
          · subst hik; exact c1
          · by_cases hie : i ≤ e
            · exact absurd i3 (hno i (by omega) hie)
            · exact r2 i (by omega) i2 i3
        · cases ht
      · exfalso
        rw [drop_step L k hlt, funsFrom, if_neg (by rw [← lnAtD_of L k hlt]; exact h0)] at ht
        have hge := funsFrom_ge (L.drop (k + 1)) (k + 1)
        cases hq : funsFrom (L.drop (k + 1)) (k + 1) with
        | nil => rw [hq] at ht; simp [tileI] at ht; omega
        | cons x fs =>
          rw [hq] at ht hge
          have := hge x (by simp)
          rw [tileI, if_neg (fun h => by have := h.1; omega)] at ht
          cases ht
    · rw [tileS, if_neg hlt]
      exact ⟨rfl, fun i h1 h2 => by omega⟩
theorem lineOk_end {x : Ln} (h : lineOkF x = true) (h7 : x.1 = 7) : x.2.2.2 = [] := by
  unfold lineOkF at h
  simp only [Bool.and_eq_true] at h
  have := h.2
  simp [hasExprF, h7] at this
  exact this
theorem prog_eq (L : List Ln) : progI L = progS L := by
  have key : (L.length ≤ 60 ∧ 1 ≤ (funsF L).length ∧ (funsF L).length ≤ 6 ∧ (∀ k : Nat, k < L.length → lineOkF (lnAtD L k) = true) ∧ headOk L ∧ tileI L (funsF L) 0 = true ∧ elsesOk L) ↔
      (0 < L.length ∧ L.length ≤ 60 ∧ headOk L ∧ (funsF L).length ≤ 6 ∧ (∀ k : Nat, k < L.length → lineOkF (lnAtD L k) = true ∧ ((lnAtD L k).1 = 0 → findF L (lnAtD L k).2.1 = k)) ∧ tileS L 0 = true) := by
    constructor
    · rintro ⟨a, b, c, d, h, t, el⟩
      have hpos : 0 < L.length := by
        rcases Nat.eq_zero_or_pos L.length with h0 | h0
        · rw [List.eq_nil_of_length_eq_zero h0] at b; simp [funsF, funsFrom] at b
        · exact h0
      have h7 : ∀ i, i < L.length → (lnAtD L i).1 = 7 → (lnAtD L i).2.2.2 = [] := fun i hi => lineOk_end (d i hi)
      obtain ⟨r1, r2⟩ := tile_bwd L h7 el _ 0 (Nat.le_refl _) (Nat.zero_le _) (fun j hj => by omega) t
      exact ⟨hpos, a, h, c, fun k hk => ⟨d k hk, fun h0 => r2 k (Nat.zero_le _) hk h0⟩, r1⟩
    · rintro ⟨hpos, a, h, c, d, t⟩
      have h7 : ∀ i, i < L.length → (lnAtD L i).1 = 7 → (lnAtD L i).2.2.2 = [] := fun i hi => lineOk_end (d i hi).1
      obtain ⟨r1, r2⟩ := tile_fwd L h7 (fun k hk => (d k hk).2) _ 0 (Nat.le_refl _) (Nat.zero_le _) t
      refine ⟨a, ?_, c, fun k hk => (d k hk).1, h, r1, fun i hi => r2 i (Nat.zero_le _) hi⟩
      have : funsF L = (0 : Int) :: funsFrom (L.drop 1) 1 := by
        show funsFrom L 0 = _
        have := drop_step L 0 hpos
        rw [List.drop_zero] at this
        conv => lhs; rw [this]
        rw [funsFrom, if_pos (by rw [← lnAtD_of L 0 hpos]; exact h.1)]; rfl
      rw [this]; simp
  unfold progI progS
  by_cases h : 0 < L.length ∧ L.length ≤ 60 ∧ headOk L ∧ (funsF L).length ≤ 6 ∧ (∀ k : Nat, k < L.length → lineOkF (lnAtD L k) = true ∧ ((lnAtD L k).1 = 0 → findF L (lnAtD L k).2.1 = k)) ∧ tileS L 0 = true
  · rw [yes_of h, yes_of (key.2 h)]
  · rw [yes_not h, yes_not (fun hh => h (key.1 hh))]
end Go.Proofs.Ytcfjbaanahgpoaa
