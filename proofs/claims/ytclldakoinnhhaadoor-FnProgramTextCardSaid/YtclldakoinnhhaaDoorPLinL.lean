import Derived.Test.YtclldakoinnhhaaDoorFmtL
import Derived.Test.YtclldakoinnhhaaDoorFldL
import Derived.Test.YtclldakoinnhhaaDoorPTokN
import Derived.Lib.SplitLaws
namespace Go.Proofs.YtclldakoinnhhaaDoor
open Go Go.RowKit
set_option maxRecDepth 100000
/-! The words of a line: what is joined by blanks is parted by blanks again. -/
theorem jn_cons (a : List UInt8) (r : List (List UInt8)) (h : r ≠ []) : jn (a :: r) = a ++ 32 :: jn r := by
  cases r with
  | nil => exact absurd rfl h
  | cons y r =>
    unfold jn
    rw [Lib.join_cons, Lib.join_cons]
    simp [Lib.joinTail]
theorem jn_app (A B : List (List UInt8)) (hA : A ≠ []) (hB : B ≠ []) : jn (A ++ B) = jn A ++ 32 :: jn B := by
  induction A with
  | nil => exact absurd rfl hA
  | cons a A ih =>
    by_cases h : A = []
    · subst h
      rw [List.cons_append, List.nil_append, jn_cons _ _ hB, jn_one]
    · rw [List.cons_append, jn_cons _ _ (by simp [h]), ih h, jn_cons _ _ h]
      simp
theorem jn_mem (ws : List (List UInt8)) (c : UInt8) (h : c ∈ jn ws) : c = 32 ∨ ∃ w ∈ ws, c ∈ w := by
  induction ws with
  | nil => cases h
  | cons a r ih =>
    by_cases hr : r = []
    · subst hr
      rw [jn_one] at h
      exact .inr ⟨a, by simp, h⟩
    · rw [jn_cons _ _ hr] at h
      rcases List.mem_append.1 h with h | h
      · exact .inr ⟨a, by simp, h⟩
      · rcases List.mem_cons.1 h with h | h
        · exact .inl h
        · rcases ih h with h | ⟨w, hw, hc⟩
          · exact .inl h
          · exact .inr ⟨w, by simp [hw], hc⟩
theorem idx32 (a b : List UInt8) (h : (32 : UInt8) ∉ a) : Lib.indexByte (a ++ 32 :: b) 32 = a.length := by
  induction a with
  | nil => simp [Lib.indexByte]
  | cons c a ih =>
    have hc : ¬ c = 32 := fun e => h (by rw [e]; exact List.mem_cons_self)
    have := ih (fun h' => h (List.mem_cons_of_mem _ h'))
    rw [List.cons_append, Lib.indexByte, this]
    have h1 : (c == 32) = false := by simpa using hc
    rw [h1]
    have h2 : (((a.length : Nat) : Int) == -1) = false := by rw [beq_eq_false_iff_ne]; omega
    rw [h2]
    simp
theorem split_jn (ws : List (List UInt8)) (hne : ws ≠ []) (hw : ∀ w ∈ ws, (32 : UInt8) ∉ w) : Lib.split (jn ws) [32] = ws := by
  induction ws with
  | nil => exact absurd rfl hne
  | cons a r ih =>
    have ha := hw a (by simp)
    by_cases hr : r = []
    · subst hr
      rw [jn_one]
      unfold Lib.split
      rw [Lib.count_one, List.count_eq_zero.2 ha]
      rfl
    · rw [jn_cons _ _ hr]
      have e : Lib.count (a ++ 32 :: jn r) [32] = Lib.count (jn r) [32] + 1 := by
        rw [Lib.count_one, Lib.count_one, List.count_append, List.count_cons_self, List.count_eq_zero.2 ha]; omega
      unfold Lib.split
      rw [e, Lib.splitK, Lib.index_one, idx32 a (jn r) ha]
      rw [if_neg (by rw [Bool.not_eq_true, beq_eq_false_iff_ne]; omega)]
      have h1 := ih hr (fun w hx => hw w (by simp [hx]))
      unfold Lib.split at h1
      rw [Int.toNat_natCast, Nat.add_zero]
      have e2 : List.drop (a.length + [(32 : UInt8)].length) (a ++ 32 :: jn r) = jn r := by
        rw [show a.length + [(32 : UInt8)].length = (a ++ [32]).length by simp, show a ++ 32 :: jn r = (a ++ [32]) ++ jn r by simp, List.drop_left]
      rw [e2, h1, List.take_left]
theorem splitL_jn (ws : List (List UInt8)) (hw : ∀ w ∈ ws, w ≠ [] ∧ (32 : UInt8) ∉ w) : splitL (jn ws) [] = ws := by
  induction ws with
  | nil => rfl
  | cons a r ih =>
    obtain ⟨h0, h1⟩ := hw a (by simp)
    have h1' : ∀ c ∈ a, c ≠ 32 := fun c hc e => h1 (e ▸ hc)
    by_cases hr : r = []
    · subst hr
      rw [jn_one]
      have := splitL_word a [] h1' []
      rw [List.append_nil] at this
      rw [this, List.nil_append, splitL, if_neg h0]
    · rw [jn_cons _ _ hr, splitL_word a _ h1' [], List.nil_append, splitL, if_pos rfl, if_neg h0, ih (fun w hx => hw w (by simp [hx]))]
      rfl
theorem data_inj (W V : List ByteArray) (h : W.map (·.data.toList) = V.map (·.data.toList)) : W = V := by
  have := congrArg (List.map fun l : List UInt8 => (⟨l.toArray⟩ : ByteArray)) h
  rw [List.map_map, List.map_map] at this
  simpa [Function.comp_def] using this
/-- What strings.Split gives at a blank. -/
def splW (s : ByteArray) : List ByteArray := Lib.splitB ⟨#[32]⟩ 0 (Lib.countB s ⟨#[32]⟩) s
theorem splW_data (s : ByteArray) : (splW s).map (·.data.toList) = Lib.split s.data.toList [32] := Lib.splitB_data ⟨#[32]⟩ 0 _ s
theorem splW_jb (W : List ByteArray) (hne : W ≠ []) (hw : ∀ a ∈ W, (32 : UInt8) ∉ a.data.toList) : splW (jb W) = W := by
  apply data_inj
  rw [splW_data]
  exact split_jn _ (by simpa using hne) (fun w hx => by obtain ⟨a, ha, rfl⟩ := List.mem_map.1 hx; exact hw a ha)
theorem fields_jb (W : List ByteArray) (hw : ∀ a ∈ W, a.data.toList ≠ [] ∧ (32 : UInt8) ∉ a.data.toList) : fieldsF (jb W) = W := by
  apply data_inj
  rw [fields_lists]
  exact splitL_jn _ (fun w hx => by obtain ⟨a, ha, rfl⟩ := List.mem_map.1 hx; exact hw a ha)
/-- A word: not empty, without a blank, of printable bytes, not long. -/
def wordOk (a : ByteArray) : Prop := a.data.toList ≠ [] ∧ (∀ c ∈ a.data.toList, c ≠ 32 ∧ printB c = true) ∧ a.size ≤ 10
theorem sf_jb (W : List ByteArray) (hne : W ≠ []) (hl : W.length ≤ 24) (hw : ∀ a ∈ W, wordOk a) : sfB (jb W) = true ∧ sfV (jb W) = W ∧ splW (jb W) = W := by
  have hn : ∀ a ∈ W, (32 : UInt8) ∉ a.data.toList := fun a ha hc => ((hw a ha).2.1 32 hc).1 rfl
  have hf := fields_jb W (fun a ha => ⟨(hw a ha).1, hn a ha⟩)
  have hs := jb_size W 10 (fun a ha => (hw a ha).2.2)
  have ok : sfOk (jb W) := by
    refine ⟨by omega, ?_, by rw [hf]; exact hl⟩
    rw [List.all_eq_true]
    intro c hc
    rcases jn_mem _ c hc with rfl | ⟨w, hx, hcw⟩
    · decide
    · obtain ⟨a, ha, rfl⟩ := List.mem_map.1 hx
      exact ((hw a ha).2.1 c hcw).2
  exact ⟨(sf_yes ok).2, by rw [(sf_yes ok).1, hf], splW_jb W hne hn⟩
theorem low_word {c : UInt8} (h : lower c = true) : c ≠ 32 ∧ printB c = true := by
  unfold lower at h
  have h' := of_decide_eq_true h
  refine ⟨fun e => by rw [e] at h'; revert h'; decide, ?_⟩
  unfold printB
  rw [decide_eq_true (show 32 ≤ (c.toNat : Int) by omega), decide_eq_true (show (c.toNat : Int) ≤ 126 by omega)]; rfl
theorem dig_word {c : UInt8} (h : isDig c = true) : c ≠ 32 ∧ printB c = true := by
  unfold isDig at h
  rw [Bool.and_eq_true] at h
  have h1 := of_decide_eq_true h.1
  have h2 := of_decide_eq_true h.2
  refine ⟨fun e => by rw [e] at h1; revert h1; decide, ?_⟩
  unfold printB
  rw [decide_eq_true (show 32 ≤ (c.toNat : Int) by omega), decide_eq_true (show (c.toNat : Int) ≤ 126 by omega)]; rfl
theorem name_word {s : ByteArray} (h : nameOkF s.data.toList = true) : wordOk s := by
  obtain ⟨h1, h2⟩ := name_low h
  exact ⟨h1, fun c hc => low_word (h2 c hc), by have := nameOk_size h; omega⟩
theorem kw_word (m : Nat) (h : m < 8) : wordOk (kw m) := by
  have : m = 0 ∨ m = 1 ∨ m = 2 ∨ m = 3 ∨ m = 4 ∨ m = 5 ∨ m = 6 ∨ m = 7 := by omega
  rcases this with rfl | rfl | rfl | rfl | rfl | rfl | rfl | rfl
  all_goals exact name_word (by decide)
theorem itoa_dig (n : Int) (h0 : 0 ≤ n) (h1 : n ≤ 999) : Lib.itoa n ≠ [] ∧ (∀ c ∈ Lib.itoa n, isDig c = true) ∧ (Lib.itoa n).length ≤ 3 := by
  obtain ⟨k, rfl⟩ := Int.eq_ofNat_of_zero_le h0
  have e : Lib.itoa ((k : Nat) : Int) = decT k := by unfold Lib.itoa; rw [if_neg (by omega), Int.toNat_natCast, decT_dec]
  rw [e]
  refine ⟨fun h => (decT_lead k) (.inl h), fun c hc => List.all_eq_true.1 (decT_all k) c hc, ?_⟩
  unfold decT
  split
  · simp
  · exact digD_len 3 k (by omega)
theorem fmtTk_word {t : Tk} (h : tkOk t = true) : wordOk (fmtTkF t) := by
  obtain ⟨k, n, s⟩ := t
  have h' := h
  unfold tkOk at h'
  simp only at h'
  rcases tok_cases k n s.data.toList h' with ⟨rfl, h0, h1⟩ | rfl | ⟨rfl, h0, h1⟩ | hk
  · have hs : s = ⟨#[]⟩ := by
      unfold tokOkF at h'
      have : s.data.toList = [] := by simpa [btw, h0, h1] using h'
      apply ByteArray.ext; apply Array.ext'; rw [this]
    subst hs
    rw [fmt_num, if_pos ⟨h0, h1⟩]
    obtain ⟨a, b, c⟩ := itoa_dig n h0 h1
    exact ⟨a, fun x hx => dig_word (b x hx), by show (Lib.itoa n).length ≤ 10; omega⟩
  · have hn : n = 0 ∧ nameOkF s.data.toList = true := by unfold tokOkF at h'; simpa using h'
    obtain ⟨rfl, hn⟩ := hn
    have : fmtTkF (1, 0, s) = s := by unfold fmtTkF tkOk tokOkF; simp [hn]
    rw [this]
    exact name_word hn
  · have hn : nameOkF s.data.toList = true := by
      unfold tokOkF at h'
      simp [btw, h0, h1] at h'
      exact h'
    rw [fmt_call, if_pos ⟨⟨h0, h1⟩, hn⟩, itoa_small n ⟨h0, h1⟩]
    obtain ⟨a, b, c⟩ := name_word hn
    have hz := nameOk_size hn
    have hd : isDig (UInt8.ofNat (48 + n.toNat)) = true := by
      have : n = 0 ∨ n = 1 ∨ n = 2 ∨ n = 3 ∨ n = 4 := by omega
      rcases this with rfl | rfl | rfl | rfl | rfl <;> decide
    have hdata : ((s ++ ⟨#[47]⟩) ++ (⟨[UInt8.ofNat (48 + n.toNat)].toArray⟩ : ByteArray)).data.toList = s.data.toList ++ [47, UInt8.ofNat (48 + n.toNat)] := by
      simp [ByteArray.data_append]
    refine ⟨by rw [hdata]; simp, ?_, ?_⟩
    · rw [hdata]
      intro x hx
      rcases List.mem_append.1 hx with hx | hx
      · exact b x hx
      · simp only [List.mem_cons, List.not_mem_nil, or_false] at hx
        rcases hx with rfl | rfl
        · decide
        · exact dig_word hd
    · rw [ByteArray.size_append, ByteArray.size_append]
      have e1 : (⟨#[47]⟩ : ByteArray).size = 1 := rfl
      have e2 : (⟨[UInt8.ofNat (48 + n.toNat)].toArray⟩ : ByteArray).size = 1 := rfl
      omega
  · have hn : n = 0 ∧ s = ⟨#[]⟩ := by
      have hq : n = 0 ∧ s.data.toList = [] := by
        unfold tokOkF at h'
        rcases hk with rfl | rfl | rfl | rfl | rfl <;> simpa [btw] using h'
      refine ⟨hq.1, ?_⟩
      apply ByteArray.ext; apply Array.ext'; rw [hq.2]
    obtain ⟨rfl, rfl⟩ := hn
    rcases hk with rfl | rfl | rfl | rfl | rfl
    all_goals
      refine ⟨by decide, ?_, by decide⟩
      decide
/-- All words of a line. -/
def allW (x : Ln) : List ByteArray := lnHead x.1.toNat x.2.1 ++ x.2.2.1 ++ x.2.2.2.map fmtTkF
theorem jb_words (x : Ln) (h : x.2.2.2 ≠ [] → exprOkF x.2.2.2 = true) : jb (lnWords x) = jb (allW x) := by
  unfold lnWords allW lnTail
  by_cases he : x.2.2.2 = []
  · rw [he]; rfl
  · rw [if_neg (by simpa using he)]
    unfold jb
    congr 2
    have hA : ∀ B : List ByteArray, (lnHead x.1.toNat x.2.1 ++ x.2.2.1 ++ B).map (fun x => x.data.toList) = (lnHead x.1.toNat x.2.1 ++ x.2.2.1).map (fun x => x.data.toList) ++ B.map (fun x => x.data.toList) := fun B => List.map_append
    rw [hA, hA]
    have h1 : List.map (fun x => x.data.toList) [fmtExF x.2.2.2] = [jn (exBs x.2.2.2)] := by
      unfold fmtExF
      rw [if_pos (h he)]
      rfl
    have h2 : List.map (fun x => x.data.toList) (x.2.2.2.map fmtTkF) = exBs x.2.2.2 := by rw [List.map_map]; rfl
    rw [h1, h2]
    have hne : List.map (fun x : ByteArray => x.data.toList) (lnHead x.1.toNat x.2.1 ++ x.2.2.1) ≠ [] := by
      have := (lnHead_len x.1.toNat x.2.1).1
      intro e
      have := congrArg List.length e
      rw [List.length_map, List.length_append, List.length_nil] at this
      omega
    rw [jn_snoc _ _ hne, jn_app _ _ hne (by unfold exBs; simpa using he)]
/-- The tokens of an expression are good ones. -/
theorem endL_all (l : List Tk) : ∀ (m p need : Nat), l.length - p ≤ m → endL l p need = l.length → ∀ i, p ≤ i → (h : i < l.length) → tkOk l[i] = true := by
  intro m
  induction m with
  | zero => intro p need hm _ i hi h; omega
  | succ m ih =>
    intro p need hm he i hi h
    have hp : p < l.length := by omega
    by_cases h0 : need = 0
    · subst h0; rw [endL_zero] at he; omega
    · cases hok : tkOk l[p]
      · rw [endL_bad l p need (by omega) hp hok] at he; omega
      · rw [endL_step l p need (by omega) hp hok] at he
        by_cases e : i = p
        · subst e; exact hok
        · exact ih (p + 1) _ (by omega) he i (by omega) h
theorem exprOk_toks {l : List Tk} (h : exprOkF l = true) : ∀ t ∈ l, tkOk t = true := by
  intro t ht
  obtain ⟨i, hi, rfl⟩ := List.mem_iff_getElem.1 ht
  unfold exprOkF at h
  simp only [Bool.and_eq_true, decide_eq_true_eq] at h
  obtain ⟨⟨_, h1⟩, h2⟩ := h
  unfold exprEndF at h2
  rw [if_pos (by omega)] at h2
  exact endL_all l _ 0 1 (Nat.le_refl _) h2 i (by omega) hi
/-- What a good line is made of. -/
theorem lineOk_parts {x : Ln} (h : lineOkF x = true) : (∃ m : Nat, x.1 = m ∧ m < 8) ∧ ((x.1 = 0 ∨ x.1 = 1) → nameOkF x.2.1.data.toList = true) ∧ (¬ (x.1 = 0 ∨ x.1 = 1) → x.2.1 = ⟨#[]⟩) ∧
    (x.1 = 0 → ArgsP x.2.2.1) ∧ (x.1 ≠ 0 → x.2.2.1 = []) ∧ (hasExprF x.1 = true → exprOkF x.2.2.2 = true) ∧ (hasExprF x.1 = false → x.2.2.2 = []) := by
  unfold lineOkF at h
  simp only [Bool.and_eq_true] at h
  obtain ⟨⟨⟨h1, h2⟩, h3⟩, h4⟩ := h
  have hk : 0 ≤ x.1 ∧ x.1 ≤ 7 := by simpa [btw] using h1
  refine ⟨⟨x.1.toNat, by omega, by omega⟩, fun hq => by rwa [if_pos hq] at h2, fun hq => ?_, fun hq => ?_, fun hq => ?_, fun hq => by rwa [if_pos hq] at h4, fun hq => ?_⟩
  · rw [if_neg hq] at h2
    have : x.2.1.data.toList = [] := by simpa using h2
    apply ByteArray.ext; apply Array.ext'; rw [this]
  · rw [if_pos hq] at h3
    rcases Classical.em (ArgsP x.2.2.1) with h | h
    · exact h
    · rw [argsF, yes_not h] at h3; cases h3
  · rw [if_neg hq] at h3
    exact List.eq_nil_of_length_eq_zero (of_decide_eq_true h3)
  · rw [if_neg (by rw [hq]; simp)] at h4
    exact List.eq_nil_of_length_eq_zero (of_decide_eq_true h4)
theorem lineOk_words {x : Ln} (h : lineOkF x = true) : allW x ≠ [] ∧ (allW x).length ≤ 24 ∧ (∀ a ∈ allW x, wordOk a) ∧ fmtLnF x = jb (allW x) := by
  obtain ⟨⟨m, hm, hm8⟩, h1, h2, h3, h4, h5, h6⟩ := lineOk_parts h
  have hhl := lnHead_len x.1.toNat x.2.1
  have hex : x.2.2.2 ≠ [] → exprOkF x.2.2.2 = true := by
    intro hne
    cases hx : hasExprF x.1
    · exact absurd (h6 hx) hne
    · exact h5 hx
  have hel : x.2.2.2.length ≤ 20 ∧ ∀ t ∈ x.2.2.2, tkOk t = true := by
    by_cases he : x.2.2.2 = []
    · rw [he]; exact ⟨by simp, fun t ht => by cases ht⟩
    · exact ⟨(exprOk_len (hex he)).2, exprOk_toks (hex he)⟩
  have har : x.2.2.1.length ≤ 4 ∧ (x.1 = 0 → x.2.2.2 = []) ∧ ∀ a ∈ x.2.2.1, wordOk a := by
    by_cases hk : x.1 = 0
    · refine ⟨(h3 hk).1, fun _ => h6 (by rw [hk]; decide), fun a ha => ?_⟩
      obtain ⟨i, hi, rfl⟩ := List.mem_iff_getElem.1 ha
      exact name_word ((h3 hk).2 i hi hi).1
    · rw [h4 hk]; exact ⟨by simp, fun h => absurd h hk, fun a ha => by cases ha⟩
  refine ⟨?_, ?_, ?_, ?_⟩
  · intro e
    have := congrArg List.length e
    unfold allW at this
    rw [List.length_append, List.length_append, List.length_nil] at this
    omega
  · unfold allW
    rw [List.length_append, List.length_append, List.length_map]
    by_cases hk : x.1 = 0
    · rw [har.2.1 hk]; simp; omega
    · rw [h4 hk]; simp; omega
  · intro a ha
    unfold allW at ha
    rcases List.mem_append.1 ha with ha | ha
    · rcases List.mem_append.1 ha with ha | ha
      · unfold lnHead at ha
        rcases List.mem_cons.1 ha with rfl | ha
        · exact kw_word _ (by omega)
        · split at ha
          · cases ha
          · rename_i hne
            rw [List.mem_singleton.1 ha]
            by_cases hq : x.1 = 0 ∨ x.1 = 1
            · exact name_word (h1 hq)
            · exact absurd (h2 hq) hne
      · exact har.2.2 a ha
    · obtain ⟨t, ht, rfl⟩ := List.mem_map.1 ha
      exact fmtTk_word (hel.2 t ht)
  · unfold fmtLnF
    rw [if_pos h, jb_words x hex]
end Go.Proofs.YtclldakoinnhhaaDoor
