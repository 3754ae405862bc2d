import Derived.Test.YtcfjbaanahgpoaaFPr
import Derived.Test.YtcfjbaanahgpoaaPokY
import Derived.Test.YtcfjbaanahgpoaaFold0
import Derived.Test.YtcfjbaanahgpoaaDrX
namespace Go.Proofs.Ytcfjbaanahgpoaa
open Go Go.RowKit
set_option maxRecDepth 100000
set_option linter.unusedVariables false
set_option linter.unusedSimpArgs false
/-- How many calls stand from a place on, up to another. -/
def ccT (e : List Tk) (a b : Nat) : Nat := (((e.drop a).take (b - a)).filter fun t => decide (t.1 = 7)).length
theorem ccT_self (e : List Tk) (a : Nat) : ccT e a a = 0 := by simp [ccT]
theorem ccT_add (e : List Tk) (a b c : Nat) (h1 : a ≤ b) (h2 : b ≤ c) : ccT e a c = ccT e a b + ccT e b c := by
  unfold ccT
  have h : (e.drop a).take (c - a) = (e.drop a).take (b - a) ++ (e.drop b).take (c - b) := by
    rw [show c - a = (b - a) + (c - b) by omega, List.take_add, List.drop_drop, show a + (b - a) = b by omega]
  rw [h, List.filter_append, List.length_append]
theorem ccT_one (e : List Tk) (a : Nat) (h : a < e.length) : ccT e a (a + 1) = if e[a].1 = 7 then 1 else 0 := by
  unfold ccT
  rw [List.drop_eq_getElem_cons h, show a + 1 - a = 1 by omega]
  rw [List.take_succ_cons, List.take_zero, List.filter_cons]
  by_cases h7 : e[a].1 = 7
  · rw [if_pos (by simpa using h7), if_pos h7]; rfl
  · rw [if_neg (by simpa using h7), if_neg h7]; rfl
theorem ccT_all (e : List Tk) : ccT e 0 e.length = (e.filter fun t => decide (t.1 = 7)).length := by
  unfold ccT; rw [List.drop_zero, Nat.sub_zero, List.take_length]
/-! A folded program: its structure is the program's, and its calls too. -/
theorem lnAtD_fold (L : List Ln) (i : Nat) : lnAtD (L.map foldLn) i = foldLn (lnAtD L i) := by
  unfold lnAtD
  rw [List.getD_eq_getElem?_getD, List.getD_eq_getElem?_getD, List.getElem?_map]
  cases L[i]? with
  | none => simp only [Option.map_none, Option.getD_none, foldLn, foldEx_nil]
  | some x => rfl
theorem funsFrom_fold (L : List Ln) : ∀ i, funsFrom (L.map foldLn) i = funsFrom L i := by
  induction L with
  | nil => intro i; rfl
  | cons x L ih =>
    intro i
    rw [List.map_cons, funsFrom, funsFrom, ih]
    rfl
theorem funsF_fold (L : List Ln) : funsF (L.map foldLn) = funsF L := funsFrom_fold L 0
theorem findFrom_fold (s : ByteArray) (L : List Ln) : ∀ i, findFrom s (L.map foldLn) i = findFrom s L i := by
  induction L with
  | nil => intro i; rfl
  | cons x L ih =>
    intro i
    rw [List.map_cons, findFrom, findFrom, ih]
    rfl
theorem findF_fold (L : List Ln) (s : ByteArray) : findF (L.map foldLn) s = findF L s := findFrom_fold s L 0
theorem endFrom_fold (L : List Ln) : ∀ i o, endFrom (L.map foldLn) i o = endFrom L i o := by
  induction L with
  | nil => intro i o; rfl
  | cons x L ih =>
    intro i o
    rw [List.map_cons, endFrom, endFrom, ih]
    rfl
theorem endOfF_fold (L : List Ln) (k : Int) : endOfF (L.map foldLn) k = endOfF L k := by
  unfold endOfF
  rw [List.length_map, lnAtD_fold, ← List.map_drop, endFrom_fold]
  rfl
theorem elseFrom_fold (L : List Ln) (e : Nat) : ∀ (m i : Nat), e - i ≤ m → elseFrom (L.map foldLn) e i = elseFrom L e i := by
  intro m
  induction m with
  | zero => intro i h; rw [else_out _ _ _ (by omega), else_out _ _ _ (by omega)]
  | succ m ih =>
    intro i h
    by_cases hi : i < e
    · rw [elseFrom, elseFrom.eq_1 L e i, if_pos hi, if_pos hi, lnAtD_fold, endOfF_fold, ih _ (by omega), ih _ (by omega)]
      rfl
    · rw [else_out _ _ _ hi, else_out _ _ _ hi]
theorem elseOfF_fold (L : List Ln) (k : Int) : elseOfF (L.map foldLn) k = elseOfF L k := by
  unfold elseOfF
  rw [endOfF_fold, lnAtD_fold, elseFrom_fold L _ _ _ (Nat.le_refl _)]
  rfl
theorem elseIn_fold (L : List Ln) (a b : Nat) (i : Int) : elseIn (L.map foldLn) a b i = elseIn L a b i := by
  unfold elseIn
  simp only [elseOfF_fold]
theorem locFold_fold (M : List Ln) : ∀ acc, locFold (M.map foldLn) acc = locFold M acc := by
  induction M with
  | nil => intro acc; rfl
  | cons x M ih =>
    intro acc
    show locFold (M.map foldLn) (locStep acc (foldLn x)) = locFold M (locStep acc x)
    rw [ih]
    rfl
theorem locF_fold (L : List Ln) (k : Int) : locF (L.map foldLn) k = locF L k := by
  unfold locF
  rw [endOfF_fold, lnAtD_fold, ← List.map_drop, ← List.map_take, locFold_fold]
  rfl
theorem nameX_fold (L : List Ln) (loc : List ByteArray) (t : Tk) : nameX (L.map foldLn) loc t = nameX L loc t := by
  unfold nameX
  rw [findF_fold, lnAtD_fold]
  rfl
/-! The folded expression. -/
structure FoldOk (l D : List Tk) (p e : Nat) : Prop where
  full : fullK 1 D
  mem : ∀ t ∈ D, t ∈ l ∨ t.1 = 0
  cnt : (D.filter fun t => decide (t.1 = 7)).length = ccT l p e
structure FoldsOk (l D : List Tk) (k q e : Nat) : Prop where
  full : fullK k D
  mem : ∀ t ∈ D, t ∈ l ∨ t.1 = 0
  cnt : (D.filter fun t => decide (t.1 = 7)).length = ccT l q e
theorem foldF_ok (l : List Tk) : ∀ (f p : Nat), l.length - p ≤ f → 0 ≤ endL l p 1 → FoldOk l (foldF l f p) p (endL l p 1).toNat := by
  intro f
  induction f with
  | zero =>
    intro p hf h
    have := (good_at l p h).1
    omega
  | succ f ih =>
    intro p hf h
    obtain ⟨hlt, hok, he⟩ := good_at l p h
    have key : ∀ (k q : Nat), p < q → q ≤ l.length → 0 ≤ endL l q k → FoldsOk l ((opsL l k (q : Int)).flatMap fun o => foldF l f o.toNat) k q (endL l q k).toNat := by
      intro k
      induction k with
      | zero => intro q _ _ _; rw [endL_zero]; exact ⟨fullK_zero, fun t ht => by simp [opsL] at ht, by simp [opsL, ccT_self]⟩
      | succ k ihk =>
        intro q hpq hq h
        obtain ⟨e, h1, h2, h3, h4, h5⟩ := opsL_cons l k q hq h
        rw [h5, List.flatMap_cons, Int.toNat_natCast, h4]
        have a1 := ih q (by omega) (by omega)
        have a2 := ihk e (by omega) h3 (by omega)
        obtain ⟨e2, he2⟩ := Int.eq_ofNat_of_zero_le (show 0 ≤ endL l e k by omega)
        have hle : e ≤ e2 := by
          obtain ⟨x, y1, y2, y3, y4⟩ := endL_add l _ e k 0 (Nat.le_refl _) h3 (by rw [Nat.add_zero]; omega)
          split at y2 <;> omega
        refine ⟨?_, ?_, ?_⟩
        · have := fullK_app a1.full a2.full
          rwa [Nat.add_comm] at this
        · intro t ht
          exact (List.mem_append.1 ht).elim (a1.mem t) (a2.mem t)
        · rw [List.filter_append, List.length_append, a1.cnt, a2.cnt, h1, he2, Int.toNat_natCast, Int.toNat_natCast, ccT_add l q e e2 (by omega) hle]
    have hta : tkAt l p = l[p] := by unfold tkAt; rw [List.getD_eq_getElem?_getD, List.getElem?_eq_getElem hlt]; rfl
    obtain ⟨ar, har⟩ := Int.eq_ofNat_of_zero_le (tkAr_ok _ hok).1
    rw [foldF, operandsF_nat l p h, he]
    rw [har, Int.toNat_natCast] at he ⊢
    have K := key ar (p + 1) (by omega) (by omega) (by omega)
    generalize hD : ((opsL l ar ((p + 1 : Nat) : Int)).flatMap fun o => foldF l f o.toNat) = D at *
    obtain ⟨fin, hfin⟩ := Int.eq_ofNat_of_zero_le (show 0 ≤ endL l (p + 1) ar by omega)
    have hle : p + 1 ≤ fin := by
      obtain ⟨x, y1, y2, y3, y4⟩ := endL_add l _ (p + 1) ar 0 (Nat.le_refl _) (by omega) (by show 0 ≤ endL l (p + 1) ar; rw [hfin]; omega)
      split at y2 <;> omega
    rw [hfin, Int.toNat_natCast] at K ⊢
    have base : FoldOk l (tkAt l p :: D) p fin := by
      refine ⟨fullK_tok hok har K.full, fun t ht => ?_, ?_⟩
      · rcases List.mem_cons.1 ht with rfl | ht
        · left; rw [hta]; exact List.getElem_mem hlt
        · exact K.mem t ht
      · rw [ccT_add l p (p + 1) fin (by omega) hle, ccT_one l p hlt, ← K.cnt, hta, List.filter_cons]
        by_cases h7 : l[p].1 = 7
        · rw [if_pos (by simpa using h7), if_pos h7, List.length_cons]; omega
        · rw [if_neg (by simpa using h7), if_neg h7]; omega
    unfold foldC
    split
    · rename_i t a b heq
      split
      · rename_i hc
        refine ⟨fullK_tok (r := 0) (tk_num _ hc.2.2.2).1 (tk_num _ hc.2.2.2).2 fullK_zero, fun u hu => ?_, ?_⟩
        · obtain rfl := List.mem_singleton.1 hu; exact .inr rfl
        · have h2 := base.cnt
          rw [heq] at h2
          rw [← h2]
          have n1 : ¬ t.1 = 7 := by omega
          have n2 : ¬ a.1 = 7 := by omega
          have n3 : ¬ b.1 = 7 := by omega
          simp [n1, n2, n3]
      · exact base
    · exact base
theorem foldEx_ok (e : List Tk) (h : exprOkF e = true) : exprOkF (foldEx e) = true ∧ (∀ t ∈ foldEx e, t ∈ e ∨ t.1 = 0) ∧ ((foldEx e).filter fun t => decide (t.1 = 7)).length = (e.filter fun t => decide (t.1 = 7)).length := by
  have hend := exprOk_end h
  have hl : e.length ≤ 20 := by
    unfold exprOkF at h
    simp only [Bool.and_eq_true, decide_eq_true_eq] at h
    exact h.1.1
  have K := foldF_ok e e.length 0 (by omega) (by omega)
  have K2 := foldF_len e e.length 0 (by omega) (by omega)
  rw [hend, Int.toNat_natCast] at K
  have hx : foldEx e = foldF e e.length 0 := by unfold foldEx; rw [if_pos h]
  rw [hx]
  exact ⟨fullK_ok K.full (by omega), K.mem, by rw [K.cnt, ccT_all]⟩
def callsOf (x : Ln) : Nat := (x.2.2.2.filter fun t => decide (t.1 = 7)).length
theorem lineOk_fold (x : Ln) (h : lineOkF x = true) : lineOkF (foldLn x) = true ∧ callsOf (foldLn x) = callsOf x ∧ (∀ t ∈ (foldLn x).2.2.2, t ∈ x.2.2.2 ∨ t.1 = 0) := by
  by_cases hx : hasExprF x.1 = true
  · have he : exprOkF x.2.2.2 = true := by
      unfold lineOkF at h
      simp only [Bool.and_eq_true] at h
      rw [if_pos hx] at h
      exact h.2
    obtain ⟨h1, h2, h3⟩ := foldEx_ok _ he
    refine ⟨?_, h3, h2⟩
    unfold lineOkF at h ⊢
    simp only [Bool.and_eq_true, foldLn] at h ⊢
    exact ⟨h.1, (if_pos hx).trans h1⟩
  · have he : x.2.2.2 = [] := by
      unfold lineOkF at h
      simp only [Bool.and_eq_true] at h
      rw [if_neg hx] at h
      exact List.length_eq_zero_iff.1 (by simpa using h.2)
    have e1 : foldLn x = x := by
      unfold foldLn
      rw [he, foldEx_nil, ← he]
    rw [e1]
    exact ⟨h, rfl, fun t ht => .inl ht⟩
theorem lines_fold {L : List Ln} (h : ∀ x ∈ L, lineOkF x = true) : ∀ x ∈ L.map foldLn, lineOkF x = true := fun x hx => by
  obtain ⟨y, hy, rfl⟩ := List.mem_map.1 hx
  exact (lineOk_fold y (h y hy)).1
theorem lnAtD_mem {L : List Ln} {i : Nat} (h : i < L.length) : lnAtD L i ∈ L := by
  unfold lnAtD
  rw [List.getD_eq_getElem?_getD, List.getElem?_eq_getElem h]
  exact List.getElem_mem h
theorem namesX_fold {L : List Ln} (h : ∀ x ∈ L, lineOkF x = true) (loc : List ByteArray) (i : Nat) (hn : namesX L loc (lnAtD L i).2.2.2 = true) : namesX (L.map foldLn) loc (lnAtD (L.map foldLn) i).2.2.2 = true := by
  rw [lnAtD_fold]
  unfold namesX at hn ⊢
  rw [List.all_eq_true] at hn ⊢
  intro t ht
  rw [nameX_fold]
  by_cases hi : i < L.length
  · rcases (lineOk_fold _ (h _ (lnAtD_mem hi))).2.2 t ht with h1 | h1
    · exact hn t h1
    · unfold nameX
      simp [h1]
  · have e0 : lnAtD L i = (1, ByteArray.empty, [], []) := by unfold lnAtD; rw [List.getD_eq_getElem?_getD, List.getElem?_eq_none (by omega)]; rfl
    rw [e0] at ht
    simp [foldLn, foldEx_nil] at ht
theorem scanI_fold {L : List Ln} (h : ∀ x ∈ L, lineOkF x = true) (loc : List ByteArray) (e : Nat) : ∀ (m i : Nat) (st : List Int), e + 1 - i ≤ m → scanI L loc e i st = true → scanI (L.map foldLn) loc e i st = true := by
  intro m
  induction m with
  | zero => intro i st hm _; rw [scanI, if_neg (by omega)]
  | succ m ih =>
    intro i st hm hs
    by_cases hi : i ≤ e
    · rw [scanI, if_pos hi] at hs ⊢
      have ek : (lnAtD (L.map foldLn) i).1 = (lnAtD L i).1 := by rw [lnAtD_fold]; rfl
      have ep : pushF (L.map foldLn) i (popF st i) = pushF L i (popF st i) := by unfold pushF; rw [ek, endOfF_fold]
      rw [ek, ep]
      by_cases h0 : (lnAtD L i).1 = 0
      · rw [if_pos h0] at hs; cases hs
      · rw [if_neg h0] at hs ⊢
        by_cases h4 : 4 < (pushF L i (popF st i)).length
        · rw [if_pos h4] at hs; cases hs
        · rw [if_neg h4] at hs ⊢
          cases hn : namesX L loc (lnAtD L i).2.2.2
          · rw [if_pos hn] at hs; cases hs
          · rw [if_neg (by rw [hn]; simp)] at hs
            rw [if_neg (by rw [namesX_fold h loc i hn]; simp)]
            exact ih _ _ (by omega) hs
    · rw [scanI, if_neg hi]
theorem fnI_fold {L : List Ln} (h : ∀ x ∈ L, lineOkF x = true) (k e : Nat) (hs : fnI L k e = true) : fnI (L.map foldLn) k e = true := by
  unfold fnI at hs ⊢
  rw [locF_fold]
  rw [Bool.and_eq_true] at hs ⊢
  exact ⟨hs.1, scanI_fold h _ _ _ _ _ (Nat.le_refl _) hs.2⟩
theorem tileI_fold {L : List Ln} (h : ∀ x ∈ L, lineOkF x = true) : ∀ (fs : List Int) (nx : Int), tileI L fs nx = true → tileI (L.map foldLn) fs nx = true := by
  intro fs
  induction fs with
  | nil => intro nx hs; rw [tileI] at hs ⊢; rw [List.length_map]; exact hs
  | cons k fs ih =>
    intro nx hs
    rw [tileI] at hs ⊢
    by_cases hc : k = nx ∧ findF L (lnAtD L k.toNat).2.1 = k ∧ 0 ≤ endOfF L k ∧ fnI L k.toNat (endOfF L k).toNat = true
    · rw [if_pos hc] at hs
      rw [findF_fold, endOfF_fold, lnAtD_fold, if_pos ⟨hc.1, hc.2.1, hc.2.2.1, fnI_fold h _ _ hc.2.2.2⟩]
      exact ih _ hs
    · rw [if_neg hc] at hs; cases hs
theorem yes_out {p : Prop} (h : yes p = true) : p := by
  by_cases hp : p
  · exact hp
  · rw [yes_not hp] at h; cases h
theorem prog_lines {L : List Ln} (h : progS L = true) : (0 < L.length ∧ L.length ≤ 60) ∧ ∀ x ∈ L, lineOkF x = true := by
  have h1 := yes_out h
  refine ⟨⟨h1.1, h1.2.1⟩, fun x hx => ?_⟩
  obtain ⟨i, hi, rfl⟩ := List.getElem_of_mem hx
  have := (h1.2.2.2.2.1 i hi).1
  rwa [lnAtD_of L i hi] at this
theorem prog_fold {L : List Ln} (h : progS L = true) : progS (L.map foldLn) = true := by
  have hL := (prog_lines h).2
  rw [← prog_eq] at h ⊢
  have h1 := yes_out h
  obtain ⟨a1, a2, a3, a4, a5, a6, a7⟩ := h1
  refine yes_of ⟨by rw [List.length_map]; exact a1, by rw [funsF_fold]; exact a2, by rw [funsF_fold]; exact a3, fun k hk => ?_, ?_, by rw [funsF_fold]; exact tileI_fold hL _ _ a6, ?_⟩
  · rw [List.length_map] at hk
    rw [lnAtD_fold]
    exact (lineOk_fold _ (hL _ (lnAtD_mem hk))).1
  · unfold headOk at a5 ⊢
    rw [lnAtD_fold]
    exact a5
  · intro i hi h4
    rw [List.length_map] at hi ⊢
    rw [elseIn_fold]
    rw [lnAtD_fold] at h4
    exact a7 i hi h4
/-- Every function of a good program has its end. -/
theorem prog_end {L : List Ln} (h : progS L = true) : ∀ k ∈ funsF L, ∃ m e : Nat, k = m ∧ endOfF L k = e ∧ m < e ∧ e < L.length := by
  rw [← prog_eq] at h
  have h1 := (yes_out h).2.2.2.2.2.1
  have key : ∀ (fs : List Int) (nx : Int), tileI L fs nx = true → ∀ k ∈ fs, 0 ≤ endOfF L k := by
    intro fs
    induction fs with
    | nil => intro nx _ k hk; cases hk
    | cons x fs ih =>
      intro nx hs k hk
      rw [tileI] at hs
      by_cases hc : x = nx ∧ findF L (lnAtD L x.toNat).2.1 = x ∧ 0 ≤ endOfF L x ∧ fnI L x.toNat (endOfF L x).toNat = true
      · rw [if_pos hc] at hs
        rcases List.mem_cons.1 hk with rfl | hk
        · exact hc.2.2.1
        · exact ih _ hs k hk
      · rw [if_neg hc] at hs; cases hs
  intro k hk
  have h2 := key _ _ h1 k hk
  obtain ⟨p, rfl, hp, hop, h3, h4⟩ := endOf_pos L k h2
  exact ⟨p, (endOfF L p).toNat, rfl, by omega, by omega, by omega⟩
end Go.Proofs.Ytcfjbaanahgpoaa
namespace Go.Proofs.Ytcfjbaanahgpoaa
open Go Go.RowKit
set_option maxRecDepth 100000
set_option linter.unusedVariables false
set_option linter.unusedSimpArgs false
/-! Plain facts on programs that are in order. -/
theorem findFrom_kind (s : ByteArray) : ∀ (M : List Ln) (k : Nat), 0 ≤ findFrom s M k → ∃ j : Nat, findFrom s M k = ((k + j : Nat) : Int) ∧ ∃ h : j < M.length, M[j].1 = 0 := by
  intro M
  induction M with
  | nil => intro k h; simp [findFrom] at h
  | cons x M ih =>
    intro k h
    rw [findFrom] at h ⊢
    by_cases hc : x.1 = 0 ∧ x.2.1 = s
    · rw [if_pos hc]
      exact ⟨0, rfl, by simp, hc.1⟩
    · rw [if_neg hc] at h ⊢
      obtain ⟨j, h1, h2, h3⟩ := ih (k + 1) h
      exact ⟨j + 1, by rw [h1]; congr 1; omega, by simp; omega, by simpa using h3⟩
theorem findF_kind (L : List Ln) (s : ByteArray) (h : 0 ≤ findF L s) : ∃ j : Nat, findF L s = (j : Int) ∧ j < L.length ∧ (lnAtD L j).1 = 0 := by
  obtain ⟨j, h1, h2, h3⟩ := findFrom_kind s L 0 h
  refine ⟨j, by unfold findF; rw [h1, Nat.zero_add], h2, ?_⟩
  rw [lnAtD_of L j h2]
  exact h3
theorem mem_funsFrom : ∀ (M : List Ln) (i j : Nat) (h : j < M.length), M[j].1 = 0 → ((i + j : Nat) : Int) ∈ funsFrom M i := by
  intro M
  induction M with
  | nil => intro i j h; simp at h
  | cons x M ih =>
    intro i j h hk
    rw [funsFrom]
    cases j with
    | zero =>
      have : x.1 = 0 := hk
      rw [if_pos this]
      exact List.mem_cons_self
    | succ j =>
      have := ih (i + 1) j (by simpa using h) (by simpa using hk)
      rw [show i + 1 + j = i + (j + 1) by omega] at this
      split
      · exact List.mem_cons_of_mem _ this
      · exact this
theorem mem_funs {L : List Ln} {k : Nat} (h : k < L.length) (hk : (lnAtD L k).1 = 0) : (k : Int) ∈ funsF L := by
  rw [lnAtD_of L k h] at hk
  have := mem_funsFrom L 0 k h hk
  rwa [Nat.zero_add] at this
theorem scan_all (L : List Ln) (loc : List ByteArray) (e : Nat) : ∀ (m i : Nat) (st : List Int), e + 1 - i ≤ m → scanI L loc e i st = true → ∀ j, i ≤ j → j ≤ e → (lnAtD L j).1 ≠ 0 ∧ namesX L loc (lnAtD L j).2.2.2 = true := by
  intro m
  induction m with
  | zero => intro i st hm _ j h1 h2; omega
  | succ m ih =>
    intro i st hm h j h1 h2
    have hie : i ≤ e := by omega
    rw [scanI_step L loc e i st hie] at h
    split at h
    · cases h
    · rename_i h0
      split at h
      · cases h
      · split at h
        · cases h
        · rename_i hn
          by_cases hj : j = i
          · subst hj
            exact ⟨h0, by simpa using hn⟩
          · exact ih (i + 1) _ (by omega) h j (by omega) h2
/-- What is known of a function of a program. -/
theorem prog_fnk {L : List Ln} (h : progS L = true) (k : Nat) (hk : k < L.length) (h0 : (lnAtD L k).1 = 0) : ∃ e : Nat, endOfF L k = e ∧ k < e ∧ e < L.length ∧ (locF L (k : Int)).length ≤ 8 ∧ ∀ j, k < j → j ≤ e → (lnAtD L j).1 ≠ 0 ∧ ∀ t ∈ (lnAtD L j).2.2.2, t.1 = 7 → 0 ≤ findF L t.2.2 := by
  have hm := mem_funs hk h0
  obtain ⟨m, e, e1, e2, e3, e4⟩ := prog_end h _ hm
  have : k = m := by omega
  subst this
  refine ⟨e, e2, e3, e4, ?_⟩
  rw [← prog_eq] at h
  have h1 := (yes_out h).2.2.2.2.2.1
  have key : ∀ (fs : List Int) (nx : Int), tileI L fs nx = true → ∀ x ∈ fs, fnI L x.toNat (endOfF L x).toNat = true := by
    intro fs
    induction fs with
    | nil => intro nx _ k hk; cases hk
    | cons x fs ih =>
      intro nx hs k hk
      rw [tileI] at hs
      by_cases hc : x = nx ∧ findF L (lnAtD L x.toNat).2.1 = x ∧ 0 ≤ endOfF L x ∧ fnI L x.toNat (endOfF L x).toNat = true
      · rw [if_pos hc] at hs
        rcases List.mem_cons.1 hk with rfl | hk
        · exact hc.2.2.2
        · exact ih _ hs k hk
      · rw [if_neg hc] at hs; cases hs
  have h2 := key _ _ h1 _ hm
  rw [e2, Int.toNat_natCast, Int.toNat_natCast] at h2
  unfold fnI at h2
  simp only [Bool.and_eq_true, decide_eq_true_eq] at h2
  refine ⟨h2.1, fun j hj1 hj2 => ?_⟩
  obtain ⟨g1, g2⟩ := scan_all L _ e _ _ _ (Nat.le_refl _) h2.2 j (by omega) hj2
  refine ⟨g1, fun t ht h7 => ?_⟩
  unfold namesX at g2
  have := List.all_eq_true.1 g2 t ht
  unfold nameX at this
  simp only [Bool.and_eq_true, decide_eq_true_eq] at this
  exact (this.2 h7).1
theorem endOf_inj {L : List Ln} {j k : Nat} (h : 0 ≤ endOfF L j) (e : endOfF L j = endOfF L k) : j = k := by
  obtain ⟨p, hp, _, hpo, hpe, _, _⟩ := endOf_pos L j h
  obtain ⟨q, hq, _, hqo, hqe, _, _⟩ := endOf_pos L k (e ▸ h)
  have hp' : p = j := by omega
  have hq' : q = k := by omega
  subst hp' hq'
  rcases Nat.lt_trichotomy p q with h1 | h1 | h1
  · have := endOf_nest L p q h h1 (by omega) hqo; omega
  · exact h1
  · have := endOf_nest L q p (e ▸ h) h1 (by omega) hpo; omega
theorem else_ne_end {L : List Ln} {j k : Int} (hk : 0 ≤ endOfF L k) : elseOfF L j ≠ endOfF L k := by
  intro e
  rcases elseOf_in L j with h1 | ⟨_, _, _, h4, _⟩
  · omega
  · have := endOf_kind L k.toNat (endOfF L k).toNat (by
      obtain ⟨p, hp, _⟩ := endOf_pos L k hk
      subst hp
      rw [Int.toNat_natCast]; omega)
    rw [e] at h4
    omega
end Go.Proofs.Ytcfjbaanahgpoaa
