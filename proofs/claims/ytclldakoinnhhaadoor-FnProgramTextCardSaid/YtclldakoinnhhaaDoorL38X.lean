import Derived.Test.YtclldakoinnhhaaDoorDoor2
import Derived.Lay
import Derived.Test.YtclldakoinnhhaaDoorFmtL
import Derived.Test.YtclldakoinnhhaaDoorLinS
import Derived.Test.YtclldakoinnhhaaDoorPExp
import Derived.Test.YtclldakoinnhhaaDoorPPrX
import Derived.Test.YtclldakoinnhhaaDoorDrQ
import Derived.Test.YtclldakoinnhhaaDoorSam
import Derived.Deep.RegionHeld3
namespace Go.Proofs.YtclldakoinnhhaaDoor
open Go Go.ChangeShapes Go.WideShapes Go.ChangeAt Go.RowKit
set_option maxRecDepth 100000
/-- The five tables that some rows list. -/
def doorLaid5 : List (String × DataW Unit) := [("math/bits.deBruijn32tab", Rows.laid_math_bits_deBruijn32tab), ("math/bits.deBruijn64tab", Rows.laid_math_bits_deBruijn64tab), ("internal/strconv.uint64pow10", Rows.laid_internal_strconv_uint64pow10), ("unicode/utf8.acceptRanges", Rows.laid_unicode_utf8_acceptRanges), ("unicode/utf8.first", Rows.laid_unicode_utf8_first)]
theorem powIs_of_laid5 {W : World} (h : laidMetH Tryd.prog doorLaid5 W) : PowIs W := by
  rw [MakeChecks.laidMetH_plain _ _ _ (by kernel_rfl)] at h
  exact Lib.tabIs_of_head (t := 117) (e := 108) (n := 20) gPow (by kernel_rfl) Tryd.underlying117 Tryd.underlying108 (by kernel_rfl) (by kernel_rfl) (laidMet.tail (laidMet.tail h))
end Go.Proofs.YtclldakoinnhhaaDoor
namespace Go.Proofs.YtclldakoinnhhaaDoor
open Go Go.RowKit
set_option maxRecDepth 100000
/-! The text of a program. -/
noncomputable def catL : List Ln → ByteArray → ByteArray
  | [], a => a
  | x :: L, a => catL L (a ++ (fmtLnF x ++ ⟨#[10]⟩))
theorem catL_append (L M : List Ln) : ∀ a, catL (L ++ M) a = catL M (catL L a) := by
  induction L with
  | nil => intro a; rfl
  | cons x L ih => intro a; exact ih _
theorem fmtLn_size (x : Ln) : (fmtLnF x).size ≤ 5288 := by
  obtain ⟨k, s, ar, ex⟩ := x
  unfold fmtLnF
  split
  · rename_i h
    obtain ⟨m, rfl, hm, hs8, ha4, ha8⟩ := lineOk_facts h
    have hl := lnHead_len m s
    have hwl : (lnWords (↑m, s, ar, ex)).length ≤ 8 := by
      unfold lnWords lnTail
      simp only [List.length_append, Int.toNat_natCast]
      split <;> simp <;> omega
    have hws : ∀ a ∈ lnWords (↑m, s, ar, ex), a.size ≤ 660 := by
      intro a ha
      unfold lnWords at ha
      rcases List.mem_append.1 ha with ha | ha
      · rcases List.mem_append.1 ha with ha | ha
        · exact Nat.le_trans (lnHead_size hs8 a ha) (by omega)
        · exact Nat.le_trans (ha8 a ha) (by omega)
      · unfold lnTail at ha
        split at ha
        · cases ha
        · rw [List.mem_singleton.1 ha]; exact fmtEx_size ex
    have := jb_size _ 660 hws
    omega
  · exact Nat.zero_le _
theorem catL_size (L : List Ln) : ∀ a : ByteArray, (catL L a).size ≤ a.size + 5289 * L.length := by
  induction L with
  | nil => intro a; simp [catL]
  | cons x L ih =>
    intro a
    have h := ih (a ++ (fmtLnF x ++ ⟨#[10]⟩))
    have h2 := fmtLn_size x
    have h3 : (⟨#[10]⟩ : ByteArray).size = 1 := rfl
    rw [ByteArray.size_append, ByteArray.size_append, h3] at h
    rw [catL, List.length_cons]
    omega
theorem catL_take (L : List Ln) (j : Nat) (h : j < L.length) : catL (L.take (j + 1)) ⟨#[]⟩ = catL (L.take j) ⟨#[]⟩ ++ (fmtLnF L[j] ++ ⟨#[10]⟩) := by
  rw [List.take_succ_eq_append_getElem h, catL_append]
  rfl
noncomputable def fmtPF (L : List Ln) : ByteArray := if L.length ≤ 60 ∧ L.all lineOkF = true then catL L ⟨#[]⟩ else ⟨#[]⟩
theorem fmtPF_long {L : List Ln} (h : 60 < L.length) : fmtPF L = ⟨#[]⟩ := if_neg (fun h' => by omega)
theorem fmtPF_bad {L : List Ln} {j : Nat} (hj : j < L.length) (h : lineOkF L[j] = false) : fmtPF L = ⟨#[]⟩ := if_neg (fun h' => by
  have := List.all_eq_true.1 h'.2 L[j] (List.getElem_mem hj)
  rw [h] at this
  cases this)
theorem fmtPF_good {L : List Ln} (h : L.length ≤ 60) (ha : ∀ i (hi : i < L.length), lineOkF L[i] = true) : fmtPF L = catL L ⟨#[]⟩ := if_pos ⟨h, List.all_eq_true.2 fun x hx => by
  obtain ⟨i, hi, rfl⟩ := List.mem_iff_getElem.1 hx
  exact ha i hi⟩
set_option maxHeartbeats 2000000 in
theorem i_formatProgram (A : Option Addr) (n c : Nat) (L : List Ln) (w : World) (hn : n + lnTot L ≤ 1048576) (h : InLines w A n L) (hs : ∀ x ∈ L, LnSz x) (hp : PowIs w) :
    Calls Tryd.prog 14 #[.slice A n c] w fun e w' => e = .returned (.string (fmtPF L)) ∧ Below w.heap.size w w' := by
  have H := hide h
  have HL := hide h.len
  have HS := hide hs
  have HP := hide hp
  clear h hs hp
  go_enter Tryd.func14, Tryd.ntmps14
  by_cases hlong : 60 < n
  · have HN : Hid (fmtPF L = ⟨#[]⟩) := fmtPF_long (by rw [HL.out]; exact hlong)
    go_wp2_with fail
    go_ret
    exact ⟨by rw [HN.out]; rfl, Below.refl _ _⟩
  go_wp2_with fail
  go_loopw [3, 11] (fun v i wr => ∃ k : Nat, k ≤ n ∧ i = .int .i64 k ∧ v = .string (catL (L.take k) ⟨#[]⟩) ∧ (∀ i, i < k → ∀ hi : i < L.length, lineOkF L[i] = true) ∧ Below w.heap.size w wr) (fun _ i _ => n - (intOf i).toNat)
  case atStart => exact ⟨0, Nat.zero_le _, rfl, rfl, fun i hi => absurd hi (Nat.not_lt_zero i), Below.refl _ _⟩
  case round =>
    obtain ⟨k, hk, rfl, rfl, hok, hb⟩ := hrel
    have HB := hide hb
    have HO := hide hok
    have R := hide (H.out.below hb)
    clear hb hok
    by_cases hlt : k < n
    · have hkl : k < L.length := by rw [HL.out]; exact hlt
      obtain ⟨b, o, A1, d1, A2, d2, rfl, hbl, c0, c1, c2, c3, hin⟩ := R.out.ln k hkl
      have hsz := HS.out _ (List.getElem_mem hkl)
      have htot := lnTot_mem L _ (List.getElem_mem hkl)
      have HIN := hide hin
      have HSZ := hide hsz
      have hcs := catL_size (L.take k) ⟨#[]⟩
      have h0 : (⟨#[]⟩ : ByteArray).size = 0 := rfl
      rw [h0, List.length_take] at hcs
      have hcs' : (catL (L.take k) ⟨#[]⟩).size ≤ 317340 := by omega
      have HX := hide (catL_take L k hkl)
      have hfs := fmtLn_size L[k]
      clear hin hsz hcs h0
      generalize hS : catL (L.take k) ⟨#[]⟩ = S at *
      generalize hx : L[k] = x at *
      obtain ⟨xk, xs, xa, xe⟩ := x
      simp only at c0 c1 c2 c3 htot
      have K0 := hide (Blk.new wr 29 #[.int .i64 xk, .string xs, .slice A1 xa.length d1, .slice A2 xe.length d2])
      have B0 := hide (HB.out.alloc HB.out.size (.cells #[.int .i64 xk, .string xs, .slice A1 xa.length d1, .slice A2 xe.length d2] 29))
      have I0 := hide (HIN.out.below ((Below.refl _ _).alloc (Nat.le_refl _) (.cells #[.int .i64 xk, .string xs, .slice A1 xa.length d1, .slice A2 xe.length d2] 29)))
      cases hq : lineOkF (xk, xs, xa, xe)
      · have HN : Hid (fmtPF L = ⟨#[]⟩) := fmtPF_bad hkl (by rw [hx]; exact hq)
        clear hS hx
        go_wp2_with fail
        refine (i_lineOk (xk, xs, xa, xe) A1 A2 d1 d2 _ (by simp only; omega) I0.out HSZ.out).mono ?_
        rintro e w1 ⟨rfl, hb1⟩
        rw [hq]
        go_wp2_with fail
        go_ret
        exact ⟨by rw [HN.out]; rfl, B0.out.trans (hb1.mono B0.out.size)⟩
      · have HN : Hid (∀ i, i < k + 1 → ∀ hi : i < L.length, lineOkF L[i] = true) := by
          intro i hi hil
          rcases Nat.lt_succ_iff_lt_or_eq.1 hi with h | h
          · exact HO.out i h hil
          · subst h; rw [hx]; exact hq
        clear hS hx
        go_wp2_with fail
        refine (i_lineOk (xk, xs, xa, xe) A1 A2 d1 d2 _ (by simp only; omega) I0.out HSZ.out).mono ?_
        rintro e w1 ⟨rfl, hb1⟩
        rw [hq]
        have K1 := hide (K0.out.below hb1 (by simp))
        have B1 := hide (B0.out.trans (hb1.mono B0.out.size))
        have I1 := hide (I0.out.below hb1)
        clear hb1 K0 B0 I0 c0 c1 c2 c3
        have c0 := K1.out.cell 0
        have c1 := K1.out.cell 1
        have c2 := K1.out.cell 2
        have c3 := K1.out.cell 3
        simp at c0 c1 c2 c3
        go_wp2_with fail
        refine (i_formatLine (xk, xs, xa, xe) A1 A2 d1 d2 _ (by simp only; omega) I1.out HSZ.out (HP.out.below B1.out)).mono ?_
        rintro e w2 ⟨rfl, hb2⟩
        have B2 := hide (B1.out.trans (hb2.mono B1.out.size))
        clear hb2 c0 c1 c2 c3
        generalize fmtLnF (xk, xs, xa, xe) = t at *
        have ht1 : (t ++ ⟨#[10]⟩ : ByteArray).size = t.size + 1 := by rw [ByteArray.size_append]; rfl
        go_wp2_with fail
        go_roundw
        case rel => exact ⟨k + 1, by omega, by go_num, by rw [HX.out], HN.out, B2.out⟩
        case measure => simp [intOf]; omega
    · have hkn : k = n := by omega
      have HN : Hid (fmtPF L = catL (L.take k) ⟨#[]⟩) := by
        show _ = _
        rw [List.take_of_length_le (by rw [HL.out]; omega)]
        exact fmtPF_good (by rw [HL.out]; omega) (fun i hi => HO.out i (by rw [HL.out] at hi; omega) hi)
      generalize catL (L.take k) ⟨#[]⟩ = S at *
      go_wp2_with fail
      go_ret
      exact ⟨by rw [HN.out]; rfl, HB.out⟩
end Go.Proofs.YtclldakoinnhhaaDoor
namespace Go.Proofs.YtclldakoinnhhaaDoor
open Go Go.RowKit
set_option maxRecDepth 100000
/-! A token is parsed from its own word. -/
theorem ba_empty {s : ByteArray} (h : s.data.toList.isEmpty = true) : s = ⟨#[]⟩ := by
  have h1 := List.isEmpty_iff.1 h
  exact ByteArray.ext (Array.ext' (by simpa using h1))
theorem itoa_ne (n : Int) : (⟨(Lib.itoa n).toArray⟩ : ByteArray) ≠ ⟨#[]⟩ := fun e => by
  have h := (itoa_pu n).2.2
  have e2 : (⟨(Lib.itoa n).toArray⟩ : ByteArray).data.toList = [] := by rw [e]
  have e3 : Lib.itoa n = [] := by simpa using e2
  rw [e3] at h
  cases h
theorem pt_num {n : Int} (h : 0 ≤ n ∧ n ≤ 999) : ptF ⟨(Lib.itoa n).toArray⟩ = some (0, n, ⟨#[]⟩) := by
  obtain ⟨a, b, c⟩ := itoa_pu n
  have hl : (⟨(Lib.itoa n).toArray⟩ : ByteArray).data.toList = Lib.itoa n := by simp
  have hT : ptTok ⟨(Lib.itoa n).toArray⟩ = (0, n, ⟨#[]⟩) := by
    unfold ptTok
    rw [hl, if_pos (by rw [a, decide_eq_true (show 0 ≤ n by omega), decide_eq_true (show n ≤ 1000000000 by omega)]; rfl), b (by omega)]
  unfold ptF
  rw [hT, if_pos ⟨itoa_ne n, by rw [fmt_num, if_pos h]⟩]
theorem pt_call {m : Int} {z : ByteArray} (h : 0 ≤ m ∧ m ≤ 4) (hz : nameOkF z.data.toList = true) : ptF ((z ++ ⟨#[47]⟩) ++ ⟨(Lib.itoa m).toArray⟩) = some (7, m, z) := by
  obtain ⟨a, b, c⟩ := itoa_pu m
  obtain ⟨hne, hlow⟩ := name_low hz
  have hl : ((z ++ ⟨#[47]⟩) ++ ⟨(Lib.itoa m).toArray⟩ : ByteArray).data.toList = z.data.toList ++ 47 :: Lib.itoa m := by simp
  have h47 : (47 : UInt8) ∉ z.data.toList := fun hm => (low_not (hlow _ hm)).2 rfl
  have hcut := cut_eq (s := (z ++ ⟨#[47]⟩) ++ ⟨(Lib.itoa m).toArray⟩) hl h47
  have hp : ¬ puB (z.data.toList ++ 47 :: Lib.itoa m) = true := fun hp => by
    have := (pu_dig hp).2 47 (by simp)
    revert this; decide
  have hsz : ((z ++ ⟨#[47]⟩) ++ ⟨(Lib.itoa m).toArray⟩ : ByteArray).size ≠ 1 := fun e => by
    have h1 : ((z ++ ⟨#[47]⟩) ++ ⟨(Lib.itoa m).toArray⟩ : ByteArray).data.toList.length = 1 := e
    rw [hl] at h1
    simp at h1
    have := List.length_pos_iff.2 hne
    simp at this
    omega
  have hT : ptTok ((z ++ ⟨#[47]⟩) ++ ⟨(Lib.itoa m).toArray⟩) = (7, m, z) := by
    unfold ptTok
    rw [hl, if_neg hp, if_neg (fun e => hsz e.1), hcut]
    rw [if_pos ⟨rfl, by rw [a, decide_eq_true (show 0 ≤ m by omega), decide_eq_true (show m ≤ 1000000000 by omega)]; rfl⟩, b (by omega)]
  have hne2 : ((z ++ ⟨#[47]⟩) ++ ⟨(Lib.itoa m).toArray⟩ : ByteArray) ≠ ⟨#[]⟩ := fun e => by
    have e2 : ((z ++ ⟨#[47]⟩) ++ ⟨(Lib.itoa m).toArray⟩ : ByteArray).data.toList = [] := by rw [e]
    rw [hl] at e2
    exact absurd e2 (by simp)
  unfold ptF
  rw [hT, if_pos ⟨hne2, by rw [fmt_call, if_pos ⟨h, hz⟩]⟩]
theorem ptF_fmt {t : Tk} (h : tkOk t = true) : ptF (fmtTkF t) = some t := by
  obtain ⟨k, n, s⟩ := t
  have h' : tokOkF k n s.data.toList = true := h
  have hc := tok_cases k n _ h'
  unfold tokOkF btw at h'
  have sign : ∀ j : Nat, j < 5 → k = (j : Int) + 2 → ptF (fmtTkF (k, n, s)) = some (k, n, s) := by
    intro j hj hk
    subst hk
    rw [if_neg (by omega), if_neg (by omega), if_neg (by omega)] at h'
    simp only [Bool.and_eq_true, decide_eq_true_eq] at h'
    obtain ⟨⟨_, rfl⟩, h3⟩ := h'
    obtain rfl := ba_empty h3
    rw [show ((j : Int) + 2) = 2 + (j : Int) by omega, (opq_of j hj).2.2, pt_sign j hj, show ((j : Int) + 2) = 2 + (j : Int) by omega]
  rcases hc with ⟨rfl, h0, h1⟩ | rfl | ⟨rfl, h0, h1⟩ | hk
  · rw [if_pos rfl] at h'
    simp only [Bool.and_eq_true] at h'
    obtain rfl := ba_empty h'.2
    rw [fmt_num, if_pos ⟨h0, h1⟩, pt_num ⟨h0, h1⟩]
  · rw [if_neg (by omega), if_neg (by omega), if_pos rfl] at h'
    simp only [Bool.and_eq_true, decide_eq_true_eq] at h'
    obtain ⟨rfl, h2⟩ := h'
    have : fmtTkF (1, 0, s) = s := by unfold fmtTkF; rw [if_pos h]; rfl
    rw [this, pt_name h2]
  · rw [if_neg (by omega), if_pos rfl] at h'
    simp only [Bool.and_eq_true] at h'
    rw [fmt_call, if_pos ⟨⟨h0, h1⟩, h'.2⟩, pt_call ⟨h0, h1⟩ h'.2]
  · rcases hk with rfl | rfl | rfl | rfl | rfl
    · exact sign 0 (by omega) (by omega)
    · exact sign 1 (by omega) (by omega)
    · exact sign 2 (by omega) (by omega)
    · exact sign 3 (by omega) (by omega)
    · exact sign 4 (by omega) (by omega)
theorem toksOf_fmt {l : List Tk} (h : ∀ t ∈ l, tkOk t = true) : toksOf (l.map fmtTkF) = some l := by
  induction l with
  | nil => rfl
  | cons t l ih =>
    rw [List.map_cons, toksOf, ptF_fmt (h t List.mem_cons_self)]
    simp only [ih (fun u hu => h u (List.mem_cons_of_mem _ hu)), Option.map_some]
end Go.Proofs.YtclldakoinnhhaaDoor
namespace Go.Proofs.YtclldakoinnhhaaDoor
open Go Go.RowKit
set_option maxRecDepth 100000
/-! A program is parsed from its own text. -/
theorem peL_fmt {l : List Tk} (h : exprOkF l = true) : peL (l.map fmtTkF) = l := (pe_good (toksOf_fmt (exprOk_toks h)) h).1
theorem lnG_words {x : Ln} (h : lineOkF x = true) : lnG (allW x) = x := by
  obtain ⟨⟨m, hm, hm8⟩, h1, h2, h3, h4, h5, h6⟩ := lineOk_parts h
  obtain ⟨k, s, ar, ex⟩ := x
  simp only at hm h1 h2 h3 h4 h5 h6
  subst hm
  have hw : allW ((m : Int), s, ar, ex) = kw m :: ((if s = ⟨#[]⟩ then [] else [s]) ++ ar ++ ex.map fmtTkF) := by unfold allW lnHead; simp
  rw [hw]
  unfold lnG
  rw [List.headD_cons, List.tail_cons, kwI_kw m hm8]
  by_cases hq : (m : Int) = 0 ∨ (m : Int) = 1
  · have hn := h1 hq
    have hs : s ≠ ⟨#[]⟩ := fun e => by rw [e] at hn; revert hn; decide
    rw [if_neg hs]
    unfold nmR
    rw [if_pos ⟨hq, by simp⟩]
    simp only [List.cons_append, List.nil_append, List.headD_cons, List.tail_cons]
    unfold lnG1
    by_cases h0 : (m : Int) = 0
    · have hx := h6 (by rw [h0]; decide)
      subst hx
      rw [if_pos h0, if_pos h0]; simp
    · rw [if_neg h0, if_neg h0]
      have h7 := h4 h0
      subst h7
      have hx := h5 (by rw [show (m : Int) = 1 by omega]; decide)
      simp [peL_fmt hx]
  · have hs := h2 hq
    subst hs
    rw [if_pos rfl]
    unfold nmR
    rw [if_neg (fun e => hq e.1)]
    unfold lnG1
    have hne : ¬ (m : Int) = 0 := fun e => hq (.inl e)
    rw [if_neg hne, if_neg hne, h4 hne]
    cases hx : hasExprF (m : Int)
    · rw [h6 hx]; simp [peL_nil]
    · simp [peL_fmt (h5 hx)]
theorem pl_round {x : Ln} (h : lineOkF x = true) : plB (fmtLnF x) = true ∧ plX (fmtLnF x) = x := by
  obtain ⟨g1, g2, g3, g4⟩ := line_split h rfl
  have e := lnG_words h
  have hb := (pl_of_fields (s := fmtLnF x) (by rw [g2]; exact g4) (by rw [g2, e]; exact h) (by rw [g2, e])).1
  exact ⟨hb, by unfold plX; rw [if_pos hb, g3, e]⟩
theorem fmtLn_no10 {x : Ln} (h : lineOkF x = true) : ∀ b ∈ (fmtLnF x).data.toList, b ≠ 10 := by
  obtain ⟨_, _, h3, h4⟩ := lineOk_words h
  intro b hb e
  subst e
  rw [h4] at hb
  rcases jn_mem _ _ (by simpa [jb] using hb) with h | ⟨w, hw, hc⟩
  · revert h; decide
  · obtain ⟨a, ha, rfl⟩ := List.mem_map.1 hw
    have := ((h3 a ha).2.1 10 hc).2
    revert this; decide
theorem catL_data (L : List Ln) : ∀ a : ByteArray, (catL L a).data.toList = a.data.toList ++ L.flatMap fun x => (fmtLnF x).data.toList ++ [10] := by
  induction L with
  | nil => intro a; simp [catL]
  | cons x L ih => intro a; rw [catL, ih, List.flatMap_cons]; simp
theorem ppL_cat (L : List Ln) (h : ∀ x ∈ L, lineOkF x = true) : ppL (L.flatMap fun x => (fmtLnF x).data.toList ++ [10]) [] = some L := by
  induction L with
  | nil => rfl
  | cons x L ih =>
    have hx := h x List.mem_cons_self
    obtain ⟨p1, p2⟩ := pl_round hx
    rw [List.flatMap_cons, List.append_assoc, List.singleton_append, ppL_cut _ _ [] (fmtLn_no10 hx), List.nil_append]
    have e : (⟨(fmtLnF x).data.toList.toArray⟩ : ByteArray) = fmtLnF x := by simp
    rw [e, if_pos p1, p2, ih (fun y hy => h y (List.mem_cons_of_mem _ hy))]
    rfl
theorem ppF_fmt {L : List Ln} (hl : L.length ≤ 60) (h : ∀ x ∈ L, lineOkF x = true) : ppF (fmtPF L) = some L := by
  rw [fmtPF_good hl (fun i hi => h _ (List.getElem_mem hi))]
  refine ppF_some ?_ hl
  rw [catL_data]
  exact ppL_cat L h
theorem fmtPF_ne {L : List Ln} (h0 : 1 ≤ L.length) (hl : L.length ≤ 60) (h : ∀ x ∈ L, lineOkF x = true) : 0 < (fmtPF L).size := by
  rw [fmtPF_good hl (fun i hi => h _ (List.getElem_mem hi))]
  have e : (catL L ⟨#[]⟩).data.toList.length = (catL L ⟨#[]⟩).size := rfl
  rw [catL_data] at e
  cases L with
  | nil => simp at h0
  | cons x L => rw [List.flatMap_cons] at e; simp at e; omega
theorem fmtPF_size (L : List Ln) : (fmtPF L).size ≤ 317340 := by
  unfold fmtPF
  split
  · rename_i h
    have := catL_size L ⟨#[]⟩
    have h0 : (⟨#[]⟩ : ByteArray).size = 0 := rfl
    omega
  · exact Nat.zero_le _
end Go.Proofs.YtclldakoinnhhaaDoor
namespace Go.Proofs.YtclldakoinnhhaaDoor
open Go Go.RowKit
set_option maxRecDepth 100000
set_option linter.unusedVariables false
set_option linter.unusedSimpArgs false
set_option maxHeartbeats 4000000 in
theorem l_sameLines (A A' : Option Addr) (n c c' : Nat) (l : List Ln) (w : World) (hn : n ≤ 1048576) (hsz : ∀ x ∈ l, x.2.2.1.length + x.2.2.2.length ≤ 24) (h : InLines w A n l) (h' : InLines w A' n l) :
    Calls Tryd.prog 20 #[.slice A n c, .slice A' n c'] w fun e w' => e = .returned (.bool true) ∧ Below w.heap.size w w' := by
  have HL := hide h.len
  have HSZ := hide hsz
  have H := hide h
  have H' := hide h'
  clear h h' hsz
  have zz : ((n : Int) != (n : Int)) = false := by simp
  go_enter Tryd.func20, Tryd.ntmps20
  go_wp2_with fail
  go_loopw [5] (fun i wr => ∃ k : Nat, k ≤ n ∧ i = .int .i64 k ∧ Below w.heap.size w wr) (fun i _ => n - (intOf i).toNat)
  case atStart => exact ⟨0, Nat.zero_le _, rfl, Below.refl _ _⟩
  case round =>
    obtain ⟨k, hk, rfl, hb⟩ := hrel
    have B1 := hide hb
    have R := hide (H.out.below hb)
    have R' := hide (H'.out.below hb)
    clear hb
    by_cases hlt : k < n
    · have hkl : k < l.length := by rw [HL.out]; exact hlt
      obtain ⟨b, o, A1, c1, A2, c2, rfl, _, p0, p1, p2, p3, hln⟩ := R.out.ln k hkl
      obtain ⟨b', o', B1', d1, B2', d2, rfl, _, q0, q1, q2, q3, hln'⟩ := R'.out.ln k hkl
      have hs := HSZ.out _ (List.getElem_mem hkl)
      generalize l[k] = x at *
      have LN := hide hln
      have LN' := hide hln'
      have CB : Hid (∀ w', Below wr.heap.size wr w' → ∀ a v, wr.cell? a = some v → w'.cell? a = some v) := fun w' hb a v h => (hb.cell (block_lt_of_cell h)).trans h
      have hkn : (k : Int) < n := by omega
      have hk0 : (0 : Int) ≤ (k : Int) := by omega
      clear hln hln'
      go_upto_region 6 with fail
      go_cut [26] from 17 to 25 (fun s26 wx => s26 = .bool false ∧ Below w.heap.size w wx)
      case first =>
        go_region_held3 (fun w' => (w'.cell? ⟨b, o + k * 4, none⟩ = some (.int .i64 x.1) ∧ w'.cell? ⟨b, o + k * 4 + 1, none⟩ = some (.string x.2.1) ∧ w'.cell? ⟨b, o + k * 4 + 2, none⟩ = some (.slice A1 x.2.2.1.length c1) ∧ w'.cell? ⟨b, o + k * 4 + 3, none⟩ = some (.slice A2 x.2.2.2.length c2)) ∧ (w'.cell? ⟨b', o' + k * 4, none⟩ = some (.int .i64 x.1) ∧ w'.cell? ⟨b', o' + k * 4 + 1, none⟩ = some (.string x.2.1) ∧ w'.cell? ⟨b', o' + k * 4 + 2, none⟩ = some (.slice B1' x.2.2.1.length d1) ∧ w'.cell? ⟨b', o' + k * 4 + 3, none⟩ = some (.slice B2' x.2.2.2.length d2))) (first | exact ⟨⟨p0, p1, p2, p3⟩, ⟨q0, q1, q2, q3⟩⟩ | exact ⟨⟨CB.out _ HB2.out _ _ p0, CB.out _ HB2.out _ _ p1, CB.out _ HB2.out _ _ p2, CB.out _ HB2.out _ _ p3⟩, ⟨CB.out _ HB2.out _ _ q0, CB.out _ HB2.out _ _ q1, CB.out _ HB2.out _ _ q2, CB.out _ HB2.out _ _ q3⟩⟩)
          (first | (go_at_call 38; refine (s_sameLine x x A1 A2 B1' B2' c1 c2 d1 d2 _ (by omega) (by omega) (by omega) (by omega) (LN.out.below (by first | with_reducible exact (Below.refl _ _).drew | with_reducible exact Below.refl _ _)) (LN'.out.below (by first | with_reducible exact (Below.refl _ _).drew | with_reducible exact Below.refl _ _))).mono ?_; rintro e w2 ⟨he, hb2⟩; rw [same_of rfl] at he; subst he; have HB2 := hide (below_transD (B := wr.heap.size) (a := wr) hb2 (by first | with_reducible exact (Below.refl _ _).drew | with_reducible exact Below.refl _ _)); clear hb2))
        all_goals
          go_wp2_with fail
        all_goals
          go_meet
          exact ⟨rfl, B1.out.trans (HB2.out.mono B1.out.size)⟩
      case rest =>
        obtain ⟨rfl, hbx⟩ := hcut
        have B2 := hide hbx
        clear hbx
        go_wp2_with fail
        go_roundw
        case rel => exact ⟨k + 1, by omega, by go_num, B2.out⟩
        case measure => simp [intOf]; omega
    · have z : decide (k < n) = false := decide_eq_false hlt
      go_wp2_with fail
      go_ret
      exact ⟨rfl, B1.out⟩
namespace fnProgramText
set_option maxHeartbeats 4000000 in
theorem walk (v0 : Value) (w : World) (hp : PowIs w) (hmx : MaxIs w) (h0 : InBytes w v0) : Calls Tryd.prog 4 #[v0] w fun e w' => e = .returned (.bool true) ∧ Below w.heap.size w w' := by
  obtain ⟨A, n, c, rfl, hnc, hc, hrow⟩ := h0
  have hn : n ≤ maxLen := by omega
  have HR := hide (CodeAt.of_in hnc hc hrow)
  have HP := hide hp
  have HM := hide hmx
  clear hrow hp hmx
  by_cases hbig : 1048576 < n
  · have hd : decide (1048576 < n) = true := by simpa using hbig
    go_enter Tryd.func4, Tryd.ntmps4
    go_wp2_with (go_at_call 5; refine (l_big _ _ _ hn _).mono ?_; rintro e w' ⟨rfl, rfl⟩)
    go_ret
    exact ⟨rfl, Below.refl _ _⟩
  have hd : decide (1048576 < n) = false := by simpa using hbig
  go_enter Tryd.func4, Tryd.ntmps4
  go_wp2_with fail
  refine (l_big _ _ _ hn _).mono ?_
  rintro e w' ⟨rfl, rfl⟩
  go_wp2_with fail
  refine (s_drawProgram _ _ _ _ HR.out).mono ?_
  rintro e w1 ⟨⟨A', c', L, rfl, hO, hok, hl0, hl1⟩, hb1⟩
  have B1 := hide hb1
  obtain ⟨m, hm⟩ : ∃ m, L.length = m := ⟨_, rfl⟩
  have R1 := hide (hO.in_ hm)
  have HOK := hide hok
  have HSZ : Hid (∀ x ∈ L, LnSz x) := fun x hx => (lineOk_szQ (hok x hx)).1
  have H24 : Hid (∀ x ∈ L, x.2.2.1.length + x.2.2.2.length ≤ 24) := fun x hx => (lineOk_szQ (hok x hx)).2
  have hT : m + lnTot L ≤ 10000 := by have := lnTot_leQ L (fun x hx => (lineOk_szQ (hok x hx)).2); omega
  rw [hm]
  have HL := hide hm
  have hm400 : m ≤ 400 := by omega
  have hm1 : 1 ≤ m := by omega
  have hs := fmtPF_size L
  by_cases hlong : 60 < m
  · have HE := hide (fmtPF_long (show 60 < L.length by omega))
    have z1 : decide ((60 : Int) < (m : Int)) = true := decide_eq_true (by omega)
    have z2 : decide (60 < m) = true := decide_eq_true hlong
    clear hO hok hb1 hd hbig hn hl0 hl1 hm hlong
    go_wp2_with fail
    refine (i_formatProgram A' m c' L _ (by omega) R1.out HSZ.out (HP.out.below B1.out)).mono ?_
    rintro e w2 ⟨rfl, hb2⟩
    have B2 := hide (B1.out.trans (hb2.mono B1.out.size))
    clear hb2
    go_wp2_with fail
    refine (i_parseProgram (fmtPF L) (by omega) _ (HP.out.below B2.out) (HM.out.below B2.out)).mono ?_
    rintro e w3 ⟨⟨Aq, cq, rfl, _⟩, hb3⟩
    have B3 := hide (B2.out.trans (hb3.mono B2.out.size))
    have hz0 := toList_e2 HE.out
    clear hb3
    go_wp2_with fail
    go_ret
    exact ⟨rfl, B3.out⟩
  have hpf := ppF_fmt (L := L) (by omega) hok
  have hne := fmtPF_ne (L := L) hl0 (by omega) hok
  have z1 : decide ((60 : Int) < (m : Int)) = false := decide_eq_false (by omega)
  have z2 : decide (60 < m) = false := decide_eq_false hlong
  have z3 : decide (0 < (fmtPF L).size) = true := decide_eq_true hne
  have HPF := hide hpf
  clear hO hok hb1 hd hbig hn hl0 hl1 hm hpf hne
  go_wp2_with fail
  refine (i_formatProgram A' m c' L _ (by omega) R1.out HSZ.out (HP.out.below B1.out)).mono ?_
  rintro e w2 ⟨rfl, hb2⟩
  have B2 := hide (B1.out.trans (hb2.mono B1.out.size))
  have R2 := hide (R1.out.below hb2)
  have FP : Hid (∀ (A : Option Addr) (c : Nat) (w : World), InLines w A m L → PowIs w → Calls Tryd.prog 14 #[.slice A m c] w fun e w' => e = .returned (.string (fmtPF L)) ∧ Below w.heap.size w w') := fun A c w h hp => i_formatProgram A m c L w (by omega) h HSZ.out hp
  clear hb2 R1 B1
  generalize fmtPF L = S at *
  go_wp2_with fail
  refine (i_parseProgram S (by omega) _ (HP.out.below B2.out) (HM.out.below B2.out)).mono ?_
  rintro e w3 ⟨⟨Aq, cq, rfl, hq⟩, hb3⟩
  rw [HPF.out] at hq ⊢
  have hq' : OwnLines w3 w2.heap.size w3.heap.size Aq L := hq
  have RQ := hide (hq'.in_ HL.out)
  have B3 := hide (B2.out.trans (hb3.mono B2.out.size))
  have R3 := hide (R2.out.below hb3)
  have hLl : ((some L).getD [] : List Ln).length = m := HL.out
  rw [hLl]
  simp only [Option.isSome_some]
  clear hq hq' hb3 R2 B2 hLl
  go_wp2_with fail
  go_loopw [7] (fun kv wr => ∃ k : Nat, kv = .int .i64 k ∧ k ≤ m ∧ Below w.heap.size w wr ∧ Below w3.heap.size w3 wr) (fun kv _ => m - (intOf kv).toNat)
  case atStart => exact ⟨0, rfl, Nat.zero_le _, B3.out, Below.refl _ _⟩
  case round =>
    obtain ⟨k, rfl, hk, hb, hb'⟩ := hrel
    have B4 := hide hb
    have BB := hide hb'
    have R4 := hide (R3.out.below hb')
    have RQ4 := hide (RQ.out.below hb')
    clear hb hb'
    by_cases hlt : k < m
    · have hkl : k < L.length := by rw [HL.out]; exact hlt
      obtain ⟨b, o, A1, c1, A2, c2, hA', _, p0, p1, p2, p3, hln⟩ := R4.out.ln k hkl
      have hokk := HOK.out _ (List.getElem_mem hkl)
      have hszk := HSZ.out _ (List.getElem_mem hkl)
      have h24k := H24.out _ (List.getElem_mem hkl)
      obtain ⟨r1, r2⟩ := pl_round hokk
      have hfs := fmtLn_size L[k]
      subst hA'
      generalize L[k] = x at *
      have LN := hide hln
      have OKX := hide hokk
      have SZX := hide hszk
      have PB := hide r1
      have PX := hide r2
      have hkn : (k : Int) < m := by omega
      have hk0 : (0 : Int) ≤ (k : Int) := by omega
      clear hln hokk hszk r1 r2
      go_wp2_with fail
      refine (i_formatLine x A1 A2 c1 c2 _ (by omega) LN.out SZX.out (HP.out.below B4.out)).mono ?_
      rintro e w5 ⟨rfl, hb5⟩
      have B5 := hide (B4.out.trans (hb5.mono B4.out.size))
      have C5 := hide hb5
      clear hb5
      go_wp2_with fail
      refine (i_parseLine (fmtLnF x) (by omega) _ (HP.out.below B5.out) (HM.out.below B5.out)).mono ?_
      rintro e w6 ⟨⟨P1, q1, P2, q2, rfl, hown, hcap⟩, hb6⟩
      rw [PB.out]
      rw [PX.out] at hown hcap ⊢
      have LP6 := hide (lnIn_of_own (p := (x, P1, q1, P2, q2)) hown.rows hcap)
      have C6 := hide (C5.out.trans (hb6.mono C5.out.size))
      clear hown hcap hb6 B5 C5
      go_wp2_with fail
      have K7 := hide (Blk.new w6 29 #[.int .i64 x.1, .string x.2.1, .slice P1 x.2.2.1.length q1, .slice P2 x.2.2.2.length q2])
      have C7 := hide (C6.out.alloc C6.out.size (.cells #[.int .i64 x.1, .string x.2.1, .slice P1 x.2.2.1.length q1, .slice P2 x.2.2.2.length q2] 29))
      have LP7 := hide (LP6.out.below ((Below.refl _ _).alloc (Nat.le_refl _) (.cells #[.int .i64 x.1, .string x.2.1, .slice P1 x.2.2.1.length q1, .slice P2 x.2.2.2.length q2] 29)))
      clear C6 LP6
      generalize w6.alloc (.cells #[.int .i64 x.1, .string x.2.1, .slice P1 x.2.2.1.length q1, .slice P2 x.2.2.2.length q2] 29) = w7 at *
      have LN7 := hide (LN.out.below C7.out)
      have g0 := K7.out.cell 0
      have g1 := K7.out.cell 1
      have g2 := K7.out.cell 2
      have g3 := K7.out.cell 3
      simp at g0 g1 g2 g3
      have CR : Hid (∀ a v, wr.cell? a = some v → w7.cell? a = some v) := fun a v h => (C7.out.cell (block_lt_of_cell h)).trans h
      have t0 := CR.out _ _ p0
      have t1 := CR.out _ _ p1
      have t2 := CR.out _ _ p2
      have t3 := CR.out _ _ p3
      have CB : Hid (∀ w', Below w7.heap.size w7 w' → ∀ a v, w7.cell? a = some v → w'.cell? a = some v) := fun w' hb a v h => (hb.cell (block_lt_of_cell h)).trans h
      generalize w6.heap.size = gx at *
      clear K7 CR p0 p1 p2 p3
      go_cut [56] from 41 to 55 (fun s56 wx => s56 = .bool false ∧ Below wr.heap.size wr wx)
      case first =>
        go_region_held3 (fun w' => (w'.cell? ⟨gx, 0, none⟩ = some (.int .i64 x.1) ∧ w'.cell? ⟨gx, 1, none⟩ = some (.string x.2.1) ∧ w'.cell? ⟨gx, 2, none⟩ = some (.slice P1 x.2.2.1.length q1) ∧ w'.cell? ⟨gx, 3, none⟩ = some (.slice P2 x.2.2.2.length q2)) ∧ (w'.cell? ⟨b, o + k * 4, none⟩ = some (.int .i64 x.1) ∧ w'.cell? ⟨b, o + k * 4 + 1, none⟩ = some (.string x.2.1) ∧ w'.cell? ⟨b, o + k * 4 + 2, none⟩ = some (.slice A1 x.2.2.1.length c1) ∧ w'.cell? ⟨b, o + k * 4 + 3, none⟩ = some (.slice A2 x.2.2.2.length c2))) (first | exact ⟨⟨g0, g1, g2, g3⟩, ⟨t0, t1, t2, t3⟩⟩ | exact ⟨⟨CB.out _ HB9.out _ _ g0, CB.out _ HB9.out _ _ g1, CB.out _ HB9.out _ _ g2, CB.out _ HB9.out _ _ g3⟩, ⟨CB.out _ HB9.out _ _ t0, CB.out _ HB9.out _ _ t1, CB.out _ HB9.out _ _ t2, CB.out _ HB9.out _ _ t3⟩⟩ | exact ⟨⟨CB.out _ HB8.out _ _ g0, CB.out _ HB8.out _ _ g1, CB.out _ HB8.out _ _ g2, CB.out _ HB8.out _ _ g3⟩, ⟨CB.out _ HB8.out _ _ t0, CB.out _ HB8.out _ _ t1, CB.out _ HB8.out _ _ t2, CB.out _ HB8.out _ _ t3⟩⟩)
          (first
            | (go_at_call 18; refine (i_sameLine x x P1 P2 A1 A2 q1 q2 c1 c2 _ (by omega) (by omega) (by omega) (by omega) (LP7.out.below (by first | with_reducible exact (Below.refl _ _).drew | with_reducible exact Below.refl _ _)) (LN7.out.below (by first | with_reducible exact (Below.refl _ _).drew | with_reducible exact Below.refl _ _))).mono ?_; rintro e w8 ⟨he, hb8⟩; rw [same_of rfl] at he; subst he; have HB8 := hide (below_transD (B := w7.heap.size) (a := w7) hb8 (by first | with_reducible exact (Below.refl _ _).drew | with_reducible exact Below.refl _ _)); have LP8 := hide (LP7.out.below HB8.out); clear hb8)
            | (go_at_call 19; refine (i_lineOk x P1 P2 q1 q2 _ (by omega) LP8.out SZX.out).mono ?_; rintro e w9 ⟨he, hb9⟩; rw [OKX.out] at he; subst he; have HB9 := hide (HB8.out.trans (hb9.mono HB8.out.size)); clear hb9))
        all_goals
          go_wp2_with fail
        all_goals
          go_meet
          exact ⟨rfl, C7.out.trans (HB9.out.mono C7.out.size)⟩
      case rest =>
        obtain ⟨rfl, hbx⟩ := hcut
        have CX := hide hbx
        clear hbx
        go_wp2_with fail
        go_roundw
        case rel => exact ⟨k + 1, by go_num, by omega, B4.out.trans (CX.out.mono B4.out.size), BB.out.trans (CX.out.mono BB.out.size)⟩
        case measure => simp [intOf]; omega
    · have z : decide (k < m) = false := decide_eq_false hlt
      have zs : (S.toList == S.toList) = true := by simp
      go_wp2_with fail
      refine (l_sameLines _ _ m _ _ L _ (by omega) H24.out R4.out RQ4.out).mono ?_
      rintro e w5 ⟨rfl, hb5⟩
      have B5 := hide (B4.out.trans (hb5.mono B4.out.size))
      have RQ5 := hide (RQ4.out.below hb5)
      clear hb5
      go_wp2_with fail
      refine (FP.out _ _ _ RQ5.out (HP.out.below B5.out)).mono ?_
      rintro e w6 ⟨rfl, hb6⟩
      have B6 := hide (B5.out.trans (hb6.mono B5.out.size))
      clear hb6
      go_wp2_with fail
      go_ret
      exact ⟨rfl, B6.out⟩
end fnProgramText
end Go.Proofs.YtclldakoinnhhaaDoor
