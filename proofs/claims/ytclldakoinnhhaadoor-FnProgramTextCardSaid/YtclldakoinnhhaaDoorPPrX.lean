import Derived.Test.YtclldakoinnhhaaDoorPLinL
import Derived.Test.YtclldakoinnhhaaDoorPExp
import Derived.Test.YtclldakoinnhhaaDoorOwnG
namespace Go.Proofs.YtclldakoinnhhaaDoor
open Go Go.RowKit
set_option maxRecDepth 100000
/-! The line of a text: from its words. -/
def kwI (s : ByteArray) : Int := idxF kws s
theorem kwI_kw (m : Nat) (h : m < 8) : kwI (kw m) = m := by
  have : m = 0 ∨ m = 1 ∨ m = 2 ∨ m = 3 ∨ m = 4 ∨ m = 5 ∨ m = 6 ∨ m = 7 := by omega
  rcases this with rfl | rfl | rfl | rfl | rfl | rfl | rfl | rfl <;> decide
theorem idxFrom_hit (s : ByteArray) : ∀ (l : List ByteArray) (k : Nat) (j : Nat), idxFrom s l k = ((k + j : Nat) : Int) → l[j]? = some s := by
  intro l
  induction l with
  | nil => intro k j h; simp [idxFrom] at h; omega
  | cons x l ih =>
    intro k j h
    rw [idxFrom] at h
    split at h
    · rename_i hx
      have : j = 0 := by omega
      subst this
      simp [hx]
    · rcases idxFrom_ge s l (k + 1) with h' | h'
      · rw [h'] at h; omega
      · obtain ⟨i, rfl⟩ : ∃ i, j = i + 1 := ⟨j - 1, by omega⟩
        rw [show k + (i + 1) = k + 1 + i by omega] at h
        simpa using ih (k + 1) i h
theorem kwI_hit {s : ByteArray} {m : Nat} (h : kwI s = m) : kw m = s := by
  have := idxFrom_hit s kws 0 m (by rw [Nat.zero_add]; exact h)
  unfold kw
  rw [this]; rfl
theorem kwI_range (s : ByteArray) : -1 ≤ kwI s ∧ kwI s < 8 := idxF_le kws s
/-- Which of the first m words it is. -/
def kwTo (s : ByteArray) (m : Nat) : Int := if 0 ≤ kwI s ∧ kwI s < m then kwI s else -1
theorem kwTo_zero (s : ByteArray) : kwTo s 0 = -1 := by unfold kwTo; rw [if_neg (by omega)]
theorem kwTo_hit {s : ByteArray} {m : Nat} (hm : m < 8) (h : kw m = s) : kwTo s (m + 1) = m := by
  have := kwI_kw m hm
  rw [h] at this
  unfold kwTo
  rw [if_pos (by omega), this]
theorem kwTo_miss {s : ByteArray} {m : Nat} (h : kw m ≠ s) : kwTo s (m + 1) = kwTo s m := by
  have hne : kwI s ≠ (m : Int) := fun e => h (kwI_hit e)
  unfold kwTo
  by_cases hc : 0 ≤ kwI s ∧ kwI s < m
  · rw [if_pos (by omega), if_pos hc]
  · rw [if_neg (by omega), if_neg hc]
theorem kwTo_end (s : ByteArray) : kwTo s 8 = kwI s := by
  have := kwI_range s
  unfold kwTo
  split <;> omega
def nmR (kd : Int) (rest : List ByteArray) : ByteArray × List ByteArray := if (kd = 0 ∨ kd = 1) ∧ rest ≠ [] then (rest.headD ⟨#[]⟩, rest.tail) else (⟨#[]⟩, rest)
noncomputable def lnG1 (kd : Int) (p : ByteArray × List ByteArray) : Ln := (kd, p.1, if kd = 0 then p.2 else [], if kd = 0 then [] else peL p.2)
noncomputable def lnG (W : List ByteArray) : Ln := lnG1 (kwI (W.headD ⟨#[]⟩)) (nmR (kwI (W.headD ⟨#[]⟩)) W.tail)
theorem peL_nil : peL [] = [] := by
  have h : exprOkF [] = false := by decide
  exact (pe_bad (W := []) rfl h).1
noncomputable def plB (s : ByteArray) : Bool := yes (s ≠ ⟨#[]⟩ ∧ fmtLnF (lnG (splW s)) = s)
noncomputable def plX (s : ByteArray) : Ln := if plB s = true then lnG (splW s) else (0, ⟨#[]⟩, [], [])
theorem fmtLn_bad {x : Ln} (h : lineOkF x = false) : fmtLnF x = ⟨#[]⟩ := by unfold fmtLnF; rw [h]; rfl
theorem yes_prop' {p : Prop} (h : yes p = true) : p := by
  rcases Classical.em p with h' | h'
  · exact h'
  · rw [yes_not h'] at h; cases h
/-- What a text that is a line's has for words. -/
theorem line_split {s : ByteArray} {x : Ln} (hok : lineOkF x = true) (h : fmtLnF x = s) : sfB s = true ∧ sfV s = allW x ∧ splW s = allW x ∧ allW x ≠ [] := by
  obtain ⟨h1, h2, h3, h4⟩ := lineOk_words hok
  rw [h4] at h
  subst h
  obtain ⟨g1, g2, g3⟩ := sf_jb (allW x) h1 h2 h3
  exact ⟨g1, g2, g3, h1⟩
theorem pl_from_split {s : ByteArray} (h : plB s = true) : sfB s = true ∧ sfV s ≠ [] ∧ sfV s = splW s ∧ 0 ≤ (lnG (splW s)).1 ∧ lineOkF (lnG (splW s)) = true ∧ fmtLnF (lnG (splW s)) = s := by
  obtain ⟨h1, h2⟩ := yes_prop' h
  have hok : lineOkF (lnG (splW s)) = true := by
    cases hq : lineOkF (lnG (splW s))
    · rw [fmtLn_bad hq] at h2; exact absurd h2.symm h1
    · rfl
  obtain ⟨g1, g2, g3, g4⟩ := line_split hok h2
  obtain ⟨⟨m, hm, _⟩, _⟩ := lineOk_parts hok
  exact ⟨g1, by rw [g2]; exact g4, g2.trans g3.symm, by omega, hok, h2⟩
theorem pl_of_fields {s : ByteArray} (h1 : sfV s ≠ []) (hok : lineOkF (lnG (sfV s)) = true) (h2 : fmtLnF (lnG (sfV s)) = s) : plB s = true ∧ sfV s = splW s := by
  obtain ⟨g1, g2, g3, g4⟩ := line_split hok h2
  have e : sfV s = splW s := g2.trans g3.symm
  refine ⟨yes_of ⟨?_, by rw [← e]; exact h2⟩, e⟩
  rintro rfl
  apply h1
  rcases Classical.em (sfOk ⟨#[]⟩) with h | h
  · rw [(sf_yes h).1]; unfold fieldsF; rw [fld_end _ _ _ (by decide), if_neg (by decide)]
  · exact (sf_not h).1
theorem splitK_len (sep : List UInt8) : ∀ (k : Nat) (s : List UInt8), ∀ p ∈ Lib.splitK sep 0 k s, p.length ≤ s.length := by
  intro k
  induction k with
  | zero => intro s p hp; simp [Lib.splitK] at hp; rw [hp]; exact Nat.le_refl _
  | succ k ih =>
    intro s p hp
    rw [Lib.splitK] at hp
    split at hp
    · simp at hp; rw [hp]; exact Nat.le_refl _
    · rcases List.mem_cons.1 hp with rfl | hp
      · rw [List.length_take]; omega
      · have := ih _ p hp
        rw [List.length_drop] at this
        omega
theorem splW_size (s : ByteArray) : ∀ a ∈ splW s, a.size ≤ s.size := by
  intro a ha
  have : a.data.toList ∈ (splW s).map (·.data.toList) := List.mem_map_of_mem ha
  rw [splW_data] at this
  exact splitK_len _ _ _ _ this
theorem splW_len (s : ByteArray) : (splW s).length = Lib.countB s ⟨#[32]⟩ + 1 := Lib.splitB_all ⟨#[32]⟩ (by decide) 0 _ s rfl
theorem splW_cnt (s : ByteArray) : Lib.countB s ⟨#[32]⟩ ≤ s.size := Lib.countB_le ⟨#[32]⟩ (by decide) _ s (Nat.le_refl _)
theorem flatB_mem (G : List (List UInt8)) (g : List UInt8) (h : g ∈ G) : g.length ≤ (flatB G).length := by
  induction G with
  | nil => cases h
  | cons x G ih =>
    have e : flatB (x :: G) = (x ++ [32]) ++ flatB G := by simp [flatB]
    rw [e, List.length_append, List.length_append]
    rcases List.mem_cons.1 h with rfl | h
    · omega
    · have := ih h; omega
theorem sfV_size (s : ByteArray) : ∀ a ∈ sfV s, a.size ≤ 601 := by
  intro a ha
  rcases Classical.em (sfOk s) with h | h
  · rw [(sf_yes h).1] at ha
    have hm : a.data.toList ∈ (fieldsF s).map (·.data.toList) := List.mem_map_of_mem ha
    rw [fields_lists] at hm
    have h1 := flatB_mem _ _ hm
    have h2 := splitL_len s.data.toList []
    have h3 : s.data.toList.length = s.size := rfl
    have h4 := h.1
    have h5 : a.data.toList.length = a.size := rfl
    simp only [List.length_nil] at h2
    omega
  · rw [(sf_not h).1] at ha; cases ha
theorem toks_size : ∀ (W : List ByteArray) (l : List Tk), toksOf W = some l → (∀ a ∈ W, a.size ≤ 1048576) → ∀ t ∈ l, t.2.2.size ≤ 1048576 := by
  intro W
  induction W with
  | nil => intro l h _ t ht; simp [toksOf] at h; subst h; cases ht
  | cons a W ih =>
    intro l h hs t ht
    rw [toksOf] at h
    cases hp : ptF a with
    | none => rw [hp] at h; cases h
    | some x =>
      rw [hp] at h
      obtain ⟨y, hy, rfl⟩ := Option.map_eq_some_iff.1 h
      rcases List.mem_cons.1 ht with rfl | ht
      · have := ptF_size hp; have := hs a (by simp); omega
      · exact ih y hy (fun b hb => hs b (by simp [hb])) t ht
theorem peL_size (W : List ByteArray) (h : ∀ a ∈ W, a.size ≤ 1048576) : ∀ t ∈ peL W, t.2.2.size ≤ 1048576 := by
  intro t ht
  cases hk : toksOf W with
  | none => rw [(pe_none hk).1] at ht; cases ht
  | some l =>
    cases hb : exprOkF l
    · rw [(pe_bad hk hb).1] at ht; cases ht
    · rw [(pe_good hk hb).1] at ht; exact toks_size W l hk h t ht
theorem nmR_size (kd : Int) (rest : List ByteArray) (h : ∀ a ∈ rest, a.size ≤ 1048576) : (nmR kd rest).1.size ≤ 1048576 ∧ (∀ a ∈ (nmR kd rest).2, a.size ≤ 1048576) ∧ (nmR kd rest).2.length ≤ rest.length := by
  unfold nmR
  split
  · cases rest with
    | nil => exact ⟨Nat.zero_le _, (fun a ha => by cases ha), Nat.le_refl _⟩
    | cons x r => exact ⟨h x (by simp), fun a ha => h a (by simp at ha; simp [ha]), by simp⟩
  · exact ⟨Nat.zero_le _, h, Nat.le_refl _⟩
theorem lnG1_sz (kd : Int) (rest : List ByteArray) (h : ∀ a ∈ rest, a.size ≤ 1048576) (hl : rest.length ≤ 1048576) : LnSz (lnG1 kd (nmR kd rest)) ∧ (lnG1 kd (nmR kd rest)).2.2.1.length + (lnG1 kd (nmR kd rest)).2.2.2.length ≤ 1048576 := by
  obtain ⟨h1, h2, h3⟩ := nmR_size kd rest h
  have hp := peL_length (nmR kd rest).2
  have hq := peL_size (nmR kd rest).2 h2
  unfold lnG1 LnSz maxLen
  simp only
  by_cases hk : kd = 0
  · rw [if_pos hk, if_pos hk]
    exact ⟨⟨by omega, (fun a ha => by have := h2 a ha; omega), (fun t ht => by cases ht)⟩, by simp; omega⟩
  · rw [if_neg hk, if_neg hk]
    exact ⟨⟨by omega, (fun a ha => by cases ha), (fun t ht => by have := hq t ht; omega)⟩, by simp; omega⟩
end Go.Proofs.YtclldakoinnhhaaDoor
namespace Go.Proofs.YtclldakoinnhhaaDoor
open Go Go.RowKit
set_option maxRecDepth 100000
set_option linter.unusedSimpArgs false
set_option linter.unnecessarySimpa false
theorem kws_row {w : World} {g : Nat} (hg : g < w.heap.size) (hc : ∀ j : Nat, j < 8 → w.cell? ⟨g, j, none⟩ = some (.string (kw j))) : InRow w (some ⟨g, 0, none⟩) 8 1 (strCells kws) :=
  ⟨rfl, fun _ => ⟨g, 0, rfl, hg, fun j hj => by rw [Nat.zero_add, hc j (by omega), kws_at j (by omega)]⟩⟩
def PlRet (s : ByteArray) (w : World) (e : Ending) (w' : World) : Prop := ∃ A1 c1 A2 c2, e = .returned (.tuple #[.agg #[.int .i64 (plX s).1, .string (plX s).2.1, .slice A1 (plX s).2.2.1.length c1, .slice A2 (plX s).2.2.2.length c2], .bool (plB s)]) ∧ Own w' w.heap.size w'.heap.size (lnRows (plX s, A1, c1, A2, c2)) ∧ lnCap (plX s, A1, c1, A2, c2)
theorem InRow.far {w : World} {b o n size : Nat} {xs : List Value} (h : InRow w (some ⟨b, o, none⟩) n size xs) {p : Addr} (hp : b ≠ p.block) (u : Value) : InRow (w.setCell p u) (some ⟨b, o, none⟩) n size xs :=
  ⟨h.1, fun hn => by
    obtain ⟨b', o', e, hl, hc⟩ := h.2 hn
    cases e
    exact ⟨b, o, rfl, by simpa [World.setCell] using hl, fun j hj => (World.cell?_setCell_other _ _ _ _ (fun e => hp (by rw [e]))).trans (hc j hj)⟩⟩
def PlS (w : World) (w0 : ByteArray) (rest : List ByteArray) (wx : World) : Prop := Below w.heap.size w wx ∧ Blk wx w.heap.size 29 #[.int .i64 0, .string ⟨#[]⟩, .slice none 0 0, .slice none 0 0] ∧ InRow wx (some ⟨w.heap.size + 1, 0, none⟩) (rest.length + 1) 1 (strCells (w0 :: rest)) ∧ w.heap.size + 1 < wx.heap.size
theorem PlS.below {w wx wy : World} {w0 : ByteArray} {rest : List ByteArray} (h : PlS w w0 rest wx) (hb : Below wx.heap.size wx wy) : PlS w w0 rest wy :=
  ⟨h.1.trans (hb.mono h.1.size), h.2.1.below hb h.2.1.lt, h.2.2.1.below hb, Nat.lt_of_lt_of_le h.2.2.2 hb.size⟩
theorem PlS.drew {w wx : World} {w0 : ByteArray} {rest : List ByteArray} (h : PlS w w0 rest wx) : PlS w w0 rest wx.drew := h.below (Below.refl _ _).drew
theorem PlS.alloc {w wx : World} {w0 : ByteArray} {rest : List ByteArray} (h : PlS w w0 rest wx) (o : Obj) : PlS w w0 rest (wx.alloc o) := h.below ((Below.refl _ _).alloc (Nat.le_refl _) o)
theorem PlS.head {w wx : World} {w0 : ByteArray} {rest : List ByteArray} (h : PlS w w0 rest wx) : wx.cell? ⟨w.heap.size + 1, 0, none⟩ = some (.string w0) := by
  obtain ⟨_, _, eb, _, q⟩ := h.2.2.1.str 0 (by simp)
  cases eb
  simpa using q
theorem own_nil2 (w : World) (lo : Nat) (h1 : lo ≤ w.heap.size) : Own w lo w.heap.size (lnRows ((0, ⟨#[]⟩, [], []), none, 0, none, 0)) :=
  Own.join (a := lo) (b := lo) (c := lo) (d := lo) (Own.one (Arr.nil_ _ _ _ _ _)) (Own.one (Arr.nil_ _ _ _ _ _)) (.inl (Nat.le_refl _)) (Nat.le_refl _) h1 (Nat.le_refl _) h1 (Nat.le_refl _)
theorem own_four {w wz : World} {rs : List Rw} {a b c d : Value} (h : Own wz (w.heap.size + 1) wz.heap.size rs) :
    Own ((((wz.setCell ⟨w.heap.size, 0, none⟩ a).setCell ⟨w.heap.size, 1, none⟩ b).setCell ⟨w.heap.size, 2, none⟩ c).setCell ⟨w.heap.size, 3, none⟩ d) w.heap.size ((((wz.setCell ⟨w.heap.size, 0, none⟩ a).setCell ⟨w.heap.size, 1, none⟩ b).setCell ⟨w.heap.size, 2, none⟩ c).setCell ⟨w.heap.size, 3, none⟩ d).heap.size rs := by
  have W : Within w.heap.size (w.heap.size + 1) wz ((((wz.setCell ⟨w.heap.size, 0, none⟩ a).setCell ⟨w.heap.size, 1, none⟩ b).setCell ⟨w.heap.size, 2, none⟩ c).setCell ⟨w.heap.size, 3, none⟩ d) :=
    (((Within.setCell _ (p := ⟨w.heap.size, 0, none⟩) (Nat.le_refl _) (Nat.lt_succ_self _) _).trans (Within.setCell _ (p := ⟨w.heap.size, 1, none⟩) (Nat.le_refl _) (Nat.lt_succ_self _) _)).trans (Within.setCell _ (p := ⟨w.heap.size, 2, none⟩) (Nat.le_refl _) (Nat.lt_succ_self _) _)).trans (Within.setCell _ (p := ⟨w.heap.size, 3, none⟩) (Nat.le_refl _) (Nat.lt_succ_self _) _)
  have h2 := h.within W (.inr (Nat.le_refl _))
  exact h2.more (Nat.le_succ _) (by simp [World.setCell]) (Nat.le_refl _)
theorem below_four {w wz : World} {a b c d : Value} (h : Below w.heap.size w wz) : Below w.heap.size w ((((wz.setCell ⟨w.heap.size, 0, none⟩ a).setCell ⟨w.heap.size, 1, none⟩ b).setCell ⟨w.heap.size, 2, none⟩ c).setCell ⟨w.heap.size, 3, none⟩ d) :=
  (((h.setCell (p := ⟨w.heap.size, 0, none⟩) (Nat.le_refl _) _).setCell (p := ⟨w.heap.size, 1, none⟩) (Nat.le_refl _) _).setCell (p := ⟨w.heap.size, 2, none⟩) (Nat.le_refl _) _).setCell (p := ⟨w.heap.size, 3, none⟩) (Nat.le_refl _) _
def PlM (w : World) (gx : Nat) (x : Ln) (wx : World) : Prop := ∃ A1 c1 A2 c2, Blk wx gx 29 #[.int .i64 x.1, .string x.2.1, .slice A1 x.2.2.1.length c1, .slice A2 x.2.2.2.length c2] ∧ Own wx (w.heap.size + 1) wx.heap.size (lnRows (x, A1, c1, A2, c2)) ∧ lnCap (x, A1, c1, A2, c2) ∧ Below w.heap.size w wx ∧ Blk wx w.heap.size 29 #[.int .i64 0, .string ⟨#[]⟩, .slice none 0 0, .slice none 0 0]
theorem InRow.tail {w : World} {b o n : Nat} {x : Value} {xs : List Value} (h : InRow w (some ⟨b, o, none⟩) (n + 1) 1 (x :: xs)) : InRow w (some ⟨b, o + 1, none⟩) n 1 xs :=
  ⟨by have := h.1; simp at this ⊢; omega, fun hn => by
    obtain ⟨b', o', e, hl, hc⟩ := h.2 (by omega)
    cases e
    exact ⟨b, o + 1, rfl, hl, fun j hj => by have := hc (j + 1) (by omega); rw [show o + 1 + j = o + (j + 1) by omega]; simpa using this⟩⟩
theorem Arr.of_own2 {w : World} {base e size n : Nat} {v : Value} {xs : List Value} (h : w.ownsRow base e size v n xs) : ∃ A c, v = .slice A n c ∧ n ≤ c ∧ c ≤ maxLen ∧ Arr w base w.heap.size A n size xs := by
  rcases h.2 with ⟨rfl, rfl⟩ | ⟨g, cap, cur, rfl, hb, hh, hnc, hcm, hcs, htake⟩
  · exact ⟨none, 0, rfl, Nat.le_refl _, Nat.zero_le _, h.1, fun hn => by omega⟩
  · refine ⟨some ⟨g, 0, none⟩, cap, rfl, hnc, hcm, h.1, fun hn => ⟨g, rfl, hb, ?_, Nat.le_refl _, fun j hj => ⟨h.cellAt j hj, h.frozenAt j⟩⟩⟩
    exact (h.lt g rfl).2
def plC (w0 : ByteArray) (rest : List ByteArray) : Bool := (decide (kwI w0 = 0) || decide (kwI w0 = 1)) && !rest.isEmpty
theorem nmR_no {w0 : ByteArray} {rest : List ByteArray} (h : plC w0 rest = false) : nmR (kwI w0) rest = (⟨#[]⟩, rest) := by
  unfold nmR
  rw [if_neg]
  rintro ⟨h1, h2⟩
  unfold plC at h
  cases rest with
  | nil => exact h2 rfl
  | cons a l => simp at h; omega
theorem plC_cons {w0 : ByteArray} {rest : List ByteArray} (h : plC w0 rest = true) : ∃ nm r2, rest = nm :: r2 := by
  unfold plC at h
  cases rest with
  | nil => simp at h
  | cons a l => exact ⟨a, l, rfl⟩
theorem nmR_yes {w0 nm : ByteArray} {r2 : List ByteArray} (h : plC w0 (nm :: r2) = true) : nmR (kwI w0) (nm :: r2) = (nm, r2) := by
  unfold nmR
  rw [if_pos ⟨by unfold plC at h; simpa using h, by simp⟩]; rfl
set_option maxHeartbeats 4000000 in
theorem i_parseLine (s : ByteArray) (hs : s.size ≤ 1048576) (w : World) (hp : PowIs w) (hmx : MaxIs w) :
    Calls Tryd.prog 16 #[.string s] w fun e w' => PlRet s w e w' ∧ Below w.heap.size w w' := by
  obtain ⟨i0, hi, hz0, hz1, hz2⟩ := info_parts Tryd.infoStr
  have HI := hide hi
  have HP := hide hp
  have HM := hide hmx
  clear hp hmx hi
  obtain ⟨m, hm⟩ := HM.out
  have hm0 : 0 < w.heap.size := block_lt_of_cell hm
  have hm1 := hide ((World.cell?_alloc_lt w (.cells #[.int .i64 0, .string ⟨#[]⟩, .slice none 0 0, .slice none 0 0] 29) ⟨0, 0, none⟩ hm0).trans hm)
  have hcnt := splW_cnt s
  have hlen := splW_len s
  have hrow : Hid (InRow ((w.alloc (.cells #[.int .i64 0, .string ⟨#[]⟩, .slice none 0 0, .slice none 0 0] 29)).alloc (.cells ((splW s).map Value.string).toArray 9)) (some ⟨w.heap.size + 1, 0, none⟩) (Lib.countB s ⟨#[32]⟩ + 1) 1 (strCells (splW s))) := by
    refine ⟨by rw [strCells_length, hlen, Nat.mul_one], fun _ => ⟨w.heap.size + 1, 0, rfl, by simp, fun j hj => ?_⟩⟩
    have hB := Blk.new (w.alloc (.cells #[.int .i64 0, .string ⟨#[]⟩, .slice none 0 0, .slice none 0 0] 29)) 9 ((splW s).map Value.string).toArray
    rw [show (w.alloc (.cells #[.int .i64 0, .string ⟨#[]⟩, .slice none 0 0, .slice none 0 0] 29)).heap.size = w.heap.size + 1 by simp] at hB
    rw [Nat.zero_add, hB.cell j]
    simp [strCells]
  have KR : Hid (Blk ((w.alloc (.cells #[.int .i64 0, .string ⟨#[]⟩, .slice none 0 0, .slice none 0 0] 29)).alloc (.cells ((splW s).map Value.string).toArray 9)) w.heap.size 29 #[.int .i64 0, .string ⟨#[]⟩, .slice none 0 0, .slice none 0 0]) := (Blk.new w _ _).alloc _
  have B1 := hide (((Below.refl w.heap.size w).alloc (Nat.le_refl _) (.cells #[.int .i64 0, .string ⟨#[]⟩, .slice none 0 0, .slice none 0 0] 29)).alloc (by simp) (.cells ((splW s).map Value.string).toArray 9))
  obtain ⟨w0, rest, hW⟩ : ∃ w0 rest, splW s = w0 :: rest := by
    cases h : splW s with
    | nil => rw [h] at hlen; simp at hlen
    | cons a l => exact ⟨a, l, rfl⟩
  have HG : Hid (lnG (splW s) = lnG1 (kwI w0) (nmR (kwI w0) rest)) := by show _ = _; rw [hW]; rfl
  have hsz := splW_size s
  rw [hW] at hsz
  have HSZ := hide hsz
  clear hsz
  have hcr : Lib.countB s ⟨#[32]⟩ = rest.length := by rw [hW] at hlen; simpa using hlen.symm
  go_enter Tryd.func16, Tryd.ntmps16
  go_wp2_with fail
  refine (Tryd.strings_Split s ⟨#[32]⟩ m _ (by omega) hm1.out (by decide)).mono ?_
  rintro e w1 ⟨rfl, rfl⟩
  rw [show Lib.splitB ⟨#[32]⟩ 0 (Lib.countB s ⟨#[32]⟩) s = splW s from rfl, hcr]
  rw [hcr] at hrow
  rw [hW] at hrow KR B1
  rw [hW]
  have HWS := hide hW
  have hrl : Hid (rest.length ≤ 1048576) := by show _ ≤ _; omega
  clear hlen hW hcr hm hm0
  generalize hW1 : ((w.alloc (.cells #[.int .i64 0, .string ⟨#[]⟩, .slice none 0 0, .slice none 0 0] 29)).alloc (.cells ((w0 :: rest).map Value.string).toArray 9)) = w1 at *
  clear hW1
  have hsz1 : w.heap.size + 1 < w1.heap.size := by obtain ⟨_, _, eb, h, _⟩ := hrow.out.str 0 (by simp); cases eb; exact h
  have P1 : Hid (PlS w w0 rest w1) := ⟨B1.out, KR.out, hrow.out, hsz1⟩
  have r0 := P1.out.head
  have hb0 : True := trivial
  clear hrow KR B1
  go_upto_region 2 with fail
  go_cut [5] from 8 to 13 (fun s5 wx => ∃ gx, s5 = .pointer (some ⟨gx, 0, none⟩) ∧ w.heap.size + 1 < gx ∧ Below w.heap.size w wx ∧ Blk wx w.heap.size 29 #[.int .i64 0, .string ⟨#[]⟩, .slice none 0 0, .slice none 0 0] ∧ Blk wx gx 29 #[.int .i64 (kwI w0), .string ⟨#[]⟩, .slice none 0 0, .slice none 0 0] ∧ InRow wx (some ⟨w.heap.size + 1, 0, none⟩) (rest.length + 1) 1 (strCells (w0 :: rest)))
  case first =>
    go_region_with (first | (go_at_call 30; refine (i_lineWords _).mono ?_; rintro e w2 ⟨⟨g, rfl, hg, hc⟩, hb2⟩; have P2 : Hid (PlS w w0 rest w2) := (by first | exact P1.out.below hb2 | exact P1.out.drew.below hb2 | exact (P1.out.alloc _).below hb2 | exact (P1.out.alloc _).drew.below hb2 | exact (P1.out.drew.alloc _).below hb2 | exact P1.out.drew.drew.below hb2); have KW := hide (kws_row hg hc); have r2 := P2.out.head; have hw2 := P2.out.2.2.2; try (have K5 : Blk w2 w1.heap.size 29 #[.int .i64 0, .string ⟨#[]⟩, .slice none 0 0, .slice none 0 0] := (by first | exact (Blk.new w1 _ _).below hb2 (by simp) | exact (Blk.new w1 _ _).drew.below hb2 (by simp)); have k50 := K5.cell 0; have k51 := K5.cell 1; have k52 := K5.cell 2; have k53 := K5.cell 3; have f50 := K5.frozen 0; have f51 := K5.frozen 1; have f52 := K5.frozen 2; have f53 := K5.frozen 3; simp at k50 k51 k52 k53; have K5h := hide K5; clear K5); clear hc) | (go_at_call 29; refine (i_index _ _ _ kws w0 _ (by decide) (by first | exact KW.out | exact KW.out.below (Below.refl _ _).drew | exact KW.out.below ((Below.refl _ _).alloc (Nat.le_refl _) _) | exact (KW.out.below ((Below.refl _ _).alloc (Nat.le_refl _) _)).below (Below.refl _ _).drew | exact (KW.out.below (Below.refl _ _).drew).below ((Below.refl _ _).alloc (Nat.le_refl _) _))).mono ?_; rintro e w' ⟨rfl, rfl⟩))
    all_goals
      go_wp2_with fail
      go_meet
      have hsp := P2.out.2.2.2
      first
      | (refine ⟨w2.heap.size, rfl, hsp, ?_, ?_, ?_, ?_⟩
         · repeat (first | exact P2.out.1 | refine Below.alloc ?_ P2.out.1.size _ | refine Below.drew ?_)
         · repeat (first | exact P2.out.2.1 | refine Blk.alloc ?_ _ | refine Blk.drew ?_)
         · first | exact Blk.new w2 _ _ | exact (Blk.new w2 _ _).drew
         · first | exact (P2.out.alloc _).2.2.1 | exact (P2.out.alloc _).drew.2.2.1)
      | (refine ⟨w1.heap.size, rfl, hsz1, ?_, ?_, ?_, ?_⟩
         · repeat (first | exact P2.out.1 | refine Below.setCell ?_ (by show w.heap.size ≤ w1.heap.size; omega) _ | refine Below.drew ?_)
         · repeat (first | exact P2.out.2.1 | refine Blk.far ?_ (by show w.heap.size ≠ w1.heap.size; omega) _ | refine Blk.drew ?_)
         · first
           | (have := (((K5h.out.set_ 0 (.int .i64 (idxF kws w0))).set_ 1 (.string ⟨#[]⟩)).set_ 2 (.slice none 0 0)).set_ 3 (.slice none 0 0); exact this)
           | (have := ((((K5h.out.set_ 0 (.int .i64 (idxF kws w0))).set_ 1 (.string ⟨#[]⟩)).set_ 2 (.slice none 0 0)).set_ 3 (.slice none 0 0)).drew; exact this)
         · repeat (first | exact P2.out.2.2.1 | refine InRow.far ?_ (by show w.heap.size + 1 ≠ w1.heap.size; omega) _ | refine InRow.below ?_ (Below.refl _ _).drew))
  case rest =>
    obtain ⟨gx, rfl, hgx, hb2, hk2, hk3, hr2⟩ := hcut
    have B2 := hide hb2
    have K2 := hide hk2
    have K3 := hide hk3
    have R2 := hide hr2
    have hgl := Blk.lt hk3
    have hlw := B2.out.size
    have k0 := K3.out.cell 0
    simp at k0
    clear hb2 hk2 hk3 hr2 P1 r0 hsz1 hb0
    obtain ⟨x, hx⟩ : ∃ x, x = lnG1 (kwI w0) (nmR (kwI w0) rest) := ⟨_, rfl⟩
    have HXE := hide (HG.out.trans hx.symm)
    have hsx := lnG1_sz (kwI w0) rest (fun a ha => by have := HSZ.out a (by simp [ha]); omega) hrl.out
    rw [← hx] at hsx
    have HSZX := hide hsx.1
    have HLNX := hide hsx.2
    clear hsx
    rcases rest with _ | ⟨nm, _ | ⟨b2, r3⟩⟩
    · skip
      go_upto_region 4 with fail
      go_cut [28] from 16 to 28 (fun s28 wx => s28 = .bool (plC w0 []) ∧ wx = wc)
      case first =>
        by_cases h0 : kwI w0 = 0
        · have z0 : (kwI w0 == 0) = true := by simp [h0]
          have H0 := hide h0
          clear h0
          skip
          go_wp2_with fail
          go_meet
          refine ⟨?_, rfl⟩
          have := H0.out
          first | (simp [plC, this]; done) | (simp [plC, this]; omega)
        · have z0 : (kwI w0 == 0) = false := by simp [h0]
          have H0 := hide h0
          clear h0
          by_cases h1 : kwI w0 = 1
          · have z1 : (kwI w0 == 1) = true := by simp [h1]
            have H1 := hide h1
            clear h1
            skip
            go_wp2_with fail
            go_meet
            refine ⟨?_, rfl⟩
            have := H1.out
            first | (simp [plC, this]; done) | (simp [plC, this]; omega)
          · have z1 : (kwI w0 == 1) = false := by simp [h1]
            have H1 := hide h1
            clear h1
            go_wp2_with fail
            go_meet
            refine ⟨?_, rfl⟩
            have h0 := H0.out
            have h1 := H1.out
            simp [plC, h0, h1]
      case rest =>
      obtain ⟨rfl, rfl⟩ := hcut
      go_upto_if 28 with fail
      go_cut [4] from 28 to 34 (fun s4 wx => ∃ A4 c4, s4 = .slice A4 (nmR (kwI w0) []).2.length c4 ∧ InRow wx A4 (nmR (kwI w0) []).2.length 1 (strCells (nmR (kwI w0) []).2) ∧ Blk wx gx 29 #[.int .i64 (kwI w0), .string (nmR (kwI w0) []).1, .slice none 0 0, .slice none 0 0] ∧ Blk wx w.heap.size 29 #[.int .i64 0, .string ⟨#[]⟩, .slice none 0 0, .slice none 0 0] ∧ Below w.heap.size w wx)
      case first =>
        have hc : plC w0 [] = false := by simp [plC]
        have HNR := hide (nmR_no hc)
        rw [hc]
        clear hc
        go_wp2_with fail
        go_meet
        rw [HNR.out]
        exact ⟨_, _, rfl, InRow.nil_ _ _ _, K3.out, K2.out, B2.out⟩
      case rest =>
      obtain ⟨A4, c4, rfl, hr4, hk4, hk2, hb4⟩ := hcut
      have hns := nmR_size (kwI w0) [] (fun a ha => by have := HSZ.out a (by simp [ha]); omega)
      clear K2 K3 R2 B2 k0
      have B4 := hide hb4
      have K4 := hide hk4
      have KR := hide hk2
      have R4 := hide hr4
      have hgl := Blk.lt hk4
      have hlw := B4.out.size
      clear hb4 hk4 hk2 hr4
      have HL4 := hide hns.2.1
      have hl4 : (nmR (kwI w0) []).2.length ≤ 1048576 := by have := hns.2.2; have := hrl.out; omega
      clear hns
      generalize hnr : (nmR (kwI w0) []) = nr at *
      obtain ⟨nmN, l⟩ := nr
      simp only at R4 K4 HL4 hl4
      have HX := hide hx
      clear hx hnr
      have k0 := K4.out.cell 0
      have k2 := K4.out.cell 2
      have k3 := K4.out.cell 3
      have f2 := K4.out.frozen 2
      have f3 := K4.out.frozen 3
      simp at k0 k2 k3
      have HP4 := hide (HP.out.below B4.out)
      have HM4 := hide (HM.out.below B4.out)
      go_upto_if 37 with fail
      go_cut [] from 37 to 50 (fun wx => PlM w gx x wx)
      case first =>
        by_cases h0 : kwI w0 = 0
        · have z0 : (kwI w0 == 0) = true := by simp [h0]
          have HX1 : Hid (x = (kwI w0, nmN, l, [])) := by show _ = _; rw [HX.out]; unfold lnG1; rw [if_pos h0, if_pos h0]
          clear h0
          have O0 := hide (World.ownsRow_lit (base := wc.heap.size) (e := 9) (size := 1) wc #[] 0 (Nat.le_refl _) (Nat.zero_le _) rfl)
          have RL := hide (R4.out.below ((Below.refl _ _).alloc (Nat.le_refl _) (.cells #[] 9)))
          have KL := hide (K4.out.alloc (.cells #[] 9))
          have KRL := hide (KR.out.alloc (.cells #[] 9))
          have BL := hide (B4.out.alloc hlw (.cells #[] 9))
          clear k0 k2 k3 f2 f3
          go_wp2_with (first | (at_builtin; refine wpList_apps _ rfl (.tmp 38) (.tmp 39) _ rfl wc.heap.size 9 i0 _ 1 16 Tryd.underlying26 HI.out hz0 hz1 hz2 rfl (by decide) _ _ _ rfl O0.out A4 _ c4 (strCells l) rfl RL.out ?d1b0 ?d2b0 ?d3b0 ?d4b0 ?_) | fail)
          case d1b0 => intro u hu; obtain ⟨b, _, rfl⟩ := List.mem_map.1 hu; rfl
          case d2b0 => omega
          try case d3b0 => decide
          try case d4b0 => simp
          intro v' w5 hown5 hb5 _ _
          obtain ⟨A5, c5, hv5, hc1, hc2, ha5⟩ := Arr.of_own2 hown5
          subst hv5
          have K5 := hide (KL.out.below hb5 hgl)
          have KR5 := hide (KRL.out.below hb5 (by omega))
          have B5 := hide (BL.out.trans (hb5.mono hlw))
          have O5 := hide ha5
          have hz5 := hb5.size
          simp at hz5
          clear hown5 hb5 ha5
          have k2 := K5.out.cell 2
          have f2 := K5.out.frozen 2
          simp at k2
          go_wp2_with fail
          go_meet
          rw [HX1.out]
          refine ⟨A5, c5, none, 0, by simpa using K5.out.set_ 2 (.slice A5 (0 + l.length) c5), ?_, ⟨by simpa using hc1, hc2, Nat.le_refl _, Nat.zero_le _⟩, B5.out.setCell (p := ⟨gx, 2, none⟩) (by show w.heap.size ≤ gx; omega) _, KR5.out.far (p := ⟨gx, 2, none⟩) (by show w.heap.size ≠ gx; omega) _⟩
          have hz6 : (w5.setCell ⟨gx, 2, none⟩ (.slice A5 (0 + l.length) c5)).heap.size = w5.heap.size := by simp [World.setCell]
          have ha6 := O5.out.far (p := ⟨gx, 2, none⟩) (.inl hgl) (.slice A5 (0 + l.length) c5)
          simp only [Nat.zero_add, List.nil_append] at ha6 hz6 ⊢
          exact Own.join (a := wc.heap.size) (b := w5.heap.size) (c := w5.heap.size) (d := w5.heap.size) (Own.one ha6) (Own.one (Arr.nil_ _ _ _ _ _)) (.inl (Nat.le_refl _)) (by omega) (by omega) (by omega) (by omega) (Nat.le_refl _)
        · have z0 : (kwI w0 == 0) = false := by simp [h0]
          have HX1 : Hid (x = (kwI w0, nmN, [], peL l)) := by show _ = _; rw [HX.out]; unfold lnG1; rw [if_neg h0, if_neg h0]
          clear h0
          rcases l with _ | ⟨a0, l⟩
          · go_wp2_with fail
            go_meet
            rw [HX1.out, peL_nil]
            exact ⟨none, 0, none, 0, K4.out, (Own.join (a := w.heap.size + 1) (b := w.heap.size + 1) (c := w.heap.size + 1) (d := w.heap.size + 1) (Own.one (Arr.nil_ _ _ _ _ _)) (Own.one (Arr.nil_ _ _ _ _ _)) (.inl (Nat.le_refl _)) (Nat.le_refl _) (by omega) (Nat.le_refl _) (by omega) (Nat.le_refl _)), ⟨Nat.le_refl _, Nat.zero_le _, Nat.le_refl _, Nat.zero_le _⟩, B4.out, KR.out⟩
          · have hpos : (0 : Int) < ((l.length : Int) + 1) := by omega
            obtain ⟨L, hLL⟩ : ∃ L, L = a0 :: l := ⟨_, rfl⟩
            have hLn : L.length = l.length + 1 := by rw [hLL]; rfl
            rw [← hLL] at HX1 HL4 R4
            have R4' := R4.out
            simp only [List.length_cons] at R4' hl4
            have R5 := hide R4'
            clear hLL R4 R4'
            clear k0 k2 f2
            go_wp2_with fail
            refine (i_parseExpr A4 _ c4 L _ hl4 hLn (show InRow wc A4 (l.length + 1) 1 (strCells L) by rw [← hLn]; exact R5.out) HL4.out HP4.out HM4.out).mono ?_
            rintro e w5 ⟨⟨v', rfl, ho5⟩, hb5⟩
            obtain ⟨A5, c5, hv5, hc1, hc2, ha5⟩ := Arr.of_own2 ho5
            subst hv5
            have K5 := hide (K4.out.below hb5 hgl)
            have KR5 := hide (KR.out.below hb5 (by omega))
            have B5 := hide (B4.out.trans (hb5.mono hlw))
            have O5 := hide ha5
            have hz5 := hb5.size
            clear ho5 hb5 ha5 k3 f3
            have k3 := K5.out.cell 3
            have f3 := K5.out.frozen 3
            simp at k3
            go_wp2_with fail
            go_meet
            rw [HX1.out]
            refine ⟨none, 0, A5, c5, K5.out.set_ 3 (.slice A5 (peL L).length c5), ?_, ⟨Nat.le_refl _, Nat.zero_le _, hc1, hc2⟩, B5.out.setCell (p := ⟨gx, 3, none⟩) (by show w.heap.size ≤ gx; omega) _, KR5.out.far (p := ⟨gx, 3, none⟩) (by show w.heap.size ≠ gx; omega) _⟩
            have hz6 : (w5.setCell ⟨gx, 3, none⟩ (.slice A5 (peL L).length c5)).heap.size = w5.heap.size := by simp [World.setCell]
            have ha6 := O5.out.far (p := ⟨gx, 3, none⟩) (.inl hgl) (.slice A5 (peL L).length c5)
            exact Own.join (a := w5.heap.size) (b := w5.heap.size) (c := wc.heap.size) (d := w5.heap.size) (Own.one (Arr.nil_ _ _ _ _ _)) (Own.one ha6) (.inr (Nat.le_refl _)) (by omega) (by omega) (by omega) (by omega) (by omega)
      case rest =>
      have HPM : Hid (PlM w gx x wc) := hcut
      clear hcut k0 k2 k3 f2 f3 K4 KR R4 B4 HP4 HM4
      obtain ⟨A1, c1, A2, c2, hk, ho, hcp, hb, hkr⟩ := HPM.out
      have KX := hide hk
      have OX := hide ho
      have CX := hide hcp
      have BX := hide hb
      have KRX := hide hkr
      have LI := hide (lnIn_of_own (p := (x, A1, c1, A2, c2)) (fun r hr => ho.rows r hr) hcp)
      have HPX := hide (HP.out.below hb)
      clear hk ho hcp hb hkr HPM
      have k0 := KX.out.cell 0
      have k1 := KX.out.cell 1
      have k2 := KX.out.cell 2
      have k3 := KX.out.cell 3
      have r0 := KRX.out.cell 0
      have r1 := KRX.out.cell 1
      have r2x := KRX.out.cell 2
      have r3 := KRX.out.cell 3
      have g0 := KRX.out.frozen 0
      have g1 := KRX.out.frozen 1
      have g2 := KRX.out.frozen 2
      have g3 := KRX.out.frozen 3
      simp at k0 k1 k2 k3 r0 r1 r2x r3
      by_cases hse : s = ⟨#[]⟩
      · have z : s.toList.isEmpty = true := toList_e2 hse
        have HB : Hid (plB s = false) := yes_not (fun h => h.1 hse)
        have HPX2 : Hid (plX s = (0, ⟨#[]⟩, [], [])) := by show _ = _; unfold plX; rw [HB.out]; rfl
        clear hse
        go_wp2_with fail
        refine bodyPost_ret (v := .tuple #[.agg #[.int .i64 0, .string ⟨#[]⟩, .slice none 0 0, .slice none 0 0], .bool false]) (by simp [results, Tryd.results16, go_sem, r0, r1, r2x, r3]) rfl ⟨⟨none, 0, none, 0, by rw [HPX2.out, HB.out]; rfl, by rw [HPX2.out]; exact own_nil2 _ _ (by simp [World.setCell]; first | exact BX.out.size | exact BXZ.out.size), by rw [HPX2.out]; exact ⟨Nat.le_refl _, Nat.zero_le _, Nat.le_refl _, Nat.zero_le _⟩⟩, ?_⟩
        first | exact below_four BXZ.out | exact below_four BX.out
      · have z : s.toList.isEmpty = false := toList_ne hse
        by_cases heq : fmtLnF x = s
        · have HB : Hid (plB s = true) := yes_of ⟨hse, by rw [HXE.out]; exact heq⟩
          have HPX2 : Hid (plX s = x) := by show _ = _; unfold plX; rw [HB.out, HXE.out]; rfl
          have z2 := bneF heq
          clear hse heq
          go_wp2_with fail
          refine (i_formatLine x A1 A2 c1 c2 _ HLNX.out LI.out HSZX.out HPX.out).mono ?_
          rintro e wz ⟨rfl, hbz⟩
          have KXZ := hide (KX.out.below hbz (Blk.lt KX.out))
          have KRZ := hide (KRX.out.below hbz (Blk.lt KRX.out))
          have OXZ := hide ((OX.out.belowZ hbz).more (Nat.le_refl _) hbz.size (Nat.le_refl _))
          have BXZ := hide (BX.out.trans (hbz.mono BX.out.size))
          clear hbz k0 k1 k2 k3 r0 r1 r2x r3 g0 g1 g2 g3
          have k0 := KXZ.out.cell 0
          have k1 := KXZ.out.cell 1
          have k2 := KXZ.out.cell 2
          have k3 := KXZ.out.cell 3
          have r0 := KRZ.out.cell 0
          have r1 := KRZ.out.cell 1
          have r2x := KRZ.out.cell 2
          have r3 := KRZ.out.cell 3
          have g0 := KRZ.out.frozen 0
          have g1 := KRZ.out.frozen 1
          have g2 := KRZ.out.frozen 2
          have g3 := KRZ.out.frozen 3
          simp at k0 k1 k2 k3 r0 r1 r2x r3
          go_wp2_with fail
          refine bodyPost_ret (v := .tuple #[.agg #[.int .i64 x.1, .string x.2.1, .slice A1 x.2.2.1.length c1, .slice A2 x.2.2.2.length c2], .bool true]) (by simp [results, Tryd.results16, go_sem, r0, r1, r2x, r3]) rfl ⟨⟨A1, c1, A2, c2, by rw [HPX2.out, HB.out], by rw [HPX2.out]; exact own_four OXZ.out, by rw [HPX2.out]; exact CX.out⟩, ?_⟩
          exact below_four BXZ.out
        · have HB : Hid (plB s = false) := yes_not (fun h => heq (by have := h.2; rwa [HXE.out] at this))
          have HPX2 : Hid (plX s = (0, ⟨#[]⟩, [], [])) := by show _ = _; unfold plX; rw [HB.out]; rfl
          have z2 := bneT heq
          clear hse heq
          go_wp2_with fail
          refine (i_formatLine x A1 A2 c1 c2 _ HLNX.out LI.out HSZX.out HPX.out).mono ?_
          rintro e wz ⟨rfl, hbz⟩
          have KXZ := hide (KX.out.below hbz (Blk.lt KX.out))
          have KRZ := hide (KRX.out.below hbz (Blk.lt KRX.out))
          have OXZ := hide ((OX.out.belowZ hbz).more (Nat.le_refl _) hbz.size (Nat.le_refl _))
          have BXZ := hide (BX.out.trans (hbz.mono BX.out.size))
          clear hbz k0 k1 k2 k3 r0 r1 r2x r3 g0 g1 g2 g3
          have k0 := KXZ.out.cell 0
          have k1 := KXZ.out.cell 1
          have k2 := KXZ.out.cell 2
          have k3 := KXZ.out.cell 3
          have r0 := KRZ.out.cell 0
          have r1 := KRZ.out.cell 1
          have r2x := KRZ.out.cell 2
          have r3 := KRZ.out.cell 3
          have g0 := KRZ.out.frozen 0
          have g1 := KRZ.out.frozen 1
          have g2 := KRZ.out.frozen 2
          have g3 := KRZ.out.frozen 3
          simp at k0 k1 k2 k3 r0 r1 r2x r3
          go_wp2_with fail
          refine bodyPost_ret (v := .tuple #[.agg #[.int .i64 0, .string ⟨#[]⟩, .slice none 0 0, .slice none 0 0], .bool false]) (by simp [results, Tryd.results16, go_sem, r0, r1, r2x, r3]) rfl ⟨⟨none, 0, none, 0, by rw [HPX2.out, HB.out]; rfl, by rw [HPX2.out]; exact own_nil2 _ _ (by simp [World.setCell]; first | exact BX.out.size | exact BXZ.out.size), by rw [HPX2.out]; exact ⟨Nat.le_refl _, Nat.zero_le _, Nat.le_refl _, Nat.zero_le _⟩⟩, ?_⟩
          first | exact below_four BXZ.out | exact below_four BX.out
    · skip
      go_upto_region 4 with fail
      go_cut [28] from 16 to 28 (fun s28 wx => s28 = .bool (plC w0 [nm]) ∧ wx = wc)
      case first =>
        by_cases h0 : kwI w0 = 0
        · have z0 : (kwI w0 == 0) = true := by simp [h0]
          have H0 := hide h0
          clear h0
          skip
          go_wp2_with fail
          go_meet
          refine ⟨?_, rfl⟩
          have := H0.out
          first | (simp [plC, this]; done) | (simp [plC, this]; omega)
        · have z0 : (kwI w0 == 0) = false := by simp [h0]
          have H0 := hide h0
          clear h0
          by_cases h1 : kwI w0 = 1
          · have z1 : (kwI w0 == 1) = true := by simp [h1]
            have H1 := hide h1
            clear h1
            skip
            go_wp2_with fail
            go_meet
            refine ⟨?_, rfl⟩
            have := H1.out
            first | (simp [plC, this]; done) | (simp [plC, this]; omega)
          · have z1 : (kwI w0 == 1) = false := by simp [h1]
            have H1 := hide h1
            clear h1
            go_wp2_with fail
            go_meet
            refine ⟨?_, rfl⟩
            have h0 := H0.out
            have h1 := H1.out
            simp [plC, h0, h1]
      case rest =>
      obtain ⟨rfl, rfl⟩ := hcut
      go_upto_if 28 with fail
      go_cut [4] from 28 to 34 (fun s4 wx => ∃ A4 c4, s4 = .slice A4 (nmR (kwI w0) [nm]).2.length c4 ∧ InRow wx A4 (nmR (kwI w0) [nm]).2.length 1 (strCells (nmR (kwI w0) [nm]).2) ∧ Blk wx gx 29 #[.int .i64 (kwI w0), .string (nmR (kwI w0) [nm]).1, .slice none 0 0, .slice none 0 0] ∧ Blk wx w.heap.size 29 #[.int .i64 0, .string ⟨#[]⟩, .slice none 0 0, .slice none 0 0] ∧ Below w.heap.size w wx)
      case first =>
        cases hc : plC w0 [nm]
        · have HNR := hide (nmR_no hc)
          clear hc
          go_wp2_with fail
          go_meet
          rw [HNR.out]
          exact ⟨_, _, rfl, R2.out.tail, K3.out, K2.out, B2.out⟩
        · have HNR := hide (nmR_yes hc)
          clear hc
          obtain ⟨b, o, e, _, q⟩ := R2.out.str 1 (by simp)
          cases e
          simp at q
          have k1 := K3.out.cell 1
          have f1 := K3.out.frozen 1
          simp at k1
          go_wp2_with fail
          go_meet
          rw [HNR.out]
          exact ⟨_, _, rfl, InRow.nil_ _ _ _, K3.out.set_ 1 (.string nm), K2.out.far (p := ⟨gx, 1, none⟩) (by show w.heap.size ≠ gx; omega) _, B2.out.setCell (p := ⟨gx, 1, none⟩) (by show w.heap.size ≤ gx; omega) _⟩
      case rest =>
      obtain ⟨A4, c4, rfl, hr4, hk4, hk2, hb4⟩ := hcut
      have hns := nmR_size (kwI w0) [nm] (fun a ha => by have := HSZ.out a (by simp [ha]); omega)
      clear K2 K3 R2 B2 k0
      have B4 := hide hb4
      have K4 := hide hk4
      have KR := hide hk2
      have R4 := hide hr4
      have hgl := Blk.lt hk4
      have hlw := B4.out.size
      clear hb4 hk4 hk2 hr4
      have HL4 := hide hns.2.1
      have hl4 : (nmR (kwI w0) [nm]).2.length ≤ 1048576 := by have := hns.2.2; have := hrl.out; omega
      clear hns
      generalize hnr : (nmR (kwI w0) [nm]) = nr at *
      obtain ⟨nmN, l⟩ := nr
      simp only at R4 K4 HL4 hl4
      have HX := hide hx
      clear hx hnr
      have k0 := K4.out.cell 0
      have k2 := K4.out.cell 2
      have k3 := K4.out.cell 3
      have f2 := K4.out.frozen 2
      have f3 := K4.out.frozen 3
      simp at k0 k2 k3
      have HP4 := hide (HP.out.below B4.out)
      have HM4 := hide (HM.out.below B4.out)
      go_upto_if 37 with fail
      go_cut [] from 37 to 50 (fun wx => PlM w gx x wx)
      case first =>
        by_cases h0 : kwI w0 = 0
        · have z0 : (kwI w0 == 0) = true := by simp [h0]
          have HX1 : Hid (x = (kwI w0, nmN, l, [])) := by show _ = _; rw [HX.out]; unfold lnG1; rw [if_pos h0, if_pos h0]
          clear h0
          have O0 := hide (World.ownsRow_lit (base := wc.heap.size) (e := 9) (size := 1) wc #[] 0 (Nat.le_refl _) (Nat.zero_le _) rfl)
          have RL := hide (R4.out.below ((Below.refl _ _).alloc (Nat.le_refl _) (.cells #[] 9)))
          have KL := hide (K4.out.alloc (.cells #[] 9))
          have KRL := hide (KR.out.alloc (.cells #[] 9))
          have BL := hide (B4.out.alloc hlw (.cells #[] 9))
          clear k0 k2 k3 f2 f3
          go_wp2_with (first | (at_builtin; refine wpList_apps _ rfl (.tmp 38) (.tmp 39) _ rfl wc.heap.size 9 i0 _ 1 16 Tryd.underlying26 HI.out hz0 hz1 hz2 rfl (by decide) _ _ _ rfl O0.out A4 _ c4 (strCells l) rfl RL.out ?d1b1 ?d2b1 ?d3b1 ?d4b1 ?_) | fail)
          case d1b1 => intro u hu; obtain ⟨b, _, rfl⟩ := List.mem_map.1 hu; rfl
          case d2b1 => omega
          try case d3b1 => decide
          try case d4b1 => simp
          intro v' w5 hown5 hb5 _ _
          obtain ⟨A5, c5, hv5, hc1, hc2, ha5⟩ := Arr.of_own2 hown5
          subst hv5
          have K5 := hide (KL.out.below hb5 hgl)
          have KR5 := hide (KRL.out.below hb5 (by omega))
          have B5 := hide (BL.out.trans (hb5.mono hlw))
          have O5 := hide ha5
          have hz5 := hb5.size
          simp at hz5
          clear hown5 hb5 ha5
          have k2 := K5.out.cell 2
          have f2 := K5.out.frozen 2
          simp at k2
          go_wp2_with fail
          go_meet
          rw [HX1.out]
          refine ⟨A5, c5, none, 0, by simpa using K5.out.set_ 2 (.slice A5 (0 + l.length) c5), ?_, ⟨by simpa using hc1, hc2, Nat.le_refl _, Nat.zero_le _⟩, B5.out.setCell (p := ⟨gx, 2, none⟩) (by show w.heap.size ≤ gx; omega) _, KR5.out.far (p := ⟨gx, 2, none⟩) (by show w.heap.size ≠ gx; omega) _⟩
          have hz6 : (w5.setCell ⟨gx, 2, none⟩ (.slice A5 (0 + l.length) c5)).heap.size = w5.heap.size := by simp [World.setCell]
          have ha6 := O5.out.far (p := ⟨gx, 2, none⟩) (.inl hgl) (.slice A5 (0 + l.length) c5)
          simp only [Nat.zero_add, List.nil_append] at ha6 hz6 ⊢
          exact Own.join (a := wc.heap.size) (b := w5.heap.size) (c := w5.heap.size) (d := w5.heap.size) (Own.one ha6) (Own.one (Arr.nil_ _ _ _ _ _)) (.inl (Nat.le_refl _)) (by omega) (by omega) (by omega) (by omega) (Nat.le_refl _)
        · have z0 : (kwI w0 == 0) = false := by simp [h0]
          have HX1 : Hid (x = (kwI w0, nmN, [], peL l)) := by show _ = _; rw [HX.out]; unfold lnG1; rw [if_neg h0, if_neg h0]
          clear h0
          rcases l with _ | ⟨a0, l⟩
          · go_wp2_with fail
            go_meet
            rw [HX1.out, peL_nil]
            exact ⟨none, 0, none, 0, K4.out, (Own.join (a := w.heap.size + 1) (b := w.heap.size + 1) (c := w.heap.size + 1) (d := w.heap.size + 1) (Own.one (Arr.nil_ _ _ _ _ _)) (Own.one (Arr.nil_ _ _ _ _ _)) (.inl (Nat.le_refl _)) (Nat.le_refl _) (by omega) (Nat.le_refl _) (by omega) (Nat.le_refl _)), ⟨Nat.le_refl _, Nat.zero_le _, Nat.le_refl _, Nat.zero_le _⟩, B4.out, KR.out⟩
          · have hpos : (0 : Int) < ((l.length : Int) + 1) := by omega
            obtain ⟨L, hLL⟩ : ∃ L, L = a0 :: l := ⟨_, rfl⟩
            have hLn : L.length = l.length + 1 := by rw [hLL]; rfl
            rw [← hLL] at HX1 HL4 R4
            have R4' := R4.out
            simp only [List.length_cons] at R4' hl4
            have R5 := hide R4'
            clear hLL R4 R4'
            clear k0 k2 f2
            go_wp2_with fail
            refine (i_parseExpr A4 _ c4 L _ hl4 hLn (show InRow wc A4 (l.length + 1) 1 (strCells L) by rw [← hLn]; exact R5.out) HL4.out HP4.out HM4.out).mono ?_
            rintro e w5 ⟨⟨v', rfl, ho5⟩, hb5⟩
            obtain ⟨A5, c5, hv5, hc1, hc2, ha5⟩ := Arr.of_own2 ho5
            subst hv5
            have K5 := hide (K4.out.below hb5 hgl)
            have KR5 := hide (KR.out.below hb5 (by omega))
            have B5 := hide (B4.out.trans (hb5.mono hlw))
            have O5 := hide ha5
            have hz5 := hb5.size
            clear ho5 hb5 ha5 k3 f3
            have k3 := K5.out.cell 3
            have f3 := K5.out.frozen 3
            simp at k3
            go_wp2_with fail
            go_meet
            rw [HX1.out]
            refine ⟨none, 0, A5, c5, K5.out.set_ 3 (.slice A5 (peL L).length c5), ?_, ⟨Nat.le_refl _, Nat.zero_le _, hc1, hc2⟩, B5.out.setCell (p := ⟨gx, 3, none⟩) (by show w.heap.size ≤ gx; omega) _, KR5.out.far (p := ⟨gx, 3, none⟩) (by show w.heap.size ≠ gx; omega) _⟩
            have hz6 : (w5.setCell ⟨gx, 3, none⟩ (.slice A5 (peL L).length c5)).heap.size = w5.heap.size := by simp [World.setCell]
            have ha6 := O5.out.far (p := ⟨gx, 3, none⟩) (.inl hgl) (.slice A5 (peL L).length c5)
            exact Own.join (a := w5.heap.size) (b := w5.heap.size) (c := wc.heap.size) (d := w5.heap.size) (Own.one (Arr.nil_ _ _ _ _ _)) (Own.one ha6) (.inr (Nat.le_refl _)) (by omega) (by omega) (by omega) (by omega) (by omega)
      case rest =>
      have HPM : Hid (PlM w gx x wc) := hcut
      clear hcut k0 k2 k3 f2 f3 K4 KR R4 B4 HP4 HM4
      obtain ⟨A1, c1, A2, c2, hk, ho, hcp, hb, hkr⟩ := HPM.out
      have KX := hide hk
      have OX := hide ho
      have CX := hide hcp
      have BX := hide hb
      have KRX := hide hkr
      have LI := hide (lnIn_of_own (p := (x, A1, c1, A2, c2)) (fun r hr => ho.rows r hr) hcp)
      have HPX := hide (HP.out.below hb)
      clear hk ho hcp hb hkr HPM
      have k0 := KX.out.cell 0
      have k1 := KX.out.cell 1
      have k2 := KX.out.cell 2
      have k3 := KX.out.cell 3
      have r0 := KRX.out.cell 0
      have r1 := KRX.out.cell 1
      have r2x := KRX.out.cell 2
      have r3 := KRX.out.cell 3
      have g0 := KRX.out.frozen 0
      have g1 := KRX.out.frozen 1
      have g2 := KRX.out.frozen 2
      have g3 := KRX.out.frozen 3
      simp at k0 k1 k2 k3 r0 r1 r2x r3
      by_cases hse : s = ⟨#[]⟩
      · have z : s.toList.isEmpty = true := toList_e2 hse
        have HB : Hid (plB s = false) := yes_not (fun h => h.1 hse)
        have HPX2 : Hid (plX s = (0, ⟨#[]⟩, [], [])) := by show _ = _; unfold plX; rw [HB.out]; rfl
        clear hse
        go_wp2_with fail
        refine bodyPost_ret (v := .tuple #[.agg #[.int .i64 0, .string ⟨#[]⟩, .slice none 0 0, .slice none 0 0], .bool false]) (by simp [results, Tryd.results16, go_sem, r0, r1, r2x, r3]) rfl ⟨⟨none, 0, none, 0, by rw [HPX2.out, HB.out]; rfl, by rw [HPX2.out]; exact own_nil2 _ _ (by simp [World.setCell]; first | exact BX.out.size | exact BXZ.out.size), by rw [HPX2.out]; exact ⟨Nat.le_refl _, Nat.zero_le _, Nat.le_refl _, Nat.zero_le _⟩⟩, ?_⟩
        first | exact below_four BXZ.out | exact below_four BX.out
      · have z : s.toList.isEmpty = false := toList_ne hse
        by_cases heq : fmtLnF x = s
        · have HB : Hid (plB s = true) := yes_of ⟨hse, by rw [HXE.out]; exact heq⟩
          have HPX2 : Hid (plX s = x) := by show _ = _; unfold plX; rw [HB.out, HXE.out]; rfl
          have z2 := bneF heq
          clear hse heq
          go_wp2_with fail
          refine (i_formatLine x A1 A2 c1 c2 _ HLNX.out LI.out HSZX.out HPX.out).mono ?_
          rintro e wz ⟨rfl, hbz⟩
          have KXZ := hide (KX.out.below hbz (Blk.lt KX.out))
          have KRZ := hide (KRX.out.below hbz (Blk.lt KRX.out))
          have OXZ := hide ((OX.out.belowZ hbz).more (Nat.le_refl _) hbz.size (Nat.le_refl _))
          have BXZ := hide (BX.out.trans (hbz.mono BX.out.size))
          clear hbz k0 k1 k2 k3 r0 r1 r2x r3 g0 g1 g2 g3
          have k0 := KXZ.out.cell 0
          have k1 := KXZ.out.cell 1
          have k2 := KXZ.out.cell 2
          have k3 := KXZ.out.cell 3
          have r0 := KRZ.out.cell 0
          have r1 := KRZ.out.cell 1
          have r2x := KRZ.out.cell 2
          have r3 := KRZ.out.cell 3
          have g0 := KRZ.out.frozen 0
          have g1 := KRZ.out.frozen 1
          have g2 := KRZ.out.frozen 2
          have g3 := KRZ.out.frozen 3
          simp at k0 k1 k2 k3 r0 r1 r2x r3
          go_wp2_with fail
          refine bodyPost_ret (v := .tuple #[.agg #[.int .i64 x.1, .string x.2.1, .slice A1 x.2.2.1.length c1, .slice A2 x.2.2.2.length c2], .bool true]) (by simp [results, Tryd.results16, go_sem, r0, r1, r2x, r3]) rfl ⟨⟨A1, c1, A2, c2, by rw [HPX2.out, HB.out], by rw [HPX2.out]; exact own_four OXZ.out, by rw [HPX2.out]; exact CX.out⟩, ?_⟩
          exact below_four BXZ.out
        · have HB : Hid (plB s = false) := yes_not (fun h => heq (by have := h.2; rwa [HXE.out] at this))
          have HPX2 : Hid (plX s = (0, ⟨#[]⟩, [], [])) := by show _ = _; unfold plX; rw [HB.out]; rfl
          have z2 := bneT heq
          clear hse heq
          go_wp2_with fail
          refine (i_formatLine x A1 A2 c1 c2 _ HLNX.out LI.out HSZX.out HPX.out).mono ?_
          rintro e wz ⟨rfl, hbz⟩
          have KXZ := hide (KX.out.below hbz (Blk.lt KX.out))
          have KRZ := hide (KRX.out.below hbz (Blk.lt KRX.out))
          have OXZ := hide ((OX.out.belowZ hbz).more (Nat.le_refl _) hbz.size (Nat.le_refl _))
          have BXZ := hide (BX.out.trans (hbz.mono BX.out.size))
          clear hbz k0 k1 k2 k3 r0 r1 r2x r3 g0 g1 g2 g3
          have k0 := KXZ.out.cell 0
          have k1 := KXZ.out.cell 1
          have k2 := KXZ.out.cell 2
          have k3 := KXZ.out.cell 3
          have r0 := KRZ.out.cell 0
          have r1 := KRZ.out.cell 1
          have r2x := KRZ.out.cell 2
          have r3 := KRZ.out.cell 3
          have g0 := KRZ.out.frozen 0
          have g1 := KRZ.out.frozen 1
          have g2 := KRZ.out.frozen 2
          have g3 := KRZ.out.frozen 3
          simp at k0 k1 k2 k3 r0 r1 r2x r3
          go_wp2_with fail
          refine bodyPost_ret (v := .tuple #[.agg #[.int .i64 0, .string ⟨#[]⟩, .slice none 0 0, .slice none 0 0], .bool false]) (by simp [results, Tryd.results16, go_sem, r0, r1, r2x, r3]) rfl ⟨⟨none, 0, none, 0, by rw [HPX2.out, HB.out]; rfl, by rw [HPX2.out]; exact own_nil2 _ _ (by simp [World.setCell]; first | exact BX.out.size | exact BXZ.out.size), by rw [HPX2.out]; exact ⟨Nat.le_refl _, Nat.zero_le _, Nat.le_refl _, Nat.zero_le _⟩⟩, ?_⟩
          first | exact below_four BXZ.out | exact below_four BX.out
    · skip
      go_upto_region 4 with fail
      go_cut [28] from 16 to 28 (fun s28 wx => s28 = .bool (plC w0 (nm :: b2 :: r3)) ∧ wx = wc)
      case first =>
        by_cases h0 : kwI w0 = 0
        · have z0 : (kwI w0 == 0) = true := by simp [h0]
          have H0 := hide h0
          clear h0
          have hpos : (0 : Int) < ((r3.length : Int) + 1 + 1) := by omega
          go_wp2_with fail
          go_meet
          refine ⟨?_, rfl⟩
          have := H0.out
          first | (simp [plC, this]; done) | (simp [plC, this]; omega)
        · have z0 : (kwI w0 == 0) = false := by simp [h0]
          have H0 := hide h0
          clear h0
          by_cases h1 : kwI w0 = 1
          · have z1 : (kwI w0 == 1) = true := by simp [h1]
            have H1 := hide h1
            clear h1
            have hpos : (0 : Int) < ((r3.length : Int) + 1 + 1) := by omega
            go_wp2_with fail
            go_meet
            refine ⟨?_, rfl⟩
            have := H1.out
            first | (simp [plC, this]; done) | (simp [plC, this]; omega)
          · have z1 : (kwI w0 == 1) = false := by simp [h1]
            have H1 := hide h1
            clear h1
            go_wp2_with fail
            go_meet
            refine ⟨?_, rfl⟩
            have h0 := H0.out
            have h1 := H1.out
            simp [plC, h0, h1]
      case rest =>
      obtain ⟨rfl, rfl⟩ := hcut
      go_upto_if 28 with fail
      go_cut [4] from 28 to 34 (fun s4 wx => ∃ A4 c4, s4 = .slice A4 (nmR (kwI w0) (nm :: b2 :: r3)).2.length c4 ∧ InRow wx A4 (nmR (kwI w0) (nm :: b2 :: r3)).2.length 1 (strCells (nmR (kwI w0) (nm :: b2 :: r3)).2) ∧ Blk wx gx 29 #[.int .i64 (kwI w0), .string (nmR (kwI w0) (nm :: b2 :: r3)).1, .slice none 0 0, .slice none 0 0] ∧ Blk wx w.heap.size 29 #[.int .i64 0, .string ⟨#[]⟩, .slice none 0 0, .slice none 0 0] ∧ Below w.heap.size w wx)
      case first =>
        cases hc : plC w0 (nm :: b2 :: r3)
        · have HNR := hide (nmR_no hc)
          clear hc
          go_wp2_with fail
          go_meet
          rw [HNR.out]
          exact ⟨_, _, rfl, R2.out.tail, K3.out, K2.out, B2.out⟩
        · have HNR := hide (nmR_yes hc)
          clear hc
          obtain ⟨b, o, e, _, q⟩ := R2.out.str 1 (by simp)
          cases e
          simp at q
          have k1 := K3.out.cell 1
          have f1 := K3.out.frozen 1
          simp at k1
          have hpos : (0 : Int) < ((r3.length : Int) + 1 + 1) := by omega
          go_wp2_with fail
          go_meet
          rw [HNR.out]
          exact ⟨_, _, rfl, InRow.far R2.out.tail.tail (p := ⟨gx, 1, none⟩) (by show w.heap.size + 1 ≠ gx; omega) _, K3.out.set_ 1 (.string nm), K2.out.far (p := ⟨gx, 1, none⟩) (by show w.heap.size ≠ gx; omega) _, B2.out.setCell (p := ⟨gx, 1, none⟩) (by show w.heap.size ≤ gx; omega) _⟩
      case rest =>
      obtain ⟨A4, c4, rfl, hr4, hk4, hk2, hb4⟩ := hcut
      have hns := nmR_size (kwI w0) (nm :: b2 :: r3) (fun a ha => by have := HSZ.out a (by simp [ha]); omega)
      clear K2 K3 R2 B2 k0
      have B4 := hide hb4
      have K4 := hide hk4
      have KR := hide hk2
      have R4 := hide hr4
      have hgl := Blk.lt hk4
      have hlw := B4.out.size
      clear hb4 hk4 hk2 hr4
      have HL4 := hide hns.2.1
      have hl4 : (nmR (kwI w0) (nm :: b2 :: r3)).2.length ≤ 1048576 := by have := hns.2.2; have := hrl.out; omega
      clear hns
      generalize hnr : (nmR (kwI w0) (nm :: b2 :: r3)) = nr at *
      obtain ⟨nmN, l⟩ := nr
      simp only at R4 K4 HL4 hl4
      have HX := hide hx
      clear hx hnr
      have k0 := K4.out.cell 0
      have k2 := K4.out.cell 2
      have k3 := K4.out.cell 3
      have f2 := K4.out.frozen 2
      have f3 := K4.out.frozen 3
      simp at k0 k2 k3
      have HP4 := hide (HP.out.below B4.out)
      have HM4 := hide (HM.out.below B4.out)
      go_upto_if 37 with fail
      go_cut [] from 37 to 50 (fun wx => PlM w gx x wx)
      case first =>
        by_cases h0 : kwI w0 = 0
        · have z0 : (kwI w0 == 0) = true := by simp [h0]
          have HX1 : Hid (x = (kwI w0, nmN, l, [])) := by show _ = _; rw [HX.out]; unfold lnG1; rw [if_pos h0, if_pos h0]
          clear h0
          have O0 := hide (World.ownsRow_lit (base := wc.heap.size) (e := 9) (size := 1) wc #[] 0 (Nat.le_refl _) (Nat.zero_le _) rfl)
          have RL := hide (R4.out.below ((Below.refl _ _).alloc (Nat.le_refl _) (.cells #[] 9)))
          have KL := hide (K4.out.alloc (.cells #[] 9))
          have KRL := hide (KR.out.alloc (.cells #[] 9))
          have BL := hide (B4.out.alloc hlw (.cells #[] 9))
          clear k0 k2 k3 f2 f3
          go_wp2_with (first | (at_builtin; refine wpList_apps _ rfl (.tmp 38) (.tmp 39) _ rfl wc.heap.size 9 i0 _ 1 16 Tryd.underlying26 HI.out hz0 hz1 hz2 rfl (by decide) _ _ _ rfl O0.out A4 _ c4 (strCells l) rfl RL.out ?d1b2 ?d2b2 ?d3b2 ?d4b2 ?_) | fail)
          case d1b2 => intro u hu; obtain ⟨b, _, rfl⟩ := List.mem_map.1 hu; rfl
          case d2b2 => omega
          try case d3b2 => decide
          try case d4b2 => simp
          intro v' w5 hown5 hb5 _ _
          obtain ⟨A5, c5, hv5, hc1, hc2, ha5⟩ := Arr.of_own2 hown5
          subst hv5
          have K5 := hide (KL.out.below hb5 hgl)
          have KR5 := hide (KRL.out.below hb5 (by omega))
          have B5 := hide (BL.out.trans (hb5.mono hlw))
          have O5 := hide ha5
          have hz5 := hb5.size
          simp at hz5
          clear hown5 hb5 ha5
          have k2 := K5.out.cell 2
          have f2 := K5.out.frozen 2
          simp at k2
          go_wp2_with fail
          go_meet
          rw [HX1.out]
          refine ⟨A5, c5, none, 0, by simpa using K5.out.set_ 2 (.slice A5 (0 + l.length) c5), ?_, ⟨by simpa using hc1, hc2, Nat.le_refl _, Nat.zero_le _⟩, B5.out.setCell (p := ⟨gx, 2, none⟩) (by show w.heap.size ≤ gx; omega) _, KR5.out.far (p := ⟨gx, 2, none⟩) (by show w.heap.size ≠ gx; omega) _⟩
          have hz6 : (w5.setCell ⟨gx, 2, none⟩ (.slice A5 (0 + l.length) c5)).heap.size = w5.heap.size := by simp [World.setCell]
          have ha6 := O5.out.far (p := ⟨gx, 2, none⟩) (.inl hgl) (.slice A5 (0 + l.length) c5)
          simp only [Nat.zero_add, List.nil_append] at ha6 hz6 ⊢
          exact Own.join (a := wc.heap.size) (b := w5.heap.size) (c := w5.heap.size) (d := w5.heap.size) (Own.one ha6) (Own.one (Arr.nil_ _ _ _ _ _)) (.inl (Nat.le_refl _)) (by omega) (by omega) (by omega) (by omega) (Nat.le_refl _)
        · have z0 : (kwI w0 == 0) = false := by simp [h0]
          have HX1 : Hid (x = (kwI w0, nmN, [], peL l)) := by show _ = _; rw [HX.out]; unfold lnG1; rw [if_neg h0, if_neg h0]
          clear h0
          rcases l with _ | ⟨a0, l⟩
          · go_wp2_with fail
            go_meet
            rw [HX1.out, peL_nil]
            exact ⟨none, 0, none, 0, K4.out, (Own.join (a := w.heap.size + 1) (b := w.heap.size + 1) (c := w.heap.size + 1) (d := w.heap.size + 1) (Own.one (Arr.nil_ _ _ _ _ _)) (Own.one (Arr.nil_ _ _ _ _ _)) (.inl (Nat.le_refl _)) (Nat.le_refl _) (by omega) (Nat.le_refl _) (by omega) (Nat.le_refl _)), ⟨Nat.le_refl _, Nat.zero_le _, Nat.le_refl _, Nat.zero_le _⟩, B4.out, KR.out⟩
          · have hpos : (0 : Int) < ((l.length : Int) + 1) := by omega
            obtain ⟨L, hLL⟩ : ∃ L, L = a0 :: l := ⟨_, rfl⟩
            have hLn : L.length = l.length + 1 := by rw [hLL]; rfl
            rw [← hLL] at HX1 HL4 R4
            have R4' := R4.out
            simp only [List.length_cons] at R4' hl4
            have R5 := hide R4'
            clear hLL R4 R4'
            clear k0 k2 f2
            go_wp2_with fail
            refine (i_parseExpr A4 _ c4 L _ hl4 hLn (show InRow wc A4 (l.length + 1) 1 (strCells L) by rw [← hLn]; exact R5.out) HL4.out HP4.out HM4.out).mono ?_
            rintro e w5 ⟨⟨v', rfl, ho5⟩, hb5⟩
            obtain ⟨A5, c5, hv5, hc1, hc2, ha5⟩ := Arr.of_own2 ho5
            subst hv5
            have K5 := hide (K4.out.below hb5 hgl)
            have KR5 := hide (KR.out.below hb5 (by omega))
            have B5 := hide (B4.out.trans (hb5.mono hlw))
            have O5 := hide ha5
            have hz5 := hb5.size
            clear ho5 hb5 ha5 k3 f3
            have k3 := K5.out.cell 3
            have f3 := K5.out.frozen 3
            simp at k3
            go_wp2_with fail
            go_meet
            rw [HX1.out]
            refine ⟨none, 0, A5, c5, K5.out.set_ 3 (.slice A5 (peL L).length c5), ?_, ⟨Nat.le_refl _, Nat.zero_le _, hc1, hc2⟩, B5.out.setCell (p := ⟨gx, 3, none⟩) (by show w.heap.size ≤ gx; omega) _, KR5.out.far (p := ⟨gx, 3, none⟩) (by show w.heap.size ≠ gx; omega) _⟩
            have hz6 : (w5.setCell ⟨gx, 3, none⟩ (.slice A5 (peL L).length c5)).heap.size = w5.heap.size := by simp [World.setCell]
            have ha6 := O5.out.far (p := ⟨gx, 3, none⟩) (.inl hgl) (.slice A5 (peL L).length c5)
            exact Own.join (a := w5.heap.size) (b := w5.heap.size) (c := wc.heap.size) (d := w5.heap.size) (Own.one (Arr.nil_ _ _ _ _ _)) (Own.one ha6) (.inr (Nat.le_refl _)) (by omega) (by omega) (by omega) (by omega) (by omega)
      case rest =>
      have HPM : Hid (PlM w gx x wc) := hcut
      clear hcut k0 k2 k3 f2 f3 K4 KR R4 B4 HP4 HM4
      obtain ⟨A1, c1, A2, c2, hk, ho, hcp, hb, hkr⟩ := HPM.out
      have KX := hide hk
      have OX := hide ho
      have CX := hide hcp
      have BX := hide hb
      have KRX := hide hkr
      have LI := hide (lnIn_of_own (p := (x, A1, c1, A2, c2)) (fun r hr => ho.rows r hr) hcp)
      have HPX := hide (HP.out.below hb)
      clear hk ho hcp hb hkr HPM
      have k0 := KX.out.cell 0
      have k1 := KX.out.cell 1
      have k2 := KX.out.cell 2
      have k3 := KX.out.cell 3
      have r0 := KRX.out.cell 0
      have r1 := KRX.out.cell 1
      have r2x := KRX.out.cell 2
      have r3 := KRX.out.cell 3
      have g0 := KRX.out.frozen 0
      have g1 := KRX.out.frozen 1
      have g2 := KRX.out.frozen 2
      have g3 := KRX.out.frozen 3
      simp at k0 k1 k2 k3 r0 r1 r2x r3
      by_cases hse : s = ⟨#[]⟩
      · have z : s.toList.isEmpty = true := toList_e2 hse
        have HB : Hid (plB s = false) := yes_not (fun h => h.1 hse)
        have HPX2 : Hid (plX s = (0, ⟨#[]⟩, [], [])) := by show _ = _; unfold plX; rw [HB.out]; rfl
        clear hse
        go_wp2_with fail
        refine bodyPost_ret (v := .tuple #[.agg #[.int .i64 0, .string ⟨#[]⟩, .slice none 0 0, .slice none 0 0], .bool false]) (by simp [results, Tryd.results16, go_sem, r0, r1, r2x, r3]) rfl ⟨⟨none, 0, none, 0, by rw [HPX2.out, HB.out]; rfl, by rw [HPX2.out]; exact own_nil2 _ _ (by simp [World.setCell]; first | exact BX.out.size | exact BXZ.out.size), by rw [HPX2.out]; exact ⟨Nat.le_refl _, Nat.zero_le _, Nat.le_refl _, Nat.zero_le _⟩⟩, ?_⟩
        first | exact below_four BXZ.out | exact below_four BX.out
      · have z : s.toList.isEmpty = false := toList_ne hse
        by_cases heq : fmtLnF x = s
        · have HB : Hid (plB s = true) := yes_of ⟨hse, by rw [HXE.out]; exact heq⟩
          have HPX2 : Hid (plX s = x) := by show _ = _; unfold plX; rw [HB.out, HXE.out]; rfl
          have z2 := bneF heq
          clear hse heq
          go_wp2_with fail
          refine (i_formatLine x A1 A2 c1 c2 _ HLNX.out LI.out HSZX.out HPX.out).mono ?_
          rintro e wz ⟨rfl, hbz⟩
          have KXZ := hide (KX.out.below hbz (Blk.lt KX.out))
          have KRZ := hide (KRX.out.below hbz (Blk.lt KRX.out))
          have OXZ := hide ((OX.out.belowZ hbz).more (Nat.le_refl _) hbz.size (Nat.le_refl _))
          have BXZ := hide (BX.out.trans (hbz.mono BX.out.size))
          clear hbz k0 k1 k2 k3 r0 r1 r2x r3 g0 g1 g2 g3
          have k0 := KXZ.out.cell 0
          have k1 := KXZ.out.cell 1
          have k2 := KXZ.out.cell 2
          have k3 := KXZ.out.cell 3
          have r0 := KRZ.out.cell 0
          have r1 := KRZ.out.cell 1
          have r2x := KRZ.out.cell 2
          have r3 := KRZ.out.cell 3
          have g0 := KRZ.out.frozen 0
          have g1 := KRZ.out.frozen 1
          have g2 := KRZ.out.frozen 2
          have g3 := KRZ.out.frozen 3
          simp at k0 k1 k2 k3 r0 r1 r2x r3
          go_wp2_with fail
          refine bodyPost_ret (v := .tuple #[.agg #[.int .i64 x.1, .string x.2.1, .slice A1 x.2.2.1.length c1, .slice A2 x.2.2.2.length c2], .bool true]) (by simp [results, Tryd.results16, go_sem, r0, r1, r2x, r3]) rfl ⟨⟨A1, c1, A2, c2, by rw [HPX2.out, HB.out], by rw [HPX2.out]; exact own_four OXZ.out, by rw [HPX2.out]; exact CX.out⟩, ?_⟩
          exact below_four BXZ.out
        · have HB : Hid (plB s = false) := yes_not (fun h => heq (by have := h.2; rwa [HXE.out] at this))
          have HPX2 : Hid (plX s = (0, ⟨#[]⟩, [], [])) := by show _ = _; unfold plX; rw [HB.out]; rfl
          have z2 := bneT heq
          clear hse heq
          go_wp2_with fail
          refine (i_formatLine x A1 A2 c1 c2 _ HLNX.out LI.out HSZX.out HPX.out).mono ?_
          rintro e wz ⟨rfl, hbz⟩
          have KXZ := hide (KX.out.below hbz (Blk.lt KX.out))
          have KRZ := hide (KRX.out.below hbz (Blk.lt KRX.out))
          have OXZ := hide ((OX.out.belowZ hbz).more (Nat.le_refl _) hbz.size (Nat.le_refl _))
          have BXZ := hide (BX.out.trans (hbz.mono BX.out.size))
          clear hbz k0 k1 k2 k3 r0 r1 r2x r3 g0 g1 g2 g3
          have k0 := KXZ.out.cell 0
          have k1 := KXZ.out.cell 1
          have k2 := KXZ.out.cell 2
          have k3 := KXZ.out.cell 3
          have r0 := KRZ.out.cell 0
          have r1 := KRZ.out.cell 1
          have r2x := KRZ.out.cell 2
          have r3 := KRZ.out.cell 3
          have g0 := KRZ.out.frozen 0
          have g1 := KRZ.out.frozen 1
          have g2 := KRZ.out.frozen 2
          have g3 := KRZ.out.frozen 3
          simp at k0 k1 k2 k3 r0 r1 r2x r3
          go_wp2_with fail
          refine bodyPost_ret (v := .tuple #[.agg #[.int .i64 0, .string ⟨#[]⟩, .slice none 0 0, .slice none 0 0], .bool false]) (by simp [results, Tryd.results16, go_sem, r0, r1, r2x, r3]) rfl ⟨⟨none, 0, none, 0, by rw [HPX2.out, HB.out]; rfl, by rw [HPX2.out]; exact own_nil2 _ _ (by simp [World.setCell]; first | exact BX.out.size | exact BXZ.out.size), by rw [HPX2.out]; exact ⟨Nat.le_refl _, Nat.zero_le _, Nat.le_refl _, Nat.zero_le _⟩⟩, ?_⟩
          first | exact below_four BXZ.out | exact below_four BX.out
end Go.Proofs.YtclldakoinnhhaaDoor
namespace Go.Proofs.YtclldakoinnhhaaDoor
open Go Go.RowKit
set_option maxRecDepth 100000
/-! The lines of a text, by scanning. -/
noncomputable def ppL : List UInt8 → List UInt8 → Option (List Ln)
  | [], cur => if cur = [] then some [] else none
  | b :: l, cur => if b = 10 then (if plB ⟨cur.toArray⟩ = true then (ppL l []).map (plX ⟨cur.toArray⟩ :: ·) else none) else ppL l (cur ++ [b])
theorem ppL_none (l : List UInt8) : ∀ cur : List UInt8, (∀ b ∈ l, b ≠ 10) → cur ++ l ≠ [] → ppL l cur = none := by
  induction l with
  | nil => intro cur _ h; rw [ppL, if_neg (by simpa using h)]
  | cons b l ih =>
    intro cur hb h
    rw [ppL, if_neg (hb b (by simp))]
    exact ih _ (fun x hx => hb x (by simp [hx])) (by simp)
theorem ppL_cut (t r : List UInt8) : ∀ cur : List UInt8, (∀ b ∈ t, b ≠ 10) → ppL (t ++ 10 :: r) cur = if plB ⟨(cur ++ t).toArray⟩ = true then (ppL r []).map (plX ⟨(cur ++ t).toArray⟩ :: ·) else none := by
  induction t with
  | nil => intro cur _; rw [List.nil_append, ppL, if_pos rfl, List.append_nil]
  | cons b t ih =>
    intro cur hb
    rw [List.cons_append, ppL, if_neg (hb b (by simp)), ih _ (fun x hx => hb x (by simp [hx])), List.append_assoc]
    rfl
/-- What has been read (acc) and what is still to be read (l, after cur). -/
def PpAt (s l cur : List UInt8) (acc : List Ln) : Prop := ppL s [] = (ppL l cur).map (acc ++ ·)
theorem PpAt.start (s : List UInt8) : PpAt s s [] [] := by unfold PpAt; simp
theorem PpAt.byte {s l cur : List UInt8} {b : UInt8} {acc : List Ln} (h : PpAt s (b :: l) cur acc) (hb : b ≠ 10) : PpAt s l (cur ++ [b]) acc := by
  unfold PpAt at h ⊢; rw [h, ppL, if_neg hb]
theorem PpAt.line {s l cur : List UInt8} {acc : List Ln} (h : PpAt s (10 :: l) cur acc) (hp : plB ⟨cur.toArray⟩ = true) : PpAt s l [] (acc ++ [plX ⟨cur.toArray⟩]) := by
  unfold PpAt at h ⊢
  rw [h, ppL, if_pos rfl, if_pos hp, Option.map_map]
  congr 1
  funext x
  simp
theorem PpAt.bad {s l cur : List UInt8} {acc : List Ln} (h : PpAt s (10 :: l) cur acc) (hp : plB ⟨cur.toArray⟩ = false) : ppL s [] = none := by
  unfold PpAt at h
  rw [h, ppL, if_pos rfl, if_neg (by rw [hp]; simp)]; rfl
theorem PpAt.done {s cur : List UInt8} {acc : List Ln} (h : PpAt s [] cur acc) : ppL s [] = if cur = [] then some acc else none := by
  unfold PpAt at h
  rw [h, ppL]
  split <;> simp
theorem PpAt.cut {s t r : List UInt8} {acc : List Ln} (h : PpAt s (t ++ 10 :: r) [] acc) (ht : ∀ b ∈ t, b ≠ 10) (hp : plB ⟨t.toArray⟩ = true) : PpAt s r [] (acc ++ [plX ⟨t.toArray⟩]) := by
  unfold PpAt at h ⊢
  rw [h, ppL_cut t r [] ht, List.nil_append, if_pos hp, Option.map_map]
  congr 1
  funext x
  simp
theorem PpAt.cutBad {s t r : List UInt8} {acc : List Ln} (h : PpAt s (t ++ 10 :: r) [] acc) (ht : ∀ b ∈ t, b ≠ 10) (hp : plB ⟨t.toArray⟩ = false) : ppL s [] = none := by
  unfold PpAt at h
  rw [h, ppL_cut t r [] ht, List.nil_append, if_neg (by rw [hp]; simp)]; rfl
theorem PpAt.open_ {s l : List UInt8} {acc : List Ln} (h : PpAt s l [] acc) (hl : ∀ b ∈ l, b ≠ 10) (hne : l ≠ []) : ppL s [] = none := by
  unfold PpAt at h
  rw [h, ppL_none l [] hl (by simpa using hne)]; rfl
/-- What is read first stands first: so a long head makes a long list, or none. -/
theorem PpAt.long {s l cur : List UInt8} {acc L : List Ln} (h : PpAt s l cur acc) (hs : ppL s [] = some L) : acc.length ≤ L.length := by
  unfold PpAt at h
  rw [hs] at h
  obtain ⟨y, _, rfl⟩ := Option.map_eq_some_iff.1 h.symm
  simp
noncomputable def ppF (s : ByteArray) : Option (List Ln) := match ppL s.data.toList [] with
  | some L => if L.length ≤ 60 then some L else none
  | none => none
theorem ppF_none {s : ByteArray} (h : ppL s.data.toList [] = none) : ppF s = none := by unfold ppF; rw [h]
theorem ppF_some {s : ByteArray} {L : List Ln} (h : ppL s.data.toList [] = some L) (hl : L.length ≤ 60) : ppF s = some L := by unfold ppF; rw [h]; simp [hl]
theorem ppF_long {s : ByteArray} {l cur : List UInt8} {acc : List Ln} (h : PpAt s.data.toList l cur acc) (hl : 60 < acc.length) : ppF s = none := by
  unfold ppF
  cases hs : ppL s.data.toList [] with
  | none => rfl
  | some L => have := h.long hs; simp; omega
/-! The first line's end. -/
def cutN (s : ByteArray) : List UInt8 × List UInt8 × Bool := Lib.cut s.data.toList [10]
theorem cutN_size (s : ByteArray) : (cutN s).1.length ≤ s.size ∧ (cutN s).2.1.length ≤ s.size ∧ ((cutN s).2.2 = true → (cutN s).2.1.length < s.size) := by
  have : s.data.toList.length = s.size := rfl
  unfold cutN Lib.cut
  split <;> simp
  · rename_i h0
    obtain ⟨o, ho⟩ := Int.eq_ofNat_of_zero_le h0
    have h1 := ho
    rw [Lib.index_one] at h1
    have := (Lib.indexByte_some h1).1
    have := (List.getElem?_eq_some_iff.1 this).1
    omega
theorem first10 : ∀ l : List UInt8, 10 ∈ l → ∃ t r, l = t ++ 10 :: r ∧ ∀ b ∈ t, b ≠ 10 := by
  intro l
  induction l with
  | nil => intro h; cases h
  | cons b l ih =>
    intro h
    by_cases hb : b = 10
    · exact ⟨[], l, by rw [hb]; rfl, fun x hx => by cases hx⟩
    · rcases List.mem_cons.1 h with h | h
      · exact absurd h.symm hb
      · obtain ⟨t, r, e, ht⟩ := ih h
        refine ⟨b :: t, r, by rw [e]; rfl, ?_⟩
        intro x hx
        rcases List.mem_cons.1 hx with rfl | hx
        · exact hb
        · exact ht x hx
theorem idx10 (t r : List UInt8) (h : ∀ b ∈ t, b ≠ 10) : Lib.indexByte (t ++ 10 :: r) 10 = t.length := by
  induction t with
  | nil => simp [Lib.indexByte]
  | cons c t ih =>
    have hc : ¬ c = 10 := h c (by simp)
    have := ih (fun b hb => h b (by simp [hb]))
    rw [List.cons_append, Lib.indexByte, this]
    have h1 : (c == 10) = false := by simpa using hc
    rw [h1]
    have h2 : (((t.length : Nat) : Int) == -1) = false := by rw [beq_eq_false_iff_ne]; omega
    rw [h2]
    simp
theorem cutN_some {s : ByteArray} (h : (10 : UInt8) ∈ s.data.toList) : (cutN s).2.2 = true ∧ s.data.toList = (cutN s).1 ++ 10 :: (cutN s).2.1 ∧ ∀ b ∈ (cutN s).1, b ≠ 10 := by
  obtain ⟨t, r, e, ht⟩ := first10 _ h
  have : cutN s = (t, r, true) := by
    unfold cutN Lib.cut
    rw [e, Lib.index_one, idx10 t r ht, if_pos (by omega), Int.toNat_natCast]
    simp
  rw [this]
  exact ⟨rfl, e, ht⟩
theorem cutN_none {s : ByteArray} (h : (10 : UInt8) ∉ s.data.toList) : (cutN s).2.2 = false := by
  unfold cutN Lib.cut
  rw [Lib.index_one]
  split
  · rename_i h0
    obtain ⟨o, ho⟩ := Int.eq_ofNat_of_zero_le h0
    have := (Lib.indexByte_some ho).1
    exact absurd (List.mem_of_getElem? this) h
  · rfl
end Go.Proofs.YtclldakoinnhhaaDoor
namespace Go.Proofs.YtclldakoinnhhaaDoor
open Go Go.RowKit
set_option maxRecDepth 100000
set_option linter.unusedVariables false
set_option linter.unusedSimpArgs false
def PpRet (s : ByteArray) (w : World) (e : Ending) (w' : World) : Prop := ∃ A c, e = .returned (.tuple #[.slice A ((ppF s).getD []).length c, .bool (ppF s).isSome]) ∧ OwnLines w' w.heap.size w'.heap.size A ((ppF s).getD [])
def strSz : Value → Nat
  | .string t => t.size
  | _ => 0
theorem own_none (w : World) (lo hi : Nat) : OwnLines w lo hi none [] := ⟨[], rfl, ⟨fun r hr => by obtain rfl := List.mem_singleton.1 hr; exact Arr.nil_ _ _ _ _ _, by simp [rwB]⟩, fun p hp => by simp at hp⟩
theorem Tryd.infoLn : (Tryd.prog.info? 29).map (fun i => (i.zero, i.size, i.bytes)) = some (some (.agg #[.int .i64 0, .string ByteArray.empty, .slice none 0 0, .slice none 0 0]), 4, 72) := by kernel_rfl
set_option maxHeartbeats 4000000 in
theorem i_parseProgram (s : ByteArray) (hs : s.size ≤ 1048576) (w : World) (hp : PowIs w) (hmx : MaxIs w) :
    Calls Tryd.prog 15 #[.string s] w fun e w' => PpRet s w e w' ∧ Below w.heap.size w w' := by
  obtain ⟨i0, hi, hz0, hz1, hz2⟩ := info_parts Tryd.infoLn
  have HI := hide hi
  have HP := hide hp
  have HM := hide hmx
  clear hp hmx hi
  go_enter Tryd.func15, Tryd.ntmps15
  go_wp2_with fail
  go_loopw [0, 4] (fun sv v wr => ∃ (t : ByteArray) (P : List LP), sv = .string t ∧ t.size ≤ 1048576 ∧ PpAt s.data.toList t.data.toList [] (P.map Prod.fst) ∧ P.length ≤ 60 ∧ OwnL wr w.heap.size 29 v P P ∧ Below w.heap.size w wr) (fun sv _ _ => strSz sv)
  case atStart => exact ⟨s, [], rfl, hs, PpAt.start _, by simp, OwnL.nil_ (World.ownsRow_lit w #[] 0 (Nat.le_refl _) (Nat.zero_le _) rfl), (Below.refl _ _).alloc (Nat.le_refl _) _⟩
  case round =>
    obtain ⟨t, P, rfl, ht, hat, hP, hown, hb⟩ := hrel
    have HAT := hide hat
    have HO := hide hown
    have HB := hide hb
    clear hat hown hb
    by_cases hte : t = ⟨#[]⟩
    · have z : t.toList.isEmpty = true := toList_e2 hte
      have HF : Hid (ppF s = some (P.map Prod.fst)) := by
        show _ = _
        have := HAT.out
        rw [hte] at this
        refine ppF_some ?_ (by simpa using hP)
        have h2 := PpAt.done (s := s.data.toList) (cur := []) this
        simpa using h2
      obtain ⟨A, c, hv, hl⟩ := HO.out.lines
      subst hv
      have HL := hide hl
      clear hte hl
      go_wp2_with fail
      go_ret2
      refine ⟨⟨A, c, ?_, ?_⟩, HB.out⟩
      · rw [HF.out]; simp
      · rw [HF.out]; exact HL.out
    · have z : t.toList.isEmpty = false := toList_ne hte
      have hcz := cutN_size t
      obtain ⟨m, hm⟩ := HM.out.below HB.out
      have HMM := hide hm
      have HCUT : Hid (Calls Tryd.prog 27 #[.string t, .string ⟨#[10]⟩] wr fun e w' => e = .returned (.tuple #[.string ⟨(cutN t).1.toArray⟩, .string ⟨(cutN t).2.1.toArray⟩, .bool (cutN t).2.2]) ∧ ∃ n, w' = wr.drewN n) := Tryd.strings_Cut t ⟨#[10]⟩ m wr (by omega) HMM.out
      have HSOME : Hid ((cutN t).2.2 = true → t.data.toList = (cutN t).1 ++ 10 :: (cutN t).2.1 ∧ ∀ b ∈ (cutN t).1, b ≠ 10) := fun h => by
        by_cases h10 : (10 : UInt8) ∈ t.data.toList
        · exact (cutN_some h10).2
        · rw [cutN_none h10] at h; cases h
      have HNONE : Hid ((cutN t).2.2 = false → ppF s = none) := fun h => by
        refine ppF_none (HAT.out.open_ (fun b hb e => ?_) (fun e => hte ?_))
        · subst e; rw [(cutN_some hb).1] at h; cases h
        · apply ByteArray.ext; exact Array.toList_inj.1 e
      generalize hcut : cutN t = q at *
      obtain ⟨tx, rs, fd⟩ := q
      simp only at hcz
      have hsz1 : (⟨tx.toArray⟩ : ByteArray).size ≤ 1048576 := by show tx.length ≤ 1048576; omega
      clear hcut hte hm
      have HPL : Hid (∀ W, PowIs W → MaxIs W → Calls Tryd.prog 16 #[.string ⟨tx.toArray⟩] W fun e w' => PlRet ⟨tx.toArray⟩ W e w' ∧ Below W.heap.size W w') := fun W h1 h2 => i_parseLine ⟨tx.toArray⟩ hsz1 W h1 h2
      unfold PlRet at HPL
      have HGOOD : Hid (fd = true → plB ⟨tx.toArray⟩ = true → PpAt s.data.toList rs [] (P.map Prod.fst ++ [plX ⟨tx.toArray⟩])) := fun h1 h2 => by
        obtain ⟨e1, e2⟩ := HSOME.out h1
        have := HAT.out
        rw [e1] at this
        exact this.cut e2 h2
      have HBADL : Hid (fd = true → plB ⟨tx.toArray⟩ = false → ppF s = none) := fun h1 h2 => by
        obtain ⟨e1, e2⟩ := HSOME.out h1
        have := HAT.out
        rw [e1] at this
        exact ppF_none (this.cutBad e2 h2)
      generalize hX : plX ⟨tx.toArray⟩ = X at *
      generalize hPB : plB ⟨tx.toArray⟩ = pb at *
      obtain ⟨xk, xs, xa, xe⟩ := X
      clear hX hPB HSOME HAT
      simp only at HPL
      go_wp2_with fail
      refine HCUT.out.mono ?_
      rintro e w1 ⟨rfl, nq, rfl⟩
      have B1 := hide (below_drewN HB.out nq)
      have O1 := hide (HO.out.belowZ (below_drewN (Below.refl wr.heap.size wr) nq))
      clear HCUT HB HO
      go_wp2_with fail
      refine (HPL.out _ (HP.out.below B1.out) (HM.out.below B1.out)).mono ?_
      rintro e w2 ⟨⟨D1, d1, D2, d2, rfl, o2, p2⟩, hb2⟩
      have hz2' := hb2.size
      have HX : Hid (OwnL w2 w.heap.size 29 u4 P (P ++ [((xk, xs, xa, xe), D1, d1, D2, d2)])) := O1.out.line hb2 B1.out.size o2 p2
      have B2 := hide (B1.out.trans (hb2.mono B1.out.size))
      have HNIL : Hid (ppF s = none → PpRet s w (.returned (.tuple #[.slice none 0 0, .bool false])) (w2.alloc (.cells #[.int .i64 xk, .string xs, .slice D1 xa.length d1, .slice D2 xe.length d2] 29))) := fun h => by
        unfold PpRet
        rw [h]
        exact ⟨none, 0, rfl, own_none _ _ _⟩
      have B3 := hide (B2.out.alloc B2.out.size (.cells #[.int .i64 xk, .string xs, .slice D1 xa.length d1, .slice D2 xe.length d2] 29))
      have HX3 := hide (HX.out.belowZ ((Below.refl _ _).alloc (Nat.le_refl _) (.cells #[.int .i64 xk, .string xs, .slice D1 xa.length d1, .slice D2 xe.length d2] 29)))
      clear hb2 o2 p2 HX O1 HPL
      obtain ⟨A, c, hv, _⟩ := Arr.of_own HX3.out.1
      subst hv
      cases fd
      · have HF := hide (HNONE.out rfl)
        go_wp2_with fail
        go_ret2
        exact ⟨HNIL.out HF.out, B3.out⟩
      · cases pb
        · have HF := hide (HBADL.out rfl rfl)
          go_wp2_with fail
          go_ret2
          exact ⟨HNIL.out HF.out, B3.out⟩
        · have HN : Hid (PpAt s.data.toList rs [] ((P ++ [((xk, xs, xa, xe), D1, d1, D2, d2)]).map Prod.fst)) := by
            show PpAt _ _ _ _
            have := HGOOD.out rfl rfl
            simpa using this
          by_cases h60 : P.length < 60
          · have z60 : decide ((60 : Int) ≤ (P.length : Int)) = false := decide_eq_false (by omega)
            have hrs : rs.length < t.size := hcz.2.2 rfl
            go_wp2_with (first | (at_builtin; refine wpList_appN _ rfl (.tmp 35) (.tmp 37) _ rfl w.heap.size 29 i0 _ 4 72 Tryd.underlying24 HI.out hz0 hz1 hz2 rfl (by decide) _ _ _ rfl HX3.out.1 1 (lnC ((xk, xs, xa, xe), D1, d1, D2, d2)) rfl ?c0 ?c1 ?c2 ?c3 ?c4 ?c5 ?_) | fail)
            case c0 => simp
            case c1 => rfl
            case c2 => intro u hu; simp [lnC] at hu; rcases hu with rfl | rfl | rfl | rfl <;> rfl
            case c3 => omega
            case c4 => decide
            case c5 => exact B3.out.size
            intro v' w5 hown5 hb5 hgr5 hwh5
            have HX5 := hide (HX3.out.app hown5 hgr5 (by simpa using hwh5))
            have B5 := hide (B3.out.trans hb5)
            clear hown5 hb5 hgr5 hwh5
            go_wp2_with fail
            go_roundw
            case rel => exact ⟨⟨rs.toArray⟩, _, rfl, by show rs.length ≤ _; omega, HN.out, by simp; omega, HX5.out, B5.out⟩
            case measure => show rs.length < t.size; exact hrs
          · have z60 : decide ((60 : Int) ≤ (P.length : Int)) = true := decide_eq_true (by omega)
            have HF : Hid (ppF s = none) := ppF_long HN.out (by simp; omega)
            go_wp2_with fail
            go_ret2
            exact ⟨HNIL.out HF.out, B3.out⟩
end Go.Proofs.YtclldakoinnhhaaDoor
namespace Go.Proofs.YtclldakoinnhhaaDoor
open Go Go.RowKit
set_option maxRecDepth 100000
set_option linter.unusedVariables false
set_option linter.unusedSimpArgs false
theorem ext_list (s : ByteArray) (a k : Nat) : (s.extract a k).data.toList = (s.data.toList.take k).drop a := by
  rw [ByteArray.data_extract, Array.toList_extract]
  simp [List.extract, List.drop_take]
theorem ext_snoc (s : ByteArray) (a k : Nat) (ha : a ≤ k) (hk : k < s.size) : (s.extract a (k + 1)).data.toList = (s.extract a k).data.toList ++ [s[k]] := by
  rw [ext_list, ext_list, take_snoc s k hk, List.drop_append_of_le_length (by rw [List.length_take, len_toList]; omega)]
theorem ext_nil (s : ByteArray) (a : Nat) : (s.extract a a).data.toList = [] := by
  rw [ext_list, List.drop_of_length_le (by rw [List.length_take]; omega)]
theorem ext_arr (s : ByteArray) (a k : Nat) : (⟨(s.extract a k).data.toList.toArray⟩ : ByteArray) = s.extract a k := by
  exact ByteArray.ext Array.toArray_toList
theorem drop_byte (s : ByteArray) (k : Nat) (hk : k < s.size) : s.data.toList.drop k = s[k] :: s.data.toList.drop (k + 1) := by
  rw [List.drop_eq_getElem_cons (by rw [len_toList]; exact hk)]; rfl
theorem nl_eq {c : UInt8} (h : c = 10) : ((c.toNat : Int) != 10) = false := by rw [h]; rfl
theorem nl_ne {c : UInt8} (h : c ≠ 10) : ((c.toNat : Int) != 10) = true := by
  rw [bne_iff_ne]; intro e; exact h (UInt8.toNat_inj.1 (by show c.toNat = 10; omega))
end Go.Proofs.YtclldakoinnhhaaDoor
