import Derived.Test.YtcfjbaanahgpoaaCoJK
import Derived.Test.YtcfjbaanahgpoaaImgB
import Derived.Test.YtcfjbaanahgpoaaDrBl
namespace Go.Proofs.Ytcfjbaanahgpoaa
open Go Go.RowKit
set_option maxRecDepth 100000
set_option linter.unusedVariables false
set_option linter.unusedSimpArgs false
/-! Where instructions lie, as functions of the instructions. No program in sight. -/
abbrev Ops := List (Int × Int)
/-- Where an instruction begins. -/
def szO (O : Ops) (k : Nat) : Int := ((O.take k).map fun x => opSizeF x.1).sum
theorem szO_zero (O : Ops) : szO O 0 = 0 := by simp [szO]
theorem szO_succ (O : Ops) (k : Nat) (hk : k < O.length) : szO O (k + 1) = szO O k + opSizeF O[k].1 := by
  unfold szO
  rw [List.take_succ_eq_append_getElem hk, List.map_append, List.sum_append]
  simp
theorem szO_bound (O : Ops) : ∀ k : Nat, k ≤ O.length → 0 ≤ szO O k ∧ szO O k ≤ 5 * k := by
  intro k
  induction k with
  | zero => intro _; rw [szO_zero]; omega
  | succ k ih =>
    intro hk
    have h1 := ih (by omega)
    have h2 := opSizeF_le O[k].1
    rw [szO_succ O k (by omega)]
    omega
theorem offN_szO (I : List It) (f : Int) (k : Nat) : offN I f k = f + szO (opL I) k := by
  unfold offN szO opL
  rw [List.map_take, List.map_take, List.map_map]
  rfl
/-- The argument that an instruction gets. -/
def argO (O : Ops) (k : Nat) (x : Int × Int) : Int := if x.1 = 10 ∨ x.1 = 11 then szO O x.2.toNat - szO O (k + 1) else x.2
/-- The instructions as they are put. -/
def finO (O : Ops) : Ops := O.mapIdx fun k x => (x.1, argO O k x)
theorem finO_length (O : Ops) : (finO O).length = O.length := by simp [finO]
/-- Places: where each begins, and the instruction. -/
def plsO (O : Ops) (f : Int) : List (Int × Int × Int) := O.mapIdx fun k x => (f + szO O k, x.1, argO O k x)
theorem plsO_length (O : Ops) (f : Int) : (plsO O f).length = O.length := by simp [plsO]
def plP (p : Int × It) : Int × Int × Int := (p.1, p.2.code, p.2.arg)
theorem plP_pls {I : List It} {f : Int} {P : List (Int × It)} (h : PlP I f P) : P.map plP = plsO (opL I) f := by
  obtain ⟨h1, h2⟩ := h
  refine List.ext_getElem? fun k => ?_
  rw [List.getElem?_map]
  unfold plsO
  rw [List.getElem?_mapIdx]
  by_cases hk : k < I.length
  · obtain ⟨p, g1, g2, g3, g4⟩ := h2 k hk
    rw [g1]
    have e : (opL I)[k]? = some (I[k].code, I[k].arg) := by
      unfold opL
      rw [List.getElem?_map, List.getElem?_eq_getElem hk]
      rfl
    rw [e]
    simp only [Option.map_some, plP]
    rw [g2, g3, g4, offN_szO]
    congr 3
    unfold argR argO
    simp only [offN_szO]
    split
    · omega
    · rfl
  · rw [List.getElem?_eq_none (by omega), List.getElem?_eq_none (by rw [opL_length]; omega)]
    rfl
/-- Instructions in order. -/
def OpsOk (O : Ops) : Prop := (3 ≤ O.length ∧ O.length ≤ 2600) ∧ ∀ x ∈ O, ArgOk x.1 x.2 ∧ (x.1 = 10 ∨ x.1 = 11 → 0 ≤ x.2 ∧ x.2 < (O.length : Int))
theorem opsOk_of {n : Nat} {inl : Int} {fu en : Nat} {L : List Ln} {words : Int} {I : List It} (h : FinC n inl fu en L words I) (hl : I.length ≤ 2600) : OpsOk (opL I) := by
  obtain ⟨h1, h2, _⟩ := h
  refine ⟨by rw [opL_length]; omega, fun x hx => ?_⟩
  obtain ⟨y, hy, rfl⟩ := List.mem_map.1 hx
  obtain ⟨_, _, _, h4, h5⟩ := h1 y hy
  rw [opL_length]
  exact ⟨h5, h4⟩
theorem finO_ok {O : Ops} (h : OpsOk O) : ∀ x ∈ finO O, opOkF x.1 x.2 = true := by
  intro x hx
  obtain ⟨k, hk, rfl⟩ := List.mem_iff_getElem.1 hx
  have hk' : k < O.length := by rw [finO_length] at hk; exact hk
  obtain ⟨h1, h2⟩ := h.2 _ (List.getElem_mem hk')
  have e : (finO O)[k] = (O[k].1, argO O k O[k]) := by simp [finO]
  rw [e]
  show opOkF O[k].1 (argO O k O[k]) = true
  have hl := h.1
  unfold argO
  by_cases hj : O[k].1 = 10 ∨ O[k].1 = 11
  · rw [if_pos hj]
    have h6 := h2 hj
    have b1 := szO_bound O O[k].2.toNat (by omega)
    have b2 := szO_bound O (k + 1) (by omega)
    exact jump_op hj (by omega)
  · rw [if_neg hj]
    exact argOk_op h1 hj
/-- All that a function takes. -/
def szA (O : Ops) : Int := szO O O.length
/-- What functions take together. -/
def sumS (OF : Nat → Ops) (fs : List Nat) : Int := (fs.map fun f => szA (OF f)).sum
theorem sumS_snoc (OF : Nat → Ops) (fs : List Nat) (f : Nat) : sumS OF (fs ++ [f]) = sumS OF fs + szA (OF f) := by simp [sumS]
theorem szA_bound {O : Ops} (h : OpsOk O) : 1 ≤ szA O ∧ szA O ≤ 13000 := by
  have hl := h.1
  have h1 := szO_bound O O.length (Nat.le_refl _)
  have h2 := szO_bound O (O.length - 1) (by omega)
  have h3 := szO_succ O (O.length - 1) (by omega)
  have h4 := opSizeF_pos (c := O[O.length - 1].1) (by
    obtain ⟨⟨g1, g2, _⟩, _⟩ := h.2 _ (List.getElem_mem (show O.length - 1 < O.length by omega))
    exact ⟨g1, g2⟩)
  rw [show O.length - 1 + 1 = O.length by omega] at h3
  unfold szA
  omega
theorem sumS_bound {OF : Nat → Ops} : ∀ (fs : List Nat), (∀ f ∈ fs, OpsOk (OF f)) → 0 ≤ sumS OF fs ∧ sumS OF fs ≤ 13000 * (fs.length : Int) := by
  intro fs
  induction fs with
  | nil => intro _; simp [sumS]
  | cons f fs ih =>
    intro h
    have h1 := szA_bound (h f (List.mem_cons_self))
    have h2 := ih (fun g hg => h g (List.mem_cons_of_mem _ hg))
    unfold sumS at h2 ⊢
    simp only [List.map_cons, List.sum_cons, List.length_cons]
    omega
/-- The places of functions, one function behind the other. -/
def imG (OF : Nat → Ops) : Int → List Nat → List (List (Int × Int × Int))
  | _, [] => []
  | a, f :: fs => plsO (OF f) a :: imG OF (a + szA (OF f)) fs
theorem imG_snoc (OF : Nat → Ops) (f : Nat) : ∀ (fs : List Nat) (a : Int), imG OF a (fs ++ [f]) = imG OF a fs ++ [plsO (OF f) (a + sumS OF fs)] := by
  intro fs
  induction fs with
  | nil => intro a; simp [imG, sumS]
  | cons g fs ih =>
    intro a
    simp only [List.cons_append, imG, ih]
    congr 4
    simp [sumS]
    omega
theorem imG_length (OF : Nat → Ops) : ∀ (fs : List Nat) (a : Int), (imG OF a fs).length = fs.length := by
  intro fs
  induction fs with
  | nil => intro a; rfl
  | cons g fs ih => intro a; simp [imG, ih]
/-- The functions of an image. -/
def imFs (split : Bool) (image nf : Nat) : List Nat := (List.range nf).filter fun f => inImF split f image
theorem imFs_succ (split : Bool) (image f : Nat) : imFs split image (f + 1) = imFs split image f ++ (if inImF split f image then [f] else []) := by
  unfold imFs
  rw [List.range_succ, List.filter_append]
  congr 1
  by_cases h : inImF split f image = true
  · simp [h]
  · simp [h]
theorem imFs_len (split : Bool) (image nf : Nat) : (imFs split image nf).length ≤ nf := by
  unfold imFs
  refine Nat.le_trans (List.length_filter_le _ _) ?_
  simp
theorem imFs_lt {split : Bool} {image nf f : Nat} (h : f ∈ imFs split image nf) : f < nf ∧ inImF split f image = true := by
  unfold imFs at h
  rw [List.mem_filter, List.mem_range] at h
  exact h
/-- A row that can be read, and whose block is none of some. -/
def RowB (w : World) (bs : List Nat) (A : Option Addr) (n size : Nat) (xs : List Value) : Prop := InRow w A n size xs ∧ (0 < n → ∀ ad, A = some ad → ad.block ∉ bs)
/-- The places of one function, as they lie. -/
structure Gr where
  A : Option Addr
  n : Nat
  c : Nat
  P : List (Int × It)
def grV (g : Gr) : Value := .slice g.A g.n g.c
def grL (g : Gr) : List (Int × Int × Int) := g.P.map plP
theorem RowB.sub {w : World} {bs bs' : List Nat} {A : Option Addr} {n size : Nat} {xs : List Value} (h : RowB w bs A n size xs) (hs : ∀ b ∈ bs', b ∈ bs) : RowB w bs' A n size xs :=
  ⟨h.1, fun hn ad e e2 => h.2 hn ad e (hs _ e2)⟩
theorem RowB.below {w w' : World} {bs : List Nat} {A : Option Addr} {n size : Nat} {xs : List Value} (h : RowB w bs A n size xs) (hb : Below w.heap.size w w') : RowB w' bs A n size xs := ⟨h.1.below hb, h.2⟩
/-- One of the blocks grows, or is laid anew. -/
theorem RowB.grown {w w' : World} {bs bs' : List Nat} {row : Option Nat} {A : Option Addr} {n size : Nat} {xs : List Value} (h : RowB w bs A n size xs) (hg : w.grownBy w' row) (hr : ∀ b, row = some b → b ∈ bs) (hs : ∀ b ∈ bs', b ∈ bs ∨ w.heap.size ≤ b) : RowB w' bs' A n size xs :=
  ⟨⟨h.1.1, fun hn => by
    obtain ⟨b, o, e, hb, hc⟩ := h.1.2 hn
    have hne := h.2 hn _ e
    have hk := hg.block b hb (fun e2 => hne (hr b e2.symm))
    exact ⟨b, o, e, Nat.lt_of_lt_of_le hb hg.size, fun j hj => (World.cell?_of_block hk).trans (hc j hj)⟩⟩, fun hn ad e e2 => by
    obtain ⟨b, o, e3, hb, hc⟩ := h.1.2 hn
    have hne := h.2 hn ad e
    rcases hs _ e2 with h1 | h1
    · exact hne h1
    · rw [e] at e3
      injection e3 with e3
      rw [e3] at h1
      have : w.heap.size ≤ b := h1
      omega⟩
end Go.Proofs.Ytcfjbaanahgpoaa
namespace Go.Proofs.Ytcfjbaanahgpoaa
open Go Go.RowKit
set_option maxRecDepth 100000
set_option linter.unusedVariables false
set_option linter.unusedSimpArgs false
/-- The instructions of a program's functions. -/
noncomputable def ofF (fr inl : Int) (fold : Bool) (L : List Ln) (f : Nat) : Ops := cfF fr inl fold L f ((funsF L).getD f 0).toNat
def natI (fs : List Nat) : List Int := fs.map fun (f : Nat) => (f : Int)
/-- What imagePlaces answers. -/
def ImR (lo : Nat) (w' : World) (OF : Nat → Ops) (fs : List Nat) (e : Ending) : Prop := ∃ (An : Option Addr) (cn : Nat) (Al : Option Addr) (cl : Nat) (G : List Gr), e = .returned (.tuple #[.slice An fs.length cn, .slice Al fs.length cl]) ∧ RowL w' lo An fs.length 1 (intCells (natI fs)) ∧ RowL w' lo Al fs.length 1 (G.map grV) ∧ (∀ g ∈ G, g.P.length = g.n ∧ RowL w' lo g.A g.n 8 (g.P.flatMap plC)) ∧ G.map grL = imG OF 0 fs ∧ ∀ f ∈ fs, OpsOk (OF f)
theorem Try.infoPls : (Try.prog.info? 44).map (fun i => (i.zero, i.size, i.bytes)) = some (some (.slice none 0 0), 1, 24) := by kernel_rfl
set_option maxHeartbeats 8000000 in
theorem i_imagePlaces (A : Option Addr) (n c image : Nat) (fr inl : Int) (fold split : Bool) (L : List Ln) (w : World) (h : InLines w A n L) (hp : progS L = true) (hfr : 0 ≤ fr ∧ fr ≤ 63) (hinl : 0 ≤ inl ∧ inl ≤ 3) (hi1 : image ≤ 1) :
    Calls Try.prog 44 #[.slice A n c, .agg #[.int .i64 fr, .int .i64 inl, .bool fold, .bool split], .int .i64 image] w fun e w' => ImR w.heap.size w' (ofF fr inl fold L) (imFs split image (funsF L).length) e ∧ Below w.heap.size w w' := by
  obtain ⟨i1, hii, hy0, hy1, hy2⟩ := info_parts Try.infoIntC
  have HI1 := hide hii
  clear hii
  obtain ⟨i0, hi0, hz0, hz1, hz2⟩ := info_parts Try.infoPls
  have HI0 := hide hi0
  clear hi0
  have H := hide h
  have HP := hide hp
  have HLN := hide h.len
  have hn60 : n ≤ 60 := by have h1 := (prog_lines hp).1; have h2 := h.len; omega
  have hf6 : (funsF L).length ≤ 6 := (yes_out hp).2.2.2.1
  have PE := hide (prog_end hp)
  obtain ⟨OF, hOF⟩ : ∃ OF : Nat → Ops, OF = ofF fr inl fold L := ⟨_, rfl⟩
  rw [← hOF]
  have HOF := hide hOF
  obtain ⟨nf, hnf⟩ : ∃ nf, nf = (funsF L).length := ⟨_, rfl⟩
  rw [← hnf] at hf6 ⊢
  have HNF := hide hnf
  clear h hp hOF hnf
  go_enter Try.func44, Try.ntmps44
  go_wp2_with fail
  have KA := hide (((Blk.new w 37 #[.int .i64 fr, .int .i64 inl, .bool fold, .bool split]).alloc (.cells #[] 3)).alloc (.cells #[] 44))
  have NA : Hid ((((w.alloc (.cells #[.int .i64 fr, .int .i64 inl, .bool fold, .bool split] 37)).alloc (.cells #[] 3)).alloc (.cells #[] 44)).ownsRow (w.heap.size + 1) 3 1 (.slice (some ⟨w.heap.size + 1, 0, none⟩) 0 0) 0 []) := (ownsRow_blk (blk_new' (by simp)) (by omega)).alloc _
  have LA : Hid ((((w.alloc (.cells #[.int .i64 fr, .int .i64 inl, .bool fold, .bool split] 37)).alloc (.cells #[] 3)).alloc (.cells #[] 44)).ownsRow (w.heap.size + 1) 44 1 (.slice (some ⟨w.heap.size + 1 + 1, 0, none⟩) 0 0) 0 []) := ownsRow_blk (blk_new' (by simp)) (by omega)
  have BA := hide ((((Below.refl w.heap.size w).alloc (Nat.le_refl _) (.cells #[.int .i64 fr, .int .i64 inl, .bool fold, .bool split] 37)).alloc (by simp) (.cells #[] 3)).alloc (by simp; omega) (.cells #[] 44))
  generalize ((w.alloc (.cells #[.int .i64 fr, .int .i64 inl, .bool fold, .bool split] 37)).alloc (.cells #[] 3)).alloc (.cells #[] 44) = wA at *
  refine (i_funs A n c L wA (by omega) (H.out.below BA.out)).mono ?_
  rintro e w1 ⟨⟨v, rfl, ho⟩, hb1⟩
  obtain ⟨F, cf, rfl, _⟩ := Arr.of_own ho
  rw [← HNF.out]
  have K1 := hide (KA.out.below hb1 KA.out.lt)
  have N1 := hide (own_belowZ NA.out hb1)
  have L1 := hide (own_belowZ LA.out hb1)
  have B1 := hide (BA.out.trans (hb1.mono BA.out.size))
  clear ho hb1 KA NA LA BA
  go_wp2_with fail
  go_loopw [8, 9, 10, 19] (fun nv lv av fv wr => ∃ (f : Nat) (G : List Gr) (fs : List Nat), fv = .int .i64 f ∧ f ≤ nf ∧ fs = imFs split image f ∧ av = .int .i64 (sumS OF fs) ∧ wr.ownsRow (w.heap.size + 1) 3 1 nv fs.length (intCells (natI fs)) ∧ wr.ownsRow (w.heap.size + 1) 44 1 lv fs.length (G.map grV) ∧ (∀ b, nv.ownBlock = some b → lv.ownBlock ≠ some b) ∧ (∀ g ∈ G, g.P.length = g.n ∧ RowB wr (rws nv lv) g.A g.n 8 (g.P.flatMap plC)) ∧ G.map grL = imG OF 0 fs ∧ (∀ f ∈ fs, OpsOk (OF f)) ∧ (∀ g ∈ G, 0 < g.n → ∀ ad, g.A = some ad → w.heap.size ≤ ad.block) ∧ Below w.heap.size w wr ∧ Blk wr w.heap.size 37 #[.int .i64 fr, .int .i64 inl, .bool fold, .bool split]) (fun _ _ _ fv _ => nf - (intOf fv).toNat)
  case atStart =>
    refine ⟨0, [], [], rfl, Nat.zero_le _, rfl, rfl, N1.out, L1.out, ?_, fun g hg => (by cases hg), rfl, fun f hf => (by cases hf), fun g hg => (by cases hg), B1.out, K1.out⟩
    intro b hb e
    change some _ = some b at hb
    change some _ = some b at e
    injection hb with hb
    injection e with e
    simp at hb e
    omega
  case round =>
    obtain ⟨f, G, fs, rfl, hf, hfs, rfl, hno, hlo, hdj, hgr, hgl, hok, hlow, hbr, hkb⟩ := hrel
    have LW := hide hlow
    clear hlow
    obtain ⟨NA, nc, hnv, _⟩ := Arr.of_own hno
    obtain ⟨LA, lc, hlv, _⟩ := Arr.of_own hlo
    subst hnv hlv
    have FS := hide hfs
    have NO := hide hno
    have LO := hide hlo
    have DJ := hide hdj
    have GR := hide hgr
    have GL := hide hgl
    have OK := hide hok
    have BR := hide hbr
    have KB := hide hkb
    have hfl : fs.length ≤ f := by rw [hfs]; exact imFs_len _ _ _
    have hsb := sumS_bound fs hok
    have b0 := hkb.cell 0
    have b1 := hkb.cell 1
    have b2 := hkb.cell 2
    have b3 := hkb.cell 3
    simp at b0 b1 b2 b3
    clear hfs hno hlo hdj hgr hgl hok hbr hkb
    by_cases hlt : f < nf
    · have z : decide ((f : Int) < (nf : Int)) = true := decide_eq_true (by omega)
      have z' : decide (f < nf) = true := decide_eq_true hlt
      go_wp2_with fail
      refine (i_inImage f image fr inl fold split _ (by omega) hi1).mono ?_
      rintro e w2 ⟨rfl, hb2⟩
      obtain ⟨bi, hbi⟩ : ∃ bi, bi = inImF split f image := ⟨_, rfl⟩
      have FS1 : Hid (imFs split image (f + 1) = fs ++ (if bi then [f] else [])) := by
        show _ = _
        rw [imFs_succ, ← FS.out, ← hbi]
      rw [← hbi]
      have hWz : w.heap.size ≤ wr.heap.size := BR.out.size
      have K2 := hide (KB.out.below hb2 KB.out.lt)
      have N2 := hide (own_belowZ NO.out hb2)
      have L2 := hide (own_belowZ LO.out hb2)
      have G2 : Hid (∀ g ∈ G, g.P.length = g.n ∧ RowB w2 (rws (.slice NA fs.length nc) (.slice LA fs.length lc)) g.A g.n 8 (g.P.flatMap plC)) := fun g hg => ⟨(GR.out g hg).1, (GR.out g hg).2.below hb2⟩
      have B2 := hide (BR.out.trans (hb2.mono hWz))
      have b0 := K2.out.cell 0
      have b1 := K2.out.cell 1
      have b2 := K2.out.cell 2
      have b3 := K2.out.cell 3
      simp at b0 b1 b2 b3
      clear hb2 hbi
      cases bi
      · go_wp2_with fail
        go_roundw
        case rel => exact ⟨f + 1, G, fs, by go_num, by omega, by rw [FS1.out]; simp, rfl, N2.out, L2.out, DJ.out, G2.out, GL.out, OK.out, LW.out, B2.out, K2.out⟩
        case measure => simp [intOf]; omega
      · have hfl2 : f < (funsF L).length := by have := HNF.out; omega
        obtain ⟨k0, e0, hk0, he0, hke, hel⟩ := PE.out _ (List.getElem_mem hfl2)
        have hen : endOfF L (k0 : Int) = e0 := by rw [← hk0]; exact he0
        have HOFf : Hid (OF f = cfF fr inl fold L f k0) := by
          show _ = _
          rw [HOF.out]
          unfold ofF
          rw [List.getD_eq_getElem?_getD, List.getElem?_eq_getElem hfl2, hk0]
          rfl
        have CF := hide (i_compileFunction A n c f k0 e0 fr inl fold split L w2 (H.out.below B2.out) HP.out hfl2 hk0 hen hfr hinl)
        clear hk0 he0 hen hke hel
        go_wp2_with fail
        refine (CF.out).mono ?_
        rintro e w3 ⟨⟨v, I, hop, rfl, hoI, hI26, hch, hfc⟩, hb3⟩
        obtain ⟨AI, cI, rfl, _, harI⟩ := Arr.of_own hoI
        have XI := hide (InRow.of_arr harI)
        have OKI := hide (opsOk_of hfc hI26)
        have HOP : Hid (OF f = opL I) := HOFf.out.trans hop.symm
        have hI3 : 3 ≤ I.length := hfc.2.1
        have hW2 : w.heap.size ≤ w2.heap.size := B2.out.size
        have FP := hide (i_functionPlaces AI I.length cI I (sumS OF fs) w3 hI26 rfl XI.out (by omega) (fun x hx => ⟨(hfc.1 x hx).2.2.2.2.1, (hfc.1 x hx).2.2.2.2.2.1⟩) (fun x hx => (hfc.1 x hx).2.2.2.1) hch (fun x hx => by have := (hfc.1 x hx).2.2.1; omega))
        have K3 := hide (K2.out.below hb3 K2.out.lt)
        have N3 := hide (own_belowZ N2.out hb3)
        have L3 := hide (own_belowZ L2.out hb3)
        have G3 : Hid (∀ g ∈ G, g.P.length = g.n ∧ RowB w3 (rws (.slice NA fs.length nc) (.slice LA fs.length lc)) g.A g.n 8 (g.P.flatMap plC)) := fun g hg => ⟨(G2.out g hg).1, (G2.out g hg).2.below hb3⟩
        have B3 := hide (B2.out.trans (hb3.mono hW2))
        clear hop hoI hch hfc hb3 harI CF HOFf N2 L2 G2 K2 b0 b1 b2 b3
        go_wp2_with fail
        refine (FP.out).mono ?_
        rintro e w4 ⟨⟨v, P, rfl, hoP, hPl⟩, hb4⟩
        have hW3 : w.heap.size ≤ w3.heap.size := B3.out.size
        have K4 := hide (K3.out.below hb4 K3.out.lt)
        have N4 := hide (own_belowZ N3.out hb4)
        have L4 := hide (own_belowZ L3.out hb4)
        have G4 : Hid (∀ g ∈ G, g.P.length = g.n ∧ RowB w4 (rws (.slice NA fs.length nc) (.slice LA fs.length lc)) g.A g.n 8 (g.P.flatMap plC)) := fun g hg => ⟨(G3.out g hg).1, (G3.out g hg).2.below hb4⟩
        have B4 := hide (B3.out.trans (hb4.mono hW3))
        have hnl3 : ∀ b, b ∈ rws (.slice NA fs.length nc) (.slice LA fs.length lc) → b < w3.heap.size := fun b hb => by
          rcases mem_rws.1 hb with h1 | h1
          · exact (N3.out.lt b h1).2
          · exact (L3.out.lt b h1).2
        obtain ⟨AP, cP, rfl, _, harP⟩ := Arr.of_own hoP
        have XP : Hid (RowB w4 (rws (.slice NA fs.length nc) (.slice LA fs.length lc)) AP P.length 8 (P.flatMap plC)) := ⟨InRow.of_arr harP, fun hn ad e e2 => by
          obtain ⟨bb, e3, g1, g2, _⟩ := harP.2 hn
          rw [e] at e3
          cases e3
          have := hnl3 bb e2
          omega⟩
        have HPlo : Hid (0 < P.length → ∀ ad, AP = some ad → w.heap.size ≤ ad.block) := fun hn ad e => by
          obtain ⟨bb, e3, g1, _⟩ := harP.2 hn
          rw [e] at e3
          cases e3
          show w.heap.size ≤ bb
          omega
        have HPP := hide (plP_pls hPl)
        have HPL := hide hPl
        obtain ⟨m, hm⟩ : ∃ m, P.length = m + 1 := ⟨P.length - 1, by have := hPl.1; omega⟩
        have HM := hide hm
        have hmI : m < I.length := by have := hPl.1; omega
        have hml : m < P.length := by omega
        obtain ⟨bP, oP, hAP, _, hcP⟩ := XP.out.1.2 (by omega)
        have q0 := (hcP (m * 8) (by omega)).trans (flat_at plC 8 (fun _ => rfl) P m 0 hml (by omega))
        have q1 := (hcP (m * 8 + 1) (by omega)).trans (flat_at plC 8 (fun _ => rfl) P m 1 hml (by omega))
        have q2 := (hcP (m * 8 + 2) (by omega)).trans (flat_at plC 8 (fun _ => rfl) P m 2 hml (by omega))
        have q3 := (hcP (m * 8 + 3) (by omega)).trans (flat_at plC 8 (fun _ => rfl) P m 3 hml (by omega))
        have q4 := (hcP (m * 8 + 4) (by omega)).trans (flat_at plC 8 (fun _ => rfl) P m 4 hml (by omega))
        have q5 := (hcP (m * 8 + 5) (by omega)).trans (flat_at plC 8 (fun _ => rfl) P m 5 hml (by omega))
        have q6 := (hcP (m * 8 + 6) (by omega)).trans (flat_at plC 8 (fun _ => rfl) P m 6 hml (by omega))
        have q7 := (hcP (m * 8 + 7) (by omega)).trans (flat_at plC 8 (fun _ => rfl) P m 7 hml (by omega))
        simp [plC, itC] at q0 q1 q2 q3 q4 q5 q6 q7
        rw [← Nat.add_assoc] at q1 q2 q3 q4 q5 q6 q7
        have HLAST : Hid (P[m].1 = sumS OF fs + szO (opL I) m ∧ P[m].2.code = I[m].code) := by
          obtain ⟨p, h1, h2, h3, _⟩ := hPl.2 m hmI
          rw [List.getElem?_eq_getElem hml] at h1
          injection h1 with h1
          rw [h1, h2, h3, offN_szO]
          exact ⟨rfl, rfl⟩
        rw [hm]
        obtain ⟨x, hx⟩ : ∃ x, x = P[m] := ⟨_, rfl⟩
        rw [← hx] at q0 q1 q2 q3 q4 q5 q6 q7 HLAST
        clear hoP hPl hb4 harP hcP FP hnl3 N3 L3 G3 K3 hm hx
        subst hAP
        go_upto_region 9 with fail
        have KY := hide (Blk.new w4 51 #[.int .i64 x.1, .int .i64 x.2.code, .int .i64 x.2.arg, .int .i64 x.2.line, .bool x.2.start, .slice x.2.A x.2.n x.2.c, .int .i64 x.2.dep, .bool x.2.ent])
        have BY := hide ((Below.refl w4.heap.size w4).alloc (Nat.le_refl _) (.cells #[.int .i64 x.1, .int .i64 x.2.code, .int .i64 x.2.arg, .int .i64 x.2.line, .bool x.2.start, .slice x.2.A x.2.n x.2.c, .int .i64 x.2.dep, .bool x.2.ent] 51))
        generalize w4.alloc (.cells #[.int .i64 x.1, .int .i64 x.2.code, .int .i64 x.2.arg, .int .i64 x.2.line, .bool x.2.start, .slice x.2.A x.2.n x.2.c, .int .i64 x.2.dep, .bool x.2.ent] 51) = wY at *
        have hW4 : w.heap.size ≤ w4.heap.size := B4.out.size
        have K5 := hide (K4.out.below BY.out K4.out.lt)
        have N5 := hide (own_belowZ N4.out BY.out)
        have L5 := hide (own_belowZ L4.out BY.out)
        have G5 : Hid (∀ g ∈ G, g.P.length = g.n ∧ RowB wY (rws (.slice NA fs.length nc) (.slice LA fs.length lc)) g.A g.n 8 (g.P.flatMap plC)) := fun g hg => ⟨(G4.out g hg).1, (G4.out g hg).2.below BY.out⟩
        have X5 := hide (XP.out.below BY.out)
        have B5 := hide (B4.out.trans (BY.out.mono hW4))
        have y0 := KY.out.cell 0
        have y1 := KY.out.cell 1
        simp at y0 y1
        have hsz := opSizeF_le x.2.code
        clear q0 q1 q2 q3 q4 q5 q6 q7 K4 N4 L4 G4 XP
        have HSZ : Hid (x.1 + opSizeF x.2.code = sumS OF (fs ++ [f]) ∧ szA (opL I) = szA (OF f)) := by
          show _ ∧ _
          rw [sumS_snoc, HOP.out, HLAST.out.1, HLAST.out.2]
          refine ⟨?_, rfl⟩
          unfold szA
          rw [opL_length, show I.length = m + 1 by have := HPL.out.1; have := HM.out; omega, szO_succ (opL I) m (by rw [opL_length]; omega)]
          have e : (opL I)[m]'(by rw [opL_length]; omega) = (I[m].code, I[m].arg) := by simp [opL]
          rw [e]
          dsimp only
          omega
        generalize w4.heap.size = xb at *
        have hxr : -1000000 ≤ x.1 ∧ x.1 ≤ 1000000 := by
          have h1 := HLAST.out.1
          have h2 := szO_bound (opL I) m (by rw [opL_length]; omega)
          omega
        go_quiet (first | (go_at_call 74; exact quiet_left (i_opSize _ _)))
        have BQ : Below wY.heap.size wY (wY.drewN nq) := below_drewN (Below.refl _ _) nq
        have N6 := hide (own_belowZ N5.out BQ)
        have L6 := hide (own_belowZ L5.out BQ)
        have G6 : Hid (∀ g ∈ G, g.P.length = g.n ∧ RowB (wY.drewN nq) (rws (.slice NA fs.length nc) (.slice LA fs.length lc)) g.A g.n 8 (g.P.flatMap plC)) := fun g hg => ⟨(G5.out g hg).1, (G5.out g hg).2.below BQ⟩
        have X6 := hide (X5.out.below BQ)
        have K6 := hide (K5.out.below BQ K5.out.lt)
        have B6 := hide (B5.out.trans (BQ.mono B5.out.size))
        clear BQ N5 L5 G5 X5 K5 B5 y0 y1 BY KY
        generalize wY.drewN nq = wQ at *
        have hWQ : w.heap.size + 1 ≤ wQ.heap.size := K6.out.lt
        have hflen : fs.length ≤ 6 := by omega
        go_wp2_with (first
          | (at_builtin; refine wpList_appN _ rfl (.tmp 47) (.tmp 49) _ rfl (w.heap.size + 1) 3 i1 _ 1 8 Try.underlying28 HI1.out hy0 hy1 hy2 rfl (by decide) (.slice NA fs.length nc) fs.length (intCells (natI fs)) rfl N6.out 1 [.int .i64 (f : Int)] rfl rfl rfl (by intro u hu; simp at hu; subst hu; rfl) (by omega) (by decide) hWQ ?_)
          | fail)
        intro v7 w7 hown7 hb7 hg7 hv7
        have e7 : intCells (natI (fs ++ [f])) = intCells (natI fs) ++ [.int .i64 (f : Int)] := by simp [intCells, natI]
        rw [← e7] at hown7
        obtain ⟨NA7, nc7, rfl, _⟩ := Arr.of_own hown7
        have N7 := hide hown7
        have V7 := hide hv7
        have hLn : ∀ b, (Value.slice LA fs.length lc).ownBlock = some b → b < wQ.heap.size := fun b hb => (L6.out.lt b hb).2
        have hNn : ∀ b, (Value.slice NA fs.length nc).ownBlock = some b → b < wQ.heap.size := fun b hb => (N6.out.lt b hb).2
        have L7 := hide (own_grown L6.out hg7 (fun b hb e => DJ.out b e hb))
        have D7 : Hid (∀ b, (Value.slice NA7 (fs.length + 1) nc7).ownBlock = some b → (Value.slice LA fs.length lc).ownBlock ≠ some b) := fun b hb e => by
          rcases V7.out with h1 | h1
          · rw [h1] at hb; exact DJ.out b hb e
          · rw [h1] at hb; injection hb with hb; have := hLn b e; omega
        have hsub : ∀ b ∈ rws (.slice NA7 (fs.length + 1) nc7) (.slice LA fs.length lc), b ∈ rws (.slice NA fs.length nc) (.slice LA fs.length lc) ∨ wQ.heap.size ≤ b := fun b hb => by
          rcases mem_rws.1 hb with h2 | h2
          · rcases V7.out with h1 | h1
            · rw [h1] at h2; exact .inl (mem_rws.2 (.inl h2))
            · rw [h1] at h2; injection h2 with h2; exact .inr (by omega)
          · exact .inl (mem_rws.2 (.inr h2))
        have G7 : Hid (∀ g ∈ G, g.P.length = g.n ∧ RowB w7 (rws (.slice NA7 (fs.length + 1) nc7) (.slice LA fs.length lc)) g.A g.n 8 (g.P.flatMap plC)) := fun g hg => ⟨(G6.out g hg).1, (G6.out g hg).2.grown hg7 (fun b e => mem_rws.2 (.inl e)) hsub⟩
        have X7 := hide (X6.out.grown hg7 (fun b e => mem_rws.2 (.inl e)) hsub)
        have K7 := hide (K6.out.grown hg7 (fun e => by have := (N6.out.lt _ e.symm).1; omega))
        have B7 := hide (B6.out.trans (hb7.mono (Nat.le_succ _)))
        clear hown7 hb7 hg7 hv7 e7 hsub
        have hW7 : w.heap.size + 1 ≤ w7.heap.size := K7.out.lt
        go_wp2_with (first
          | (at_builtin; refine wpList_appN _ rfl (.tmp 51) (.tmp 53) _ rfl (w.heap.size + 1) 44 i0 _ 1 24 Try.underlying74 HI0.out hz0 hz1 hz2 rfl (by decide) (.slice LA fs.length lc) fs.length (G.map grV) rfl L7.out 1 [.slice (some ⟨bP, oP, none⟩) (m + 1) cP] rfl rfl rfl (by intro u hu; simp at hu; subst hu; rfl) (by omega) (by decide) hW7 ?_)
          | fail)
        intro v8 w8 hown8 hb8 hg8 hv8
        obtain ⟨LA8, lc8, rfl, _⟩ := Arr.of_own hown8
        have L8 := hide hown8
        have V8 := hide hv8
        have hNn7 : ∀ b, (Value.slice NA7 (fs.length + 1) nc7).ownBlock = some b → b < w7.heap.size := fun b hb => (N7.out.lt b hb).2
        have N8 := hide (own_grown N7.out hg8 (fun b hb e => D7.out b hb e))
        have D8 : Hid (∀ b, (Value.slice NA7 (fs.length + 1) nc7).ownBlock = some b → (Value.slice LA8 (fs.length + 1) lc8).ownBlock ≠ some b) := fun b hb e => by
          rcases V8.out with h1 | h1
          · rw [h1] at e; exact D7.out b hb e
          · rw [h1] at e; injection e with e; have := hNn7 b hb; omega
        have hsub : ∀ b ∈ rws (.slice NA7 (fs.length + 1) nc7) (.slice LA8 (fs.length + 1) lc8), b ∈ rws (.slice NA7 (fs.length + 1) nc7) (.slice LA fs.length lc) ∨ w7.heap.size ≤ b := fun b hb => by
          rcases mem_rws.1 hb with h2 | h2
          · exact .inl (mem_rws.2 (.inl h2))
          · rcases V8.out with h1 | h1
            · rw [h1] at h2; exact .inl (mem_rws.2 (.inr h2))
            · rw [h1] at h2; injection h2 with h2; exact .inr (by omega)
        have G8 : Hid (∀ g ∈ G, g.P.length = g.n ∧ RowB w8 (rws (.slice NA7 (fs.length + 1) nc7) (.slice LA8 (fs.length + 1) lc8)) g.A g.n 8 (g.P.flatMap plC)) := fun g hg => ⟨(G7.out g hg).1, (G7.out g hg).2.grown hg8 (fun b e => mem_rws.2 (.inr e)) hsub⟩
        have X8 := hide (X7.out.grown hg8 (fun b e => mem_rws.2 (.inr e)) hsub)
        have K8 := hide (K7.out.grown hg8 (fun e => by have := (L7.out.lt _ e.symm).1; omega))
        have B8 := hide (B7.out.trans (hb8.mono (Nat.le_succ _)))
        clear hown8 hb8 hg8 hv8 hsub
        go_wp2_with fail
        go_roundw
        case rel =>
          have e1 : (fs ++ [f]).length = fs.length + 1 := by simp
          have hpl : P.length = m + 1 := HM.out
          refine ⟨f + 1, G ++ [⟨some ⟨bP, oP, none⟩, m + 1, cP, P⟩], fs ++ [f], by go_num, by omega, by rw [FS1.out]; rfl, by rw [HSZ.out.1], by rw [e1]; exact N8.out, by rw [e1, List.map_append]; exact L8.out, D8.out, fun g hg => ?_, ?_, fun g hg => ?_, fun g hg => ?_, B8.out, K8.out⟩
          · rcases List.mem_append.1 hg with hg | hg
            · exact G8.out g hg
            · obtain rfl := List.mem_singleton.1 hg
              exact ⟨hpl, by show RowB w8 _ (some ⟨bP, oP, none⟩) (m + 1) 8 (P.flatMap plC); rw [← hpl]; exact X8.out⟩
          · rw [imG_snoc, List.map_append, GL.out, HOP.out, Int.zero_add]
            congr 1
            show [P.map plP] = _
            rw [HPP.out]
          · rcases List.mem_append.1 hg with hg | hg
            · exact OK.out g hg
            · obtain rfl := List.mem_singleton.1 hg
              rw [HOP.out]
              exact OKI.out
          · rcases List.mem_append.1 hg with hg | hg
            · exact LW.out g hg
            · obtain rfl := List.mem_singleton.1 hg
              intro _ ad e
              exact HPlo.out (by omega) ad e
        case measure => simp [intOf]; omega
    · have z : decide ((f : Int) < (nf : Int)) = false := decide_eq_false (by omega)
      have z' : decide (f < nf) = false := decide_eq_false hlt
      have hfn : f = nf := by omega
      obtain ⟨A1, c1, e1, _, har1⟩ := Arr.of_own NO.out
      cases e1
      obtain ⟨A2, c2, e2, _, har2⟩ := Arr.of_own LO.out
      cases e2
      have FIN : Hid (ImR w.heap.size wr OF (imFs split image nf) (.returned (.tuple #[.slice NA fs.length nc, .slice LA fs.length lc]))) := by
        show ImR _ _ _ _ _
        rw [← hfn, ← FS.out]
        exact ⟨NA, nc, LA, lc, G, rfl, (rowL_of_arr har1).low (Nat.le_succ _), (rowL_of_arr har2).low (Nat.le_succ _), fun g hg => ⟨(GR.out g hg).1, (GR.out g hg).2.1, LW.out g hg⟩, GL.out, OK.out⟩
      clear hfn har1 har2
      go_wp2_with fail
      go_ret2
      exact ⟨FIN.out, BR.out⟩
end Go.Proofs.Ytcfjbaanahgpoaa
namespace Go.Proofs.Ytcfjbaanahgpoaa
open Go Go.RowKit
set_option maxRecDepth 100000
set_option linter.unusedVariables false
set_option linter.unusedSimpArgs false
theorem imG_mem {OF : Nat → Ops} : ∀ (fs : List Nat) (a : Int), ∀ l ∈ imG OF a fs, ∃ f ∈ fs, ∃ a', l = plsO (OF f) a' := by
  intro fs
  induction fs with
  | nil => intro a l hl; cases hl
  | cons f fs ih =>
    intro a l hl
    rw [imG] at hl
    rcases List.mem_cons.1 hl with rfl | hl
    · exact ⟨f, List.mem_cons_self, a, rfl⟩
    · obtain ⟨g, h1, h2⟩ := ih _ l hl
      exact ⟨g, List.mem_cons_of_mem _ h1, h2⟩
theorem gr_small {OF : Nat → Ops} {fs : List Nat} {G : List Gr} {w : World} (hl : G.map grL = imG OF 0 fs) (hn : ∀ g ∈ G, g.P.length = g.n ∧ InRow w g.A g.n 8 (g.P.flatMap plC)) (hok : ∀ f ∈ fs, OpsOk (OF f)) : ∀ g ∈ G, g.n ≤ 2600 ∧ 3 ≤ g.n := by
  intro g hg
  have h1 : grL g ∈ imG OF 0 fs := by rw [← hl]; exact List.mem_map_of_mem hg
  obtain ⟨f, hf, a, h2⟩ := imG_mem fs 0 _ h1
  have h3 : (grL g).length = g.P.length := by simp [grL]
  rw [h2, plsO_length] at h3
  have h4 := (hok f hf).1
  have h5 := (hn g hg).1
  omega
theorem plC_one (P : List (Int × It)) : ∀ u ∈ P.flatMap plC, u.oneCell' = true := by
  intro u hu
  obtain ⟨p, _, hp⟩ := List.mem_flatMap.1 hu
  simp only [plC, itC, List.mem_cons, List.not_mem_nil, or_false] at hp
  rcases hp with rfl | rfl | rfl | rfl | rfl | rfl | rfl | rfl <;> rfl
/-- What PlacesOf answers. -/
def PlR (w0 w' : World) (OF : Nat → Ops) (fs : List Nat) (e : Ending) : Prop := ∃ (v : Value) (P : List (Int × It)), e = .returned v ∧ w'.ownsRow w0.heap.size 51 8 v P.length (P.flatMap plC) ∧ P.map plP = (imG OF 0 fs).flatten ∧ P.length ≤ 2600 * fs.length ∧ ∀ f ∈ fs, OpsOk (OF f)
set_option maxHeartbeats 8000000 in
theorem i_placesOf (A : Option Addr) (n c image : Nat) (fr inl : Int) (fold split : Bool) (L : List Ln) (w : World) (h : InLines w A n L) (hp : progS L = true) (hfr : 0 ≤ fr ∧ fr ≤ 63) (hinl : 0 ≤ inl ∧ inl ≤ 3) (hi1 : image ≤ 1) :
    Calls Try.prog 19 #[.slice A n c, .agg #[.int .i64 fr, .int .i64 inl, .bool fold, .bool split], .int .i64 image] w fun e w' => PlR w w' (ofF fr inl fold L) (imFs split image (funsF L).length) e ∧ Below w.heap.size w w' := by
  obtain ⟨i0, hi0, hz0, hz1, hz2⟩ := info_parts Try.infoPlc
  have HI0 := hide hi0
  clear hi0
  have H := hide h
  have HP := hide hp
  have hlen := h.len
  obtain ⟨⟨hl1, hl60⟩, hok⟩ := prog_lines hp
  have HSZ : Hid (∀ x ∈ L, LnSz x) := fun x hx => (lineOk_szQ (hok x hx)).1
  have hT : n + lnTot L ≤ 1048576 := by have h1 := lnTot_leQ L (fun x hx => (lineOk_szQ (hok x hx)).2); omega
  have hf6 : (funsF L).length ≤ 6 := (yes_out hp).2.2.2.1
  have hfsl : (imFs split image (funsF L).length).length ≤ 6 := Nat.le_trans (imFs_len _ _ _) hf6
  obtain ⟨OF, hOF⟩ : ∃ OF : Nat → Ops, OF = ofF fr inl fold L := ⟨_, rfl⟩
  obtain ⟨fs, hfs⟩ : ∃ fs : List Nat, fs = imFs split image (funsF L).length := ⟨_, rfl⟩
  have IP : Hid (∀ w', InLines w' A n L → Calls Try.prog 44 #[.slice A n c, .agg #[.int .i64 fr, .int .i64 inl, .bool fold, .bool split], .int .i64 image] w' fun e w'' => ImR w'.heap.size w'' OF fs e ∧ Below w'.heap.size w' w'') := by
    rw [hOF, hfs]
    exact fun w' h' => i_imagePlaces A n c image fr inl fold split L w' h' hp hfr hinl hi1
  rw [← hfs] at hfsl
  rw [← hOF, ← hfs]
  clear h hp hok hOF hfs
  go_enter Try.func19, Try.ntmps19
  go_wp2_with fail
  have KB := hide (Blk.new w 37 #[.int .i64 fr, .int .i64 inl, .bool fold, .bool split])
  have BB := hide ((Below.refl w.heap.size w).alloc (Nat.le_refl _) (.cells #[.int .i64 fr, .int .i64 inl, .bool fold, .bool split] 37))
  generalize w.alloc (.cells #[.int .i64 fr, .int .i64 inl, .bool fold, .bool split] 37) = w0 at *
  refine (i_programOkF A n c L _ hT (H.out.below BB.out) HSZ.out).mono ?_
  rintro e w1 ⟨rfl, hb1⟩
  rw [HP.out]
  have B1 := hide (BB.out.trans (hb1.mono BB.out.size))
  have K1 := hide (KB.out.below hb1 KB.out.lt)
  have n0 := K1.out.cell 0
  have n1 := K1.out.cell 1
  have n2 := K1.out.cell 2
  have n3 := K1.out.cell 3
  simp at n0 n1 n2 n3
  clear hb1
  go_wp2_with fail
  have hbu : (btw fr 0 63 && btw inl 0 3) = true := by simp [btw]; omega
  refine (i_buildOk _ _ _ _ _).mono ?_
  rintro e w2 ⟨rfl, hb2⟩
  rw [hbu]
  have B2 := hide (B1.out.trans (hb2.mono B1.out.size))
  have K2 := hide (K1.out.below hb2 K1.out.lt)
  clear hb2 n0 n1 n2 n3 hbu
  have hbt : btw (image : Int) 0 1 = true := by simp [btw]; omega
  go_wp2_with fail
  refine (i_between _ _ _ _).mono ?_
  rintro e w' ⟨he, hww⟩
  subst he
  subst hww
  rw [hbt]
  have n0 := K2.out.cell 0
  have n1 := K2.out.cell 1
  have n2 := K2.out.cell 2
  have n3 := K2.out.cell 3
  simp at n0 n1 n2 n3
  clear hbt
  go_wp2_with fail
  refine (IP.out _ (H.out.below B2.out)).mono ?_
  rintro e w3 ⟨⟨An, cn, Al, cl, G, rfl, hXn, hXl, hXg, hgl, hoks⟩, hb3⟩
  have XL := hide hXl.1
  have XG : Hid (∀ g ∈ G, g.P.length = g.n ∧ InRow w3 g.A g.n 8 (g.P.flatMap plC)) := fun g hg => ⟨(hXg g hg).1, (hXg g hg).2.1⟩
  have GL := hide hgl
  have OKS := hide hoks
  have GS := hide (gr_small hgl XG.out hoks)
  have hGl : G.length = fs.length := by
    have h1 := congrArg List.length hgl
    rw [List.length_map, imG_length] at h1
    exact h1
  have HGL := hide hGl
  have B3 := hide (B2.out.trans (hb3.mono B2.out.size))
  clear hXn hXl hXg hgl hoks hb3 hGl n0 n1 n2 n3
  go_wp2_with fail
  go_loopw [9, 35] (fun sv iv wr => ∃ (i : Nat) (P : List (Int × It)), iv = .int .i64 i ∧ i ≤ fs.length ∧ wr.ownsRow w3.heap.size 51 8 sv P.length (P.flatMap plC) ∧ P.map plP = ((G.take i).map grL).flatten ∧ P.length ≤ 2600 * i ∧ Below w3.heap.size w3 wr) (fun _ iv _ => fs.length - (intOf iv).toNat)
  case atStart =>
    exact ⟨0, [], rfl, Nat.zero_le _, ownsRow_blk (Blk.new w3 _ #[]) (Nat.le_refl _), rfl, Nat.zero_le _, (Below.refl _ _).alloc (Nat.le_refl _) _⟩
  case round =>
    obtain ⟨i, P, rfl, hi, hpo, hpm, hpl, hbr⟩ := hrel
    obtain ⟨PA, pc, hpv, _⟩ := Arr.of_own hpo
    subst hpv
    have PO := hide hpo
    have PM := hide hpm
    have PL := hide hpl
    have BR := hide hbr
    have XLr := hide (XL.out.below hbr)
    clear hpo hpm hpl hbr
    by_cases hlt : i < fs.length
    · have z : decide ((i : Int) < (fs.length : Int)) = true := decide_eq_true (by omega)
      have z' : decide (i < fs.length) = true := decide_eq_true hlt
      have hig : i < G.length := by rw [HGL.out]; exact hlt
      obtain ⟨bo, oo, hAl, _, hcl⟩ := XLr.out.2 (by omega)
      have c0 := hcl i (by omega)
      rw [List.getElem?_map, List.getElem?_eq_getElem hig] at c0
      simp only [Option.map_some, grV] at c0
      obtain ⟨hgn, hgx⟩ := XG.out _ (List.getElem_mem hig)
      have hgs := (GS.out _ (List.getElem_mem hig)).1
      have GX := hide (hgx.below BR.out)
      have HT : Hid ((P ++ G[i].P).map plP = ((G.take (i + 1)).map grL).flatten ∧ G[i].P.length = G[i].n) := by
        refine ⟨?_, hgn⟩
        rw [List.map_append, PM.out, List.take_succ_eq_append_getElem hig, List.map_append, List.flatten_append]
        simp [grL]
      generalize G[i] = g at *
      have hP := PL.out
      have hW3 : w3.heap.size ≤ wr.heap.size := BR.out.size
      subst hAl
      clear hcl hgn hgx hP
      have hb80 : (P.length + g.n) * 80 ≤ 140737488355328 := by have := PL.out; omega
      go_wp2_with (first
        | (at_builtin; refine wpList_apps _ rfl (.tmp 39) (.tmp 40) _ rfl w3.heap.size 51 i0 _ 8 80 Try.underlying44 HI0.out hz0 hz1 hz2 rfl (by decide) (.slice PA P.length pc) P.length (P.flatMap plC) rfl PO.out g.A g.n g.c (g.P.flatMap plC) rfl GX.out (plC_one _) hb80 (by decide) hW3 ?_)
        | fail)
      intro v7 w7 hown7 hb7 hg7 hv7
      have O7 : Hid (w7.ownsRow w3.heap.size 51 8 v7 (P ++ g.P).length ((P ++ g.P).flatMap plC)) := by
        show World.ownsRow _ _ _ _ _ _ _
        rw [List.length_append, HT.out.2, List.flatMap_append]
        exact hown7
      have B7 := hide (BR.out.trans hb7)
      clear hown7 hb7 hg7 hv7
      go_wp2_with fail
      go_roundw
      case rel => exact ⟨i + 1, P ++ g.P, by go_num, by omega, O7.out, HT.out.1, by have := PL.out; have := HT.out.2; rw [List.length_append]; omega, B7.out⟩
      case measure => simp [intOf]; omega
    · have z : decide ((i : Int) < (fs.length : Int)) = false := decide_eq_false (by omega)
      have z' : decide (i < fs.length) = false := decide_eq_false hlt
      have FIN : Hid (PlR w wr OF fs (.returned (.slice PA P.length pc))) := by
        refine ⟨_, P, rfl, own_base PO.out B3.out.size, ?_, by have := PL.out; have : i ≤ fs.length := hi; omega, OKS.out⟩
        rw [PM.out, List.take_of_length_le (by rw [HGL.out]; omega), GL.out]
      have BF := hide (B3.out.trans (BR.out.mono B3.out.size))
      go_wp2_with fail
      go_ret
      exact ⟨FIN.out, BF.out⟩
end Go.Proofs.Ytcfjbaanahgpoaa
